/- A book of verdicts, by the program: of a name; how many. -/
import Derived.Test.YtahpfcfecghpmaaBook2
import Derived.KernelRfl
namespace Go.Proofs.Ytahpfcfecghpmaa
open Go.RowKit
set_option linter.unusedSimpArgs false

def vdV (x : Vd) (a : Option Addr) (m c : Nat) : Value := .agg #[.int .i64 x.c, .int .i64 x.n, .bool x.commit, .int .i64 x.at_, .slice a m c]
def vd0 : Value := .agg #[.int .i64 0, .int .i64 0, .bool false, .int .i64 0, .slice none 0 0]
set_option maxRecDepth 100000 in
set_option maxHeartbeats 1000000 in
theorem bkOf_yes (p : Nat) (g : Option Addr) (d r : Nat) (l : List Ve) (c n : Int) (i : Nat) (e : Ve) (w : World) (h : Bk w p g d r l) (hi : l[i]? = some e) (hc : e.x.c = c) (hn : e.x.n = n) (R : Ending → World → Prop)
    (k : ∀ w' a' m' c', Vok w' ⟨e.x, a', c'⟩ → Hid (e.x.reads.length = m') → Off Old w w' → (∀ q, a' = some q → w.heap.size ≤ q.block) → R (.returned (.tuple #[vdV e.x a' m' c', .bool true])) w') :
    Calls Try.prog 22 #[.pointer (some ⟨p, 0, none⟩), .agg #[.int .i64 c, .int .i64 n]] w R := by
  have HK := Lib.hid k; clear k
  subst hc; subst hn
  obtain ⟨m, hm⟩ : ∃ m, Hid (e.x.reads.length = m) := ⟨_, rfl⟩
  have hil := (List.getElem?_eq_some_iff.1 hi).1
  have hoA : Off Old w ((w.alloc (.cells #[.int .i64 e.x.c, .int .i64 e.x.n] 35)).alloc (.cells #[.int .i64 0, .int .i64 0, .bool false, .int .i64 0, .slice none 0 0] 38)) := ((Off.refl Old w).alloc _).alloc _
  have hA := h.old hoA
  have hbN := ((Blk.new w #[.int .i64 e.x.c, .int .i64 e.x.n] 35).alloc (.cells #[.int .i64 0, .int .i64 0, .bool false, .int .i64 0, .slice none 0 0] 38))
  have hbR := Blk.new2 w (.cells #[.int .i64 e.x.c, .int .i64 e.x.n] 35) #[.int .i64 0, .int .i64 0, .bool false, .int .i64 0, .slice none 0 0] 38
  go_enter Try.func22, Try.ntmps22
  go_wp2_with (go_at_call 37; go_must (refine bknown_c p g d r l _ hA _ ?_))
  generalize ((w.alloc (.cells #[.int .i64 e.x.c, .int .i64 e.x.n] 35)).alloc (.cells #[.int .i64 0, .int .i64 0, .bool false, .int .i64 0, .slice none 0 0] 38)) = wA at *
  have hcl : ∀ w', Off Old wA w' → w'.cell? ⟨p, 1, none⟩ = some (.map (some r)) ∧ w'.cell? ⟨w.heap.size, 0, none⟩ = some (.int .i64 e.x.c) ∧ w'.cell? ⟨w.heap.size, 1, none⟩ = some (.int .i64 e.x.n) ∧ (Instr.lookup 84 (.map (some r)) (.agg #[.int .i64 e.x.c, .int .i64 e.x.n]) true).run Try.prog w' = .ok (.tuple #[.int .i64 (i : Nat), .bool true]) w' := fun w' ho =>
    ⟨((hA.old ho).blk).cell rfl, (hbN.old ho).cell rfl, (hbN.old ho).cell rfl, (hA.old ho).yes hi⟩
  refine wp_region_E (fun w' => Off Old (wA) w') [] (by kernel_rfl) ?_ (fun hHeld => ?_)
  · (first | exact Off.refl _ _ | exact Off.alloc hHeld _ | exact Off.trans hHeld (by assumption) | assumption | exact (Off.refl _ _).drew)
  refine wpAnyE_take (i := 0) (v := ?_) rfl (by kernel_rfl) (by kernel_rfl) (by kernel_rfl) (fun _ _ _ h => h) (Or.inl ⟨by rfl, ?_⟩) ?_
  rotate_left
  · (intro w _; go_simp; try with_reducible rfl)
  try simp only [Act.put, List.getElem_toArray, List.getElem_cons_zero, List.getElem_cons_succ, List.setIfInBounds_toArray, List.set_cons_zero, List.set_cons_succ]
  refine wpAnyE_take (i := 1) (v := ?_) rfl (by kernel_rfl) (by kernel_rfl) (by kernel_rfl) (fun _ _ _ h => h) (Or.inl ⟨by rfl, ?_⟩) ?_
  rotate_left
  · (intro w _; go_simp; try with_reducible rfl)
  try simp only [Act.put, List.getElem_toArray, List.getElem_cons_zero, List.getElem_cons_succ, List.setIfInBounds_toArray, List.set_cons_zero, List.set_cons_succ]
  refine wpAnyE_take (i := 2) (v := ?_) rfl (by kernel_rfl) (by kernel_rfl) (by kernel_rfl) (fun _ _ _ h => h) (Or.inl ⟨by rfl, ?_⟩) ?_
  rotate_left
  · (intro w _; go_simp; try with_reducible rfl)
  try simp only [Act.put, List.getElem_toArray, List.getElem_cons_zero, List.getElem_cons_succ, List.setIfInBounds_toArray, List.set_cons_zero, List.set_cons_succ]
  refine wpAnyE_take (i := 3) (v := ?_) rfl (by kernel_rfl) (by kernel_rfl) (by kernel_rfl) (fun _ _ _ h => h) (Or.inl ⟨by rfl, ?_⟩) ?_
  rotate_left
  · (intro w _; go_simp; try with_reducible rfl)
  try simp only [Act.put, List.getElem_toArray, List.getElem_cons_zero, List.getElem_cons_succ, List.setIfInBounds_toArray, List.set_cons_zero, List.set_cons_succ]
  refine wpAnyE_load (tr := [[], [0], [0, 1], [0, 1, 2], [0, 1, 2, 3], [], [0, 1, 2, 3, 4, 5], [0, 1, 2, 3, 4, 5, 6], [0, 1, 2, 3, 4, 5, 6, 7], [0, 1, 2, 3, 4, 5, 6, 7], [0, 1, 2, 3, 4, 5, 6, 7, 8], [0, 1, 2, 3, 4, 5, 6, 7, 8, 9, 10]]) (i := 4) (v := ?_) (by kernel_rfl) rfl (by kernel_rfl) (by kernel_rfl) (by kernel_rfl) (by kernel_rfl) (by kernel_rfl) (fun _ _ _ h => h) (Or.inl ⟨by rfl, ?_⟩) hHeld ?_
  rotate_left
  · (intro w hSw; (try dsimp only at hSw); go_simp; try with_reducible rfl)
  try simp only [Act.put, List.getElem_toArray, List.getElem_cons_zero, List.getElem_cons_succ, List.setIfInBounds_toArray, List.set_cons_zero, List.set_cons_succ]
  refine wpAnyE_load (tr := [[], [0], [0, 1], [0, 1, 2], [0, 1, 2, 3], [], [0, 1, 2, 3, 4, 5], [0, 1, 2, 3, 4, 5, 6], [0, 1, 2, 3, 4, 5, 6, 7], [0, 1, 2, 3, 4, 5, 6, 7], [0, 1, 2, 3, 4, 5, 6, 7, 8], [0, 1, 2, 3, 4, 5, 6, 7, 8, 9, 10]]) (i := 5) (v := ?_) (by kernel_rfl) rfl (by kernel_rfl) (by kernel_rfl) (by kernel_rfl) (by kernel_rfl) (by kernel_rfl) (fun _ _ _ h => h) (Or.inl ⟨by rfl, ?_⟩) hHeld ?_
  rotate_left
  · (intro w hSw; (try dsimp only at hSw); go_simp; try with_reducible rfl)
  try simp only [Act.put, List.getElem_toArray, List.getElem_cons_zero, List.getElem_cons_succ, List.setIfInBounds_toArray, List.set_cons_zero, List.set_cons_succ]
  refine wpAnyE_load (tr := [[], [0], [0, 1], [0, 1, 2], [0, 1, 2, 3], [], [0, 1, 2, 3, 4, 5], [0, 1, 2, 3, 4, 5, 6], [0, 1, 2, 3, 4, 5, 6, 7], [0, 1, 2, 3, 4, 5, 6, 7], [0, 1, 2, 3, 4, 5, 6, 7, 8], [0, 1, 2, 3, 4, 5, 6, 7, 8, 9, 10]]) (i := 6) (v := ?_) (by kernel_rfl) rfl (by kernel_rfl) (by kernel_rfl) (by kernel_rfl) (by kernel_rfl) (by kernel_rfl) (fun _ _ _ h => h) (Or.inl ⟨by rfl, ?_⟩) hHeld ?_
  rotate_left
  · (intro w hSw; (try dsimp only at hSw); go_simp; try with_reducible rfl)
  try simp only [Act.put, List.getElem_toArray, List.getElem_cons_zero, List.getElem_cons_succ, List.setIfInBounds_toArray, List.set_cons_zero, List.set_cons_succ]
  refine wpAnyE_take (i := 7) (v := ?_) rfl (by kernel_rfl) (by kernel_rfl) (by kernel_rfl) (fun _ _ _ h => h) (Or.inl ⟨by rfl, ?_⟩) ?_
  rotate_left
  · (intro w _; go_simp; try with_reducible rfl)
  try simp only [Act.put, List.getElem_toArray, List.getElem_cons_zero, List.getElem_cons_succ, List.setIfInBounds_toArray, List.set_cons_zero, List.set_cons_succ]
  refine wpAnyE_take (i := 8) (v := ?_) rfl (by kernel_rfl) (by kernel_rfl) (by kernel_rfl) (fun _ _ _ h => h) (Or.inl ⟨by rfl, ?_⟩) ?_
  rotate_left
  · (intro w _; go_simp; try with_reducible rfl)
  try simp only [Act.put, List.getElem_toArray, List.getElem_cons_zero, List.getElem_cons_succ, List.setIfInBounds_toArray, List.set_cons_zero, List.set_cons_succ]
  refine wpAnyE_take (i := 9) (v := ?_) rfl (by kernel_rfl) (by kernel_rfl) (by kernel_rfl) (fun _ _ _ h => h) (Or.inl ⟨by rfl, ?_⟩) ?_
  rotate_left
  · (intro w _; go_simp; try with_reducible rfl)
  try simp only [Act.put, List.getElem_toArray, List.getElem_cons_zero, List.getElem_cons_succ, List.setIfInBounds_toArray, List.set_cons_zero, List.set_cons_succ]
  refine wpAnyE_take (i := 10) (v := ?_) rfl (by kernel_rfl) (by kernel_rfl) (by kernel_rfl) (fun _ _ _ h => h) (Or.inl ⟨by rfl, ?_⟩) ?_
  rotate_left
  · (intro w _; go_simp; try with_reducible rfl)
  try simp only [Act.put, List.getElem_toArray, List.getElem_cons_zero, List.getElem_cons_succ, List.setIfInBounds_toArray, List.set_cons_zero, List.set_cons_succ]
  refine wpAnyE_take (i := 11) (v := ?_) rfl (by kernel_rfl) (by kernel_rfl) (by kernel_rfl) (fun _ _ _ h => h) (Or.inl ⟨by rfl, ?_⟩) ?_
  rotate_left
  · (intro w _; go_simp; try with_reducible rfl)
  try simp only [Act.put, List.getElem_toArray, List.getElem_cons_zero, List.getElem_cons_succ, List.setIfInBounds_toArray, List.set_cons_zero, List.set_cons_succ]
  refine wpAnyE_done (by kernel_rfl) ?_ _
  clear hcl
  obtain ⟨b, o, ix, Q, _⟩ := ((own_sl2 hA.own).2.2).ix_ve d
  obtain ⟨x0, x1, x2, x3, x4⟩ := Q.out _ _ hi
  have hix := ix i hil
  have c0 : wA.drew.cell? ⟨p, 0, none⟩ = some (.slice g l.length d) := hA.blk.cell rfl
  have hvk := Lib.hid ((hA.vok e (List.mem_of_getElem? hi)).old (Off.refl Old wA).drew)
  rw [hm.out] at x4
  clear Q ix
  go_wp2_with (go_at_call 44; go_must (refine copied_c e m hm _ hvk.out _ ?_))
  intro w2 a2 d2 hv2 ho2 hfr2
  have hbR2 := hbR.old ((Off.refl Old wA).drew.trans ho2)
  have r0 := hbR2.cell (i := 0) rfl
  have r1 := hbR2.cell (i := 1) rfl
  have r2 := hbR2.cell (i := 2) rfl
  have r3 := hbR2.cell (i := 3) rfl
  have r4 := hbR2.cell (i := 4) rfl
  have rf := hbR2.free
  have HR := Lib.hid (hbR2.set5 (.int .i64 e.x.c) (.int .i64 e.x.n) (.bool e.x.commit) (.int .i64 e.x.at_) (.slice a2 m d2))
  have hO := Lib.hid (Off.set5 (S := Old) (b := w.heap.size + 1) ((hoA.trans (Off.refl Old wA).drew).trans ho2) (by intro h; omega) (.int .i64 e.x.c) (.int .i64 e.x.n) (.bool e.x.commit) (.int .i64 e.x.at_) (.slice a2 m d2))
  have hS := Lib.hid (Off.set5 (S := fun k => k = w.heap.size + 1) (b := w.heap.size + 1) (Off.refl _ w2) (fun _ => rfl) (.int .i64 e.x.c) (.int .i64 e.x.n) (.bool e.x.commit) (.int .i64 e.x.at_) (.slice a2 m d2))
  clear x0 x1 x2 x3 x4 c0 hbR2
  go_wp2_with fail
  have hz := hbR.lt
  have HF := HK.out _ a2 m d2 (hv2.off hS.out (fun q hq hn hk => by have h1 : wA.heap.size ≤ q.block := hfr2 q hq; omega)) hm hO.out (fun q hq => by have h1 : wA.heap.size ≤ q.block := hfr2 q hq; have := hoA.size; omega)
  exact bodyPost_ret (v := .tuple #[vdV e.x a2 m d2, .bool true]) (by simp [results, Try.results22, go_sem, vdV, HR.out.cell (i := 0) rfl, HR.out.cell (i := 1) rfl, HR.out.cell (i := 2) rfl, HR.out.cell (i := 3) rfl, HR.out.cell (i := 4) rfl]) rfl HF
set_option maxRecDepth 100000 in
set_option maxHeartbeats 1000000 in
theorem bkOf_no (p : Nat) (g : Option Addr) (d r : Nat) (l : List Ve) (c n : Int) (w : World) (h : Bk w p g d r l) (hc : i64B c) (hn : i64B n) (hno : ∀ e ∈ l, ¬ (e.x.c = c ∧ e.x.n = n)) (R : Ending → World → Prop)
    (k : ∀ w', Off Old w w' → R (.returned (.tuple #[vd0, .bool false])) w') :
    Calls Try.prog 22 #[.pointer (some ⟨p, 0, none⟩), .agg #[.int .i64 c, .int .i64 n]] w R := by
  have HK := Lib.hid k; clear k
  have HNO := Lib.hid hno; clear hno
  have hoA : Off Old w ((w.alloc (.cells #[.int .i64 c, .int .i64 n] 35)).alloc (.cells #[.int .i64 0, .int .i64 0, .bool false, .int .i64 0, .slice none 0 0] 38)) := ((Off.refl Old w).alloc _).alloc _
  have hA := h.old hoA
  have hbN := ((Blk.new w #[.int .i64 c, .int .i64 n] 35).alloc (.cells #[.int .i64 0, .int .i64 0, .bool false, .int .i64 0, .slice none 0 0] 38))
  have hbR := Blk.new2 w (.cells #[.int .i64 c, .int .i64 n] 35) #[.int .i64 0, .int .i64 0, .bool false, .int .i64 0, .slice none 0 0] 38
  go_enter Try.func22, Try.ntmps22
  go_wp2_with (go_at_call 37; go_must (refine bknown_c p g d r l _ hA _ ?_))
  generalize ((w.alloc (.cells #[.int .i64 c, .int .i64 n] 35)).alloc (.cells #[.int .i64 0, .int .i64 0, .bool false, .int .i64 0, .slice none 0 0] 38)) = wA at *
  have hcl : ∀ w', Off Old wA w' → w'.cell? ⟨p, 1, none⟩ = some (.map (some r)) ∧ w'.cell? ⟨w.heap.size, 0, none⟩ = some (.int .i64 c) ∧ w'.cell? ⟨w.heap.size, 1, none⟩ = some (.int .i64 n) ∧ (Instr.lookup 84 (.map (some r)) (.agg #[.int .i64 c, .int .i64 n]) true).run Try.prog w' = .ok (.tuple #[.int .i64 0, .bool false]) w' := fun w' ho =>
    ⟨((hA.old ho).blk).cell rfl, (hbN.old ho).cell rfl, (hbN.old ho).cell rfl, (hA.old ho).no hc hn HNO.out⟩
  refine wp_region_E (fun w' => Off Old (wA) w') [] (by kernel_rfl) ?_ (fun hHeld => ?_)
  · (first | exact Off.refl _ _ | exact Off.alloc hHeld _ | exact Off.trans hHeld (by assumption) | assumption | exact (Off.refl _ _).drew)
  refine wpAnyE_take (i := 0) (v := ?_) rfl (by kernel_rfl) (by kernel_rfl) (by kernel_rfl) (fun _ _ _ h => h) (Or.inl ⟨by rfl, ?_⟩) ?_
  rotate_left
  · (intro w _; go_simp; try with_reducible rfl)
  try simp only [Act.put, List.getElem_toArray, List.getElem_cons_zero, List.getElem_cons_succ, List.setIfInBounds_toArray, List.set_cons_zero, List.set_cons_succ]
  refine wpAnyE_take (i := 1) (v := ?_) rfl (by kernel_rfl) (by kernel_rfl) (by kernel_rfl) (fun _ _ _ h => h) (Or.inl ⟨by rfl, ?_⟩) ?_
  rotate_left
  · (intro w _; go_simp; try with_reducible rfl)
  try simp only [Act.put, List.getElem_toArray, List.getElem_cons_zero, List.getElem_cons_succ, List.setIfInBounds_toArray, List.set_cons_zero, List.set_cons_succ]
  refine wpAnyE_take (i := 2) (v := ?_) rfl (by kernel_rfl) (by kernel_rfl) (by kernel_rfl) (fun _ _ _ h => h) (Or.inl ⟨by rfl, ?_⟩) ?_
  rotate_left
  · (intro w _; go_simp; try with_reducible rfl)
  try simp only [Act.put, List.getElem_toArray, List.getElem_cons_zero, List.getElem_cons_succ, List.setIfInBounds_toArray, List.set_cons_zero, List.set_cons_succ]
  refine wpAnyE_take (i := 3) (v := ?_) rfl (by kernel_rfl) (by kernel_rfl) (by kernel_rfl) (fun _ _ _ h => h) (Or.inl ⟨by rfl, ?_⟩) ?_
  rotate_left
  · (intro w _; go_simp; try with_reducible rfl)
  try simp only [Act.put, List.getElem_toArray, List.getElem_cons_zero, List.getElem_cons_succ, List.setIfInBounds_toArray, List.set_cons_zero, List.set_cons_succ]
  refine wpAnyE_load (tr := [[], [0], [0, 1], [0, 1, 2], [0, 1, 2, 3], [], [0, 1, 2, 3, 4, 5], [0, 1, 2, 3, 4, 5, 6], [0, 1, 2, 3, 4, 5, 6, 7], [0, 1, 2, 3, 4, 5, 6, 7], [0, 1, 2, 3, 4, 5, 6, 7, 8], [0, 1, 2, 3, 4, 5, 6, 7, 8, 9, 10]]) (i := 4) (v := ?_) (by kernel_rfl) rfl (by kernel_rfl) (by kernel_rfl) (by kernel_rfl) (by kernel_rfl) (by kernel_rfl) (fun _ _ _ h => h) (Or.inl ⟨by rfl, ?_⟩) hHeld ?_
  rotate_left
  · (intro w hSw; (try dsimp only at hSw); go_simp; try with_reducible rfl)
  try simp only [Act.put, List.getElem_toArray, List.getElem_cons_zero, List.getElem_cons_succ, List.setIfInBounds_toArray, List.set_cons_zero, List.set_cons_succ]
  refine wpAnyE_load (tr := [[], [0], [0, 1], [0, 1, 2], [0, 1, 2, 3], [], [0, 1, 2, 3, 4, 5], [0, 1, 2, 3, 4, 5, 6], [0, 1, 2, 3, 4, 5, 6, 7], [0, 1, 2, 3, 4, 5, 6, 7], [0, 1, 2, 3, 4, 5, 6, 7, 8], [0, 1, 2, 3, 4, 5, 6, 7, 8, 9, 10]]) (i := 5) (v := ?_) (by kernel_rfl) rfl (by kernel_rfl) (by kernel_rfl) (by kernel_rfl) (by kernel_rfl) (by kernel_rfl) (fun _ _ _ h => h) (Or.inl ⟨by rfl, ?_⟩) hHeld ?_
  rotate_left
  · (intro w hSw; (try dsimp only at hSw); go_simp; try with_reducible rfl)
  try simp only [Act.put, List.getElem_toArray, List.getElem_cons_zero, List.getElem_cons_succ, List.setIfInBounds_toArray, List.set_cons_zero, List.set_cons_succ]
  refine wpAnyE_load (tr := [[], [0], [0, 1], [0, 1, 2], [0, 1, 2, 3], [], [0, 1, 2, 3, 4, 5], [0, 1, 2, 3, 4, 5, 6], [0, 1, 2, 3, 4, 5, 6, 7], [0, 1, 2, 3, 4, 5, 6, 7], [0, 1, 2, 3, 4, 5, 6, 7, 8], [0, 1, 2, 3, 4, 5, 6, 7, 8, 9, 10]]) (i := 6) (v := ?_) (by kernel_rfl) rfl (by kernel_rfl) (by kernel_rfl) (by kernel_rfl) (by kernel_rfl) (by kernel_rfl) (fun _ _ _ h => h) (Or.inl ⟨by rfl, ?_⟩) hHeld ?_
  rotate_left
  · (intro w hSw; (try dsimp only at hSw); go_simp; try with_reducible rfl)
  try simp only [Act.put, List.getElem_toArray, List.getElem_cons_zero, List.getElem_cons_succ, List.setIfInBounds_toArray, List.set_cons_zero, List.set_cons_succ]
  refine wpAnyE_take (i := 7) (v := ?_) rfl (by kernel_rfl) (by kernel_rfl) (by kernel_rfl) (fun _ _ _ h => h) (Or.inl ⟨by rfl, ?_⟩) ?_
  rotate_left
  · (intro w _; go_simp; try with_reducible rfl)
  try simp only [Act.put, List.getElem_toArray, List.getElem_cons_zero, List.getElem_cons_succ, List.setIfInBounds_toArray, List.set_cons_zero, List.set_cons_succ]
  refine wpAnyE_take (i := 8) (v := ?_) rfl (by kernel_rfl) (by kernel_rfl) (by kernel_rfl) (fun _ _ _ h => h) (Or.inl ⟨by rfl, ?_⟩) ?_
  rotate_left
  · (intro w _; go_simp; try with_reducible rfl)
  try simp only [Act.put, List.getElem_toArray, List.getElem_cons_zero, List.getElem_cons_succ, List.setIfInBounds_toArray, List.set_cons_zero, List.set_cons_succ]
  refine wpAnyE_take (i := 9) (v := ?_) rfl (by kernel_rfl) (by kernel_rfl) (by kernel_rfl) (fun _ _ _ h => h) (Or.inl ⟨by rfl, ?_⟩) ?_
  rotate_left
  · (intro w _; go_simp; try with_reducible rfl)
  try simp only [Act.put, List.getElem_toArray, List.getElem_cons_zero, List.getElem_cons_succ, List.setIfInBounds_toArray, List.set_cons_zero, List.set_cons_succ]
  refine wpAnyE_take (i := 10) (v := ?_) rfl (by kernel_rfl) (by kernel_rfl) (by kernel_rfl) (fun _ _ _ h => h) (Or.inl ⟨by rfl, ?_⟩) ?_
  rotate_left
  · (intro w _; go_simp; try with_reducible rfl)
  try simp only [Act.put, List.getElem_toArray, List.getElem_cons_zero, List.getElem_cons_succ, List.setIfInBounds_toArray, List.set_cons_zero, List.set_cons_succ]
  refine wpAnyE_take (i := 11) (v := ?_) rfl (by kernel_rfl) (by kernel_rfl) (by kernel_rfl) (fun _ _ _ h => h) (Or.inl ⟨by rfl, ?_⟩) ?_
  rotate_left
  · (intro w _; go_simp; try with_reducible rfl)
  try simp only [Act.put, List.getElem_toArray, List.getElem_cons_zero, List.getElem_cons_succ, List.setIfInBounds_toArray, List.set_cons_zero, List.set_cons_succ]
  refine wpAnyE_done (by kernel_rfl) ?_ _
  clear hcl
  have hbR2 := hbR.old (Off.refl Old wA).drew
  have hoB := hoA.trans (Off.refl Old wA).drew
  clear hHeld
  generalize wA.drew = wB at *
  have r0 := hbR2.cell (i := 0) rfl
  have r1 := hbR2.cell (i := 1) rfl
  have r2 := hbR2.cell (i := 2) rfl
  have r3 := hbR2.cell (i := 3) rfl
  have r4 := hbR2.cell (i := 4) rfl
  have rf := hbR2.free
  have HR := Lib.hid (hbR2.set5 (.int .i64 0) (.int .i64 0) (.bool false) (.int .i64 0) (.slice none 0 0))
  have hO := Lib.hid (Off.set5 (S := Old) (b := w.heap.size + 1) hoB (by intro h; omega) (.int .i64 0) (.int .i64 0) (.bool false) (.int .i64 0) (.slice none 0 0))
  clear hbR2
  go_wp2_with fail
  have HF := HK.out _ hO.out
  exact bodyPost_ret (v := .tuple #[vd0, .bool false]) (by simp [results, Try.results22, go_sem, vd0, HR.out.cell (i := 0) rfl, HR.out.cell (i := 1) rfl, HR.out.cell (i := 2) rfl, HR.out.cell (i := 3) rfl, HR.out.cell (i := 4) rfl]) rfl HF
set_option maxRecDepth 100000 in
theorem bkMany_c (p : Nat) (g : Option Addr) (d r : Nat) (l : List Ve) (w : World) (h : Bk w p g d r l) (R : Ending → World → Prop) (k : R (.returned (.int .i64 l.length)) w) :
    Calls Try.prog 20 #[.pointer (some ⟨p, 0, none⟩)] w R := by
  have c0 := h.blk.cell (i := 0) rfl
  go_enter Try.func20, Try.ntmps20
  go_wp2_with (go_at_call 37; go_must (refine bknown_c p g d r l _ h _ ?_))
  exact k
end Go.Proofs.Ytahpfcfecghpmaa
