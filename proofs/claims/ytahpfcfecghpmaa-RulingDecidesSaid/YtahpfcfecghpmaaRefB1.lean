/- A book of verdicts, by the document: one copied, of a name, right. -/
import Derived.Test.YtahpfcfecghpmaaBook4
import Derived.Laws.StructEq
import Derived.Test.YtahpfcfecghpmaaOrd
import Derived.KernelRfl
namespace Go.Proofs.Ytahpfcfecghpmaa
open Go.RowKit
set_option linter.unusedSimpArgs false

theorem sz_rvd (w : World) : (sizeOf 41).run Try.prog w = .ok 5 w := by kernel_rfl
theorem rvdinfo : (Try.prog.info? 41).map (fun i => (i.zero, i.size, i.bytes)) = some (some (.agg #[.int .i64 0, .int .i64 0, .bool false, .int .i64 0, .slice none 0 0]), 5, 56) := by kernel_rfl
theorem Sl.ix_rve {w : World} {a : Option Addr} {l : List Ve} (h : Sl w a (vcs l)) (c : Nat) :
    ∃ b o, (∀ i : Nat, i < l.length → ∀ w : World, (Instr.indexAt 29 (.slice a l.length c) (.int .i64 (i : Int))).run Try.prog w = .ok (.pointer (some ⟨b, o + i * 5, none⟩)) w) ∧
      Hid (∀ j x, l[j]? = some x → w.cell? ⟨b, o + j * 5, none⟩ = some (.int .i64 x.x.c) ∧ w.cell? ⟨b, o + j * 5 + 1, none⟩ = some (.int .i64 x.x.n) ∧ w.cell? ⟨b, o + j * 5 + 2, none⟩ = some (.bool x.x.commit) ∧ w.cell? ⟨b, o + j * 5 + 3, none⟩ = some (.int .i64 x.x.at_) ∧ w.cell? ⟨b, o + j * 5 + 4, none⟩ = some (.slice x.a x.x.reads.length x.cap)) := by
  obtain ⟨b, o, p, q⟩ := h.base
  have hn : 0 < l.length → vcs l ≠ [] := by
    intro h0 h1
    have := vcs_length l
    rw [h1] at this; simp at this; omega
  refine ⟨b, o, fun i hi w => indexAt_any Try.underlying29 sz_rvd (fun h => p (hn h)) i hi w, fun j x hx => ?_⟩
  obtain ⟨h1, h2, h3, h4, h5⟩ := vcs_at hx
  exact ⟨by rw [Nat.mul_comm]; exact q _ _ h1, by rw [Nat.mul_comm, Nat.add_assoc]; exact q _ _ h2, by rw [Nat.mul_comm, Nat.add_assoc]; exact q _ _ h3, by rw [Nat.mul_comm, Nat.add_assoc]; exact q _ _ h4, by rw [Nat.mul_comm, Nat.add_assoc]; exact q _ _ h5⟩
/-- the document's book. -/
structure RBk (w : World) (q : Nat) (g : Option Addr) (d : Nat) (l : List Ve) : Prop where
  blk : Blk w q [.slice g l.length d] 31
  own : w.ownsRow 0 41 5 (.slice g l.length d) l.length (vcs l)
  vok : ∀ e ∈ l, Vok w e
  apart : ∀ e ∈ l, e.x.reads ≠ [] → ∀ z, e.a = some z → z.block ≠ q ∧ g.map Addr.block ≠ some z.block
def RbOwn (q : Nat) (g : Option Addr) (l : List Ve) (k : Nat) : Prop := k = q ∨ g.map Addr.block = some k ∨ ∃ e ∈ l, e.x.reads ≠ [] ∧ e.a.map Addr.block = some k
def RbS (q : Nat) (g : Option Addr) (k : Nat) : Prop := k = q ∨ g.map Addr.block = some k
section
variable {w w' : World} {q : Nat} {g : Option Addr} {d : Nat} {l : List Ve}
theorem RBk.off {S : Nat → Prop} (h : RBk w q g d l) (ho : Off S w w') (hs : ∀ k, RbOwn q g l k → ¬ S k) : RBk w' q g d l :=
  ⟨h.blk.off ho (hs _ (.inl rfl)), own_off h.own ho (fun k hk => hs k (.inr (.inl (by rw [own_block_eq'] at hk; exact hk)))), fun e he => (h.vok e he).off ho (fun z hz hn => hs _ (.inr (.inr ⟨e, he, hn, by rw [hz]; rfl⟩))), h.apart⟩
theorem RBk.old (h : RBk w q g d l) (ho : Off Old w w') : RBk w' q g d l := h.off ho (fun _ _ x => x)
theorem RBk.lt (h : RBk w q g d l) {k : Nat} (hk : RbOwn q g l k) : k < w.heap.size := by
  rcases hk with rfl | hk | ⟨e, he, hn, hk⟩
  · exact h.blk.lt
  · exact own_lt h.own (by rw [own_block_eq']; exact hk)
  · obtain ⟨z, hz, rfl⟩ := Option.map_eq_some_iff.1 hk
    exact (h.vok e he).sl.lt hz (ne_rdxs hn)
end
set_option maxRecDepth 100000 in
set_option maxHeartbeats 1000000 in
theorem rcopied_c (e : Ve) (m : Nat) (hm : Hid (e.x.reads.length = m)) (w : World) (h : Vok w e) (R : Ending → World → Prop)
    (k : ∀ w' a' d', Vok w' ⟨e.x, a', d'⟩ → Off Old w w' → (∀ q, a' = some q → w.heap.size ≤ q.block) → R (.returned (.agg #[.int .i64 e.x.c, .int .i64 e.x.n, .bool e.x.commit, .int .i64 e.x.at_, .slice a' m d'])) w') :
    Calls Try.prog 39 #[.agg #[.int .i64 e.x.c, .int .i64 e.x.n, .bool e.x.commit, .int .i64 e.x.at_, .slice e.a m e.cap]] w R := by
  have HK := Lib.hid k; clear k
  have hl := h.len
  rw [hm.out] at hl
  have hoA : Off Old w ((w.alloc (.cells #[.int .i64 e.x.c, .int .i64 e.x.n, .bool e.x.commit, .int .i64 e.x.at_, .slice e.a m e.cap] 41)).alloc (.cells #[.int .i64 0, .int .i64 0, .bool false, .int .i64 0, .slice none 0 0] 41)) := ((Off.refl Old w).alloc _).alloc _
  have hbN := ((Blk.new w #[.int .i64 e.x.c, .int .i64 e.x.n, .bool e.x.commit, .int .i64 e.x.at_, .slice e.a m e.cap] 41).alloc (.cells #[.int .i64 0, .int .i64 0, .bool false, .int .i64 0, .slice none 0 0] 41))
  have hbR := Blk.new2 w (.cells #[.int .i64 e.x.c, .int .i64 e.x.n, .bool e.x.commit, .int .i64 e.x.at_, .slice e.a m e.cap] 41) #[.int .i64 0, .int .i64 0, .bool false, .int .i64 0, .slice none 0 0] 41
  go_enter Try.func39, Try.ntmps39
  go_wp2_with fail
  generalize ((w.alloc (.cells #[.int .i64 e.x.c, .int .i64 e.x.n, .bool e.x.commit, .int .i64 e.x.at_, .slice e.a m e.cap] 41)).alloc (.cells #[.int .i64 0, .int .i64 0, .bool false, .int .i64 0, .slice none 0 0] 41)) = wA at *
  have hcl : ∀ w', Off Old wA w' → w'.cell? ⟨w.heap.size, 0, none⟩ = some (.int .i64 e.x.c) ∧ w'.cell? ⟨w.heap.size, 1, none⟩ = some (.int .i64 e.x.n) ∧ w'.cell? ⟨w.heap.size, 2, none⟩ = some (.bool e.x.commit) ∧ w'.cell? ⟨w.heap.size, 3, none⟩ = some (.int .i64 e.x.at_) ∧ w'.cell? ⟨w.heap.size, 4, none⟩ = some (.slice e.a m e.cap) := fun w' ho => ⟨(hbN.old ho).cell rfl, (hbN.old ho).cell rfl, (hbN.old ho).cell rfl, (hbN.old ho).cell rfl, (hbN.old ho).cell rfl⟩
  refine wp_region_E (fun w' => Off Old (wA) w') [10] (by kernel_rfl) ?_ (fun hHeld => ?_)
  · (first | exact Off.refl _ _ | exact Off.alloc hHeld _ | exact Off.trans hHeld (by assumption) | assumption | exact (Off.refl _ _).drew)
  refine wpAnyE_take (i := 0) (v := ?_) rfl (by kernel_rfl) (by kernel_rfl) (by kernel_rfl) (fun _ _ _ h => h) (Or.inl ⟨by rfl, ?_⟩) ?_
  rotate_left
  · (intro w _; go_simp; try with_reducible rfl)
  try simp only [Act.put, List.getElem_toArray, List.getElem_cons_zero, List.getElem_cons_succ, List.setIfInBounds_toArray, List.set_cons_zero, List.set_cons_succ]
  refine wpAnyE_load (tr := [[], [0], [], [2], [], [4], [], [6], [6, 7], [0, 1, 2, 3, 4, 5, 6, 7, 8], [0, 1, 2, 3, 4, 5, 6, 7, 8, 9]]) (i := 1) (v := ?_) (by kernel_rfl) rfl (by kernel_rfl) (by kernel_rfl) (by kernel_rfl) (by kernel_rfl) (by kernel_rfl) (fun _ _ _ h => h) (Or.inl ⟨by rfl, ?_⟩) hHeld ?_
  rotate_left
  · (intro w hSw; (try dsimp only at hSw); go_simp; try with_reducible rfl)
  try simp only [Act.put, List.getElem_toArray, List.getElem_cons_zero, List.getElem_cons_succ, List.setIfInBounds_toArray, List.set_cons_zero, List.set_cons_succ]
  refine wpAnyE_take (i := 2) (v := ?_) rfl (by kernel_rfl) (by kernel_rfl) (by kernel_rfl) (fun _ _ _ h => h) (Or.inl ⟨by rfl, ?_⟩) ?_
  rotate_left
  · (intro w _; go_simp; try with_reducible rfl)
  try simp only [Act.put, List.getElem_toArray, List.getElem_cons_zero, List.getElem_cons_succ, List.setIfInBounds_toArray, List.set_cons_zero, List.set_cons_succ]
  refine wpAnyE_load (tr := [[], [0], [], [2], [], [4], [], [6], [6, 7], [0, 1, 2, 3, 4, 5, 6, 7, 8], [0, 1, 2, 3, 4, 5, 6, 7, 8, 9]]) (i := 3) (v := ?_) (by kernel_rfl) rfl (by kernel_rfl) (by kernel_rfl) (by kernel_rfl) (by kernel_rfl) (by kernel_rfl) (fun _ _ _ h => h) (Or.inl ⟨by rfl, ?_⟩) hHeld ?_
  rotate_left
  · (intro w hSw; (try dsimp only at hSw); go_simp; try with_reducible rfl)
  try simp only [Act.put, List.getElem_toArray, List.getElem_cons_zero, List.getElem_cons_succ, List.setIfInBounds_toArray, List.set_cons_zero, List.set_cons_succ]
  refine wpAnyE_take (i := 4) (v := ?_) rfl (by kernel_rfl) (by kernel_rfl) (by kernel_rfl) (fun _ _ _ h => h) (Or.inl ⟨by rfl, ?_⟩) ?_
  rotate_left
  · (intro w _; go_simp; try with_reducible rfl)
  try simp only [Act.put, List.getElem_toArray, List.getElem_cons_zero, List.getElem_cons_succ, List.setIfInBounds_toArray, List.set_cons_zero, List.set_cons_succ]
  refine wpAnyE_load (tr := [[], [0], [], [2], [], [4], [], [6], [6, 7], [0, 1, 2, 3, 4, 5, 6, 7, 8], [0, 1, 2, 3, 4, 5, 6, 7, 8, 9]]) (i := 5) (v := ?_) (by kernel_rfl) rfl (by kernel_rfl) (by kernel_rfl) (by kernel_rfl) (by kernel_rfl) (by kernel_rfl) (fun _ _ _ h => h) (Or.inl ⟨by rfl, ?_⟩) hHeld ?_
  rotate_left
  · (intro w hSw; (try dsimp only at hSw); go_simp; try with_reducible rfl)
  try simp only [Act.put, List.getElem_toArray, List.getElem_cons_zero, List.getElem_cons_succ, List.setIfInBounds_toArray, List.set_cons_zero, List.set_cons_succ]
  refine wpAnyE_take (i := 6) (v := ?_) rfl (by kernel_rfl) (by kernel_rfl) (by kernel_rfl) (fun _ _ _ h => h) (Or.inl ⟨by rfl, ?_⟩) ?_
  rotate_left
  · (intro w _; go_simp; try with_reducible rfl)
  try simp only [Act.put, List.getElem_toArray, List.getElem_cons_zero, List.getElem_cons_succ, List.setIfInBounds_toArray, List.set_cons_zero, List.set_cons_succ]
  refine wpAnyE_load (tr := [[], [0], [], [2], [], [4], [], [6], [6, 7], [0, 1, 2, 3, 4, 5, 6, 7, 8], [0, 1, 2, 3, 4, 5, 6, 7, 8, 9]]) (i := 7) (v := ?_) (by kernel_rfl) rfl (by kernel_rfl) (by kernel_rfl) (by kernel_rfl) (by kernel_rfl) (by kernel_rfl) (fun _ _ _ h => h) (Or.inl ⟨by rfl, ?_⟩) hHeld ?_
  rotate_left
  · (intro w hSw; (try dsimp only at hSw); go_simp; try with_reducible rfl)
  try simp only [Act.put, List.getElem_toArray, List.getElem_cons_zero, List.getElem_cons_succ, List.setIfInBounds_toArray, List.set_cons_zero, List.set_cons_succ]
  refine wpAnyE_ready (rs := [8]) (by kernel_rfl) (by simp) ?_
  refine AllReadyE.cons rfl (fun K hK => ?_) AllReadyE.nil
  go_simp
  (go_at_call 68; refine copyReads_c e.a m e.cap e.x.reads _ hm.out ((h.sl.old hoA).old (Off.refl Old wA).drew) hl _ ?_; intro w2 a2 d2 hown ho2 hfr2; have hbR2 := Lib.hid (hbR.old ((Off.refl Old wA).drew.trans ho2)); have r0 := hbR2.out.cell (i := 0) rfl; have r1 := hbR2.out.cell (i := 1) rfl; have r2 := hbR2.out.cell (i := 2) rfl; have r3 := hbR2.out.cell (i := 3) rfl; have r4 := hbR2.out.cell (i := 4) rfl; have rf := hbR2.out.free)
  refine hK.out _ _ ?_ (fun hHeld => ?_)
  · (first | exact Off.refl _ _ | exact Off.alloc hHeld _ | exact Off.trans hHeld (by assumption) | assumption | exact (Off.refl _ _).drew)
  clear hK K
  try simp only [Act.put, List.getElem_toArray, List.getElem_cons_zero, List.getElem_cons_succ, List.setIfInBounds_toArray, List.set_cons_zero, List.set_cons_succ]
  refine wpAnyE_take (i := 9) (v := ?_) rfl (by kernel_rfl) (by kernel_rfl) (by kernel_rfl) (fun _ _ _ h => h) (Or.inl ⟨by rfl, ?_⟩) ?_
  rotate_left
  · (intro w _; go_simp; try with_reducible rfl)
  try simp only [Act.put, List.getElem_toArray, List.getElem_cons_zero, List.getElem_cons_succ, List.setIfInBounds_toArray, List.set_cons_zero, List.set_cons_succ]
  refine wpAnyE_ready (rs := [10]) (by kernel_rfl) (by simp) ?_
  refine AllReadyE.lcons (by kernel_rfl) rfl (fun K hK => ?_) AllReadyE.nil
  go_simp
  refine hK.out _ _ ?_
  clear hK K
  try simp only [Act.put, List.getElem_toArray, List.getElem_cons_zero, List.getElem_cons_succ, List.setIfInBounds_toArray, List.set_cons_zero, List.set_cons_succ]
  refine wpAnyE_done (by kernel_rfl) ?_ _
  clear r0 r1 r2 r3 r4 rf hcl
  go_wp2_with fail
  have hw2 : wA.heap.size ≤ w2.heap.size := ho2.size
  have hfr2 : ∀ q, a2 = some q → wA.heap.size ≤ q.block := hfr2
  have hRl := hbR.lt
  have HR := Lib.hid (hbR2.out.set5 (.int .i64 e.x.c) (.int .i64 e.x.n) (.bool e.x.commit) (.int .i64 e.x.at_) (.slice a2 m d2))
  have hO := Lib.hid (Off.set5 (S := Old) (b := w.heap.size + 1) ((hoA.trans (Off.refl Old wA).drew).trans ho2) (by intro h; omega) (.int .i64 e.x.c) (.int .i64 e.x.n) (.bool e.x.commit) (.int .i64 e.x.at_) (.slice a2 m d2))
  have hS := Lib.hid (Off.set5 (S := fun k => k = w.heap.size + 1) (b := w.heap.size + 1) (Off.refl _ w2) (fun _ => rfl) (.int .i64 e.x.c) (.int .i64 e.x.n) (.bool e.x.commit) (.int .i64 e.x.at_) (.slice a2 m d2))
  have hz := hoA.size
  have HF := HK.out _ a2 d2 ⟨(own_sl2 hown).2.2.off hS.out (fun q hq _ hk => by have := hfr2 q hq; omega), h.fits, h.len⟩ hO.out (fun q hq => by have := hfr2 q hq; omega)
  exact bodyPost_ret (v := .agg #[.int .i64 e.x.c, .int .i64 e.x.n, .bool e.x.commit, .int .i64 e.x.at_, .slice a2 m d2]) (by simp [results, Try.results39, go_sem, HR.out.cell (i := 0) rfl, HR.out.cell (i := 1) rfl, HR.out.cell (i := 2) rfl, HR.out.cell (i := 3) rfl, HR.out.cell (i := 4) rfl]) rfl HF
def Found (l : List Vd) (x : Vd) (o : Option Vd) : Prop := l.find? (sameName x) = o
theorem run_eql_nm (a b c d : Int) (w : World) : (binOp .eql 35 (.agg #[.int .i64 a, .int .i64 b]) (.agg #[.int .i64 c, .int .i64 d])).run Try.prog w = .ok (.bool (decide (a = c ∧ b = d))) w := by
  rw [run_eql_struct]
  simp [go_sem]
  by_cases h0 : a = c <;> by_cases h1 : b = d <;> simp [h0, h1]
set_option maxRecDepth 100000 in
set_option maxHeartbeats 1000000 in
theorem rOf_c (q : Nat) (g : Option Addr) (d : Nat) (l : List Ve) (x : Vd) (w : World) (h : RBk w q g d l) (hln : l.length ≤ 1000000) (R : Ending → World → Prop)
    (k1 : ∀ (y : Vd), Found (l.map Ve.x) x (some y) → ∀ w' a' m' c', Vok w' ⟨y, a', c'⟩ → Hid (y.reads.length = m') → Off Old w w' → (∀ q, a' = some q → w.heap.size ≤ q.block) → R (.returned (.tuple #[vdV y a' m' c', .bool true])) w')
    (k2 : Found (l.map Ve.x) x none → ∀ w', Off Old w w' → R (.returned (.tuple #[vd0, .bool false])) w') :
    Calls Try.prog 23 #[.pointer (some ⟨q, 0, none⟩), .agg #[.int .i64 x.c, .int .i64 x.n]] w R := by
  have K1 := Lib.hid k1; have K2 := Lib.hid k2; clear k1 k2
  have hoA : Off Old w ((w.alloc (.cells #[.int .i64 x.c, .int .i64 x.n] 35)).alloc (.cells #[.int .i64 0, .int .i64 0, .bool false, .int .i64 0, .slice none 0 0] 41)) := ((Off.refl Old w).alloc _).alloc _
  have hbN := ((Blk.new w #[.int .i64 x.c, .int .i64 x.n] 35).alloc (.cells #[.int .i64 0, .int .i64 0, .bool false, .int .i64 0, .slice none 0 0] 41))
  have hbR := Blk.new2 w (.cells #[.int .i64 x.c, .int .i64 x.n] 35) #[.int .i64 0, .int .i64 0, .bool false, .int .i64 0, .slice none 0 0] 41
  go_enter Try.func23, Try.ntmps23
  go_wp2_with fail
  go_loopw [6] (fun i wr => ∃ j : Nat, i = .int .i64 j ∧ j ≤ l.length ∧ Off Old ((w.alloc (.cells #[.int .i64 x.c, .int .i64 x.n] 35)).alloc (.cells #[.int .i64 0, .int .i64 0, .bool false, .int .i64 0, .slice none 0 0] 41)) wr ∧ Hid (((l.map Ve.x).take j).find? (sameName x) = none)) (fun i _ => l.length - (intOf i).toNat)
  case atStart => exact ⟨0, rfl, Nat.zero_le _, Off.refl _ _, by show _ = _; simp⟩
  case round =>
    obtain ⟨j, rfl, hj, ho, hf⟩ := hrel
    have hw := hoA.trans ho
    have hB := h.old hw
    have hN := hbN.old ho
    have hR := hbR.old ho
    have c0 := hB.blk.cell (i := 0) rfl
    by_cases hlt : j < l.length
    · obtain ⟨e, he⟩ := at_of_lt hlt
      obtain ⟨b, o, ix, Q⟩ := ((own_sl2 hB.own).2.2).ix_rve d
      have hix := ix j hlt
      obtain ⟨x0, x1, x2, x3, x4⟩ := Q.out j e he.out
      have n0 := hN.cell (i := 0) rfl
      have n1 := hN.cell (i := 1) rfl
      have heq := run_eql_nm e.x.c e.x.n x.c x.n
      obtain ⟨B, hBq⟩ : ∃ B, Hid (sameName x e.x = B) := ⟨_, rfl⟩
      have hBq2 : decide (e.x.c = x.c ∧ e.x.n = x.n) = B := hBq.out
      rw [hBq2] at heq
      clear hBq2 Q ix
      cases B with
      | false =>
        have hf2 : Hid (((l.map Ve.x).take (j + 1)).find? (sameName x) = none) := by
          show _ = _
          rw [List.take_add_one, List.find?_append, hf.out, List.getElem?_map, he.out]
          simp [hBq.out]
        clear x2 x3 x4
        go_wp2_with fail
        go_quiet (fail)
        go_wp2_with fail
        go_roundw
        case rel => exact ⟨j + 1, by go_num, by omega, ho.drewN _, hf2⟩
        case measure => simp [intOf]; omega
      | true =>
        have hf2 : Hid ((l.map Ve.x).find? (sameName x) = some e.x) := by
          show _ = _
          have h1 : l.map Ve.x = (l.map Ve.x).take (j + 1) ++ (l.map Ve.x).drop (j + 1) := (List.take_append_drop _ _).symm
          rw [h1, List.find?_append, List.take_add_one, List.find?_append, hf.out, List.getElem?_map, he.out]
          simp [hBq.out]
        obtain ⟨m, hm⟩ : ∃ m, Hid (e.x.reads.length = m) := ⟨_, rfl⟩
        rw [hm.out] at x4
        go_wp2_with fail
        go_quiet (fail)
        have hvk := Lib.hid (hB.vok e (List.mem_of_getElem? he.out))
        clear heq
        go_wp2_with (go_at_call 39; go_must (refine rcopied_c e m hm _ (hvk.out.old (by simp)) _ ?_))
        intro w2 a2 d2 hv2 ho2 hfr2
        have hR2 := (hR.old (Off.drewN (Off.refl Old wr) _)).old ho2
        have hw2 := (hw.trans (Off.drewN (Off.refl Old wr) _)).trans ho2
        have r0 := hR2.cell (i := 0) rfl
        have r1 := hR2.cell (i := 1) rfl
        have r2 := hR2.cell (i := 2) rfl
        have r3 := hR2.cell (i := 3) rfl
        have r4 := hR2.cell (i := 4) rfl
        have rf := hR2.free
        have HR := Lib.hid (hR2.set5 (.int .i64 e.x.c) (.int .i64 e.x.n) (.bool e.x.commit) (.int .i64 e.x.at_) (.slice a2 m d2))
        have hO := Lib.hid (Off.set5 (S := Old) (b := w.heap.size + 1) hw2 (by intro h; omega) (.int .i64 e.x.c) (.int .i64 e.x.n) (.bool e.x.commit) (.int .i64 e.x.at_) (.slice a2 m d2))
        have hS := Lib.hid (Off.set5 (S := fun k => k = w.heap.size + 1) (b := w.heap.size + 1) (Off.refl _ w2) (fun _ => rfl) (.int .i64 e.x.c) (.int .i64 e.x.n) (.bool e.x.commit) (.int .i64 e.x.at_) (.slice a2 m d2))
        have hzz := hR.lt
        have hfr2 : ∀ q, a2 = some q → wr.heap.size ≤ q.block := hfr2
        have hww := hw.size
        clear x0 x1 x2 x3 x4 hR2 hw2 n0 n1 c0
        go_wp2_with fail
        have HF := K1.out e.x hf2.out _ a2 m d2 (hv2.off hS.out (fun q hq _ hk => by have := hfr2 q hq; omega)) hm hO.out (fun q hq => by have := hfr2 q hq; omega)
        exact bodyPost_ret (v := .tuple #[vdV e.x a2 m d2, .bool true]) (by simp [results, Try.results23, go_sem, vdV, HR.out.cell (i := 0) rfl, HR.out.cell (i := 1) rfl, HR.out.cell (i := 2) rfl, HR.out.cell (i := 3) rfl, HR.out.cell (i := 4) rfl]) rfl HF
    · have hall := hf.out
      rw [List.take_of_length_le (by simp; omega)] at hall
      have HF := K2.out hall
      have HF := Lib.hid HF
      have r0 := hR.cell (i := 0) rfl
      have r1 := hR.cell (i := 1) rfl
      have r2 := hR.cell (i := 2) rfl
      have r3 := hR.cell (i := 3) rfl
      have r4 := hR.cell (i := 4) rfl
      have rf := hR.free
      have HR := Lib.hid (hR.set5 (.int .i64 0) (.int .i64 0) (.bool false) (.int .i64 0) (.slice none 0 0))
      have hO := Lib.hid (Off.set5 (S := Old) (b := w.heap.size + 1) hw (by intro h; omega) (.int .i64 0) (.int .i64 0) (.bool false) (.int .i64 0) (.slice none 0 0))
      clear K1 K2 hall
      go_wp2_with fail
      exact bodyPost_ret (v := .tuple #[vd0, .bool false]) (by simp [results, Try.results23, go_sem, vd0, HR.out.cell (i := 0) rfl, HR.out.cell (i := 1) rfl, HR.out.cell (i := 2) rfl, HR.out.cell (i := 3) rfl, HR.out.cell (i := 4) rfl]) rfl (HF.out _ hO.out)
set_option maxRecDepth 100000 in
set_option maxHeartbeats 2000000 in
theorem rRight_c (e : Ve) (m : Nat) (hm : Hid (e.x.reads.length = m)) (w : World) (h : Vok w e) (R : Ending → World → Prop) (k : ∀ w', Off Old w w' → R (.returned (.bool e.x.ok)) w') :
    Calls Try.prog 13 #[.agg #[.int .i64 e.x.c, .int .i64 e.x.n, .bool e.x.commit, .int .i64 e.x.at_, .slice e.a m e.cap]] w R := by
  have HK := Lib.hid k; clear k
  have hl := h.len
  rw [hm.out] at hl
  have hbN := Blk.new w #[.int .i64 e.x.c, .int .i64 e.x.n, .bool e.x.commit, .int .i64 e.x.at_, .slice e.a m e.cap] 41
  go_enter Try.func13, Try.ntmps13
  go_wp2_with (go_at_call 41; refine refName_c e.x.c e.x.n _ _ ?_)
  intro w1 ho1
  have hN1 := hbN.old ho1
  have ho := ((Off.refl Old w).alloc _).trans ho1
  have h1 := h.old ho
  have b0 := hN1.cell (i := 2) rfl
  have b3 := hN1.cell (i := 3) rfl
  have b4 := hN1.cell (i := 4) rfl
  obtain ⟨X, hX⟩ : ∃ X, Hid (e.x.ok = X) := ⟨_, rfl⟩
  rw [hX.out] at HK
  obtain ⟨N, hN⟩ : ∃ N, Hid (nameOk e.x.c e.x.n = N) := ⟨_, rfl⟩
  obtain ⟨C, hC⟩ : ∃ C, Hid (e.x.commit = C) := ⟨_, rfl⟩
  rw [hC.out] at b0
  rw [hN.out]
  have hbn : (-9223372036854775808 : Int) ≤ m ∧ (m : Int) ≤ 9223372036854775807 := by omega
  have hbad : ∀ P : Prop, (P → Hid (X = false)) → P → (∀ w', Off Old w w' → R (.returned (.bool false)) w') := fun P hP hp => by
    have := HK.out
    rw [(hP hp).out] at this
    exact this
  have hgood : N = true → 1 ≤ e.x.at_ → e.x.at_ ≤ 1073741824 → m ≤ 6 → (C = true ∨ m = 0) → X = e.x.reads.all Rdx.ok := fun a1 a2 a3 a4 a5 => by
    rw [← hX.out]
    simp only [Vd.ok, hN.out, hC.out, hm.out, a1]
    rcases a5 with a5 | a5 <;> simp [a2, a3, a4, a5]
  have hbadv : (N = false ∨ e.x.at_ < 1 ∨ 1073741824 < e.x.at_ ∨ 6 < m ∨ (C = false ∧ 0 < m)) → X = false := fun a => by
    rw [← hX.out]
    simp only [Vd.ok, hN.out, hC.out, hm.out]
    rcases a with a | a | a | a | ⟨a, b⟩
    · simp [a]
    · simp [show ¬ 1 ≤ e.x.at_ by omega]
    · simp [show ¬ e.x.at_ ≤ 1073741824 by omega]
    · simp [show ¬ m ≤ 6 by omega]
    · simp [a, show ¬ m = 0 by omega]
  have HG := Lib.hid hgood; have HB := Lib.hid hbadv
  clear hgood hbadv hbad
  cases N
  · have hx := HB.out (.inl rfl)
    subst hx
    have HF := HK.out w1 ho
    clear HK HG HB
    go_wp2_with fail
    exact HF
  · by_cases a1 : e.x.at_ < 1
    · have hx := HB.out (.inr (.inl a1))
      subst hx
      have HF := HK.out w1 ho
      clear HK HG HB
      go_wp2_with fail
      exact HF
    · by_cases a2 : 1073741824 < e.x.at_
      · have hx := HB.out (.inr (.inr (.inl a2)))
        subst hx
        have HF := HK.out w1 ho
        clear HK HG HB
        go_wp2_with fail
        exact HF
      · by_cases a3 : 6 < m
        · have hx := HB.out (.inr (.inr (.inr (.inl a3))))
          subst hx
          have HF := HK.out w1 ho
          clear HK HG HB
          go_wp2_with fail
          exact HF
        · by_cases a4 : C = false ∧ 0 < m
          · obtain ⟨rfl, a5⟩ := a4
            have hx := HB.out (.inr (.inr (.inr (.inr ⟨rfl, a5⟩))))
            subst hx
            have HF := HK.out w1 ho
            clear HK HG HB
            go_wp2_with fail
            exact HF
          · have hx := HG.out rfl (by omega) (by omega) (by omega) (by cases C; right; by_cases hm0 : m = 0; exact hm0; exact absurd ⟨rfl, by omega⟩ a4; left; rfl)
            have a5 : C = false → m = 0 := fun hc => by by_cases hm0 : m = 0; exact hm0; exact absurd ⟨hc, by omega⟩ a4
            have HXV := Lib.hid hx
            have HFI := Lib.hid h.fits
            clear HG HB a4 hx
            have hm6 : m ≤ 6 := by omega
            cases C
            · have hm0 := a5 rfl
              subst hm0
              have hv : X = true := by
                rw [HXV.out, show e.x.reads = [] from List.eq_nil_of_length_eq_zero hm.out]; rfl
              subst hv
              clear a5
              go_wp2_with fail
              go_loopw [3] (fun i wr => i = .int .i64 0 ∧ Off Old w1 wr) (fun i _ => 0)
              case atStart => exact ⟨rfl, Off.refl _ _⟩
              case round =>
                clear b0 b3 b4
                obtain ⟨rfl, hoj⟩ := hrel
                have b4 := (hN1.old hoj).cell (i := 4) rfl
                have HF := HK.out wr (ho.trans hoj)
                clear HK
                go_wp2_with fail
                exact HF
            · clear a5
              go_wp2_with fail
              go_loopw [3] (fun i wr => ∃ j : Nat, i = .int .i64 j ∧ (j : Int) ≤ e.x.reads.length ∧ Off Old w1 wr ∧ Hid ((e.x.reads.take j).all Rdx.ok = true)) (fun i _ => e.x.reads.length - (intOf i).toNat)
              case atStart => exact ⟨0, rfl, by omega, Off.refl _ _, rfl⟩
              case round =>
                clear b0 b3 b4
                obtain ⟨j, rfl, hj, hoj, hall⟩ := hrel
                have b4 := (hN1.old hoj).cell (i := 4) rfl
                by_cases hlt : j < e.x.reads.length
                · obtain ⟨x, hx⟩ := at_of_lt hlt
                  obtain ⟨b, o, ix, Q, _⟩ := (h1.sl.old hoj).ix_rdx e.cap
                  obtain ⟨x0, x1, x2⟩ := Q.out j x hx.out
                  have hix := ix j hlt
                  rw [hm.out] at hix
                  have hjm : j < _ := lt_of_lt_of_eq hlt hm.out
                  obtain ⟨f1, f2⟩ := HFI.out x (List.mem_of_getElem? hx.out)
                  obtain ⟨V, hV⟩ : ∃ V, Hid (x.ok = V) := ⟨_, rfl⟩
                  clear Q ix
                  cases V
                  · have hbad : Hid (X = false) := by
                      show _ = _
                      rw [HXV.out, List.all_eq_false]
                      exact ⟨x, List.mem_of_getElem? hx.out, by rw [hV.out]; simp⟩
                    have hb2 := hbad.out
                    subst hb2
                    go_wp2_with (go_at_call 42; go_must (refine readRight_c x.key x.is x.val f1 f2 _ _ ?_); rw [show readOk x.key x.is x.val = false from hV.out])
                    intro w2 ho2
                    have HF := HK.out w2 ((ho.trans hoj).trans ho2)
                    clear HK
                    go_wp2_with fail
                    exact HF
                  · have hall2 : Hid ((e.x.reads.take (j + 1)).all Rdx.ok = true) := by
                      show _ = _; rw [List.take_add_one, hx.out, List.all_append, hall.out]; simp [hV.out]
                    go_wp2_with (go_at_call 42; go_must (refine readRight_c x.key x.is x.val f1 f2 _ _ ?_); rw [show readOk x.key x.is x.val = true from hV.out])
                    intro w2 ho2
                    go_wp2_with fail
                    go_roundw
                    case rel => exact ⟨j + 1, by go_num, by omega, hoj.trans ho2, hall2⟩
                    case measure => simp [intOf]; omega
                · have hv : X = true := by
                    rw [HXV.out]
                    have := hall.out
                    rwa [List.take_of_length_le (by omega)] at this
                  subst hv
                  have hjm : ¬ j < _ := fun hh => hlt (lt_of_lt_of_eq hh hm.out.symm)
                  have HF := HK.out wr (ho.trans hoj)
                  clear HK
                  go_wp2_with fail
                  exact HF
end Go.Proofs.Ytahpfcfecghpmaa
