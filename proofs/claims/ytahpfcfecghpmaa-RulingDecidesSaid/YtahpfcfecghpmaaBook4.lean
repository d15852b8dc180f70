/- A book of verdicts, by the program: one decided. -/
import Derived.Test.YtahpfcfecghpmaaBook3
import Derived.KernelRfl
namespace Go.Proofs.Ytahpfcfecghpmaa
open Go.RowKit
set_option linter.unusedSimpArgs false

/-- the row is where it was, or is new. -/
def MovG (g g' : Option Addr) (n : Nat) : Prop := ∀ k, g'.map Addr.block = some k → g.map Addr.block = some k ∨ n ≤ k
def zeroVd : Vd := ⟨0, 0, false, 0, []⟩
def sameName (x : Vd) (y : Vd) : Bool := decide (y.c = x.c ∧ y.n = x.n)
/-- what is told; the book behind it. -/
def dec (l : List Vd) (x : Vd) : Option Vd × List Vd :=
  if x.ok then (match l.find? (sameName x) with
    | some y => (some y, l)
    | none => if x.at_ ≤ lastAt l then (none, l) else (some x, l ++ [x]))
  else (none, l)
def decV (l : List Vd) (x : Vd) : Vd := (dec l x).1.getD zeroVd
def decE (l : List Vd) (x : Vd) : Int := if (dec l x).1.isSome then 0 else 2
theorem zero_vok (w : World) : Vok w ⟨zeroVd, none, 0⟩ := ⟨Sl.nil _ _, by simp [zeroVd], by simp [zeroVd]⟩
theorem find_map {l : List Ve} {x : Vd} {y : Vd} (h : (l.map Ve.x).find? (sameName x) = some y) : ∃ (i : Nat) (f : Ve), l[i]? = some f ∧ f.x = y ∧ f.x.c = x.c ∧ f.x.n = x.n := by
  have h1 := List.find?_some h
  obtain ⟨f, hf, rfl⟩ := List.mem_map.1 (List.mem_of_find?_eq_some h)
  obtain ⟨i, hi⟩ := List.getElem?_of_mem hf
  simp only [sameName, decide_eq_true_eq] at h1
  exact ⟨i, f, hi, rfl, h1.1, h1.2⟩
theorem find_none {l : List Ve} {x : Vd} (h : (l.map Ve.x).find? (sameName x) = none) : ∀ f ∈ l, ¬ (f.x.c = x.c ∧ f.x.n = x.n) := by
  intro f hf hn
  have := List.find?_eq_none.1 h f.x (List.mem_map.2 ⟨f, hf, rfl⟩)
  simp [sameName, hn.1, hn.2] at this
theorem right_one (e : Ve) (m : Nat) (hm : Hid (e.x.reads.length = m)) (w w0 : World) (n : Nat) (hz : Hid (w0.heap.size = n)) (hw : w = w0.alloc (.cells #[.int .i64 e.x.c, .int .i64 e.x.n, .bool e.x.commit, .int .i64 e.x.at_, .slice e.a m e.cap] 38)) (h : Vok w0 e) (R : Ending → World → Prop) (k : ∀ w', Off Old w w' → R (.returned (.bool e.x.ok)) w') :
    Calls Try.prog 19 #[.slice (some ⟨n, 0, none⟩) 1 1] w R := by
  have hzz := hz.out
  subst hzz
  have hmm := hm.out
  subst hmm
  subst hw
  refine right_c _ 1 1 [e] rfl _ (by have := Sl.new w0 (vcs [e]) 38; simpa [vcs, Ve.v] using this) (by intro x hx; simp at hx; subst hx; exact h.old ((Off.refl _ _).alloc _)) (by omega) R (fun w' ho => by have := k w' ho; simpa using this)
set_option maxRecDepth 100000 in
set_option maxHeartbeats 2000000 in
theorem bkDecide_c (p : Nat) (g : Option Addr) (d r : Nat) (l : List Ve) (e : Ve) (m : Nat) (hm : Hid (e.x.reads.length = m)) (w : World) (h : Bk w p g d r l) (he : Vok w e) (hb : i64B e.x.c ∧ i64B e.x.n) (hat : i64B e.x.at_) (hap : e.x.reads ≠ [] → ∀ q, e.a = some q → ¬ BkS p g r q.block) (hln : l.length ≤ 1000000) (R : Ending → World → Prop)
    (k : ∀ w' g' d' l' a' m' c', Bk w' p g' d' r l' → Hid (l'.map Ve.x = (dec (l.map Ve.x) e.x).2) → Vok w' ⟨decV (l.map Ve.x) e.x, a', c'⟩ → Hid ((decV (l.map Ve.x) e.x).reads.length = m') → Off (BkS p g r) w w' → MovG g g' w.heap.size → (∀ q, a' = some q → w.heap.size ≤ q.block) → (∀ f ∈ l', f ∈ l ∨ ∀ q, f.a = some q → w.heap.size ≤ q.block) →
      R (.returned (.tuple #[vdV (decV (l.map Ve.x) e.x) a' m' c', .int .i64 (decE (l.map Ve.x) e.x)])) w') :
    Calls Try.prog 15 #[.pointer (some ⟨p, 0, none⟩), .agg #[.int .i64 e.x.c, .int .i64 e.x.n, .bool e.x.commit, .int .i64 e.x.at_, .slice e.a m e.cap]] w R := by
  have HK := Lib.hid k; clear k
  have HAP := Lib.hid hap; clear hap
  have hoA : Off Old w ((w.alloc (.cells #[.int .i64 e.x.c, .int .i64 e.x.n, .bool e.x.commit, .int .i64 e.x.at_, .slice e.a m e.cap] 38)).alloc (.cells #[.int .i64 0, .int .i64 0, .bool false, .int .i64 0, .slice none 0 0] 38)) := ((Off.refl Old w).alloc _).alloc _
  have hA := h.old hoA
  have heA := he.old hoA
  have hbN := ((Blk.new w #[.int .i64 e.x.c, .int .i64 e.x.n, .bool e.x.commit, .int .i64 e.x.at_, .slice e.a m e.cap] 38).alloc (.cells #[.int .i64 0, .int .i64 0, .bool false, .int .i64 0, .slice none 0 0] 38))
  have hbR := Blk.new2 w (.cells #[.int .i64 e.x.c, .int .i64 e.x.n, .bool e.x.commit, .int .i64 e.x.at_, .slice e.a m e.cap] 38) #[.int .i64 0, .int .i64 0, .bool false, .int .i64 0, .slice none 0 0] 38
  obtain ⟨V, hV⟩ : ∃ V, Hid (e.x.ok = V) := ⟨_, rfl⟩
  have hzA : Hid (((w.alloc (.cells #[.int .i64 e.x.c, .int .i64 e.x.n, .bool e.x.commit, .int .i64 e.x.at_, .slice e.a m e.cap] 38)).alloc (.cells #[.int .i64 0, .int .i64 0, .bool false, .int .i64 0, .slice none 0 0] 38)).heap.size = w.heap.size + 1 + 1) := by show _ = _; simp
  go_enter Try.func15, Try.ntmps15
  go_wp2_with (go_at_call 37; go_must (refine bknown_c p g d r l _ hA _ ?_))
  generalize ((w.alloc (.cells #[.int .i64 e.x.c, .int .i64 e.x.n, .bool e.x.commit, .int .i64 e.x.at_, .slice e.a m e.cap] 38)).alloc (.cells #[.int .i64 0, .int .i64 0, .bool false, .int .i64 0, .slice none 0 0] 38)) = wA at *
  have n0 := hbN.cell (i := 0) rfl
  have n1 := hbN.cell (i := 1) rfl
  have n2 := hbN.cell (i := 2) rfl
  have n3 := hbN.cell (i := 3) rfl
  have n4 := hbN.cell (i := 4) rfl
  cases V
  · go_wp2_with (go_at_call 19; go_must (refine right_one e m hm _ wA _ hzA rfl heA _ ?_))
    rw [hV.out]
    intro w2 ho2
    have hd : dec (l.map Ve.x) e.x = (none, l.map Ve.x) := by simp [dec, hV.out]
    have hoB := hoA.trans (((Off.refl Old wA).alloc _).trans ho2)
    have hB2 := hbR.old (((Off.refl Old wA).alloc _).trans ho2)
    have r0 := hB2.cell (i := 0) rfl
    have r1 := hB2.cell (i := 1) rfl
    have r2 := hB2.cell (i := 2) rfl
    have r3 := hB2.cell (i := 3) rfl
    have r4 := hB2.cell (i := 4) rfl
    have rf := hB2.free
    have HR := Lib.hid (hB2.set5 (.int .i64 0) (.int .i64 0) (.bool false) (.int .i64 0) (.slice none 0 0))
    have hO := Lib.hid (Off.set5 (S := Old) (b := w.heap.size + 1) hoB (by intro h; omega) (.int .i64 0) (.int .i64 0) (.bool false) (.int .i64 0) (.slice none 0 0))
    clear n0 n1 n2 n3 n4 hB2
    go_wp2_with fail
    have hv : decV (l.map Ve.x) e.x = zeroVd := by simp [decV, hd]
    have hee : decE (l.map Ve.x) e.x = 2 := by simp [decE, hd]
    have HF := HK.out _ g d l none 0 0 (h.old hO.out) (by show _ = _; rw [hd]) (by rw [hv]; exact zero_vok _) (by rw [hv]; rfl) (hO.out.mono (fun _ x _ => x.elim)) (fun _ h => .inl h) (by simp) (fun f hf => .inl hf)
    rw [hv, hee] at HF
    exact bodyPost_ret (v := .tuple #[vdV zeroVd none 0 0, .int .i64 2]) (by simp [results, Try.results15, go_sem, vdV, zeroVd, HR.out.cell (i := 0) rfl, HR.out.cell (i := 1) rfl, HR.out.cell (i := 2) rfl, HR.out.cell (i := 3) rfl, HR.out.cell (i := 4) rfl]) rfl HF
  · go_wp2_with (go_at_call 19; go_must (refine right_one e m hm _ wA _ hzA rfl heA _ ?_))
    rw [hV.out]
    intro w2 ho2
    have hA2 := ((Off.refl Old wA).alloc (.cells #[.int .i64 e.x.c, .int .i64 e.x.n, .bool e.x.commit, .int .i64 e.x.at_, .slice e.a m e.cap] 38)).trans ho2
    have hoB := hoA.trans hA2
    have hB2 := hbR.old hA2
    have hN2 := hbN.old hA2
    have hbk2 := hA.old hA2
    have he2 := heA.old hA2
    clear n0 n1 n2 n3 n4
    have n0 := hN2.cell (i := 0) rfl
    have n1 := hN2.cell (i := 1) rfl
    have n2 := hN2.cell (i := 2) rfl
    have n3 := hN2.cell (i := 3) rfl
    have n4 := hN2.cell (i := 4) rfl
    clear ho2 hA2
    cases hf : (l.map Ve.x).find? (sameName e.x) with
    | some y =>
      obtain ⟨i, f, hi0, hfy0, hfc0, hfn0⟩ := find_map hf
      have hd : Hid (dec (l.map Ve.x) e.x = (some y, l.map Ve.x)) := by show _ = _; simp [dec, hV.out, hf]
      have hfy := Lib.hid hfy0; have hi := Lib.hid hi0; have hfc := Lib.hid hfc0; have hfn := Lib.hid hfn0
      clear hf hi0 hfy0 hfc0 hfn0
      go_wp2_with (go_at_call 22; go_must (refine bkOf_yes p g d r l _ _ i f _ hbk2 hi.out hfc.out hfn.out _ ?_))
      rw [hfy.out]
      intro w3 a3 m3 d3 hv3 hm3 ho3 hfr3
      unfold vdV
      have hB3 := hB2.old ho3
      have r0 := hB3.cell (i := 0) rfl
      have r1 := hB3.cell (i := 1) rfl
      have r2 := hB3.cell (i := 2) rfl
      have r3 := hB3.cell (i := 3) rfl
      have r4 := hB3.cell (i := 4) rfl
      have rf := hB3.free
      have hlt3 := hB3.lt
      have hz2 := hB2.lt
      clear n0 n1 n2 n3 n4
      have HR := Lib.hid ((hB3.set5 (.int .i64 y.c) (.int .i64 y.n) (.bool y.commit) (.int .i64 y.at_) (.slice a3 m3 d3)).alloc (.cells #[.int .i64 y.c, .int .i64 y.n, .bool y.commit, .int .i64 y.at_, .slice a3 m3 d3] 38))
      have hO := Lib.hid ((Off.set5 (S := Old) (b := w.heap.size + 1) (hoB.trans ho3) (by intro h; omega) (.int .i64 y.c) (.int .i64 y.n) (.bool y.commit) (.int .i64 y.at_) (.slice a3 m3 d3)).alloc (.cells #[.int .i64 y.c, .int .i64 y.n, .bool y.commit, .int .i64 y.at_, .slice a3 m3 d3] 38))
      have hS := Lib.hid ((Off.set5 (S := fun k => k = w.heap.size + 1) (b := w.heap.size + 1) (Off.refl _ w3) (fun _ => rfl) (.int .i64 y.c) (.int .i64 y.n) (.bool y.commit) (.int .i64 y.at_) (.slice a3 m3 d3)).alloc (.cells #[.int .i64 y.c, .int .i64 y.n, .bool y.commit, .int .i64 y.at_, .slice a3 m3 d3] 38))
      go_wp2_with fail
      have hv : decV (l.map Ve.x) e.x = y := by simp [decV, hd.out]
      have hee : decE (l.map Ve.x) e.x = 0 := by simp [decE, hd.out]
      have HF := HK.out _ g d l a3 m3 d3 (h.old hO.out) (by show _ = _; rw [hd.out]) (by rw [hv]; exact hv3.off hS.out (fun q hq _ hk => by have := hfr3 q hq; omega)) (by rw [hv]; exact hm3) (hO.out.mono (fun _ x _ => x.elim)) (fun _ h => .inl h) (fun q hq => by have := hfr3 q hq; omega) (fun f hf => .inl hf)
      rw [hv, hee] at HF
      exact bodyPost_ret (v := .tuple #[vdV y a3 m3 d3, .int .i64 0]) (by simp [results, Try.results15, go_sem, vdV, HR.out.cell (i := 0) rfl, HR.out.cell (i := 1) rfl, HR.out.cell (i := 2) rfl, HR.out.cell (i := 3) rfl, HR.out.cell (i := 4) rfl]) rfl HF
    | none =>
      have hno := Lib.hid (find_none hf)
      have hf2 := Lib.hid hf
      clear hf
      go_wp2_with (go_at_call 22; go_must (refine bkOf_no p g d r l _ _ _ hbk2 hb.1 hb.2 hno.out _ ?_))
      intro w3 ho3
      unfold vd0
      have hB3 := (hB2.old ho3).alloc (.cells #[.int .i64 0, .int .i64 0, .bool false, .int .i64 0, .slice none 0 0] 38)
      have hN3 := (hN2.old ho3).alloc (.cells #[.int .i64 0, .int .i64 0, .bool false, .int .i64 0, .slice none 0 0] 38)
      have hO3 := (hoB.trans ho3).alloc (.cells #[.int .i64 0, .int .i64 0, .bool false, .int .i64 0, .slice none 0 0] 38)
      have hz2 := hB2.lt
      clear n0 n1 n2 n3 n4
      go_wp2_with fail
      generalize (w3.alloc (.cells #[.int .i64 0, .int .i64 0, .bool false, .int .i64 0, .slice none 0 0] 38)) = wB at *
      have hbk3 := h.old hO3
      have he3 := he.old hO3
      have hcl : ∀ w', Off Old wB w' → w'.cell? ⟨w.heap.size, 3, none⟩ = some (.int .i64 e.x.at_) := fun w' ho => (hN3.old ho).cell rfl
      obtain ⟨h1, h2⟩ := hat
      refine wp_region_E (fun w' => Off Old (wB) w') [] (by kernel_rfl) ?_ (fun hHeld => ?_)
      · (first | exact Off.refl _ _ | exact Off.alloc hHeld _ | exact Off.trans hHeld (by assumption) | assumption | exact (Off.refl _ _).drew)
      refine wpAnyE_take (i := 0) (v := ?_) rfl (by kernel_rfl) (by kernel_rfl) (by kernel_rfl) (fun _ _ _ h => h) (Or.inl ⟨by rfl, ?_⟩) ?_
      rotate_left
      · (intro w _; go_simp; try with_reducible rfl)
      try simp only [Act.put, List.getElem_toArray, List.getElem_cons_zero, List.getElem_cons_succ, List.setIfInBounds_toArray, List.set_cons_zero, List.set_cons_succ]
      refine wpAnyE_load (tr := [[], [0], [], [2], [2, 3], [2, 3, 4], [0, 1, 2, 3, 4, 5]]) (i := 1) (v := ?_) (by kernel_rfl) rfl (by kernel_rfl) (by kernel_rfl) (by kernel_rfl) (by kernel_rfl) (by kernel_rfl) (fun _ _ _ h => h) (Or.inl ⟨by rfl, ?_⟩) hHeld ?_
      rotate_left
      · (intro w hSw; (try dsimp only at hSw); go_simp; try with_reducible rfl)
      try simp only [Act.put, List.getElem_toArray, List.getElem_cons_zero, List.getElem_cons_succ, List.setIfInBounds_toArray, List.set_cons_zero, List.set_cons_succ]
      refine wpAnyE_take (i := 2) (v := ?_) rfl (by kernel_rfl) (by kernel_rfl) (by kernel_rfl) (fun _ _ _ h => h) (Or.inl ⟨by rfl, ?_⟩) ?_
      rotate_left
      · (intro w _; go_simp; try with_reducible rfl)
      try simp only [Act.put, List.getElem_toArray, List.getElem_cons_zero, List.getElem_cons_succ, List.setIfInBounds_toArray, List.set_cons_zero, List.set_cons_succ]
      refine wpAnyE_take (i := 3) (v := ?_) rfl (by kernel_rfl) (by kernel_rfl) (by kernel_rfl) (fun _ _ _ h => h) (Or.inl ⟨by rfl, ?_⟩) ?_
      rotate_left
      · (intro w _; go_simp; try with_reducible rfl)
      try simp only [Act.put, List.getElem_toArray, List.getElem_cons_zero, List.getElem_cons_succ, List.setIfInBounds_toArray, List.set_cons_zero, List.set_cons_succ]
      refine wpAnyE_take (i := 4) (v := ?_) rfl (by kernel_rfl) (by kernel_rfl) (by kernel_rfl) (fun _ _ _ h => h) (Or.inl ⟨by rfl, ?_⟩) ?_
      rotate_left
      · (intro w _; go_simp; try with_reducible rfl)
      try simp only [Act.put, List.getElem_toArray, List.getElem_cons_zero, List.getElem_cons_succ, List.setIfInBounds_toArray, List.set_cons_zero, List.set_cons_succ]
      refine wpAnyE_ready (rs := [5]) (by kernel_rfl) (by simp) ?_
      refine AllReadyE.cons rfl (fun K hK => ?_) AllReadyE.nil
      go_simp
      (go_at_call 43; refine bkLast_c p g d r l _ (hbk3.old (Off.refl Old wB).drew) hln _ ?_; intro w4 ho4)
      refine hK.out _ _ ?_ (fun hHeld => ?_)
      · (first | exact Off.refl _ _ | exact Off.alloc hHeld _ | exact Off.trans hHeld (by assumption) | assumption | exact (Off.refl _ _).drew)
      clear hK K
      try simp only [Act.put, List.getElem_toArray, List.getElem_cons_zero, List.getElem_cons_succ, List.setIfInBounds_toArray, List.set_cons_zero, List.set_cons_succ]
      refine wpAnyE_take (i := 6) (v := ?_) rfl (by kernel_rfl) (by kernel_rfl) (by kernel_rfl) (fun _ _ _ h => h) (Or.inl ⟨by rfl, ?_⟩) ?_
      rotate_left
      · (intro w _; go_simp; try with_reducible rfl)
      try simp only [Act.put, List.getElem_toArray, List.getElem_cons_zero, List.getElem_cons_succ, List.setIfInBounds_toArray, List.set_cons_zero, List.set_cons_succ]
      refine wpAnyE_done (by kernel_rfl) ?_ _
      have hO4 := (hO3.trans (Off.refl Old wB).drew).trans ho4
      have hB4 := (hB3.old (Off.refl Old wB).drew).old ho4
      have hN4 := (hN3.old (Off.refl Old wB).drew).old ho4
      obtain ⟨A, hA'⟩ : ∃ A, Hid (lastAt (l.map Ve.x) = A) := ⟨_, rfl⟩
      rw [hA'.out]
      clear hcl
      by_cases hle : e.x.at_ ≤ A
      · have hd : Hid (dec (l.map Ve.x) e.x = (none, l.map Ve.x)) := by show _ = _; simp [dec, hV.out, hf2.out, hA'.out, hle]
        have r0 := hB4.cell (i := 0) rfl
        have r1 := hB4.cell (i := 1) rfl
        have r2 := hB4.cell (i := 2) rfl
        have r3 := hB4.cell (i := 3) rfl
        have r4 := hB4.cell (i := 4) rfl
        have rf := hB4.free
        have HR := Lib.hid (hB4.set5 (.int .i64 0) (.int .i64 0) (.bool false) (.int .i64 0) (.slice none 0 0))
        have hO := Lib.hid (Off.set5 (S := Old) (b := w.heap.size + 1) hO4 (by intro h; omega) (.int .i64 0) (.int .i64 0) (.bool false) (.int .i64 0) (.slice none 0 0))
        clear hB4 hN4
        go_wp2_with fail
        have hv : decV (l.map Ve.x) e.x = zeroVd := by simp [decV, hd.out]
        have hee : decE (l.map Ve.x) e.x = 2 := by simp [decE, hd.out]
        have HF := HK.out _ g d l none 0 0 (h.old hO.out) (by show _ = _; rw [hd.out]) (by rw [hv]; exact zero_vok _) (by rw [hv]; rfl) (hO.out.mono (fun _ x _ => x.elim)) (fun _ h => .inl h) (by simp) (fun f hf => .inl hf)
        rw [hv, hee] at HF
        exact bodyPost_ret (v := .tuple #[vdV zeroVd none 0 0, .int .i64 2]) (by simp [results, Try.results15, go_sem, vdV, zeroVd, HR.out.cell (i := 0) rfl, HR.out.cell (i := 1) rfl, HR.out.cell (i := 2) rfl, HR.out.cell (i := 3) rfl, HR.out.cell (i := 4) rfl]) rfl HF
      · have hd : Hid (dec (l.map Ve.x) e.x = (some e.x, l.map Ve.x ++ [e.x])) := by show _ = _; simp [dec, hV.out, hf2.out, hA'.out, hle]
        have hbk4 := h.old hO4
        have he4 := he.old hO4
        go_wp2_with fail
        have hcl : ∀ w', Off Old w4 w' → w'.cell? ⟨w.heap.size, 0, none⟩ = some (.int .i64 e.x.c) ∧ w'.cell? ⟨w.heap.size, 1, none⟩ = some (.int .i64 e.x.n) ∧ w'.cell? ⟨w.heap.size, 2, none⟩ = some (.bool e.x.commit) ∧ w'.cell? ⟨w.heap.size, 3, none⟩ = some (.int .i64 e.x.at_) ∧ w'.cell? ⟨w.heap.size, 4, none⟩ = some (.slice e.a m e.cap) := fun w' ho => ⟨(hN4.old ho).cell rfl, (hN4.old ho).cell rfl, (hN4.old ho).cell rfl, (hN4.old ho).cell rfl, (hN4.old ho).cell rfl⟩
        refine wp_region_E (fun w' => Off Old (w4) w') [4] (by kernel_rfl) ?_ (fun hHeld => ?_)
        · (first | exact Off.refl _ _ | exact Off.alloc hHeld _ | exact Off.trans hHeld (by assumption) | assumption | exact (Off.refl _ _).drew)
        refine wpAnyE_take (i := 0) (v := ?_) rfl (by kernel_rfl) (by kernel_rfl) (by kernel_rfl) (fun _ _ _ h => h) (Or.inl ⟨by rfl, ?_⟩) ?_
        rotate_left
        · (intro w _; go_simp; try with_reducible rfl)
        try simp only [Act.put, List.getElem_toArray, List.getElem_cons_zero, List.getElem_cons_succ, List.setIfInBounds_toArray, List.set_cons_zero, List.set_cons_succ]
        refine wpAnyE_take (i := 1) (v := ?_) rfl (by kernel_rfl) (by kernel_rfl) (by kernel_rfl) (fun _ _ _ h => h) (Or.inl ⟨by rfl, ?_⟩) ?_
        rotate_left
        · (intro w _; go_simp; try with_reducible rfl)
        try simp only [Act.put, List.getElem_toArray, List.getElem_cons_zero, List.getElem_cons_succ, List.setIfInBounds_toArray, List.set_cons_zero, List.set_cons_succ]
        refine wpAnyE_take (i := 2) (v := ?_) rfl (by kernel_rfl) (by kernel_rfl) (by kernel_rfl) (fun _ _ _ h => h) (Or.inl ⟨by rfl, ?_⟩) ?_
        rotate_left
        · (intro w _; go_simp; try with_reducible rfl)
        try simp only [Act.put, List.getElem_toArray, List.getElem_cons_zero, List.getElem_cons_succ, List.setIfInBounds_toArray, List.set_cons_zero, List.set_cons_succ]
        refine wpAnyE_load (tr := [[], [0], [0, 1], [], [0, 1, 2, 3]]) (i := 3) (v := ?_) (by kernel_rfl) rfl (by kernel_rfl) (by kernel_rfl) (by kernel_rfl) (by kernel_rfl) (by kernel_rfl) (fun _ _ _ h => h) (Or.inl ⟨by rfl, ?_⟩) hHeld ?_
        rotate_left
        · (intro w hSw; (try dsimp only at hSw); go_simp; try with_reducible rfl)
        try simp only [Act.put, List.getElem_toArray, List.getElem_cons_zero, List.getElem_cons_succ, List.setIfInBounds_toArray, List.set_cons_zero, List.set_cons_succ]
        refine wpAnyE_ready (rs := [4]) (by kernel_rfl) (by simp) ?_
        refine AllReadyE.lcons (by kernel_rfl) rfl (fun K hK => ?_) AllReadyE.nil
        go_simp
        (go_at_call 38; refine bkPut_c p g d r l e m hm _ (hbk4.old (Off.refl Old w4).drew) (he4.old (Off.refl Old w4).drew) hb hno.out hln _ ?_; intro w5 g5 d5 a5 c5 hbk5 ho5 hmv5 hfr5)
        refine hK.out _ _ ?_
        clear hK K
        try simp only [Act.put, List.getElem_toArray, List.getElem_cons_zero, List.getElem_cons_succ, List.setIfInBounds_toArray, List.set_cons_zero, List.set_cons_succ]
        refine wpAnyE_done (by kernel_rfl) ?_ _
        have hlp : ∀ k, BkS p g r k → k < w.heap.size := fun k hk => h.lt (by rcases hk with rfl | hk | rfl; exact .inl rfl; exact .inr (.inl hk); exact .inr (.inr (.inl rfl)))
        have hz4 := hB4.lt
        have hB5 := (hB4.old (Off.refl Old w4).drew).off ho5 (fun hk => by have := hlp _ hk; omega)
        have hN5 := (hN4.old (Off.refl Old w4).drew).off ho5 (fun hk => by have := hlp _ hk; omega)
        have he5 := (he4.old (Off.refl Old w4).drew).off ho5 (fun q hq hn => HAP.out hn q hq)
        have ho45 : Off (BkS p g r) w w5 := ((hO4.trans (Off.refl Old w4).drew).mono (fun _ x _ => x.elim)).trans ho5
        have n0 := hN5.cell (i := 0) rfl
        have n1 := hN5.cell (i := 1) rfl
        have n2 := hN5.cell (i := 2) rfl
        have n3 := hN5.cell (i := 3) rfl
        have n4 := hN5.cell (i := 4) rfl
        clear hcl
        go_wp2_with (go_at_call 44; go_must (refine copied_c e m hm _ he5 _ ?_))
        intro w6 a6 d6 hv6 ho6 hfr6
        have hB6 := hB5.old ho6
        have r0 := hB6.cell (i := 0) rfl
        have r1 := hB6.cell (i := 1) rfl
        have r2 := hB6.cell (i := 2) rfl
        have r3 := hB6.cell (i := 3) rfl
        have r4 := hB6.cell (i := 4) rfl
        have rf := hB6.free
        have HR := Lib.hid (hB6.set5 (.int .i64 e.x.c) (.int .i64 e.x.n) (.bool e.x.commit) (.int .i64 e.x.at_) (.slice a6 m d6))
        have hS := Lib.hid (Off.set5 (S := fun k => k = w.heap.size + 1) (b := w.heap.size + 1) (Off.refl _ w6) (fun _ => rfl) (.int .i64 e.x.c) (.int .i64 e.x.n) (.bool e.x.commit) (.int .i64 e.x.at_) (.slice a6 m d6))
        have hO := Lib.hid (Off.set5 (S := BkS p g r) (b := w.heap.size + 1) (ho45.trans (ho6.mono (fun _ x _ => x.elim))) (by intro h; omega) (.int .i64 e.x.c) (.int .i64 e.x.n) (.bool e.x.commit) (.int .i64 e.x.at_) (.slice a6 m d6))
        clear n0 n1 n2 n3 n4
        go_wp2_with fail
        have hv : decV (l.map Ve.x) e.x = e.x := by simp [decV, hd.out]
        have hee : decE (l.map Ve.x) e.x = 0 := by simp [decE, hd.out]
        have hfr5' : ∀ q, a5 = some q → w4.heap.size ≤ q.block := hfr5
        have hmv5' : ∀ k, g5.map Addr.block = some k → g.map Addr.block = some k ∨ w4.heap.size ≤ k := hmv5
        have hz5 := hB5.lt
        have hbk7 := (hbk5.old ho6).off hS.out (fun k hk hke => by
          rcases hk with rfl | hk | rfl | ⟨f, hf, hn, hk⟩
          · have := hlp _ (.inl rfl); omega
          · rcases hmv5' k hk with h3 | h3
            · have := hlp _ (.inr (.inl h3)); omega
            · omega
          · have := hlp _ (.inr (.inr rfl)); omega
          · rcases List.mem_append.1 hf with hf | hf
            · have := h.lt (.inr (.inr (.inr ⟨f, hf, hn, hk⟩))); omega
            · simp only [List.mem_singleton] at hf
              subst hf
              obtain ⟨q, hq, rfl⟩ := Option.map_eq_some_iff.1 hk
              have := hfr5' q hq; omega)
        have HF := HK.out _ g5 d5 _ a6 m d6 hbk7 (by show _ = _; rw [hd.out]; simp) (by rw [hv]; exact hv6.off hS.out (fun q hq _ hk => by have := hfr6 q hq; omega)) (by rw [hv]; exact hm) hO.out (fun k hk => by
          rcases hmv5' k hk with h3 | h3
          · exact .inl h3
          · exact .inr (by omega)) (fun q hq => by have := hfr6 q hq; omega) (fun f hf => by
          rcases List.mem_append.1 hf with hf | hf
          · exact .inl hf
          · simp only [List.mem_singleton] at hf
            subst hf
            exact .inr fun q hq => by have := hfr5' q hq; omega)
        rw [hv, hee] at HF
        exact bodyPost_ret (v := .tuple #[vdV e.x a6 m d6, .int .i64 0]) (by simp [results, Try.results15, go_sem, vdV, HR.out.cell (i := 0) rfl, HR.out.cell (i := 1) rfl, HR.out.cell (i := 2) rfl, HR.out.cell (i := 3) rfl, HR.out.cell (i := 4) rfl]) rfl HF
end Go.Proofs.Ytahpfcfecghpmaa
