/- Chapter 19's statements: what they share. -/
import Derived.Test.YtahpfcfecghpmaaRefB2
import Derived.Test.YtahpfcfecghpmaaBook5
import Derived.KernelRfl
namespace Go.Proofs.Ytahpfcfecghpmaa
open Go.RowKit
set_option linter.unusedSimpArgs false

set_option maxRecDepth 100000 in
set_option maxHeartbeats 1000000 in
/-- two verdicts that are the same. -/
theorem same19_c (x : Vd) (a1 a2 : Option Addr) (m1 m2 c1 c2 : Nat) (h1 : Hid (x.reads.length = m1)) (h2 : Hid (x.reads.length = m2)) (w : World) (v1 : Vok w ⟨x, a1, c1⟩) (v2 : Vok w ⟨x, a2, c2⟩) (R : Ending → World → Prop) (k : ∀ w', Off Old w w' → R (.returned (.bool true)) w') :
    Calls Try.prog 17 #[.agg #[.int .i64 x.c, .int .i64 x.n, .bool x.commit, .int .i64 x.at_, .slice a1 m1 c1], .agg #[.int .i64 x.c, .int .i64 x.n, .bool x.commit, .int .i64 x.at_, .slice a2 m2 c2]] w R := by
  have HK := Lib.hid k; clear k
  have hm := h1.out
  have hl := v1.len
  rw [show (Ve.x ⟨x, a1, c1⟩).reads.length = m1 from hm] at hl
  have ho : Off Old w ((w.alloc (.cells #[.int .i64 x.c, .int .i64 x.n, .bool x.commit, .int .i64 x.at_, .slice a1 m1 c1] 38)).alloc (.cells #[.int .i64 x.c, .int .i64 x.n, .bool x.commit, .int .i64 x.at_, .slice a2 m2 c2] 41)) := ((Off.refl _ _).alloc _).alloc _
  have s1 := v1.sl.old ho
  have s2 := v2.sl.old ho
  clear hm
  go_enter Try.func17, Try.ntmps17
  go_wp2_with (go_at_call 45; go_must (refine sameReads_c a1 a2 m1 m2 c1 c2 x.reads x.reads _ h1.out h2.out s1 s2 hl _ ?_); rw [decide_eq_true rfl])
  intro w1 hd
  have HF := HK.out w1 (ho.trans hd.off)
  clear HK
  go_wp2_with fail
  exact HF
set_option maxRecDepth 100000 in
set_option maxHeartbeats 1000000 in
theorem all19_c (a1 a2 : Option Addr) (m1 m2 c1 c2 : Nat) (l1 l2 : List Ve) (h1 : l1.length = m1) (h2 : l2.length = m2) (w : World) (s1 : Sl w a1 (vcs l1)) (s2 : Sl w a2 (vcs l2)) (v1 : ∀ e ∈ l1, Vok w e) (v2 : ∀ e ∈ l2, Vok w e) (hx : Hid (l1.map Ve.x = l2.map Ve.x)) (bn : m1 ≤ 1000000) (R : Ending → World → Prop) (k : ∀ w', Off Old w w' → R (.returned (.bool true)) w') :
    Calls Try.prog 29 #[.slice a1 m1 c1, .slice a2 m2 c2] w R := by
  have HK := Lib.hid k; clear k
  have hmm : m1 = m2 := by
    have := congrArg List.length hx.out
    simp only [List.length_map] at this; omega
  subst hmm
  have H1 := Lib.hid h1; have H2 := Lib.hid h2; clear h1 h2
  have V1 := Lib.hid v1; have V2 := Lib.hid v2; clear v1 v2
  go_enter Try.func29, Try.ntmps29
  go_wp2_with fail
  go_loopw [5] (fun i wr => ∃ j : Nat, i = .int .i64 j ∧ j ≤ m1 ∧ Off Old w wr) (fun i _ => m1 - (intOf i).toNat)
  case atStart => exact ⟨0, rfl, Nat.zero_le _, Off.refl _ _⟩
  case round =>
    obtain ⟨j, rfl, hj, ho⟩ := hrel
    by_cases hlt : j < m1
    · obtain ⟨e1, he1⟩ := at_of_lt (show j < l1.length by rw [H1.out]; exact hlt)
      obtain ⟨e2, he2⟩ := at_of_lt (show j < l2.length by rw [H2.out]; exact hlt)
      have hxx : e2.x = e1.x := by
        have h3 := congrArg (fun l => l[j]?) hx.out
        simp only [List.getElem?_map, he1.out, he2.out, Option.map_some, Option.some.injEq] at h3
        exact h3.symm
      obtain ⟨b1, o1, ix1, Q1, _⟩ := (s1.old ho).ix_ve c1
      obtain ⟨b2, o2, ix2, Q2⟩ := (s2.old ho).ix_rve c2
      have i1 := ix1 j (by rw [H1.out]; exact hlt)
      have i2 := ix2 j (by rw [H2.out]; exact hlt)
      rw [H1.out] at i1
      rw [H2.out] at i2
      obtain ⟨x0, x1, x2, x3, x4⟩ := Q1.out j e1 he1.out
      obtain ⟨y0, y1, y2, y3, y4⟩ := Q2.out j e2 he2.out
      rw [hxx] at y0 y1 y2 y3 y4
      obtain ⟨me, hme⟩ : ∃ me, Hid (e1.x.reads.length = me) := ⟨_, rfl⟩
      rw [hme.out] at x4 y4
      have hv1 := Lib.hid ((V1.out e1 (List.mem_of_getElem? he1.out)).old ho)
      have hv2 : Hid (Vok wr ⟨e1.x, e2.a, e2.cap⟩) := by
        have h3 := (V2.out e2 (List.mem_of_getElem? he2.out)).old ho
        show Vok _ _
        rw [← hxx]; exact h3
      clear Q1 Q2 ix1 ix2 hxx
      have hcl : ∀ w', Off Old wr w' → (w'.cell? ⟨b1, o1 + j * 5, none⟩ = some (.int .i64 e1.x.c) ∧ w'.cell? ⟨b1, o1 + j * 5 + 1, none⟩ = some (.int .i64 e1.x.n) ∧ w'.cell? ⟨b1, o1 + j * 5 + 2, none⟩ = some (.bool e1.x.commit) ∧ w'.cell? ⟨b1, o1 + j * 5 + 3, none⟩ = some (.int .i64 e1.x.at_) ∧ w'.cell? ⟨b1, o1 + j * 5 + 4, none⟩ = some (.slice e1.a me e1.cap)) ∧ (w'.cell? ⟨b2, o2 + j * 5, none⟩ = some (.int .i64 e1.x.c) ∧ w'.cell? ⟨b2, o2 + j * 5 + 1, none⟩ = some (.int .i64 e1.x.n) ∧ w'.cell? ⟨b2, o2 + j * 5 + 2, none⟩ = some (.bool e1.x.commit) ∧ w'.cell? ⟨b2, o2 + j * 5 + 3, none⟩ = some (.int .i64 e1.x.at_) ∧ w'.cell? ⟨b2, o2 + j * 5 + 4, none⟩ = some (.slice e2.a me e2.cap)) := fun w' hh => ⟨⟨hh.cell (fun x => x) x0, hh.cell (fun x => x) x1, hh.cell (fun x => x) x2, hh.cell (fun x => x) x3, hh.cell (fun x => x) x4⟩, ⟨hh.cell (fun x => x) y0, hh.cell (fun x => x) y1, hh.cell (fun x => x) y2, hh.cell (fun x => x) y3, hh.cell (fun x => x) y4⟩⟩
      clear x0 x1 x2 x3 x4 y0 y1 y2 y3 y4
      go_wp2_with fail
      refine wp_region_E (fun w' => Off Old (wr) w') [8] (by kernel_rfl) ?_ (fun hHeld => ?_)
      · (first | exact Off.refl _ _ | exact Off.alloc hHeld _ | exact Off.trans hHeld (by assumption) | assumption | exact (Off.refl _ _).drew)
      refine wpAnyE_take (i := 0) (v := ?_) rfl (by kernel_rfl) (by kernel_rfl) (by kernel_rfl) (fun _ _ _ h => h) (Or.inl ⟨by rfl, ?_⟩) ?_
      rotate_left
      · (intro w _; go_simp; try with_reducible rfl)
      try simp only [Act.put, List.getElem_toArray, List.getElem_cons_zero, List.getElem_cons_succ, List.setIfInBounds_toArray, List.set_cons_zero, List.set_cons_succ]
      refine wpAnyE_take (i := 1) (v := ?_) rfl (by kernel_rfl) (by kernel_rfl) (by kernel_rfl) (fun _ _ _ h => h) (Or.inl ⟨by rfl, ?_⟩) ?_
      rotate_left
      · (intro w _; go_simp; try with_reducible rfl)
      try simp only [Act.put, List.getElem_toArray, List.getElem_cons_zero, List.getElem_cons_succ, List.setIfInBounds_toArray, List.set_cons_zero, List.set_cons_succ]
      refine wpAnyE_take (i := 2) (v := ?_) rfl (by kernel_rfl) (by kernel_rfl) (by kernel_rfl) (fun _ _ _ h => h) (Or.inl ⟨by rfl, ?_⟩) ?_
      rotate_left
      · (intro w _; go_simp; try with_reducible rfl)
      try simp only [Act.put, List.getElem_toArray, List.getElem_cons_zero, List.getElem_cons_succ, List.setIfInBounds_toArray, List.set_cons_zero, List.set_cons_succ]
      refine wpAnyE_load (tr := [[], [], [0, 1], [0, 1, 2], [], [], [4, 5], [4, 5, 6], [0, 1, 2, 3, 4, 5, 6, 7], [0, 1, 2, 3, 4, 5, 6, 7, 8]]) (i := 3) (v := ?_) (by kernel_rfl) rfl (by kernel_rfl) (by kernel_rfl) (by kernel_rfl) (by kernel_rfl) (by kernel_rfl) (fun _ _ _ h => h) (Or.inl ⟨by rfl, ?_⟩) hHeld ?_
      rotate_left
      · (intro w hSw; (try dsimp only at hSw); go_simp; try with_reducible rfl)
      try simp only [Act.put, List.getElem_toArray, List.getElem_cons_zero, List.getElem_cons_succ, List.setIfInBounds_toArray, List.set_cons_zero, List.set_cons_succ]
      refine wpAnyE_take (i := 4) (v := ?_) rfl (by kernel_rfl) (by kernel_rfl) (by kernel_rfl) (fun _ _ _ h => h) (Or.inl ⟨by rfl, ?_⟩) ?_
      rotate_left
      · (intro w _; go_simp; try with_reducible rfl)
      try simp only [Act.put, List.getElem_toArray, List.getElem_cons_zero, List.getElem_cons_succ, List.setIfInBounds_toArray, List.set_cons_zero, List.set_cons_succ]
      refine wpAnyE_take (i := 5) (v := ?_) rfl (by kernel_rfl) (by kernel_rfl) (by kernel_rfl) (fun _ _ _ h => h) (Or.inl ⟨by rfl, ?_⟩) ?_
      rotate_left
      · (intro w _; go_simp; try with_reducible rfl)
      try simp only [Act.put, List.getElem_toArray, List.getElem_cons_zero, List.getElem_cons_succ, List.setIfInBounds_toArray, List.set_cons_zero, List.set_cons_succ]
      refine wpAnyE_take (i := 6) (v := ?_) rfl (by kernel_rfl) (by kernel_rfl) (by kernel_rfl) (fun _ _ _ h => h) (Or.inl ⟨by rfl, ?_⟩) ?_
      rotate_left
      · (intro w _; go_simp; try with_reducible rfl)
      try simp only [Act.put, List.getElem_toArray, List.getElem_cons_zero, List.getElem_cons_succ, List.setIfInBounds_toArray, List.set_cons_zero, List.set_cons_succ]
      refine wpAnyE_load (tr := [[], [], [0, 1], [0, 1, 2], [], [], [4, 5], [4, 5, 6], [0, 1, 2, 3, 4, 5, 6, 7], [0, 1, 2, 3, 4, 5, 6, 7, 8]]) (i := 7) (v := ?_) (by kernel_rfl) rfl (by kernel_rfl) (by kernel_rfl) (by kernel_rfl) (by kernel_rfl) (by kernel_rfl) (fun _ _ _ h => h) (Or.inl ⟨by rfl, ?_⟩) hHeld ?_
      rotate_left
      · (intro w hSw; (try dsimp only at hSw); go_simp; try with_reducible rfl)
      try simp only [Act.put, List.getElem_toArray, List.getElem_cons_zero, List.getElem_cons_succ, List.setIfInBounds_toArray, List.set_cons_zero, List.set_cons_succ]
      refine wpAnyE_ready (rs := [8]) (by kernel_rfl) (by simp) ?_
      refine AllReadyE.lcons (by kernel_rfl) rfl (fun K hK => ?_) AllReadyE.nil
      go_simp
      (go_at_call 17; refine same19_c e1.x e1.a e2.a me me e1.cap e2.cap hme hme _ (hv1.out.old (Off.refl Old wr).drew) (hv2.out.old (Off.refl Old wr).drew) _ ?_; intro w2 ho2)
      refine hK.out _ _ ?_
      clear hK K
      try simp only [Act.put, List.getElem_toArray, List.getElem_cons_zero, List.getElem_cons_succ, List.setIfInBounds_toArray, List.set_cons_zero, List.set_cons_succ]
      refine wpAnyE_take (i := 9) (v := ?_) rfl (by kernel_rfl) (by kernel_rfl) (by kernel_rfl) (fun _ _ _ h => h) (Or.inl ⟨by rfl, ?_⟩) ?_
      rotate_left
      · (intro w _; go_simp; try with_reducible rfl)
      try simp only [Act.put, List.getElem_toArray, List.getElem_cons_zero, List.getElem_cons_succ, List.setIfInBounds_toArray, List.set_cons_zero, List.set_cons_succ]
      refine wpAnyE_done (by kernel_rfl) ?_ _
      have ho3 := (ho.trans (Off.refl Old wr).drew).trans ho2
      clear hcl
      go_wp2_with fail
      go_roundw
      case rel => exact ⟨j + 1, by go_num, by omega, ho3⟩
      case measure => simp [intOf]; omega
    · obtain rfl : j = m1 := by omega
      have HF := HK.out wr ho
      clear HK
      go_wp2_with fail
      exact HF
end Go.Proofs.Ytahpfcfecghpmaa
