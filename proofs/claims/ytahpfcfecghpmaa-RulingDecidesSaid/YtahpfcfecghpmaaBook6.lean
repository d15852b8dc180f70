/- A book of verdicts, by the program: another one of the same. -/
import Derived.Test.YtahpfcfecghpmaaBook4
import Derived.Test.YtahpfcfecghpmaaOrd
import Derived.KernelRfl
namespace Go.Proofs.Ytahpfcfecghpmaa
open Go.RowKit
set_option linter.unusedSimpArgs false

set_option maxRecDepth 100000 in
set_option maxHeartbeats 2000000 in
theorem bkCopy_c (p : Nat) (g : Option Addr) (d r : Nat) (l : List Ve) (w : World) (h : Bk w p g d r l) (hln : l.length ≤ 1000000) (R : Ending → World → Prop)
    (k : ∀ w' q g' d' r' l', Bk w' q g' d' r' l' → Hid (l'.map Ve.x = l.map Ve.x) → Off Old w w' → (∀ k, BkOwn q g' r' l' k → w.heap.size ≤ k) → R (.returned (.pointer (some ⟨q, 0, none⟩))) w') :
    Calls Try.prog 10 #[.pointer (some ⟨p, 0, none⟩)] w R := by
  have HK := Lib.hid k; clear k
  go_enter Try.func10, Try.ntmps10
  go_wp2_with (first | (go_at_call 37; go_must (refine bknown_c p g d r l _ h _ ?_)) | (go_at_call 8; go_must (refine new_c _ _ ?_)))
  intro w1 q r' hB1 ho1 hq hr
  have h1 := h.old ho1
  have c0 := h1.blk.cell (i := 0) rfl
  have hf0 : ∀ k, BkOwn q none r' [] k → w.heap.size ≤ k := fun k hk => by
    rcases hk with rfl | hk | rfl | ⟨e, he, _⟩
    · omega
    · cases hk
    · omega
    · cases he
  go_wp2_with fail
  go_loopw [5, 16] (fun _ i wr => ∃ (j : Nat) (g' : Option Addr) (d' : Nat) (l' : List Ve), i = .int .i64 j ∧ j ≤ l.length ∧ Bk wr q g' d' r' l' ∧ Hid (l'.map Ve.x = (l.map Ve.x).take j) ∧ Off Old w wr ∧ (∀ k, BkOwn q g' r' l' k → w.heap.size ≤ k)) (fun _ i _ => l.length - (intOf i).toNat)
  case atStart => exact ⟨0, none, 0, [], rfl, Nat.zero_le _, hB1, rfl, ho1, hf0⟩
  case round =>
    clear c0 hf0 hB1 h1
    obtain ⟨j, g', d', l', rfl, hj, hB, hl', ho, hfr⟩ := hrel
    have hlen' : l'.length = j := by
      have := congrArg List.length hl'.out
      simp only [List.length_map, List.length_take] at this; omega
    by_cases hlt : j < l.length
    · obtain ⟨e, he⟩ := at_of_lt hlt
      have hP := h.old ho
      obtain ⟨b, o, ix, Q, _⟩ := ((own_sl2 hP.own).2.2).ix_ve d
      have hix := ix j hlt
      obtain ⟨x0, x1, x2, x3, x4⟩ := Q.out j e he.out
      obtain ⟨me, hme⟩ : ∃ me, Hid (e.x.reads.length = me) := ⟨_, rfl⟩
      rw [hme.out] at x4
      have hve := hP.vok e (List.mem_of_getElem? he.out)
      have hnb := hP.nb e (List.mem_of_getElem? he.out)
      have hno : ∀ f ∈ l', ¬ (f.x.c = e.x.c ∧ f.x.n = e.x.n) := by
        intro f hf hn
        have hfm : f.x ∈ (l.map Ve.x).take j := by rw [← hl'.out]; exact List.mem_map.2 ⟨f, hf, rfl⟩
        obtain ⟨i, hi⟩ := List.getElem?_of_mem hfm
        rw [List.getElem?_take] at hi
        split at hi
        · rename_i hij
          rw [List.getElem?_map] at hi
          obtain ⟨y, hy, hyx⟩ := Option.map_eq_some_iff.1 hi
          have := h.inj i j y e hy he.out (by rw [hyx]; exact hn.1) (by rw [hyx]; exact hn.2)
          omega
        · cases hi
      have HNO := Lib.hid hno
      have hal : Off Old wr (wr.alloc (.cells #[.int .i64 e.x.c, .int .i64 e.x.n, .bool e.x.commit, .int .i64 e.x.at_, .slice e.a me e.cap] 38)) := (Off.refl _ _).alloc _
      have hbx := Blk.new wr #[.int .i64 e.x.c, .int .i64 e.x.n, .bool e.x.commit, .int .i64 e.x.at_, .slice e.a me e.cap] 38
      have hl2 : Hid (l'.map Ve.x ++ [e.x] = (l.map Ve.x).take (j + 1)) := by
        show _ = _
        rw [hl'.out, List.take_add_one, List.getElem?_map, he.out]; rfl
      have hB2 := hB.old hal
      have hv2 := hve.old hal
      clear Q ix hP hve hno
      go_wp2_with fail
      generalize (wr.alloc (.cells #[.int .i64 e.x.c, .int .i64 e.x.n, .bool e.x.commit, .int .i64 e.x.at_, .slice e.a me e.cap] 38)) = wB at *
      have hcl : ∀ w', Off Old wB w' → w'.cell? ⟨wr.heap.size, 0, none⟩ = some (.int .i64 e.x.c) ∧ w'.cell? ⟨wr.heap.size, 1, none⟩ = some (.int .i64 e.x.n) ∧ w'.cell? ⟨wr.heap.size, 2, none⟩ = some (.bool e.x.commit) ∧ w'.cell? ⟨wr.heap.size, 3, none⟩ = some (.int .i64 e.x.at_) ∧ w'.cell? ⟨wr.heap.size, 4, none⟩ = some (.slice e.a me e.cap) := fun w' ho => ⟨(hbx.old ho).cell rfl, (hbx.old ho).cell rfl, (hbx.old ho).cell rfl, (hbx.old ho).cell rfl, (hbx.old ho).cell rfl⟩
      have hj6 : l'.length ≤ 1000000 := by omega
      clear x0 x1 x2 x3 x4
      refine wp_region_E (fun w' => Off Old (wB) w') [4] (by kernel_rfl) ?_ (fun hHeld => ?_)
      · (first | exact Off.refl _ _ | exact Off.alloc hHeld _ | exact Off.trans hHeld (by assumption) | assumption | exact (Off.refl _ _).drew)
      refine wpAnyE_take (i := 0) (v := ?_) rfl (by kernel_rfl) (by kernel_rfl) (by kernel_rfl) (fun _ _ _ h => h) (Or.inl ⟨by rfl, ?_⟩) ?_
      rotate_left
      · (intro w _; go_simp; try with_reducible rfl)
      try simp only [Act.put, List.getElem_toArray, List.getElem_cons_zero, List.getElem_cons_succ, List.setIfInBounds_toArray, List.set_cons_zero, List.set_cons_succ]
      refine wpAnyE_take (i := 1) (v := ?_) rfl (by kernel_rfl) (by kernel_rfl) (by kernel_rfl) (fun _ _ _ h => h) (Or.inl ⟨by rfl, ?_⟩) ?_
      rotate_left
      · (intro w _; go_simp; try with_reducible rfl)
      try simp only [Act.put, List.getElem_toArray, List.getElem_cons_zero, List.getElem_cons_succ, List.setIfInBounds_toArray, List.set_cons_zero, List.set_cons_succ]
      refine wpAnyE_take (i := 2) (v := ?_) rfl (by kernel_rfl) (by kernel_rfl) (by kernel_rfl) (fun _ _ _ h => h) (Or.inl ⟨by rfl, ?_⟩) ?_
      rotate_left
      · (intro w _; go_simp; try with_reducible rfl)
      try simp only [Act.put, List.getElem_toArray, List.getElem_cons_zero, List.getElem_cons_succ, List.setIfInBounds_toArray, List.set_cons_zero, List.set_cons_succ]
      refine wpAnyE_load (tr := [[], [0], [0, 1], [], [0, 1, 2, 3]]) (i := 3) (v := ?_) (by kernel_rfl) rfl (by kernel_rfl) (by kernel_rfl) (by kernel_rfl) (by kernel_rfl) (by kernel_rfl) (fun _ _ _ h => h) (Or.inl ⟨by rfl, ?_⟩) hHeld ?_
      rotate_left
      · (intro w hSw; (try dsimp only at hSw); go_simp; try with_reducible rfl)
      try simp only [Act.put, List.getElem_toArray, List.getElem_cons_zero, List.getElem_cons_succ, List.setIfInBounds_toArray, List.set_cons_zero, List.set_cons_succ]
      refine wpAnyE_ready (rs := [4]) (by kernel_rfl) (by simp) ?_
      refine AllReadyE.lcons (by kernel_rfl) rfl (fun K hK => ?_) AllReadyE.nil
      go_simp
      (go_at_call 38; refine bkPut_c q g' d' r' l' e me hme _ (hB2.old (Off.refl Old wB).drew) (hv2.old (Off.refl Old wB).drew) hnb HNO.out hj6 _ ?_; intro w5 g5 d5 a5 c5 hB5 ho5 hmv5 hfr5)
      refine hK.out _ _ ?_
      clear hK K
      try simp only [Act.put, List.getElem_toArray, List.getElem_cons_zero, List.getElem_cons_succ, List.setIfInBounds_toArray, List.set_cons_zero, List.set_cons_succ]
      refine wpAnyE_done (by kernel_rfl) ?_ _
      have hmv5' : ∀ k, g5.map Addr.block = some k → g'.map Addr.block = some k ∨ wB.heap.size ≤ k := hmv5
      have hfr5' : ∀ z, a5 = some z → wB.heap.size ≤ z.block := hfr5
      have hzB := hal.size
      have hzo := ho.size
      have hO5 : Off Old w w5 := ((ho.trans hal).trans (Off.refl Old wB).drew).step ho5 (fun i hi hl => by
        have := hfr i (by rcases hi with h | h | h; exact .inl h; exact .inr (.inl h); exact .inr (.inr (.inl h)))
        omega)
      have hf5 : ∀ k, BkOwn q g5 r' (l' ++ [⟨e.x, a5, c5⟩]) k → w.heap.size ≤ k := fun k hk => by
        rcases hk with h1 | h1 | h1 | ⟨f, hf, hne, h1⟩
        · exact hfr k (.inl h1)
        · rcases hmv5' k h1 with h2 | h2
          · exact hfr k (.inr (.inl h2))
          · omega
        · exact hfr k (.inr (.inr (.inl h1)))
        · rcases List.mem_append.1 hf with hf | hf
          · exact hfr k (.inr (.inr (.inr ⟨f, hf, hne, h1⟩)))
          · simp only [List.mem_singleton] at hf
            subst hf
            obtain ⟨z, hz, rfl⟩ := Option.map_eq_some_iff.1 h1
            have := hfr5' z hz; omega
      have hl5 : Hid ((l' ++ [(⟨e.x, a5, c5⟩ : Ve)]).map Ve.x = (l.map Ve.x).take (j + 1)) := by
        show _ = _; rw [List.map_append, ← hl2.out]; rfl
      clear hcl
      go_wp2_with fail
      go_roundw
      case rel => exact ⟨j + 1, g5, d5, l' ++ [⟨e.x, a5, c5⟩], by go_num, by omega, hB5, hl5, hO5, hf5⟩
      case measure => simp [intOf]; omega
    · obtain rfl : j = l.length := by omega
      have hfin := hl'.out
      rw [List.take_of_length_le (by simp)] at hfin
      have HF := HK.out wr q g' d' r' l' hB hfin ho hfr
      clear HK hfin
      go_wp2_with fail
      exact HF
end Go.Proofs.Ytahpfcfecghpmaa
