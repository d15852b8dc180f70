/- A book of verdicts, by the document: another one; all of it. -/
import Derived.Test.YtahpfcfecghpmaaRefB2
import Derived.Test.YtahpfcfecghpmaaBook5
import Derived.KernelRfl
namespace Go.Proofs.Ytahpfcfecghpmaa
open Go.RowKit
set_option linter.unusedSimpArgs false

set_option maxRecDepth 100000 in
set_option maxHeartbeats 2000000 in
theorem rbCopy_c (p : Nat) (g : Option Addr) (d : Nat) (l : List Ve) (w : World) (h : RBk w p g d l) (hln : l.length ≤ 1000000) (R : Ending → World → Prop)
    (k : ∀ w' q g' d' l', RBk w' q g' d' l' → Hid (l'.map Ve.x = l.map Ve.x) → Off Old w w' → (∀ k, RbOwn q g' l' k → w.heap.size ≤ k) → R (.returned (.pointer (some ⟨q, 0, none⟩))) w') :
    Calls Try.prog 11 #[.pointer (some ⟨p, 0, none⟩)] w R := by
  have HK := Lib.hid k; clear k
  obtain ⟨i0, hi, hz0, hz1, hz2'⟩ := info_parts rvdinfo
  have hal0 := (Off.refl Old w).alloc (.cells #[.slice none 0 0] 31)
  have hB0 : RBk (w.alloc (.cells #[.slice none 0 0] 31)) w.heap.size none 0 [] := ⟨Blk.new w _ _, World.ownsRow_nil _ _ _ _, by simp, by simp⟩
  have hf0 : ∀ k, RbOwn w.heap.size none [] k → w.heap.size ≤ k := fun k hk => by
    rcases hk with rfl | hk | ⟨e, he, _⟩
    · omega
    · cases hk
    · cases he
  have hpl := h.blk.lt
  go_enter Try.func11, Try.ntmps11
  go_wp2_with fail
  go_loopw [4] (fun i wr => ∃ (j : Nat) (g' : Option Addr) (d' : Nat) (l' : List Ve), i = .int .i64 j ∧ j ≤ l.length ∧ Hid (l'.length = j) ∧ RBk wr w.heap.size g' d' l' ∧ Hid (l'.map Ve.x = (l.map Ve.x).take j) ∧ Off Old w wr ∧ (∀ k, RbOwn w.heap.size g' l' k → w.heap.size ≤ k)) (fun i _ => l.length - (intOf i).toNat)
  case atStart => exact ⟨0, none, 0, [], rfl, Nat.zero_le _, rfl, hB0, rfl, hal0, hf0⟩
  case round =>
    clear hf0 hB0 hal0
    obtain ⟨j, g', d', l', rfl, hj, hlen', hB, hl', ho, hfr⟩ := hrel
    have hP := h.old ho
    have c0 := hP.blk.cell (i := 0) rfl
    by_cases hlt : j < l.length
    · obtain ⟨e, he⟩ := at_of_lt hlt
      obtain ⟨b, o, ix, Q⟩ := ((own_sl2 hP.own).2.2).ix_rve d
      have hix := ix j hlt
      obtain ⟨x0, x1, x2, x3, x4⟩ := Q.out j e he.out
      obtain ⟨me, hme⟩ : ∃ me, Hid (e.x.reads.length = me) := ⟨_, rfl⟩
      rw [hme.out] at x4
      have hve := hP.vok e (List.mem_of_getElem? he.out)
      have hl2 : Hid (l'.map Ve.x ++ [e.x] = (l.map Ve.x).take (j + 1)) := by
        show _ = _
        rw [hl'.out, List.take_add_one, List.getElem?_map, he.out]; rfl
      have hob := hB.own
      have hbb := hB.blk
      rw [hlen'.out] at hob hbb
      have hcl : ∀ w', Off Old wr w' → w'.cell? ⟨w.heap.size, 0, none⟩ = some (.slice g' j d') ∧ w'.cell? ⟨p, 0, none⟩ = some (.slice g l.length d) ∧ w'.cell? ⟨b, o + j * 5, none⟩ = some (.int .i64 e.x.c) ∧ w'.cell? ⟨b, o + j * 5 + 1, none⟩ = some (.int .i64 e.x.n) ∧ w'.cell? ⟨b, o + j * 5 + 2, none⟩ = some (.bool e.x.commit) ∧ w'.cell? ⟨b, o + j * 5 + 3, none⟩ = some (.int .i64 e.x.at_) ∧ w'.cell? ⟨b, o + j * 5 + 4, none⟩ = some (.slice e.a me e.cap) := fun w' hh => ⟨(hbb.old hh).cell rfl, (hP.old hh).blk.cell rfl, hh.cell (fun x => x) x0, hh.cell (fun x => x) x1, hh.cell (fun x => x) x2, hh.cell (fun x => x) x3, hh.cell (fun x => x) x4⟩
      clear Q ix x0 x1 x2 x3 x4
      have hgq : g'.map Addr.block ≠ some w.heap.size := by
        have := own_blk_ne hB.own hB.blk (by decide)
        rwa [own_block_eq'] at this
      go_wp2_with fail
      clear c0
      refine wp_region_E (fun w' => Off Old (wr) w') [14, 17] (by kernel_rfl) ?_ (fun hHeld => ?_)
      · (first | exact Off.refl _ _ | exact Off.alloc hHeld _ | exact Off.trans hHeld (by assumption) | assumption | exact (Off.refl _ _).drew)
      refine wpAnyE_take (i := 0) (v := ?_) rfl (by kernel_rfl) (by kernel_rfl) (by kernel_rfl) (fun _ _ _ h => h) (Or.inl ⟨by rfl, ?_⟩) ?_
      rotate_left
      · (intro w _; go_simp; try with_reducible rfl)
      try simp only [Act.put, List.getElem_toArray, List.getElem_cons_zero, List.getElem_cons_succ, List.setIfInBounds_toArray, List.set_cons_zero, List.set_cons_succ]
      refine wpAnyE_take (i := 1) (v := ?_) rfl (by kernel_rfl) (by kernel_rfl) (by kernel_rfl) (fun _ _ _ h => h) (Or.inl ⟨by rfl, ?_⟩) ?_
      rotate_left
      · (intro w _; go_simp; try with_reducible rfl)
      try simp only [Act.put, List.getElem_toArray, List.getElem_cons_zero, List.getElem_cons_succ, List.setIfInBounds_toArray, List.set_cons_zero, List.set_cons_succ]
      refine wpAnyE_take (i := 2) (v := ?_) rfl (by kernel_rfl) (by kernel_rfl) (by kernel_rfl) (fun _ _ _ h => h) (Or.inl ⟨by rfl, ?_⟩) ?_
      rotate_left
      · (intro w _; go_simp; try with_reducible rfl)
      try simp only [Act.put, List.getElem_toArray, List.getElem_cons_zero, List.getElem_cons_succ, List.setIfInBounds_toArray, List.set_cons_zero, List.set_cons_succ]
      refine wpAnyE_take (i := 3) (v := ?_) rfl (by kernel_rfl) (by kernel_rfl) (by kernel_rfl) (fun _ _ _ h => h) (Or.inl ⟨by rfl, ?_⟩) ?_
      rotate_left
      · (intro w _; go_simp; try with_reducible rfl)
      try simp only [Act.put, List.getElem_toArray, List.getElem_cons_zero, List.getElem_cons_succ, List.setIfInBounds_toArray, List.set_cons_zero, List.set_cons_succ]
      refine wpAnyE_load (tr := [[], [], [1], [1, 2], [1, 2, 3], [], [5], [5, 6], [5, 6, 7], [], [5, 6, 7, 8, 9], [5, 6, 7, 8, 9, 10], [5, 6, 7, 8, 9, 10, 11], [5, 6, 7, 8, 9, 10, 11, 12], [1, 2, 3, 4, 5, 6, 7, 8, 9, 10, 11, 12, 13], [0, 1, 2, 3, 4, 5, 6, 7, 8, 9, 10, 11, 12, 13, 14], [0, 1, 2, 3, 4, 5, 6, 7, 8, 9, 10, 11, 12, 13, 14, 15], [0, 1, 2, 3, 4, 5, 6, 7, 8, 9, 10, 11, 12, 13, 14, 15, 16]]) (i := 4) (v := ?_) (by kernel_rfl) rfl (by kernel_rfl) (by kernel_rfl) (by kernel_rfl) (by kernel_rfl) (by kernel_rfl) (fun _ _ _ h => h) (Or.inl ⟨by rfl, ?_⟩) hHeld ?_
      rotate_left
      · (intro w hSw; (try dsimp only at hSw); go_simp; try with_reducible rfl)
      try simp only [Act.put, List.getElem_toArray, List.getElem_cons_zero, List.getElem_cons_succ, List.setIfInBounds_toArray, List.set_cons_zero, List.set_cons_succ]
      refine wpAnyE_take (i := 5) (v := ?_) rfl (by kernel_rfl) (by kernel_rfl) (by kernel_rfl) (fun _ _ _ h => h) (Or.inl ⟨by rfl, ?_⟩) ?_
      rotate_left
      · (intro w _; go_simp; try with_reducible rfl)
      try simp only [Act.put, List.getElem_toArray, List.getElem_cons_zero, List.getElem_cons_succ, List.setIfInBounds_toArray, List.set_cons_zero, List.set_cons_succ]
      refine wpAnyE_take (i := 6) (v := ?_) rfl (by kernel_rfl) (by kernel_rfl) (by kernel_rfl) (fun _ _ _ h => h) (Or.inl ⟨by rfl, ?_⟩) ?_
      rotate_left
      · (intro w _; go_simp; try with_reducible rfl)
      try simp only [Act.put, List.getElem_toArray, List.getElem_cons_zero, List.getElem_cons_succ, List.setIfInBounds_toArray, List.set_cons_zero, List.set_cons_succ]
      refine wpAnyE_take (i := 7) (v := ?_) rfl (by kernel_rfl) (by kernel_rfl) (by kernel_rfl) (fun _ _ _ h => h) (Or.inl ⟨by rfl, ?_⟩) ?_
      rotate_left
      · (intro w _; go_simp; try with_reducible rfl)
      try simp only [Act.put, List.getElem_toArray, List.getElem_cons_zero, List.getElem_cons_succ, List.setIfInBounds_toArray, List.set_cons_zero, List.set_cons_succ]
      refine wpAnyE_load (tr := [[], [], [1], [1, 2], [1, 2, 3], [], [5], [5, 6], [5, 6, 7], [], [5, 6, 7, 8, 9], [5, 6, 7, 8, 9, 10], [5, 6, 7, 8, 9, 10, 11], [5, 6, 7, 8, 9, 10, 11, 12], [1, 2, 3, 4, 5, 6, 7, 8, 9, 10, 11, 12, 13], [0, 1, 2, 3, 4, 5, 6, 7, 8, 9, 10, 11, 12, 13, 14], [0, 1, 2, 3, 4, 5, 6, 7, 8, 9, 10, 11, 12, 13, 14, 15], [0, 1, 2, 3, 4, 5, 6, 7, 8, 9, 10, 11, 12, 13, 14, 15, 16]]) (i := 8) (v := ?_) (by kernel_rfl) rfl (by kernel_rfl) (by kernel_rfl) (by kernel_rfl) (by kernel_rfl) (by kernel_rfl) (fun _ _ _ h => h) (Or.inl ⟨by rfl, ?_⟩) hHeld ?_
      rotate_left
      · (intro w hSw; (try dsimp only at hSw); go_simp; try with_reducible rfl)
      try simp only [Act.put, List.getElem_toArray, List.getElem_cons_zero, List.getElem_cons_succ, List.setIfInBounds_toArray, List.set_cons_zero, List.set_cons_succ]
      refine wpAnyE_take (i := 9) (v := ?_) rfl (by kernel_rfl) (by kernel_rfl) (by kernel_rfl) (fun _ _ _ h => h) (Or.inl ⟨by rfl, ?_⟩) ?_
      rotate_left
      · (intro w _; go_simp; try with_reducible rfl)
      try simp only [Act.put, List.getElem_toArray, List.getElem_cons_zero, List.getElem_cons_succ, List.setIfInBounds_toArray, List.set_cons_zero, List.set_cons_succ]
      refine wpAnyE_take (i := 10) (v := ?_) rfl (by kernel_rfl) (by kernel_rfl) (by kernel_rfl) (fun _ _ _ h => h) (Or.inl ⟨by rfl, ?_⟩) ?_
      rotate_left
      · (intro w _; go_simp; try with_reducible rfl)
      try simp only [Act.put, List.getElem_toArray, List.getElem_cons_zero, List.getElem_cons_succ, List.setIfInBounds_toArray, List.set_cons_zero, List.set_cons_succ]
      refine wpAnyE_load (tr := [[], [], [1], [1, 2], [1, 2, 3], [], [5], [5, 6], [5, 6, 7], [], [5, 6, 7, 8, 9], [5, 6, 7, 8, 9, 10], [5, 6, 7, 8, 9, 10, 11], [5, 6, 7, 8, 9, 10, 11, 12], [1, 2, 3, 4, 5, 6, 7, 8, 9, 10, 11, 12, 13], [0, 1, 2, 3, 4, 5, 6, 7, 8, 9, 10, 11, 12, 13, 14], [0, 1, 2, 3, 4, 5, 6, 7, 8, 9, 10, 11, 12, 13, 14, 15], [0, 1, 2, 3, 4, 5, 6, 7, 8, 9, 10, 11, 12, 13, 14, 15, 16]]) (i := 11) (v := ?_) (by kernel_rfl) rfl (by kernel_rfl) (by kernel_rfl) (by kernel_rfl) (by kernel_rfl) (by kernel_rfl) (fun _ _ _ h => h) (Or.inl ⟨by rfl, ?_⟩) hHeld ?_
      rotate_left
      · (intro w hSw; (try dsimp only at hSw); go_simp; try with_reducible rfl)
      try simp only [Act.put, List.getElem_toArray, List.getElem_cons_zero, List.getElem_cons_succ, List.setIfInBounds_toArray, List.set_cons_zero, List.set_cons_succ]
      refine wpAnyE_ready (rs := [12]) (by kernel_rfl) (by simp) ?_
      refine AllReadyE.cons rfl (fun K hK => ?_) AllReadyE.nil
      go_simp
      (go_at_call 39; refine rcopied_c e me hme _ (hve.old (Off.refl Old wr).drew) _ ?_; intro w6 a6 d6 hv6 ho6 hfr6; have hown6 := own_off hob ((Off.refl Old wr).drew.trans ho6) (fun _ _ x => x))
      refine hK.out _ _ ?_ (fun hHeld => ?_)
      · (first | exact Off.refl _ _ | exact Off.alloc hHeld _ | exact Off.trans hHeld (by assumption) | assumption | exact (Off.refl _ _).drew)
      clear hK K
      try simp only [Act.put, List.getElem_toArray, List.getElem_cons_zero, List.getElem_cons_succ, List.setIfInBounds_toArray, List.set_cons_zero, List.set_cons_succ]
      refine wpAnyE_ready (rs := [13]) (by kernel_rfl) (by simp) ?_
      refine AllReadyE.cons rfl (fun K hK => ?_) AllReadyE.nil
      go_simp
      refine hK.out _ _ ?_ (fun hHeld => ?_)
      · (first | exact Off.refl _ _ | exact Off.alloc hHeld _ | exact Off.trans hHeld (by assumption) | assumption | exact (Off.refl _ _).drew)
      clear hK K
      try simp only [Act.put, List.getElem_toArray, List.getElem_cons_zero, List.getElem_cons_succ, List.setIfInBounds_toArray, List.set_cons_zero, List.set_cons_succ]
      refine wpAnyE_ready (rs := [14]) (by kernel_rfl) (by simp) ?_
      refine AllReadyE.lcons (by kernel_rfl) rfl (fun K hK => ?_) AllReadyE.nil
      (refine step_append_sl rfl (.tmp 20) (.tmp 29) 29 rfl 41 i0 (.agg #[.int .i64 0, .int .i64 0, .bool false, .int .i64 0, .slice none 0 0]) 5 56 Try.underlying29 hi hz0 hz1 hz2' rfl (by decide) (.slice g' j d') j (vcs l') rfl (hown6.alloc _) _ 1 1 [.int .i64 e.x.c, .int .i64 e.x.n, .bool e.x.commit, .int .i64 e.x.at_, .slice a6 me d6] rfl rfl (Sl.new w6 _ _) (by intro u hu; simp at hu; rcases hu with rfl | rfl | rfl | rfl | rfl <;> rfl) (by omega) (by omega) ?_; intro g7 d7 w7 hg7; have hgo : Off (fun k => g'.map Addr.block = some k) w6 w7 := hg7.of_alloc.off.mono (fun k hk _ => by rwa [own_block_eq'] at hk); have hb7 := Lib.hid (((hbb.old (Off.refl Old wr).drew).old ho6).off hgo hgq); have hp7 := hb7.out.cell (i := 0) rfl; have hpf7 := hb7.out.free 0)
      refine hK.out _ _ ?_
      clear hK K
      try simp only [Act.put, List.getElem_toArray, List.getElem_cons_zero, List.getElem_cons_succ, List.setIfInBounds_toArray, List.set_cons_zero, List.set_cons_succ]
      refine wpAnyE_take (i := 15) (v := ?_) rfl (by kernel_rfl) (by kernel_rfl) (by kernel_rfl) (fun _ _ _ h => h) (Or.inl ⟨by rfl, ?_⟩) ?_
      rotate_left
      · (intro w _; go_simp; try with_reducible rfl)
      try simp only [Act.put, List.getElem_toArray, List.getElem_cons_zero, List.getElem_cons_succ, List.setIfInBounds_toArray, List.set_cons_zero, List.set_cons_succ]
      refine wpAnyE_take (i := 16) (v := ?_) rfl (by kernel_rfl) (by kernel_rfl) (by kernel_rfl) (fun _ _ _ h => h) (Or.inl ⟨by rfl, ?_⟩) ?_
      rotate_left
      · (intro w _; go_simp; try with_reducible rfl)
      try simp only [Act.put, List.getElem_toArray, List.getElem_cons_zero, List.getElem_cons_succ, List.setIfInBounds_toArray, List.set_cons_zero, List.set_cons_succ]
      refine wpAnyE_ready (rs := [17]) (by kernel_rfl) (by simp) ?_
      refine AllReadyE.lcons (by kernel_rfl) rfl (fun K hK => ?_) AllReadyE.nil
      go_simp
      refine hK.out _ _ ?_
      clear hK K
      try simp only [Act.put, List.getElem_toArray, List.getElem_cons_zero, List.getElem_cons_succ, List.setIfInBounds_toArray, List.set_cons_zero, List.set_cons_succ]
      refine wpAnyE_done (by kernel_rfl) ?_ _
      have hmm := hme.out
      subst hmm
      obtain ⟨hB8, hO8, hM8⟩ := hB.snoc hlen'.out ((Off.refl Old wr).drew.trans ho6) hv6 hfr6 hg7.of_alloc
      have hzo := ho.size
      have hO5 : Off Old w _ := ho.step hO8 (fun i hi hl => by
        have := hfr i (by rcases hi with h | h; exact .inl h; exact .inr (.inl h))
        omega)
      have hfr6' : ∀ z, a6 = some z → wr.heap.size ≤ z.block := hfr6
      have hf5 : ∀ k, RbOwn w.heap.size g7 (l' ++ [⟨e.x, a6, d6⟩]) k → w.heap.size ≤ k := fun k hk => by
        rcases hk with h1 | h1 | ⟨f, hf, hne, h1⟩
        · exact hfr k (.inl h1)
        · rcases hM8 k h1 with h2 | h2
          · exact hfr k (.inr (.inl h2))
          · omega
        · rcases List.mem_append.1 hf with hf | hf
          · exact hfr k (.inr (.inr ⟨f, hf, hne, h1⟩))
          · simp only [List.mem_singleton] at hf
            subst hf
            obtain ⟨z, hz, rfl⟩ := Option.map_eq_some_iff.1 h1
            have := hfr6' z hz; omega
      have hl5 : Hid ((l' ++ [(⟨e.x, a6, d6⟩ : Ve)]).map Ve.x = (l.map Ve.x).take (j + 1)) := by
        show _ = _; rw [List.map_append, ← hl2.out]; rfl
      have hn5 : Hid ((l' ++ [(⟨e.x, a6, d6⟩ : Ve)]).length = j + 1) := by
        show _ = _; rw [List.length_append, hlen'.out]; rfl
      clear hcl hp7 hpf7
      go_wp2_with fail
      go_roundw
      case rel => exact ⟨j + 1, g7, d7, l' ++ [⟨e.x, a6, d6⟩], by go_num, by omega, hn5, hB8, hl5, hO5, hf5⟩
      case measure => simp [intOf]; omega
    · obtain rfl : j = l.length := by omega
      have hfin := hl'.out
      rw [List.take_of_length_le (by simp)] at hfin
      have HF := HK.out wr w.heap.size g' d' l' hB hfin ho hfr
      clear HK hfin
      go_wp2_with fail
      exact HF
theorem pick_take {cs : List Bool} {t : Nat} {b v : Bool} (h : cs[t]? = some b) : (cs.take (t + 1)).contains v = ((cs.take t).contains v || (b == v)) := by
  rw [List.take_add_one, h]
  simp only [Option.toList_some, List.contains_eq_mem, List.mem_append, List.mem_singleton]
  cases b <;> cases v <;> simp
set_option maxRecDepth 100000 in
set_option maxHeartbeats 3000000 in
theorem rbAll_c (p : Nat) (g : Option Addr) (d : Nat) (l : List Ve) (a : Option Addr) (m c : Nat) (cs : List Bool) (hm : cs.length = m) (w : World) (h : RBk w p g d l) (ha : Sl w a (bos cs)) (bn : m ≤ 1000000) (hln : l.length ≤ 1000000) (R : Ending → World → Prop)
    (k : ∀ w' l' n' g' d', Hid (l'.length = n') → w'.ownsRow 0 41 5 (.slice g' n' d') n' (vcs l') → (∀ f ∈ l', Vok w' f) → Hid (l'.map Ve.x = allV cs (l.map Ve.x)) → Off Old w w' → R (.returned (.slice g' n' d')) w') :
    Calls Try.prog 31 #[.pointer (some ⟨p, 0, none⟩), .slice a m c] w R := by
  have HK := Lib.hid k; clear k
  obtain ⟨i0, hi, hz0, hz1, hz2'⟩ := info_parts rvdinfo
  have HM := Lib.hid hm; clear hm
  go_enter Try.func31, Try.ntmps31
  go_wp2_with fail
  go_loopw [5, 6, 7, 8] (fun v i _ _ wr => ∃ (j n' : Nat) (g' : Option Addr) (d' : Nat) (l' : List Ve), i = .int .i64 j ∧ j ≤ l.length ∧ n' ≤ j ∧ v = .slice g' n' d' ∧ Hid (l'.length = n') ∧ wr.ownsRow 0 41 5 (.slice g' n' d') n' (vcs l') ∧ (∀ f ∈ l', Vok wr f) ∧ Hid (l'.map Ve.x = allV cs ((l.map Ve.x).take j)) ∧ Off Old w wr ∧ (∀ z, g' = some z → w.heap.size ≤ z.block) ∧ (∀ f ∈ l', ∀ z, f.a = some z → f.x.reads ≠ [] → g'.map Addr.block ≠ some z.block)) (fun _ i _ _ _ => l.length - (intOf i).toNat)
  case atStart => exact ⟨0, 0, none, 0, [], rfl, Nat.zero_le _, Nat.zero_le _, rfl, rfl, World.ownsRow_nil _ _ _ _, by simp, rfl, Off.refl _ _, by simp, by simp⟩
  case round =>
    obtain ⟨j, n', g', d', l', rfl, hj, hnj, rfl, hn', hown, hv, hl', ho, hfr, hap⟩ := hrel
    have hB := h.old ho
    have c0 := hB.blk.cell (i := 0) rfl
    by_cases hlt : j < l.length
    · obtain ⟨e, he⟩ := at_of_lt hlt
      obtain ⟨b, o, ix, Q⟩ := ((own_sl2 hB.own).2.2).ix_rve d
      have hix := ix j hlt
      obtain ⟨x0, x1, x2, x3, x4⟩ := Q.out j e he.out
      obtain ⟨me, hme⟩ : ∃ me, Hid (e.x.reads.length = me) := ⟨_, rfl⟩
      rw [hme.out] at x4
      have hve := Lib.hid (hB.vok e (List.mem_of_getElem? he.out))
      have htk := Lib.hid (allV_take (cs := cs) (l := l.map Ve.x) (j := j) (x := e.x) (by simp [he.out]))
      obtain ⟨P, hP⟩ : ∃ P, Hid (pick19 cs e.x = P) := ⟨_, rfl⟩
      rw [hP.out] at htk
      obtain ⟨C, hC⟩ : ∃ C, Hid (cs.contains e.x.commit = C) := ⟨_, rfl⟩
      have hPC : Hid (P = (decide (m = 0) || C)) := by show _ = _; rw [← hP.out, pick19, HM.out, hC.out]
      obtain ⟨z0, hz0m⟩ : ∃ z0, Hid (decide (m = 0) = z0) := ⟨_, rfl⟩
      have haR := ha.old ho
      have hz0' : ((m : Int) == 0) = z0 := by
        rw [← hz0m.out]
        by_cases hm0 : m = 0
        · subst hm0; rfl
        · rw [decide_eq_false hm0]; simp [hm0]
      clear ix Q
      obtain ⟨wo, rfl⟩ : ∃ wo : World, wo = wr := ⟨_, rfl⟩
      go_wp2_with fail
      go_loopw [7, 8] (fun v i wr => ∃ (t : Nat) (V : Bool), i = .int .i64 t ∧ t ≤ m ∧ v = .bool V ∧ Hid (V = (z0 || (cs.take t).contains e.x.commit)) ∧ Off Old wo wr) (fun _ i _ => m - (intOf i).toNat)
      case atStart => exact ⟨0, z0, rfl, Nat.zero_le _, rfl, by show _ = _; simp, Off.refl _ _⟩
      case round =>
        clear hz0'
        obtain ⟨t, V, rfl, ht, rfl, hV, hot⟩ := hrel
        by_cases htm : t < m
        · obtain ⟨y, hy⟩ := at_of_lt (l := cs) (j := t) (by have := HM.out; omega)
          obtain ⟨b2, o2, ix2, Q2⟩ := (haR.old hot).ix1 Try.underlying23 sz_bool (n := m) (by simp [bos, HM.out]) c
          have cy := Q2.out t _ (bos_at hy.out)
          have hix2 := ix2 t htm
          have y0 := (hB.old hot).blk.cell (i := 0) rfl
          have y2 := hot.cell (fun x => x) x2
          clear ix2 Q2 x0 x1 x2 x3 x4 c0
          cases V
          · have hV2 : Hid ((y == e.x.commit) = (z0 || (cs.take (t + 1)).contains e.x.commit)) := by
              show _ = _
              have h1 := hV.out
              rw [pick_take hy.out, ← Bool.or_assoc, ← h1]; rfl
            have hcl : ∀ w', Off Old wr w' → w'.cell? ⟨p, 0, none⟩ = some (.slice g l.length d) ∧ w'.cell? ⟨b2, o2 + t, none⟩ = some (.bool y) ∧ w'.cell? ⟨b, o + j * 5 + 2, none⟩ = some (.bool e.x.commit) := fun w' hh => ⟨hh.cell (fun x => x) y0, hh.cell (fun x => x) cy, hh.cell (fun x => x) y2⟩
            clear hV cy y0 y2
            go_wp2_with fail
            refine wp_region_E (fun w' => Off Old (wr) w') [] (by kernel_rfl) ?_ (fun hHeld => ?_)
            · (first | exact Off.refl _ _ | exact Off.alloc hHeld _ | exact Off.trans hHeld (by assumption) | assumption | exact (Off.refl _ _).drew)
            refine wpAnyE_take (i := 0) (v := ?_) rfl (by kernel_rfl) (by kernel_rfl) (by kernel_rfl) (fun _ _ _ h => h) (Or.inl ⟨by rfl, ?_⟩) ?_
            rotate_left
            · (intro w _; go_simp; try with_reducible rfl)
            try simp only [Act.put, List.getElem_toArray, List.getElem_cons_zero, List.getElem_cons_succ, List.setIfInBounds_toArray, List.set_cons_zero, List.set_cons_succ]
            refine wpAnyE_take (i := 1) (v := ?_) rfl (by kernel_rfl) (by kernel_rfl) (by kernel_rfl) (fun _ _ _ h => h) (Or.inl ⟨by rfl, ?_⟩) ?_
            rotate_left
            · (intro w _; go_simp; try with_reducible rfl)
            try simp only [Act.put, List.getElem_toArray, List.getElem_cons_zero, List.getElem_cons_succ, List.setIfInBounds_toArray, List.set_cons_zero, List.set_cons_succ]
            refine wpAnyE_take (i := 2) (v := ?_) rfl (by kernel_rfl) (by kernel_rfl) (by kernel_rfl) (fun _ _ _ h => h) (Or.inl ⟨by rfl, ?_⟩) ?_
            rotate_left
            · (intro w _; go_simp; try with_reducible rfl)
            try simp only [Act.put, List.getElem_toArray, List.getElem_cons_zero, List.getElem_cons_succ, List.setIfInBounds_toArray, List.set_cons_zero, List.set_cons_succ]
            refine wpAnyE_take (i := 3) (v := ?_) rfl (by kernel_rfl) (by kernel_rfl) (by kernel_rfl) (fun _ _ _ h => h) (Or.inl ⟨by rfl, ?_⟩) ?_
            rotate_left
            · (intro w _; go_simp; try with_reducible rfl)
            try simp only [Act.put, List.getElem_toArray, List.getElem_cons_zero, List.getElem_cons_succ, List.setIfInBounds_toArray, List.set_cons_zero, List.set_cons_succ]
            refine wpAnyE_take (i := 4) (v := ?_) rfl (by kernel_rfl) (by kernel_rfl) (by kernel_rfl) (fun _ _ _ h => h) (Or.inl ⟨by rfl, ?_⟩) ?_
            rotate_left
            · (intro w _; go_simp; try with_reducible rfl)
            try simp only [Act.put, List.getElem_toArray, List.getElem_cons_zero, List.getElem_cons_succ, List.setIfInBounds_toArray, List.set_cons_zero, List.set_cons_succ]
            refine wpAnyE_load (tr := [[], [0], [0, 1], [0, 1], [0, 1, 2, 3], [0, 1, 2, 3, 4], [0, 1], [0, 1, 6], [0, 1, 6, 7], [0, 1, 6, 7, 8], [0, 1], [0, 1, 6, 7, 8, 9, 10], [0, 1, 6, 7, 8, 9, 10, 11], [0, 1, 6, 7, 8, 9, 10, 11, 12], [0, 1, 2, 3, 4, 5, 6, 7, 8, 9, 10, 11, 12, 13], [0, 1, 2, 3, 4, 5, 6, 7, 8, 9, 10, 11, 12, 13, 14], [0, 1, 2, 3, 4, 5, 6, 7, 8, 9, 10, 11, 12, 13, 14, 15]]) (i := 5) (v := ?_) (by kernel_rfl) rfl (by kernel_rfl) (by kernel_rfl) (by kernel_rfl) (by kernel_rfl) (by kernel_rfl) (fun _ _ _ h => h) (Or.inl ⟨by rfl, ?_⟩) hHeld ?_
            rotate_left
            · (intro w hSw; (try dsimp only at hSw); go_simp; try with_reducible rfl)
            try simp only [Act.put, List.getElem_toArray, List.getElem_cons_zero, List.getElem_cons_succ, List.setIfInBounds_toArray, List.set_cons_zero, List.set_cons_succ]
            refine wpAnyE_take (i := 6) (v := ?_) rfl (by kernel_rfl) (by kernel_rfl) (by kernel_rfl) (fun _ _ _ h => h) (Or.inl ⟨by rfl, ?_⟩) ?_
            rotate_left
            · (intro w _; go_simp; try with_reducible rfl)
            try simp only [Act.put, List.getElem_toArray, List.getElem_cons_zero, List.getElem_cons_succ, List.setIfInBounds_toArray, List.set_cons_zero, List.set_cons_succ]
            refine wpAnyE_take (i := 7) (v := ?_) rfl (by kernel_rfl) (by kernel_rfl) (by kernel_rfl) (fun _ _ _ h => h) (Or.inl ⟨by rfl, ?_⟩) ?_
            rotate_left
            · (intro w _; go_simp; try with_reducible rfl)
            try simp only [Act.put, List.getElem_toArray, List.getElem_cons_zero, List.getElem_cons_succ, List.setIfInBounds_toArray, List.set_cons_zero, List.set_cons_succ]
            refine wpAnyE_take (i := 8) (v := ?_) rfl (by kernel_rfl) (by kernel_rfl) (by kernel_rfl) (fun _ _ _ h => h) (Or.inl ⟨by rfl, ?_⟩) ?_
            rotate_left
            · (intro w _; go_simp; try with_reducible rfl)
            try simp only [Act.put, List.getElem_toArray, List.getElem_cons_zero, List.getElem_cons_succ, List.setIfInBounds_toArray, List.set_cons_zero, List.set_cons_succ]
            refine wpAnyE_load (tr := [[], [0], [0, 1], [0, 1], [0, 1, 2, 3], [0, 1, 2, 3, 4], [0, 1], [0, 1, 6], [0, 1, 6, 7], [0, 1, 6, 7, 8], [0, 1], [0, 1, 6, 7, 8, 9, 10], [0, 1, 6, 7, 8, 9, 10, 11], [0, 1, 6, 7, 8, 9, 10, 11, 12], [0, 1, 2, 3, 4, 5, 6, 7, 8, 9, 10, 11, 12, 13], [0, 1, 2, 3, 4, 5, 6, 7, 8, 9, 10, 11, 12, 13, 14], [0, 1, 2, 3, 4, 5, 6, 7, 8, 9, 10, 11, 12, 13, 14, 15]]) (i := 9) (v := ?_) (by kernel_rfl) rfl (by kernel_rfl) (by kernel_rfl) (by kernel_rfl) (by kernel_rfl) (by kernel_rfl) (fun _ _ _ h => h) (Or.inl ⟨by rfl, ?_⟩) hHeld ?_
            rotate_left
            · (intro w hSw; (try dsimp only at hSw); go_simp; try with_reducible rfl)
            try simp only [Act.put, List.getElem_toArray, List.getElem_cons_zero, List.getElem_cons_succ, List.setIfInBounds_toArray, List.set_cons_zero, List.set_cons_succ]
            refine wpAnyE_take (i := 10) (v := ?_) rfl (by kernel_rfl) (by kernel_rfl) (by kernel_rfl) (fun _ _ _ h => h) (Or.inl ⟨by rfl, ?_⟩) ?_
            rotate_left
            · (intro w _; go_simp; try with_reducible rfl)
            try simp only [Act.put, List.getElem_toArray, List.getElem_cons_zero, List.getElem_cons_succ, List.setIfInBounds_toArray, List.set_cons_zero, List.set_cons_succ]
            refine wpAnyE_take (i := 11) (v := ?_) rfl (by kernel_rfl) (by kernel_rfl) (by kernel_rfl) (fun _ _ _ h => h) (Or.inl ⟨by rfl, ?_⟩) ?_
            rotate_left
            · (intro w _; go_simp; try with_reducible rfl)
            try simp only [Act.put, List.getElem_toArray, List.getElem_cons_zero, List.getElem_cons_succ, List.setIfInBounds_toArray, List.set_cons_zero, List.set_cons_succ]
            refine wpAnyE_take (i := 12) (v := ?_) rfl (by kernel_rfl) (by kernel_rfl) (by kernel_rfl) (fun _ _ _ h => h) (Or.inl ⟨by rfl, ?_⟩) ?_
            rotate_left
            · (intro w _; go_simp; try with_reducible rfl)
            try simp only [Act.put, List.getElem_toArray, List.getElem_cons_zero, List.getElem_cons_succ, List.setIfInBounds_toArray, List.set_cons_zero, List.set_cons_succ]
            refine wpAnyE_load (tr := [[], [0], [0, 1], [0, 1], [0, 1, 2, 3], [0, 1, 2, 3, 4], [0, 1], [0, 1, 6], [0, 1, 6, 7], [0, 1, 6, 7, 8], [0, 1], [0, 1, 6, 7, 8, 9, 10], [0, 1, 6, 7, 8, 9, 10, 11], [0, 1, 6, 7, 8, 9, 10, 11, 12], [0, 1, 2, 3, 4, 5, 6, 7, 8, 9, 10, 11, 12, 13], [0, 1, 2, 3, 4, 5, 6, 7, 8, 9, 10, 11, 12, 13, 14], [0, 1, 2, 3, 4, 5, 6, 7, 8, 9, 10, 11, 12, 13, 14, 15]]) (i := 13) (v := ?_) (by kernel_rfl) rfl (by kernel_rfl) (by kernel_rfl) (by kernel_rfl) (by kernel_rfl) (by kernel_rfl) (fun _ _ _ h => h) (Or.inl ⟨by rfl, ?_⟩) hHeld ?_
            rotate_left
            · (intro w hSw; (try dsimp only at hSw); go_simp; try with_reducible rfl)
            try simp only [Act.put, List.getElem_toArray, List.getElem_cons_zero, List.getElem_cons_succ, List.setIfInBounds_toArray, List.set_cons_zero, List.set_cons_succ]
            refine wpAnyE_take (i := 14) (v := ?_) rfl (by kernel_rfl) (by kernel_rfl) (by kernel_rfl) (fun _ _ _ h => h) (Or.inl ⟨by rfl, ?_⟩) ?_
            rotate_left
            · (intro w _; go_simp; try with_reducible rfl)
            try simp only [Act.put, List.getElem_toArray, List.getElem_cons_zero, List.getElem_cons_succ, List.setIfInBounds_toArray, List.set_cons_zero, List.set_cons_succ]
            refine wpAnyE_take (i := 15) (v := ?_) rfl (by kernel_rfl) (by kernel_rfl) (by kernel_rfl) (fun _ _ _ h => h) (Or.inl ⟨by rfl, ?_⟩) ?_
            rotate_left
            · (intro w _; go_simp; try with_reducible rfl)
            try simp only [Act.put, List.getElem_toArray, List.getElem_cons_zero, List.getElem_cons_succ, List.setIfInBounds_toArray, List.set_cons_zero, List.set_cons_succ]
            refine wpAnyE_take (i := 16) (v := ?_) rfl (by kernel_rfl) (by kernel_rfl) (by kernel_rfl) (fun _ _ _ h => h) (Or.inl ⟨by rfl, ?_⟩) ?_
            rotate_left
            · (intro w _; go_simp; try with_reducible rfl)
            try simp only [Act.put, List.getElem_toArray, List.getElem_cons_zero, List.getElem_cons_succ, List.setIfInBounds_toArray, List.set_cons_zero, List.set_cons_succ]
            refine wpAnyE_done (by kernel_rfl) ?_ _
            clear hcl
            go_wp2_with fail
            go_roundw
            case rel => exact ⟨t + 1, y == e.x.commit, by go_num, by omega, rfl, hV2, hot.drew⟩
            case measure => simp [intOf]; omega
          · have hV2 : Hid (true = (z0 || (cs.take (t + 1)).contains e.x.commit)) := by
              show _ = _
              have h1 := hV.out
              rw [pick_take hy.out, ← Bool.or_assoc, ← h1]; rfl
            clear hV cy y0 y2
            go_wp2_with fail
            refine wp_region_E (fun w' => Off Old (wr) w') [] (by kernel_rfl) ?_ (fun hHeld => ?_)
            · (first | exact Off.refl _ _ | exact Off.alloc hHeld _ | exact Off.trans hHeld (by assumption) | assumption | exact (Off.refl _ _).drew)
            refine wpAnyE_take (i := 0) (v := ?_) rfl (by kernel_rfl) (by kernel_rfl) (by kernel_rfl) (fun _ _ _ h => h) (Or.inl ⟨by rfl, ?_⟩) ?_
            rotate_left
            · (intro w _; go_simp; try with_reducible rfl)
            try simp only [Act.put, List.getElem_toArray, List.getElem_cons_zero, List.getElem_cons_succ, List.setIfInBounds_toArray, List.set_cons_zero, List.set_cons_succ]
            refine wpAnyE_take (i := 1) (v := ?_) rfl (by kernel_rfl) (by kernel_rfl) (by kernel_rfl) (fun _ _ _ h => h) (Or.inl ⟨by rfl, ?_⟩) ?_
            rotate_left
            · (intro w _; go_simp; try with_reducible rfl)
            try simp only [Act.put, List.getElem_toArray, List.getElem_cons_zero, List.getElem_cons_succ, List.setIfInBounds_toArray, List.set_cons_zero, List.set_cons_succ]
            refine wpAnyE_take (i := 2) (v := undef) rfl (by kernel_rfl) (by kernel_rfl) (by kernel_rfl) (fun _ _ _ h => h) (Or.inr ⟨by rfl, rfl⟩) ?_
            try simp only [Act.put, List.getElem_toArray, List.getElem_cons_zero, List.getElem_cons_succ, List.setIfInBounds_toArray, List.set_cons_zero, List.set_cons_succ]
            refine wpAnyE_take (i := 3) (v := undef) rfl (by kernel_rfl) (by kernel_rfl) (by kernel_rfl) (fun _ _ _ h => h) (Or.inr ⟨by rfl, rfl⟩) ?_
            try simp only [Act.put, List.getElem_toArray, List.getElem_cons_zero, List.getElem_cons_succ, List.setIfInBounds_toArray, List.set_cons_zero, List.set_cons_succ]
            refine wpAnyE_take (i := 4) (v := undef) rfl (by kernel_rfl) (by kernel_rfl) (by kernel_rfl) (fun _ _ _ h => h) (Or.inr ⟨by rfl, rfl⟩) ?_
            try simp only [Act.put, List.getElem_toArray, List.getElem_cons_zero, List.getElem_cons_succ, List.setIfInBounds_toArray, List.set_cons_zero, List.set_cons_succ]
            refine wpAnyE_take (i := 5) (v := undef) rfl (by kernel_rfl) (by kernel_rfl) (by kernel_rfl) (fun _ _ _ h => h) (Or.inr ⟨by rfl, rfl⟩) ?_
            try simp only [Act.put, List.getElem_toArray, List.getElem_cons_zero, List.getElem_cons_succ, List.setIfInBounds_toArray, List.set_cons_zero, List.set_cons_succ]
            refine wpAnyE_take (i := 6) (v := undef) rfl (by kernel_rfl) (by kernel_rfl) (by kernel_rfl) (fun _ _ _ h => h) (Or.inr ⟨by rfl, rfl⟩) ?_
            try simp only [Act.put, List.getElem_toArray, List.getElem_cons_zero, List.getElem_cons_succ, List.setIfInBounds_toArray, List.set_cons_zero, List.set_cons_succ]
            refine wpAnyE_take (i := 7) (v := undef) rfl (by kernel_rfl) (by kernel_rfl) (by kernel_rfl) (fun _ _ _ h => h) (Or.inr ⟨by rfl, rfl⟩) ?_
            try simp only [Act.put, List.getElem_toArray, List.getElem_cons_zero, List.getElem_cons_succ, List.setIfInBounds_toArray, List.set_cons_zero, List.set_cons_succ]
            refine wpAnyE_take (i := 8) (v := undef) rfl (by kernel_rfl) (by kernel_rfl) (by kernel_rfl) (fun _ _ _ h => h) (Or.inr ⟨by rfl, rfl⟩) ?_
            try simp only [Act.put, List.getElem_toArray, List.getElem_cons_zero, List.getElem_cons_succ, List.setIfInBounds_toArray, List.set_cons_zero, List.set_cons_succ]
            refine wpAnyE_take (i := 9) (v := undef) rfl (by kernel_rfl) (by kernel_rfl) (by kernel_rfl) (fun _ _ _ h => h) (Or.inr ⟨by rfl, rfl⟩) ?_
            try simp only [Act.put, List.getElem_toArray, List.getElem_cons_zero, List.getElem_cons_succ, List.setIfInBounds_toArray, List.set_cons_zero, List.set_cons_succ]
            refine wpAnyE_take (i := 10) (v := undef) rfl (by kernel_rfl) (by kernel_rfl) (by kernel_rfl) (fun _ _ _ h => h) (Or.inr ⟨by rfl, rfl⟩) ?_
            try simp only [Act.put, List.getElem_toArray, List.getElem_cons_zero, List.getElem_cons_succ, List.setIfInBounds_toArray, List.set_cons_zero, List.set_cons_succ]
            refine wpAnyE_take (i := 11) (v := undef) rfl (by kernel_rfl) (by kernel_rfl) (by kernel_rfl) (fun _ _ _ h => h) (Or.inr ⟨by rfl, rfl⟩) ?_
            try simp only [Act.put, List.getElem_toArray, List.getElem_cons_zero, List.getElem_cons_succ, List.setIfInBounds_toArray, List.set_cons_zero, List.set_cons_succ]
            refine wpAnyE_take (i := 12) (v := undef) rfl (by kernel_rfl) (by kernel_rfl) (by kernel_rfl) (fun _ _ _ h => h) (Or.inr ⟨by rfl, rfl⟩) ?_
            try simp only [Act.put, List.getElem_toArray, List.getElem_cons_zero, List.getElem_cons_succ, List.setIfInBounds_toArray, List.set_cons_zero, List.set_cons_succ]
            refine wpAnyE_take (i := 13) (v := undef) rfl (by kernel_rfl) (by kernel_rfl) (by kernel_rfl) (fun _ _ _ h => h) (Or.inr ⟨by rfl, rfl⟩) ?_
            try simp only [Act.put, List.getElem_toArray, List.getElem_cons_zero, List.getElem_cons_succ, List.setIfInBounds_toArray, List.set_cons_zero, List.set_cons_succ]
            refine wpAnyE_take (i := 14) (v := undef) rfl (by kernel_rfl) (by kernel_rfl) (by kernel_rfl) (fun _ _ _ h => h) (Or.inr ⟨by rfl, rfl⟩) ?_
            try simp only [Act.put, List.getElem_toArray, List.getElem_cons_zero, List.getElem_cons_succ, List.setIfInBounds_toArray, List.set_cons_zero, List.set_cons_succ]
            refine wpAnyE_take (i := 15) (v := ?_) rfl (by kernel_rfl) (by kernel_rfl) (by kernel_rfl) (fun _ _ _ h => h) (Or.inl ⟨by rfl, ?_⟩) ?_
            rotate_left
            · (intro w _; go_simp; try with_reducible rfl)
            try simp only [Act.put, List.getElem_toArray, List.getElem_cons_zero, List.getElem_cons_succ, List.setIfInBounds_toArray, List.set_cons_zero, List.set_cons_succ]
            refine wpAnyE_take (i := 16) (v := ?_) rfl (by kernel_rfl) (by kernel_rfl) (by kernel_rfl) (fun _ _ _ h => h) (Or.inl ⟨by rfl, ?_⟩) ?_
            rotate_left
            · (intro w _; go_simp; try with_reducible rfl)
            try simp only [Act.put, List.getElem_toArray, List.getElem_cons_zero, List.getElem_cons_succ, List.setIfInBounds_toArray, List.set_cons_zero, List.set_cons_succ]
            refine wpAnyE_done (by kernel_rfl) ?_ _
            go_wp2_with fail
            go_roundw
            case rel => exact ⟨t + 1, true, by go_num, by omega, rfl, hV2, hot.drew⟩
            case measure => simp [intOf]; omega
        · obtain rfl : t = m := by omega
          have hfin : V = P := by
            have h1 := hV.out
            rw [List.take_of_length_le (by have := HM.out; omega), hC.out] at h1
            rw [h1, hPC.out, hz0m.out]
          subst hfin
          have hoW := ho.trans hot
          have hownW := own_off hown hot (fun _ _ x => x)
          have hvW : ∀ f ∈ l', Vok wr f := fun f hf => (hv f hf).old hot
          have hzW := hot.size
          have hvew := hve.out.old hot
          have y0 := (hB.old hot).blk.cell (i := 0) rfl
          have z0' := hot.cell (fun x => x) x0
          have z1' := hot.cell (fun x => x) x1
          have z2' := hot.cell (fun x => x) x2
          have z3' := hot.cell (fun x => x) x3
          have z4' := hot.cell (fun x => x) x4
          clear x0 x1 x2 x3 x4 hV hown hv c0 hot
          cases V
          · have hl3 : Hid (l'.map Ve.x = allV cs ((l.map Ve.x).take (j + 1))) := by
              show _ = _
              rw [hl'.out, htk.out]; simp
            clear hl' y0 z0' z1' z2' z3' z4'
            go_wp2_with fail
            go_roundw
            case rel => exact ⟨j + 1, n', g', d', l', by go_num, by omega, by omega, rfl, hn', hownW, hvW, hl3, hoW, fun z hz => hfr z hz, hap⟩
            case measure => simp [intOf]; omega
          · go_wp2_with (go_at_call 39; go_must (refine rcopied_c e me hme _ hvew _ ?_))
            intro w2 a2 d2 hv2 ho2 hfr2
            have hown2 := own_off hownW ho2 (fun _ _ x => x)
            have hz2 := ho2.size
            go_wp2_with (at_builtin; go_must (refine wpList_append_new rfl (.tmp 44) (.tmp 53) 29 rfl 41 i0 (.agg #[.int .i64 0, .int .i64 0, .bool false, .int .i64 0, .slice none 0 0]) 5 56 Try.underlying29 hi hz0 hz1 hz2' rfl (by decide) (.slice g' n' d') n' (vcs l') rfl hown2 1 1 [.int .i64 e.x.c, .int .i64 e.x.n, .bool e.x.commit, .int .i64 e.x.at_, .slice a2 me d2] rfl rfl (by intro u hu; simp at hu; rcases hu with rfl | rfl | rfl | rfl | rfl <;> rfl) (by omega) (by omega) ?_))
            intro g3 d3 w3 hg3
            have hgo : Off (fun k => g'.map Addr.block = some k) w2 w3 := hg3.off.mono (fun k hk _ => by rwa [own_block_eq'] at hk)
            have hmov : ∀ k, g3.map Addr.block = some k → g'.map Addr.block = some k ∨ w2.heap.size ≤ k := fun k hk => by
              have := hg3.mov k (by rw [own_block_eq']; exact hk)
              rwa [own_block_eq'] at this
            have hgw : ∀ k, g'.map Addr.block = some k → k < wr.heap.size := fun k hk => own_lt hownW (by rw [own_block_eq']; exact hk)
            have hO3 : Off Old w w3 := (hoW.trans ho2).step hgo (fun i hi hl => by
              obtain ⟨z, hz, rfl⟩ := Option.map_eq_some_iff.1 hi
              have := hfr z hz; omega)
            have hv3 : ∀ f ∈ l' ++ [⟨e.x, a2, d2⟩], Vok w3 f := by
              intro f hf
              rcases List.mem_append.1 hf with hf | hf
              · exact ((hvW f hf).old ho2).off hgo (fun z hz hn => hap f hf z hz hn)
              · simp only [List.mem_singleton] at hf
                subst hf
                exact hv2.off hgo (fun z hz hn hk => by have := hfr2 z hz; have := hgw _ hk; omega)
            have hap3 : ∀ f ∈ l' ++ [⟨e.x, a2, d2⟩], ∀ z, f.a = some z → f.x.reads ≠ [] → g3.map Addr.block ≠ some z.block := by
              intro f hf z hz hn hk
              rcases List.mem_append.1 hf with hf | hf
              · have h9 := (hvW f hf).sl.lt hz (ne_rdxs hn)
                rcases hmov _ hk with h3 | h3
                · exact hap f hf z hz hn h3
                · omega
              · simp only [List.mem_singleton] at hf
                subst hf
                have h8 := hfr2 z hz
                have h9 := hv2.sl.lt hz (ne_rdxs hn)
                rcases hmov _ hk with h3 | h3
                · have := hgw _ h3; omega
                · omega
            have hown3 : w3.ownsRow 0 41 5 (.slice g3 (n' + 1) d3) (n' + 1) (vcs (l' ++ [⟨e.x, a2, d2⟩])) := by
              have h9 := hg3.own
              have h8 := hme.out
              rw [vcs_append, show vcs [(⟨e.x, a2, d2⟩ : Ve)] = [.int .i64 e.x.c, .int .i64 e.x.n, .bool e.x.commit, .int .i64 e.x.at_, .slice a2 me d2] by simp [vcs, Ve.v, h8]]
              exact h9
            have hfr3 : ∀ z, g3 = some z → w.heap.size ≤ z.block := fun z hz => by
              rcases hmov z.block (by rw [hz]; rfl) with h3 | h3
              · obtain ⟨y, hy, hyz⟩ := Option.map_eq_some_iff.1 h3
                have := hfr y hy; omega
              · have := hoW.size; omega
            have hl3 : Hid ((l' ++ [(⟨e.x, a2, d2⟩ : Ve)]).map Ve.x = allV cs ((l.map Ve.x).take (j + 1))) := by
              show _ = _
              rw [List.map_append, hl'.out, htk.out]; rfl
            have hn3 : Hid ((l' ++ [(⟨e.x, a2, d2⟩ : Ve)]).length = n' + 1) := by
              show _ = _; rw [List.length_append, hn'.out]; rfl
            clear hownW hown2 hvW hl' hg3 hgo hap hfr hv2 y0 z0' z1' z2' z3' z4'
            go_wp2_with fail
            go_roundw
            case rel => exact ⟨j + 1, n' + 1, g3, d3, l' ++ [⟨e.x, a2, d2⟩], by go_num, by omega, by omega, rfl, hn3, hown3, hv3, hl3, hO3, hfr3, hap3⟩
            case measure => simp [intOf]; omega
    · obtain rfl : j = l.length := by omega
      have hfin := hl'.out
      rw [List.take_of_length_le (by simp)] at hfin
      have HF := HK.out wr l' n' g' d' hn' hown hv hfin ho
      clear HK hfin
      go_wp2_with fail
      exact HF
end Go.Proofs.Ytahpfcfecghpmaa
