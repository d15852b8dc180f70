/- A book of verdicts, by the program, is written. -/
import Derived.Test.YtahpfcfecghpmaaBook4
import Derived.Test.YtahpfcfecghpmaaOrd
import Derived.Test.YtahpfcfecghpmaaPutPure
import Derived.Deep.CutRange
import Derived.KernelRfl
namespace Go.Proofs.Ytahpfcfecghpmaa
open Go.RowKit
set_option linter.unusedSimpArgs false

set_option maxRecDepth 100000 in
set_option maxHeartbeats 4000000 in
theorem bkWrite_c (q : Nat) (g : Option Addr) (d r : Nat) (l : List Ve) (p : Nat) (s : Bool × List UInt8) (g0 : Option Addr) (d0 : Nat) (w : World) (h : Bk w q g d r l) (hw : Wr w p s.1 g0 d0 s.2)
    (hap : ∀ k, BkOwn q g r l k → ¬ WS p g0 k) (bd : s.2.length + 9 + costVds (l.map Ve.x) ≤ 140737488355328) (hln : l.length ≤ 1000000) (R : Ending → World → Prop)
    (k : ∀ w' g' d', Wr w' p (putBk s (l.map Ve.x)).1 g' d' (putBk s (l.map Ve.x)).2 → WStep w w' p g0 g' → R (.returned (.pointer (some ⟨p, 0, none⟩))) w') :
    Calls Try.prog 24 #[.pointer (some ⟨q, 0, none⟩), .pointer (some ⟨p, 0, none⟩)] w R := by
  have HK := Lib.hid k; clear k
  have HBD := Lib.hid bd; clear bd
  have c0 := h.blk.cell (i := 0) rfl
  go_enter Try.func24, Try.ntmps24
  go_wp2_with (first | (go_at_call 37; go_must (refine bknown_c q g d r l _ h _ ?_)) | (go_at_call 51; go_must (refine numbers_n p s.1 g0 d0 s.2 [(l.length : Int)] _ hw (by have := HBD.out; simp; omega) _ ?_)))
  intro w1 g1 d1 hw1 hs1
  have h1 := h.off hs1.off hap
  have c1 := h1.blk.cell (i := 0) rfl
  obtain ⟨s1, hs1e⟩ : ∃ s1, Hid (putNums s [(l.length : Int)] = s1) := ⟨_, rfl⟩
  have hwA : Wr w1 p s1.1 g1 d1 s1.2 := by rw [← hs1e.out]; exact hw1
  have hf1 : Hid ((l.map Ve.x).foldl putVd s1 = putBk s (l.map Ve.x)) := by show _ = _; rw [putBk, List.length_map, hs1e.out]
  have hb1 : Hid (s1.2.length + costVds (l.map Ve.x) ≤ 140737488355328) := by
    show _ ≤ _
    have h8 := putNums_len [(l.length : Int)] s
    rw [hs1e.out] at h8
    have := HBD.out
    simp at h8; omega
  clear hw1 hw
  go_wp2_with fail
  go_loopw [28] (fun i wr => ∃ (j : Nat) (s2 : Bool × List UInt8) (g2 : Option Addr) (d2 : Nat), i = .int .i64 j ∧ j ≤ l.length ∧ Wr wr p s2.1 g2 d2 s2.2 ∧ WStep w wr p g0 g2 ∧ Hid (((l.map Ve.x).drop j).foldl putVd s2 = putBk s (l.map Ve.x)) ∧ Hid (s2.2.length + costVds ((l.map Ve.x).drop j) ≤ 140737488355328)) (fun i _ => l.length - (intOf i).toNat)
  case atStart => exact ⟨0, s1, g1, d1, rfl, Nat.zero_le _, hwA, hs1, hf1, hb1⟩
  case round =>
    clear c0 c1 h1 hwA hs1 hf1 hb1 hs1e
    obtain ⟨j, s2, g2, d2, rfl, hj, hw2, hs2, hf2, hb2⟩ := hrel
    by_cases hlt : j < l.length
    · obtain ⟨e, he⟩ := at_of_lt hlt
      have hP := h.off hs2.off hap
      obtain ⟨b, o, ix, Q, _⟩ := ((own_sl2 hP.own).2.2).ix_ve d
      have hix := ix j hlt
      obtain ⟨x0, x1, x2, x3, x4⟩ := Q.out j e he.out
      obtain ⟨me, hme⟩ : ∃ me, Hid (e.x.reads.length = me) := ⟨_, rfl⟩
      rw [hme.out] at x4
      have hmeb : me ≤ 1000000000 := by rw [← hme.out]; exact (hP.vok e (List.mem_of_getElem? he.out)).len
      have hdr : (l.map Ve.x).drop j = e.x :: (l.map Ve.x).drop (j + 1) := by
        have h9 := he.out
        rw [List.drop_eq_getElem_cons (by simpa using hlt)]
        congr 1
        rw [List.getElem_map]
        congr 1
        exact (List.getElem?_eq_some_iff.1 h9).2
      rw [hdr] at hf2 hb2
      obtain ⟨L2, hL2⟩ : ∃ L2, Hid ((l.map Ve.x).drop (j + 1) = L2) := ⟨_, rfl⟩
      rw [hL2.out] at hf2 hb2
      clear hdr
      have hf3 : Hid (L2.foldl putVd (e.x.reads.foldl putRd (putVh s2 e.x)) = putBk s (l.map Ve.x)) := hf2
      have hbC : Hid (s2.2.length + 37 + (costRds e.x.reads + costVds L2) ≤ 140737488355328) := by
        show _ ≤ _
        have := hb2.out
        simp only [costVds, costVd, List.map_cons, List.sum_cons] at this ⊢
        omega
      obtain ⟨C2, hC2⟩ : ∃ C2, Hid (costVds L2 = C2) := ⟨_, rfl⟩
      rw [hC2.out] at hbC
      have hal : Off Old wr (wr.alloc (.cells #[.int .i64 e.x.c, .int .i64 e.x.n, .bool e.x.commit, .int .i64 e.x.at_, .slice e.a me e.cap] 38)) := (Off.refl _ _).alloc _
      have hbx := Blk.new wr #[.int .i64 e.x.c, .int .i64 e.x.n, .bool e.x.commit, .int .i64 e.x.at_, .slice e.a me e.cap] 38
      have hwB := hw2.old hal
      have hsB := hs2.trans (WStep.of_old hal p g2)
      have hclr := hw2.clr (Nat.le_refl wr.heap.size)
      have hnw : ¬ WS p g2 wr.heap.size := by rintro (hh | hh); exact hclr.1 hh; exact hclr.2 hh
      have hbs : s2.2.length + 27 ≤ 140737488355328 := by have := hbC.out; omega
      have hbt : (putNums s2 [e.x.c, e.x.n, e.x.at_]).2.length + 1 ≤ 140737488355328 := by
        have h1 := putNums_len [e.x.c, e.x.n, e.x.at_] s2
        have := hbC.out; simp at h1; omega
      have hbu : (putFlags (putNums s2 [e.x.c, e.x.n, e.x.at_]) [e.x.commit]).2.length + 9 ≤ 140737488355328 := by
        have h1 := putNums_len [e.x.c, e.x.n, e.x.at_] s2
        have h2 := putFlags_len [e.x.commit] (putNums s2 [e.x.c, e.x.n, e.x.at_])
        have := hbC.out; simp at h1 h2; omega
      clear Q ix
      go_upto_region 7 with fail
      generalize (wr.alloc (.cells #[.int .i64 e.x.c, .int .i64 e.x.n, .bool e.x.commit, .int .i64 e.x.at_, .slice e.a me e.cap] 38)) = wB at *
      have hcl : ∀ w', Off (WS p g2) wB w' → w'.cell? ⟨wr.heap.size, 0, none⟩ = some (.int .i64 e.x.c) ∧ w'.cell? ⟨wr.heap.size, 1, none⟩ = some (.int .i64 e.x.n) ∧ w'.cell? ⟨wr.heap.size, 2, none⟩ = some (.bool e.x.commit) ∧ w'.cell? ⟨wr.heap.size, 3, none⟩ = some (.int .i64 e.x.at_) ∧ w'.cell? ⟨wr.heap.size, 4, none⟩ = some (.slice e.a me e.cap) := fun w' ho => ⟨(hbx.off ho hnw).cell rfl, (hbx.off ho hnw).cell rfl, (hbx.off ho hnw).cell rfl, (hbx.off ho hnw).cell rfl, (hbx.off ho hnw).cell rfl⟩
      have hW := Wat.start hwB
      have hVh : putNums (putFlags (putNums s2 [e.x.c, e.x.n, e.x.at_]) [e.x.commit]) [(me : Int)] = putVh s2 e.x := by rw [putVh, hme.out]
      have HVh := Lib.hid hVh
      clear hVh x0 x1 x2 x3 x4
      go_cut [28] from 28 to 73 (fun i wx => i = .int .i64 j ∧ Wat wB p g2 (putVh s2 e.x) [] wx)
      case first =>
        clear h hap hln HK HBD hj hw2 hs2 hlt he hP hix hme hb2 hf2 hL2 hf3 hbC hC2 hclr hnw hal hbx hwB hsB
        refine wp_region_E (fun w' => Off (WS p g2) wB w') [19] (by kernel_rfl) ?_ (fun hHeld => ?_)
        · (first | exact (Off.refl _ _).drew | exact Wat.off (by repeat (first | assumption | apply Wat.build | apply Wat.drew)))
        refine wpAnyE_take (i := 0) (v := ?_) rfl (by kernel_rfl) (by kernel_rfl) (by kernel_rfl) (fun _ _ _ h => h) (Or.inl ⟨by rfl, ?_⟩) ?_
        rotate_left
        · (intro w _; go_simp; try with_reducible rfl)
        try simp only [Act.put, List.getElem_toArray, List.getElem_cons_zero, List.getElem_cons_succ, List.setIfInBounds_toArray, List.set_cons_zero, List.set_cons_succ]
        refine wpAnyE_take (i := 1) (v := ?_) rfl (by kernel_rfl) (by kernel_rfl) (by kernel_rfl) (fun _ _ _ h => h) (Or.inl ⟨by rfl, ?_⟩) ?_
        rotate_left
        · (intro w _; go_simp; try with_reducible rfl)
        try simp only [Act.put, List.getElem_toArray, List.getElem_cons_zero, List.getElem_cons_succ, List.setIfInBounds_toArray, List.set_cons_zero, List.set_cons_succ]
        refine wpAnyE_take (i := 2) (v := ?_) rfl (by kernel_rfl) (by kernel_rfl) (by kernel_rfl) (fun _ _ _ h => h) (Or.inl ⟨by rfl, ?_⟩) ?_
        rotate_left
        · (intro w _; go_simp; try with_reducible rfl)
        try simp only [Act.put, List.getElem_toArray, List.getElem_cons_zero, List.getElem_cons_succ, List.setIfInBounds_toArray, List.set_cons_zero, List.set_cons_succ]
        refine wpAnyE_load (tr := [[], [], [1], [1, 2], [], [4], [4, 5], [], [7], [1, 2, 3, 4, 5, 6, 7, 8], [0, 1, 2, 3, 4, 5, 6, 7, 8, 9], [], [11], [11, 12], [0, 1, 2, 3, 4, 5, 6, 7, 8, 9, 10, 11, 12, 13], [], [15], [15, 16], [15, 16, 17], [0, 1, 2, 3, 4, 5, 6, 7, 8, 9, 10, 11, 12, 13, 14, 15, 16, 17, 18]]) (i := 3) (v := ?_) (by kernel_rfl) rfl (by kernel_rfl) (by kernel_rfl) (by kernel_rfl) (by kernel_rfl) (by kernel_rfl) (fun _ _ _ h => h) (Or.inl ⟨by rfl, ?_⟩) hHeld ?_
        rotate_left
        · (intro w hSw; (try dsimp only at hSw); go_simp; try with_reducible rfl)
        try simp only [Act.put, List.getElem_toArray, List.getElem_cons_zero, List.getElem_cons_succ, List.setIfInBounds_toArray, List.set_cons_zero, List.set_cons_succ]
        refine wpAnyE_take (i := 4) (v := ?_) rfl (by kernel_rfl) (by kernel_rfl) (by kernel_rfl) (fun _ _ _ h => h) (Or.inl ⟨by rfl, ?_⟩) ?_
        rotate_left
        · (intro w _; go_simp; try with_reducible rfl)
        try simp only [Act.put, List.getElem_toArray, List.getElem_cons_zero, List.getElem_cons_succ, List.setIfInBounds_toArray, List.set_cons_zero, List.set_cons_succ]
        refine wpAnyE_take (i := 5) (v := ?_) rfl (by kernel_rfl) (by kernel_rfl) (by kernel_rfl) (fun _ _ _ h => h) (Or.inl ⟨by rfl, ?_⟩) ?_
        rotate_left
        · (intro w _; go_simp; try with_reducible rfl)
        try simp only [Act.put, List.getElem_toArray, List.getElem_cons_zero, List.getElem_cons_succ, List.setIfInBounds_toArray, List.set_cons_zero, List.set_cons_succ]
        refine wpAnyE_load (tr := [[], [], [1], [1, 2], [], [4], [4, 5], [], [7], [1, 2, 3, 4, 5, 6, 7, 8], [0, 1, 2, 3, 4, 5, 6, 7, 8, 9], [], [11], [11, 12], [0, 1, 2, 3, 4, 5, 6, 7, 8, 9, 10, 11, 12, 13], [], [15], [15, 16], [15, 16, 17], [0, 1, 2, 3, 4, 5, 6, 7, 8, 9, 10, 11, 12, 13, 14, 15, 16, 17, 18]]) (i := 6) (v := ?_) (by kernel_rfl) rfl (by kernel_rfl) (by kernel_rfl) (by kernel_rfl) (by kernel_rfl) (by kernel_rfl) (fun _ _ _ h => h) (Or.inl ⟨by rfl, ?_⟩) hHeld ?_
        rotate_left
        · (intro w hSw; (try dsimp only at hSw); go_simp; try with_reducible rfl)
        try simp only [Act.put, List.getElem_toArray, List.getElem_cons_zero, List.getElem_cons_succ, List.setIfInBounds_toArray, List.set_cons_zero, List.set_cons_succ]
        refine wpAnyE_take (i := 7) (v := ?_) rfl (by kernel_rfl) (by kernel_rfl) (by kernel_rfl) (fun _ _ _ h => h) (Or.inl ⟨by rfl, ?_⟩) ?_
        rotate_left
        · (intro w _; go_simp; try with_reducible rfl)
        try simp only [Act.put, List.getElem_toArray, List.getElem_cons_zero, List.getElem_cons_succ, List.setIfInBounds_toArray, List.set_cons_zero, List.set_cons_succ]
        refine wpAnyE_load (tr := [[], [], [1], [1, 2], [], [4], [4, 5], [], [7], [1, 2, 3, 4, 5, 6, 7, 8], [0, 1, 2, 3, 4, 5, 6, 7, 8, 9], [], [11], [11, 12], [0, 1, 2, 3, 4, 5, 6, 7, 8, 9, 10, 11, 12, 13], [], [15], [15, 16], [15, 16, 17], [0, 1, 2, 3, 4, 5, 6, 7, 8, 9, 10, 11, 12, 13, 14, 15, 16, 17, 18]]) (i := 8) (v := ?_) (by kernel_rfl) rfl (by kernel_rfl) (by kernel_rfl) (by kernel_rfl) (by kernel_rfl) (by kernel_rfl) (fun _ _ _ h => h) (Or.inl ⟨by rfl, ?_⟩) hHeld ?_
        rotate_left
        · (intro w hSw; (try dsimp only at hSw); go_simp; try with_reducible rfl)
        try simp only [Act.put, List.getElem_toArray, List.getElem_cons_zero, List.getElem_cons_succ, List.setIfInBounds_toArray, List.set_cons_zero, List.set_cons_succ]
        refine wpAnyE_take (i := 11) (v := ?_) rfl (by kernel_rfl) (by kernel_rfl) (by kernel_rfl) (fun _ _ _ h => h) (Or.inl ⟨by rfl, ?_⟩) ?_
        rotate_left
        · (intro w _; go_simp; try with_reducible rfl)
        try simp only [Act.put, List.getElem_toArray, List.getElem_cons_zero, List.getElem_cons_succ, List.setIfInBounds_toArray, List.set_cons_zero, List.set_cons_succ]
        refine wpAnyE_load (tr := [[], [], [1], [1, 2], [], [4], [4, 5], [], [7], [1, 2, 3, 4, 5, 6, 7, 8], [0, 1, 2, 3, 4, 5, 6, 7, 8, 9], [], [11], [11, 12], [0, 1, 2, 3, 4, 5, 6, 7, 8, 9, 10, 11, 12, 13], [], [15], [15, 16], [15, 16, 17], [0, 1, 2, 3, 4, 5, 6, 7, 8, 9, 10, 11, 12, 13, 14, 15, 16, 17, 18]]) (i := 12) (v := ?_) (by kernel_rfl) rfl (by kernel_rfl) (by kernel_rfl) (by kernel_rfl) (by kernel_rfl) (by kernel_rfl) (fun _ _ _ h => h) (Or.inl ⟨by rfl, ?_⟩) hHeld ?_
        rotate_left
        · (intro w hSw; (try dsimp only at hSw); go_simp; try with_reducible rfl)
        try simp only [Act.put, List.getElem_toArray, List.getElem_cons_zero, List.getElem_cons_succ, List.setIfInBounds_toArray, List.set_cons_zero, List.set_cons_succ]
        refine wpAnyE_take (i := 15) (v := ?_) rfl (by kernel_rfl) (by kernel_rfl) (by kernel_rfl) (fun _ _ _ h => h) (Or.inl ⟨by rfl, ?_⟩) ?_
        rotate_left
        · (intro w _; go_simp; try with_reducible rfl)
        try simp only [Act.put, List.getElem_toArray, List.getElem_cons_zero, List.getElem_cons_succ, List.setIfInBounds_toArray, List.set_cons_zero, List.set_cons_succ]
        refine wpAnyE_load (tr := [[], [], [1], [1, 2], [], [4], [4, 5], [], [7], [1, 2, 3, 4, 5, 6, 7, 8], [0, 1, 2, 3, 4, 5, 6, 7, 8, 9], [], [11], [11, 12], [0, 1, 2, 3, 4, 5, 6, 7, 8, 9, 10, 11, 12, 13], [], [15], [15, 16], [15, 16, 17], [0, 1, 2, 3, 4, 5, 6, 7, 8, 9, 10, 11, 12, 13, 14, 15, 16, 17, 18]]) (i := 16) (v := ?_) (by kernel_rfl) rfl (by kernel_rfl) (by kernel_rfl) (by kernel_rfl) (by kernel_rfl) (by kernel_rfl) (fun _ _ _ h => h) (Or.inl ⟨by rfl, ?_⟩) hHeld ?_
        rotate_left
        · (intro w hSw; (try dsimp only at hSw); go_simp; try with_reducible rfl)
        try simp only [Act.put, List.getElem_toArray, List.getElem_cons_zero, List.getElem_cons_succ, List.setIfInBounds_toArray, List.set_cons_zero, List.set_cons_succ]
        refine wpAnyE_take (i := 17) (v := ?_) rfl (by kernel_rfl) (by kernel_rfl) (by kernel_rfl) (fun _ _ _ h => h) (Or.inl ⟨by rfl, ?_⟩) ?_
        rotate_left
        · (intro w _; go_simp; try with_reducible rfl)
        try simp only [Act.put, List.getElem_toArray, List.getElem_cons_zero, List.getElem_cons_succ, List.setIfInBounds_toArray, List.set_cons_zero, List.set_cons_succ]
        refine wpAnyE_ready (rs := [9, 13, 18]) (by kernel_rfl) (by simp) ?_
        refine AllReadyE.cons rfl (fun K hK => ?_) ?_
        · skip
          go_simp
          refine hK.out _ _ ?_ (fun hHeld => ?_)
          · (first | exact (Off.refl _ _).drew | exact Wat.off (by repeat (first | assumption | apply Wat.build | apply Wat.drew)))
          clear hK K
          try simp only [Act.put, List.getElem_toArray, List.getElem_cons_zero, List.getElem_cons_succ, List.setIfInBounds_toArray, List.set_cons_zero, List.set_cons_succ]
          refine wpAnyE_ready (rs := [10, 13, 18]) (by kernel_rfl) (by simp) ?_
          refine AllReadyE.cons rfl (fun K hK => ?_) ?_
          · skip
            go_simp
            (go_at_call 51; refine numbers_w [e.x.c, e.x.n, e.x.at_] rfl (by repeat (first | assumption | apply Wat.build | apply Wat.drew)) (by simp [ins]) hbs ?_; intro w5 hW)
            refine hK.out _ _ ?_ (fun hHeld => ?_)
            · (first | exact (Off.refl _ _).drew | exact Wat.off (by repeat (first | assumption | apply Wat.build | apply Wat.drew)))
            clear hK K
            try simp only [Act.put, List.getElem_toArray, List.getElem_cons_zero, List.getElem_cons_succ, List.setIfInBounds_toArray, List.set_cons_zero, List.set_cons_succ]
            refine wpAnyE_ready (rs := [13, 18]) (by kernel_rfl) (by simp) ?_
            refine AllReadyE.cons rfl (fun K hK => ?_) ?_
            · skip
              go_simp
              refine hK.out _ _ ?_ (fun hHeld => ?_)
              · (first | exact (Off.refl _ _).drew | exact Wat.off (by repeat (first | assumption | apply Wat.build | apply Wat.drew)))
              clear hK K
              try simp only [Act.put, List.getElem_toArray, List.getElem_cons_zero, List.getElem_cons_succ, List.setIfInBounds_toArray, List.set_cons_zero, List.set_cons_succ]
              refine wpAnyE_ready (rs := [14, 18]) (by kernel_rfl) (by simp) ?_
              refine AllReadyE.cons rfl (fun K hK => ?_) ?_
              · skip
                go_simp
                (go_at_call 52; refine flags_w [e.x.commit] rfl (by repeat (first | assumption | apply Wat.build | apply Wat.drew)) (by simp [bos]) hbt ?_; intro w5 hW)
                refine hK.out _ _ ?_ (fun hHeld => ?_)
                · (first | exact (Off.refl _ _).drew | exact Wat.off (by repeat (first | assumption | apply Wat.build | apply Wat.drew)))
                clear hK K
                try simp only [Act.put, List.getElem_toArray, List.getElem_cons_zero, List.getElem_cons_succ, List.setIfInBounds_toArray, List.set_cons_zero, List.set_cons_succ]
                refine wpAnyE_ready (rs := [18]) (by kernel_rfl) (by simp) ?_
                refine AllReadyE.cons rfl (fun K hK => ?_) AllReadyE.nil
                go_simp
                refine hK.out _ _ ?_ (fun hHeld => ?_)
                · (first | exact (Off.refl _ _).drew | exact Wat.off (by repeat (first | assumption | apply Wat.build | apply Wat.drew)))
                clear hK K
                try simp only [Act.put, List.getElem_toArray, List.getElem_cons_zero, List.getElem_cons_succ, List.setIfInBounds_toArray, List.set_cons_zero, List.set_cons_succ]
                refine wpAnyE_ready (rs := [19]) (by kernel_rfl) (by simp) ?_
                refine AllReadyE.lcons (by kernel_rfl) rfl (fun K hK => ?_) AllReadyE.nil
                go_simp
                (go_at_call 51; refine numbers_w [(me : Int)] rfl (by repeat (first | assumption | apply Wat.build | apply Wat.drew)) (by simp [ins]) hbu ?_; intro w5 hW)
                refine hK.out _ _ ?_
                clear hK K
                try simp only [Act.put, List.getElem_toArray, List.getElem_cons_zero, List.getElem_cons_succ, List.setIfInBounds_toArray, List.set_cons_zero, List.set_cons_succ]
                refine wpAnyE_done (by kernel_rfl) ?_ _
                (go_wp2_with fail; go_meet; exact ⟨rfl, HVh.out ▸ hW.drop⟩)
              refine AllReadyE.cons rfl (fun K hK => ?_) AllReadyE.nil
              go_simp
              refine hK.out _ _ ?_ (fun hHeld => ?_)
              · (first | exact (Off.refl _ _).drew | exact Wat.off (by repeat (first | assumption | apply Wat.build | apply Wat.drew)))
              clear hK K
              try simp only [Act.put, List.getElem_toArray, List.getElem_cons_zero, List.getElem_cons_succ, List.setIfInBounds_toArray, List.set_cons_zero, List.set_cons_succ]
              refine wpAnyE_ready (rs := [14]) (by kernel_rfl) (by simp) ?_
              refine AllReadyE.cons rfl (fun K hK => ?_) AllReadyE.nil
              go_simp
              (go_at_call 52; refine flags_w [e.x.commit] rfl (by repeat (first | assumption | apply Wat.build | apply Wat.drew)) (by simp [bos]) hbt ?_; intro w5 hW)
              refine hK.out _ _ ?_ (fun hHeld => ?_)
              · (first | exact (Off.refl _ _).drew | exact Wat.off (by repeat (first | assumption | apply Wat.build | apply Wat.drew)))
              clear hK K
              try simp only [Act.put, List.getElem_toArray, List.getElem_cons_zero, List.getElem_cons_succ, List.setIfInBounds_toArray, List.set_cons_zero, List.set_cons_succ]
              refine wpAnyE_ready (rs := [19]) (by kernel_rfl) (by simp) ?_
              refine AllReadyE.lcons (by kernel_rfl) rfl (fun K hK => ?_) AllReadyE.nil
              go_simp
              (go_at_call 51; refine numbers_w [(me : Int)] rfl (by repeat (first | assumption | apply Wat.build | apply Wat.drew)) (by simp [ins]) hbu ?_; intro w5 hW)
              refine hK.out _ _ ?_
              clear hK K
              try simp only [Act.put, List.getElem_toArray, List.getElem_cons_zero, List.getElem_cons_succ, List.setIfInBounds_toArray, List.set_cons_zero, List.set_cons_succ]
              refine wpAnyE_done (by kernel_rfl) ?_ _
              (go_wp2_with fail; go_meet; exact ⟨rfl, HVh.out ▸ hW.drop⟩)
            refine AllReadyE.cons rfl (fun K hK => ?_) AllReadyE.nil
            go_simp
            refine hK.out _ _ ?_ (fun hHeld => ?_)
            · (first | exact (Off.refl _ _).drew | exact Wat.off (by repeat (first | assumption | apply Wat.build | apply Wat.drew)))
            clear hK K
            try simp only [Act.put, List.getElem_toArray, List.getElem_cons_zero, List.getElem_cons_succ, List.setIfInBounds_toArray, List.set_cons_zero, List.set_cons_succ]
            refine wpAnyE_ready (rs := [13]) (by kernel_rfl) (by simp) ?_
            refine AllReadyE.cons rfl (fun K hK => ?_) AllReadyE.nil
            go_simp
            refine hK.out _ _ ?_ (fun hHeld => ?_)
            · (first | exact (Off.refl _ _).drew | exact Wat.off (by repeat (first | assumption | apply Wat.build | apply Wat.drew)))
            clear hK K
            try simp only [Act.put, List.getElem_toArray, List.getElem_cons_zero, List.getElem_cons_succ, List.setIfInBounds_toArray, List.set_cons_zero, List.set_cons_succ]
            refine wpAnyE_ready (rs := [14]) (by kernel_rfl) (by simp) ?_
            refine AllReadyE.cons rfl (fun K hK => ?_) AllReadyE.nil
            go_simp
            (go_at_call 52; refine flags_w [e.x.commit] rfl (by repeat (first | assumption | apply Wat.build | apply Wat.drew)) (by simp [bos]) hbt ?_; intro w5 hW)
            refine hK.out _ _ ?_ (fun hHeld => ?_)
            · (first | exact (Off.refl _ _).drew | exact Wat.off (by repeat (first | assumption | apply Wat.build | apply Wat.drew)))
            clear hK K
            try simp only [Act.put, List.getElem_toArray, List.getElem_cons_zero, List.getElem_cons_succ, List.setIfInBounds_toArray, List.set_cons_zero, List.set_cons_succ]
            refine wpAnyE_ready (rs := [19]) (by kernel_rfl) (by simp) ?_
            refine AllReadyE.lcons (by kernel_rfl) rfl (fun K hK => ?_) AllReadyE.nil
            go_simp
            (go_at_call 51; refine numbers_w [(me : Int)] rfl (by repeat (first | assumption | apply Wat.build | apply Wat.drew)) (by simp [ins]) hbu ?_; intro w5 hW)
            refine hK.out _ _ ?_
            clear hK K
            try simp only [Act.put, List.getElem_toArray, List.getElem_cons_zero, List.getElem_cons_succ, List.setIfInBounds_toArray, List.set_cons_zero, List.set_cons_succ]
            refine wpAnyE_done (by kernel_rfl) ?_ _
            (go_wp2_with fail; go_meet; exact ⟨rfl, HVh.out ▸ hW.drop⟩)
          refine AllReadyE.cons rfl (fun K hK => ?_) ?_
          · skip
            go_simp
            refine hK.out _ _ ?_ (fun hHeld => ?_)
            · (first | exact (Off.refl _ _).drew | exact Wat.off (by repeat (first | assumption | apply Wat.build | apply Wat.drew)))
            clear hK K
            try simp only [Act.put, List.getElem_toArray, List.getElem_cons_zero, List.getElem_cons_succ, List.setIfInBounds_toArray, List.set_cons_zero, List.set_cons_succ]
            refine wpAnyE_ready (rs := [10, 18]) (by kernel_rfl) (by simp) ?_
            refine AllReadyE.cons rfl (fun K hK => ?_) ?_
            · skip
              go_simp
              (go_at_call 51; refine numbers_w [e.x.c, e.x.n, e.x.at_] rfl (by repeat (first | assumption | apply Wat.build | apply Wat.drew)) (by simp [ins]) hbs ?_; intro w5 hW)
              refine hK.out _ _ ?_ (fun hHeld => ?_)
              · (first | exact (Off.refl _ _).drew | exact Wat.off (by repeat (first | assumption | apply Wat.build | apply Wat.drew)))
              clear hK K
              try simp only [Act.put, List.getElem_toArray, List.getElem_cons_zero, List.getElem_cons_succ, List.setIfInBounds_toArray, List.set_cons_zero, List.set_cons_succ]
              refine wpAnyE_ready (rs := [14, 18]) (by kernel_rfl) (by simp) ?_
              refine AllReadyE.cons rfl (fun K hK => ?_) ?_
              · skip
                go_simp
                (go_at_call 52; refine flags_w [e.x.commit] rfl (by repeat (first | assumption | apply Wat.build | apply Wat.drew)) (by simp [bos]) hbt ?_; intro w5 hW)
                refine hK.out _ _ ?_ (fun hHeld => ?_)
                · (first | exact (Off.refl _ _).drew | exact Wat.off (by repeat (first | assumption | apply Wat.build | apply Wat.drew)))
                clear hK K
                try simp only [Act.put, List.getElem_toArray, List.getElem_cons_zero, List.getElem_cons_succ, List.setIfInBounds_toArray, List.set_cons_zero, List.set_cons_succ]
                refine wpAnyE_ready (rs := [18]) (by kernel_rfl) (by simp) ?_
                refine AllReadyE.cons rfl (fun K hK => ?_) AllReadyE.nil
                go_simp
                refine hK.out _ _ ?_ (fun hHeld => ?_)
                · (first | exact (Off.refl _ _).drew | exact Wat.off (by repeat (first | assumption | apply Wat.build | apply Wat.drew)))
                clear hK K
                try simp only [Act.put, List.getElem_toArray, List.getElem_cons_zero, List.getElem_cons_succ, List.setIfInBounds_toArray, List.set_cons_zero, List.set_cons_succ]
                refine wpAnyE_ready (rs := [19]) (by kernel_rfl) (by simp) ?_
                refine AllReadyE.lcons (by kernel_rfl) rfl (fun K hK => ?_) AllReadyE.nil
                go_simp
                (go_at_call 51; refine numbers_w [(me : Int)] rfl (by repeat (first | assumption | apply Wat.build | apply Wat.drew)) (by simp [ins]) hbu ?_; intro w5 hW)
                refine hK.out _ _ ?_
                clear hK K
                try simp only [Act.put, List.getElem_toArray, List.getElem_cons_zero, List.getElem_cons_succ, List.setIfInBounds_toArray, List.set_cons_zero, List.set_cons_succ]
                refine wpAnyE_done (by kernel_rfl) ?_ _
                (go_wp2_with fail; go_meet; exact ⟨rfl, HVh.out ▸ hW.drop⟩)
              refine AllReadyE.cons rfl (fun K hK => ?_) AllReadyE.nil
              go_simp
              refine hK.out _ _ ?_ (fun hHeld => ?_)
              · (first | exact (Off.refl _ _).drew | exact Wat.off (by repeat (first | assumption | apply Wat.build | apply Wat.drew)))
              clear hK K
              try simp only [Act.put, List.getElem_toArray, List.getElem_cons_zero, List.getElem_cons_succ, List.setIfInBounds_toArray, List.set_cons_zero, List.set_cons_succ]
              refine wpAnyE_ready (rs := [14]) (by kernel_rfl) (by simp) ?_
              refine AllReadyE.cons rfl (fun K hK => ?_) AllReadyE.nil
              go_simp
              (go_at_call 52; refine flags_w [e.x.commit] rfl (by repeat (first | assumption | apply Wat.build | apply Wat.drew)) (by simp [bos]) hbt ?_; intro w5 hW)
              refine hK.out _ _ ?_ (fun hHeld => ?_)
              · (first | exact (Off.refl _ _).drew | exact Wat.off (by repeat (first | assumption | apply Wat.build | apply Wat.drew)))
              clear hK K
              try simp only [Act.put, List.getElem_toArray, List.getElem_cons_zero, List.getElem_cons_succ, List.setIfInBounds_toArray, List.set_cons_zero, List.set_cons_succ]
              refine wpAnyE_ready (rs := [19]) (by kernel_rfl) (by simp) ?_
              refine AllReadyE.lcons (by kernel_rfl) rfl (fun K hK => ?_) AllReadyE.nil
              go_simp
              (go_at_call 51; refine numbers_w [(me : Int)] rfl (by repeat (first | assumption | apply Wat.build | apply Wat.drew)) (by simp [ins]) hbu ?_; intro w5 hW)
              refine hK.out _ _ ?_
              clear hK K
              try simp only [Act.put, List.getElem_toArray, List.getElem_cons_zero, List.getElem_cons_succ, List.setIfInBounds_toArray, List.set_cons_zero, List.set_cons_succ]
              refine wpAnyE_done (by kernel_rfl) ?_ _
              (go_wp2_with fail; go_meet; exact ⟨rfl, HVh.out ▸ hW.drop⟩)
            refine AllReadyE.cons rfl (fun K hK => ?_) AllReadyE.nil
            go_simp
            refine hK.out _ _ ?_ (fun hHeld => ?_)
            · (first | exact (Off.refl _ _).drew | exact Wat.off (by repeat (first | assumption | apply Wat.build | apply Wat.drew)))
            clear hK K
            try simp only [Act.put, List.getElem_toArray, List.getElem_cons_zero, List.getElem_cons_succ, List.setIfInBounds_toArray, List.set_cons_zero, List.set_cons_succ]
            refine wpAnyE_ready (rs := [10]) (by kernel_rfl) (by simp) ?_
            refine AllReadyE.cons rfl (fun K hK => ?_) AllReadyE.nil
            go_simp
            (go_at_call 51; refine numbers_w [e.x.c, e.x.n, e.x.at_] rfl (by repeat (first | assumption | apply Wat.build | apply Wat.drew)) (by simp [ins]) hbs ?_; intro w5 hW)
            refine hK.out _ _ ?_ (fun hHeld => ?_)
            · (first | exact (Off.refl _ _).drew | exact Wat.off (by repeat (first | assumption | apply Wat.build | apply Wat.drew)))
            clear hK K
            try simp only [Act.put, List.getElem_toArray, List.getElem_cons_zero, List.getElem_cons_succ, List.setIfInBounds_toArray, List.set_cons_zero, List.set_cons_succ]
            refine wpAnyE_ready (rs := [14]) (by kernel_rfl) (by simp) ?_
            refine AllReadyE.cons rfl (fun K hK => ?_) AllReadyE.nil
            go_simp
            (go_at_call 52; refine flags_w [e.x.commit] rfl (by repeat (first | assumption | apply Wat.build | apply Wat.drew)) (by simp [bos]) hbt ?_; intro w5 hW)
            refine hK.out _ _ ?_ (fun hHeld => ?_)
            · (first | exact (Off.refl _ _).drew | exact Wat.off (by repeat (first | assumption | apply Wat.build | apply Wat.drew)))
            clear hK K
            try simp only [Act.put, List.getElem_toArray, List.getElem_cons_zero, List.getElem_cons_succ, List.setIfInBounds_toArray, List.set_cons_zero, List.set_cons_succ]
            refine wpAnyE_ready (rs := [19]) (by kernel_rfl) (by simp) ?_
            refine AllReadyE.lcons (by kernel_rfl) rfl (fun K hK => ?_) AllReadyE.nil
            go_simp
            (go_at_call 51; refine numbers_w [(me : Int)] rfl (by repeat (first | assumption | apply Wat.build | apply Wat.drew)) (by simp [ins]) hbu ?_; intro w5 hW)
            refine hK.out _ _ ?_
            clear hK K
            try simp only [Act.put, List.getElem_toArray, List.getElem_cons_zero, List.getElem_cons_succ, List.setIfInBounds_toArray, List.set_cons_zero, List.set_cons_succ]
            refine wpAnyE_done (by kernel_rfl) ?_ _
            (go_wp2_with fail; go_meet; exact ⟨rfl, HVh.out ▸ hW.drop⟩)
          refine AllReadyE.cons rfl (fun K hK => ?_) AllReadyE.nil
          go_simp
          refine hK.out _ _ ?_ (fun hHeld => ?_)
          · (first | exact (Off.refl _ _).drew | exact Wat.off (by repeat (first | assumption | apply Wat.build | apply Wat.drew)))
          clear hK K
          try simp only [Act.put, List.getElem_toArray, List.getElem_cons_zero, List.getElem_cons_succ, List.setIfInBounds_toArray, List.set_cons_zero, List.set_cons_succ]
          refine wpAnyE_ready (rs := [10, 13]) (by kernel_rfl) (by simp) ?_
          refine AllReadyE.cons rfl (fun K hK => ?_) ?_
          · skip
            go_simp
            (go_at_call 51; refine numbers_w [e.x.c, e.x.n, e.x.at_] rfl (by repeat (first | assumption | apply Wat.build | apply Wat.drew)) (by simp [ins]) hbs ?_; intro w5 hW)
            refine hK.out _ _ ?_ (fun hHeld => ?_)
            · (first | exact (Off.refl _ _).drew | exact Wat.off (by repeat (first | assumption | apply Wat.build | apply Wat.drew)))
            clear hK K
            try simp only [Act.put, List.getElem_toArray, List.getElem_cons_zero, List.getElem_cons_succ, List.setIfInBounds_toArray, List.set_cons_zero, List.set_cons_succ]
            refine wpAnyE_ready (rs := [13]) (by kernel_rfl) (by simp) ?_
            refine AllReadyE.cons rfl (fun K hK => ?_) AllReadyE.nil
            go_simp
            refine hK.out _ _ ?_ (fun hHeld => ?_)
            · (first | exact (Off.refl _ _).drew | exact Wat.off (by repeat (first | assumption | apply Wat.build | apply Wat.drew)))
            clear hK K
            try simp only [Act.put, List.getElem_toArray, List.getElem_cons_zero, List.getElem_cons_succ, List.setIfInBounds_toArray, List.set_cons_zero, List.set_cons_succ]
            refine wpAnyE_ready (rs := [14]) (by kernel_rfl) (by simp) ?_
            refine AllReadyE.cons rfl (fun K hK => ?_) AllReadyE.nil
            go_simp
            (go_at_call 52; refine flags_w [e.x.commit] rfl (by repeat (first | assumption | apply Wat.build | apply Wat.drew)) (by simp [bos]) hbt ?_; intro w5 hW)
            refine hK.out _ _ ?_ (fun hHeld => ?_)
            · (first | exact (Off.refl _ _).drew | exact Wat.off (by repeat (first | assumption | apply Wat.build | apply Wat.drew)))
            clear hK K
            try simp only [Act.put, List.getElem_toArray, List.getElem_cons_zero, List.getElem_cons_succ, List.setIfInBounds_toArray, List.set_cons_zero, List.set_cons_succ]
            refine wpAnyE_ready (rs := [19]) (by kernel_rfl) (by simp) ?_
            refine AllReadyE.lcons (by kernel_rfl) rfl (fun K hK => ?_) AllReadyE.nil
            go_simp
            (go_at_call 51; refine numbers_w [(me : Int)] rfl (by repeat (first | assumption | apply Wat.build | apply Wat.drew)) (by simp [ins]) hbu ?_; intro w5 hW)
            refine hK.out _ _ ?_
            clear hK K
            try simp only [Act.put, List.getElem_toArray, List.getElem_cons_zero, List.getElem_cons_succ, List.setIfInBounds_toArray, List.set_cons_zero, List.set_cons_succ]
            refine wpAnyE_done (by kernel_rfl) ?_ _
            (go_wp2_with fail; go_meet; exact ⟨rfl, HVh.out ▸ hW.drop⟩)
          refine AllReadyE.cons rfl (fun K hK => ?_) AllReadyE.nil
          go_simp
          refine hK.out _ _ ?_ (fun hHeld => ?_)
          · (first | exact (Off.refl _ _).drew | exact Wat.off (by repeat (first | assumption | apply Wat.build | apply Wat.drew)))
          clear hK K
          try simp only [Act.put, List.getElem_toArray, List.getElem_cons_zero, List.getElem_cons_succ, List.setIfInBounds_toArray, List.set_cons_zero, List.set_cons_succ]
          refine wpAnyE_ready (rs := [10]) (by kernel_rfl) (by simp) ?_
          refine AllReadyE.cons rfl (fun K hK => ?_) AllReadyE.nil
          go_simp
          (go_at_call 51; refine numbers_w [e.x.c, e.x.n, e.x.at_] rfl (by repeat (first | assumption | apply Wat.build | apply Wat.drew)) (by simp [ins]) hbs ?_; intro w5 hW)
          refine hK.out _ _ ?_ (fun hHeld => ?_)
          · (first | exact (Off.refl _ _).drew | exact Wat.off (by repeat (first | assumption | apply Wat.build | apply Wat.drew)))
          clear hK K
          try simp only [Act.put, List.getElem_toArray, List.getElem_cons_zero, List.getElem_cons_succ, List.setIfInBounds_toArray, List.set_cons_zero, List.set_cons_succ]
          refine wpAnyE_ready (rs := [14]) (by kernel_rfl) (by simp) ?_
          refine AllReadyE.cons rfl (fun K hK => ?_) AllReadyE.nil
          go_simp
          (go_at_call 52; refine flags_w [e.x.commit] rfl (by repeat (first | assumption | apply Wat.build | apply Wat.drew)) (by simp [bos]) hbt ?_; intro w5 hW)
          refine hK.out _ _ ?_ (fun hHeld => ?_)
          · (first | exact (Off.refl _ _).drew | exact Wat.off (by repeat (first | assumption | apply Wat.build | apply Wat.drew)))
          clear hK K
          try simp only [Act.put, List.getElem_toArray, List.getElem_cons_zero, List.getElem_cons_succ, List.setIfInBounds_toArray, List.set_cons_zero, List.set_cons_succ]
          refine wpAnyE_ready (rs := [19]) (by kernel_rfl) (by simp) ?_
          refine AllReadyE.lcons (by kernel_rfl) rfl (fun K hK => ?_) AllReadyE.nil
          go_simp
          (go_at_call 51; refine numbers_w [(me : Int)] rfl (by repeat (first | assumption | apply Wat.build | apply Wat.drew)) (by simp [ins]) hbu ?_; intro w5 hW)
          refine hK.out _ _ ?_
          clear hK K
          try simp only [Act.put, List.getElem_toArray, List.getElem_cons_zero, List.getElem_cons_succ, List.setIfInBounds_toArray, List.set_cons_zero, List.set_cons_succ]
          refine wpAnyE_done (by kernel_rfl) ?_ _
          (go_wp2_with fail; go_meet; exact ⟨rfl, HVh.out ▸ hW.drop⟩)
        refine AllReadyE.cons rfl (fun K hK => ?_) ?_
        · skip
          go_simp
          refine hK.out _ _ ?_ (fun hHeld => ?_)
          · (first | exact (Off.refl _ _).drew | exact Wat.off (by repeat (first | assumption | apply Wat.build | apply Wat.drew)))
          clear hK K
          try simp only [Act.put, List.getElem_toArray, List.getElem_cons_zero, List.getElem_cons_succ, List.setIfInBounds_toArray, List.set_cons_zero, List.set_cons_succ]
          refine wpAnyE_ready (rs := [9, 18]) (by kernel_rfl) (by simp) ?_
          refine AllReadyE.cons rfl (fun K hK => ?_) ?_
          · skip
            go_simp
            refine hK.out _ _ ?_ (fun hHeld => ?_)
            · (first | exact (Off.refl _ _).drew | exact Wat.off (by repeat (first | assumption | apply Wat.build | apply Wat.drew)))
            clear hK K
            try simp only [Act.put, List.getElem_toArray, List.getElem_cons_zero, List.getElem_cons_succ, List.setIfInBounds_toArray, List.set_cons_zero, List.set_cons_succ]
            refine wpAnyE_ready (rs := [10, 18]) (by kernel_rfl) (by simp) ?_
            refine AllReadyE.cons rfl (fun K hK => ?_) ?_
            · skip
              go_simp
              (go_at_call 51; refine numbers_w [e.x.c, e.x.n, e.x.at_] rfl (by repeat (first | assumption | apply Wat.build | apply Wat.drew)) (by simp [ins]) hbs ?_; intro w5 hW)
              refine hK.out _ _ ?_ (fun hHeld => ?_)
              · (first | exact (Off.refl _ _).drew | exact Wat.off (by repeat (first | assumption | apply Wat.build | apply Wat.drew)))
              clear hK K
              try simp only [Act.put, List.getElem_toArray, List.getElem_cons_zero, List.getElem_cons_succ, List.setIfInBounds_toArray, List.set_cons_zero, List.set_cons_succ]
              refine wpAnyE_ready (rs := [14, 18]) (by kernel_rfl) (by simp) ?_
              refine AllReadyE.cons rfl (fun K hK => ?_) ?_
              · skip
                go_simp
                (go_at_call 52; refine flags_w [e.x.commit] rfl (by repeat (first | assumption | apply Wat.build | apply Wat.drew)) (by simp [bos]) hbt ?_; intro w5 hW)
                refine hK.out _ _ ?_ (fun hHeld => ?_)
                · (first | exact (Off.refl _ _).drew | exact Wat.off (by repeat (first | assumption | apply Wat.build | apply Wat.drew)))
                clear hK K
                try simp only [Act.put, List.getElem_toArray, List.getElem_cons_zero, List.getElem_cons_succ, List.setIfInBounds_toArray, List.set_cons_zero, List.set_cons_succ]
                refine wpAnyE_ready (rs := [18]) (by kernel_rfl) (by simp) ?_
                refine AllReadyE.cons rfl (fun K hK => ?_) AllReadyE.nil
                go_simp
                refine hK.out _ _ ?_ (fun hHeld => ?_)
                · (first | exact (Off.refl _ _).drew | exact Wat.off (by repeat (first | assumption | apply Wat.build | apply Wat.drew)))
                clear hK K
                try simp only [Act.put, List.getElem_toArray, List.getElem_cons_zero, List.getElem_cons_succ, List.setIfInBounds_toArray, List.set_cons_zero, List.set_cons_succ]
                refine wpAnyE_ready (rs := [19]) (by kernel_rfl) (by simp) ?_
                refine AllReadyE.lcons (by kernel_rfl) rfl (fun K hK => ?_) AllReadyE.nil
                go_simp
                (go_at_call 51; refine numbers_w [(me : Int)] rfl (by repeat (first | assumption | apply Wat.build | apply Wat.drew)) (by simp [ins]) hbu ?_; intro w5 hW)
                refine hK.out _ _ ?_
                clear hK K
                try simp only [Act.put, List.getElem_toArray, List.getElem_cons_zero, List.getElem_cons_succ, List.setIfInBounds_toArray, List.set_cons_zero, List.set_cons_succ]
                refine wpAnyE_done (by kernel_rfl) ?_ _
                (go_wp2_with fail; go_meet; exact ⟨rfl, HVh.out ▸ hW.drop⟩)
              refine AllReadyE.cons rfl (fun K hK => ?_) AllReadyE.nil
              go_simp
              refine hK.out _ _ ?_ (fun hHeld => ?_)
              · (first | exact (Off.refl _ _).drew | exact Wat.off (by repeat (first | assumption | apply Wat.build | apply Wat.drew)))
              clear hK K
              try simp only [Act.put, List.getElem_toArray, List.getElem_cons_zero, List.getElem_cons_succ, List.setIfInBounds_toArray, List.set_cons_zero, List.set_cons_succ]
              refine wpAnyE_ready (rs := [14]) (by kernel_rfl) (by simp) ?_
              refine AllReadyE.cons rfl (fun K hK => ?_) AllReadyE.nil
              go_simp
              (go_at_call 52; refine flags_w [e.x.commit] rfl (by repeat (first | assumption | apply Wat.build | apply Wat.drew)) (by simp [bos]) hbt ?_; intro w5 hW)
              refine hK.out _ _ ?_ (fun hHeld => ?_)
              · (first | exact (Off.refl _ _).drew | exact Wat.off (by repeat (first | assumption | apply Wat.build | apply Wat.drew)))
              clear hK K
              try simp only [Act.put, List.getElem_toArray, List.getElem_cons_zero, List.getElem_cons_succ, List.setIfInBounds_toArray, List.set_cons_zero, List.set_cons_succ]
              refine wpAnyE_ready (rs := [19]) (by kernel_rfl) (by simp) ?_
              refine AllReadyE.lcons (by kernel_rfl) rfl (fun K hK => ?_) AllReadyE.nil
              go_simp
              (go_at_call 51; refine numbers_w [(me : Int)] rfl (by repeat (first | assumption | apply Wat.build | apply Wat.drew)) (by simp [ins]) hbu ?_; intro w5 hW)
              refine hK.out _ _ ?_
              clear hK K
              try simp only [Act.put, List.getElem_toArray, List.getElem_cons_zero, List.getElem_cons_succ, List.setIfInBounds_toArray, List.set_cons_zero, List.set_cons_succ]
              refine wpAnyE_done (by kernel_rfl) ?_ _
              (go_wp2_with fail; go_meet; exact ⟨rfl, HVh.out ▸ hW.drop⟩)
            refine AllReadyE.cons rfl (fun K hK => ?_) AllReadyE.nil
            go_simp
            refine hK.out _ _ ?_ (fun hHeld => ?_)
            · (first | exact (Off.refl _ _).drew | exact Wat.off (by repeat (first | assumption | apply Wat.build | apply Wat.drew)))
            clear hK K
            try simp only [Act.put, List.getElem_toArray, List.getElem_cons_zero, List.getElem_cons_succ, List.setIfInBounds_toArray, List.set_cons_zero, List.set_cons_succ]
            refine wpAnyE_ready (rs := [10]) (by kernel_rfl) (by simp) ?_
            refine AllReadyE.cons rfl (fun K hK => ?_) AllReadyE.nil
            go_simp
            (go_at_call 51; refine numbers_w [e.x.c, e.x.n, e.x.at_] rfl (by repeat (first | assumption | apply Wat.build | apply Wat.drew)) (by simp [ins]) hbs ?_; intro w5 hW)
            refine hK.out _ _ ?_ (fun hHeld => ?_)
            · (first | exact (Off.refl _ _).drew | exact Wat.off (by repeat (first | assumption | apply Wat.build | apply Wat.drew)))
            clear hK K
            try simp only [Act.put, List.getElem_toArray, List.getElem_cons_zero, List.getElem_cons_succ, List.setIfInBounds_toArray, List.set_cons_zero, List.set_cons_succ]
            refine wpAnyE_ready (rs := [14]) (by kernel_rfl) (by simp) ?_
            refine AllReadyE.cons rfl (fun K hK => ?_) AllReadyE.nil
            go_simp
            (go_at_call 52; refine flags_w [e.x.commit] rfl (by repeat (first | assumption | apply Wat.build | apply Wat.drew)) (by simp [bos]) hbt ?_; intro w5 hW)
            refine hK.out _ _ ?_ (fun hHeld => ?_)
            · (first | exact (Off.refl _ _).drew | exact Wat.off (by repeat (first | assumption | apply Wat.build | apply Wat.drew)))
            clear hK K
            try simp only [Act.put, List.getElem_toArray, List.getElem_cons_zero, List.getElem_cons_succ, List.setIfInBounds_toArray, List.set_cons_zero, List.set_cons_succ]
            refine wpAnyE_ready (rs := [19]) (by kernel_rfl) (by simp) ?_
            refine AllReadyE.lcons (by kernel_rfl) rfl (fun K hK => ?_) AllReadyE.nil
            go_simp
            (go_at_call 51; refine numbers_w [(me : Int)] rfl (by repeat (first | assumption | apply Wat.build | apply Wat.drew)) (by simp [ins]) hbu ?_; intro w5 hW)
            refine hK.out _ _ ?_
            clear hK K
            try simp only [Act.put, List.getElem_toArray, List.getElem_cons_zero, List.getElem_cons_succ, List.setIfInBounds_toArray, List.set_cons_zero, List.set_cons_succ]
            refine wpAnyE_done (by kernel_rfl) ?_ _
            (go_wp2_with fail; go_meet; exact ⟨rfl, HVh.out ▸ hW.drop⟩)
          refine AllReadyE.cons rfl (fun K hK => ?_) AllReadyE.nil
          go_simp
          refine hK.out _ _ ?_ (fun hHeld => ?_)
          · (first | exact (Off.refl _ _).drew | exact Wat.off (by repeat (first | assumption | apply Wat.build | apply Wat.drew)))
          clear hK K
          try simp only [Act.put, List.getElem_toArray, List.getElem_cons_zero, List.getElem_cons_succ, List.setIfInBounds_toArray, List.set_cons_zero, List.set_cons_succ]
          refine wpAnyE_ready (rs := [9]) (by kernel_rfl) (by simp) ?_
          refine AllReadyE.cons rfl (fun K hK => ?_) AllReadyE.nil
          go_simp
          refine hK.out _ _ ?_ (fun hHeld => ?_)
          · (first | exact (Off.refl _ _).drew | exact Wat.off (by repeat (first | assumption | apply Wat.build | apply Wat.drew)))
          clear hK K
          try simp only [Act.put, List.getElem_toArray, List.getElem_cons_zero, List.getElem_cons_succ, List.setIfInBounds_toArray, List.set_cons_zero, List.set_cons_succ]
          refine wpAnyE_ready (rs := [10]) (by kernel_rfl) (by simp) ?_
          refine AllReadyE.cons rfl (fun K hK => ?_) AllReadyE.nil
          go_simp
          (go_at_call 51; refine numbers_w [e.x.c, e.x.n, e.x.at_] rfl (by repeat (first | assumption | apply Wat.build | apply Wat.drew)) (by simp [ins]) hbs ?_; intro w5 hW)
          refine hK.out _ _ ?_ (fun hHeld => ?_)
          · (first | exact (Off.refl _ _).drew | exact Wat.off (by repeat (first | assumption | apply Wat.build | apply Wat.drew)))
          clear hK K
          try simp only [Act.put, List.getElem_toArray, List.getElem_cons_zero, List.getElem_cons_succ, List.setIfInBounds_toArray, List.set_cons_zero, List.set_cons_succ]
          refine wpAnyE_ready (rs := [14]) (by kernel_rfl) (by simp) ?_
          refine AllReadyE.cons rfl (fun K hK => ?_) AllReadyE.nil
          go_simp
          (go_at_call 52; refine flags_w [e.x.commit] rfl (by repeat (first | assumption | apply Wat.build | apply Wat.drew)) (by simp [bos]) hbt ?_; intro w5 hW)
          refine hK.out _ _ ?_ (fun hHeld => ?_)
          · (first | exact (Off.refl _ _).drew | exact Wat.off (by repeat (first | assumption | apply Wat.build | apply Wat.drew)))
          clear hK K
          try simp only [Act.put, List.getElem_toArray, List.getElem_cons_zero, List.getElem_cons_succ, List.setIfInBounds_toArray, List.set_cons_zero, List.set_cons_succ]
          refine wpAnyE_ready (rs := [19]) (by kernel_rfl) (by simp) ?_
          refine AllReadyE.lcons (by kernel_rfl) rfl (fun K hK => ?_) AllReadyE.nil
          go_simp
          (go_at_call 51; refine numbers_w [(me : Int)] rfl (by repeat (first | assumption | apply Wat.build | apply Wat.drew)) (by simp [ins]) hbu ?_; intro w5 hW)
          refine hK.out _ _ ?_
          clear hK K
          try simp only [Act.put, List.getElem_toArray, List.getElem_cons_zero, List.getElem_cons_succ, List.setIfInBounds_toArray, List.set_cons_zero, List.set_cons_succ]
          refine wpAnyE_done (by kernel_rfl) ?_ _
          (go_wp2_with fail; go_meet; exact ⟨rfl, HVh.out ▸ hW.drop⟩)
        refine AllReadyE.cons rfl (fun K hK => ?_) AllReadyE.nil
        go_simp
        refine hK.out _ _ ?_ (fun hHeld => ?_)
        · (first | exact (Off.refl _ _).drew | exact Wat.off (by repeat (first | assumption | apply Wat.build | apply Wat.drew)))
        clear hK K
        try simp only [Act.put, List.getElem_toArray, List.getElem_cons_zero, List.getElem_cons_succ, List.setIfInBounds_toArray, List.set_cons_zero, List.set_cons_succ]
        refine wpAnyE_ready (rs := [9, 13]) (by kernel_rfl) (by simp) ?_
        refine AllReadyE.cons rfl (fun K hK => ?_) ?_
        · skip
          go_simp
          refine hK.out _ _ ?_ (fun hHeld => ?_)
          · (first | exact (Off.refl _ _).drew | exact Wat.off (by repeat (first | assumption | apply Wat.build | apply Wat.drew)))
          clear hK K
          try simp only [Act.put, List.getElem_toArray, List.getElem_cons_zero, List.getElem_cons_succ, List.setIfInBounds_toArray, List.set_cons_zero, List.set_cons_succ]
          refine wpAnyE_ready (rs := [10, 13]) (by kernel_rfl) (by simp) ?_
          refine AllReadyE.cons rfl (fun K hK => ?_) ?_
          · skip
            go_simp
            (go_at_call 51; refine numbers_w [e.x.c, e.x.n, e.x.at_] rfl (by repeat (first | assumption | apply Wat.build | apply Wat.drew)) (by simp [ins]) hbs ?_; intro w5 hW)
            refine hK.out _ _ ?_ (fun hHeld => ?_)
            · (first | exact (Off.refl _ _).drew | exact Wat.off (by repeat (first | assumption | apply Wat.build | apply Wat.drew)))
            clear hK K
            try simp only [Act.put, List.getElem_toArray, List.getElem_cons_zero, List.getElem_cons_succ, List.setIfInBounds_toArray, List.set_cons_zero, List.set_cons_succ]
            refine wpAnyE_ready (rs := [13]) (by kernel_rfl) (by simp) ?_
            refine AllReadyE.cons rfl (fun K hK => ?_) AllReadyE.nil
            go_simp
            refine hK.out _ _ ?_ (fun hHeld => ?_)
            · (first | exact (Off.refl _ _).drew | exact Wat.off (by repeat (first | assumption | apply Wat.build | apply Wat.drew)))
            clear hK K
            try simp only [Act.put, List.getElem_toArray, List.getElem_cons_zero, List.getElem_cons_succ, List.setIfInBounds_toArray, List.set_cons_zero, List.set_cons_succ]
            refine wpAnyE_ready (rs := [14]) (by kernel_rfl) (by simp) ?_
            refine AllReadyE.cons rfl (fun K hK => ?_) AllReadyE.nil
            go_simp
            (go_at_call 52; refine flags_w [e.x.commit] rfl (by repeat (first | assumption | apply Wat.build | apply Wat.drew)) (by simp [bos]) hbt ?_; intro w5 hW)
            refine hK.out _ _ ?_ (fun hHeld => ?_)
            · (first | exact (Off.refl _ _).drew | exact Wat.off (by repeat (first | assumption | apply Wat.build | apply Wat.drew)))
            clear hK K
            try simp only [Act.put, List.getElem_toArray, List.getElem_cons_zero, List.getElem_cons_succ, List.setIfInBounds_toArray, List.set_cons_zero, List.set_cons_succ]
            refine wpAnyE_ready (rs := [19]) (by kernel_rfl) (by simp) ?_
            refine AllReadyE.lcons (by kernel_rfl) rfl (fun K hK => ?_) AllReadyE.nil
            go_simp
            (go_at_call 51; refine numbers_w [(me : Int)] rfl (by repeat (first | assumption | apply Wat.build | apply Wat.drew)) (by simp [ins]) hbu ?_; intro w5 hW)
            refine hK.out _ _ ?_
            clear hK K
            try simp only [Act.put, List.getElem_toArray, List.getElem_cons_zero, List.getElem_cons_succ, List.setIfInBounds_toArray, List.set_cons_zero, List.set_cons_succ]
            refine wpAnyE_done (by kernel_rfl) ?_ _
            (go_wp2_with fail; go_meet; exact ⟨rfl, HVh.out ▸ hW.drop⟩)
          refine AllReadyE.cons rfl (fun K hK => ?_) AllReadyE.nil
          go_simp
          refine hK.out _ _ ?_ (fun hHeld => ?_)
          · (first | exact (Off.refl _ _).drew | exact Wat.off (by repeat (first | assumption | apply Wat.build | apply Wat.drew)))
          clear hK K
          try simp only [Act.put, List.getElem_toArray, List.getElem_cons_zero, List.getElem_cons_succ, List.setIfInBounds_toArray, List.set_cons_zero, List.set_cons_succ]
          refine wpAnyE_ready (rs := [10]) (by kernel_rfl) (by simp) ?_
          refine AllReadyE.cons rfl (fun K hK => ?_) AllReadyE.nil
          go_simp
          (go_at_call 51; refine numbers_w [e.x.c, e.x.n, e.x.at_] rfl (by repeat (first | assumption | apply Wat.build | apply Wat.drew)) (by simp [ins]) hbs ?_; intro w5 hW)
          refine hK.out _ _ ?_ (fun hHeld => ?_)
          · (first | exact (Off.refl _ _).drew | exact Wat.off (by repeat (first | assumption | apply Wat.build | apply Wat.drew)))
          clear hK K
          try simp only [Act.put, List.getElem_toArray, List.getElem_cons_zero, List.getElem_cons_succ, List.setIfInBounds_toArray, List.set_cons_zero, List.set_cons_succ]
          refine wpAnyE_ready (rs := [14]) (by kernel_rfl) (by simp) ?_
          refine AllReadyE.cons rfl (fun K hK => ?_) AllReadyE.nil
          go_simp
          (go_at_call 52; refine flags_w [e.x.commit] rfl (by repeat (first | assumption | apply Wat.build | apply Wat.drew)) (by simp [bos]) hbt ?_; intro w5 hW)
          refine hK.out _ _ ?_ (fun hHeld => ?_)
          · (first | exact (Off.refl _ _).drew | exact Wat.off (by repeat (first | assumption | apply Wat.build | apply Wat.drew)))
          clear hK K
          try simp only [Act.put, List.getElem_toArray, List.getElem_cons_zero, List.getElem_cons_succ, List.setIfInBounds_toArray, List.set_cons_zero, List.set_cons_succ]
          refine wpAnyE_ready (rs := [19]) (by kernel_rfl) (by simp) ?_
          refine AllReadyE.lcons (by kernel_rfl) rfl (fun K hK => ?_) AllReadyE.nil
          go_simp
          (go_at_call 51; refine numbers_w [(me : Int)] rfl (by repeat (first | assumption | apply Wat.build | apply Wat.drew)) (by simp [ins]) hbu ?_; intro w5 hW)
          refine hK.out _ _ ?_
          clear hK K
          try simp only [Act.put, List.getElem_toArray, List.getElem_cons_zero, List.getElem_cons_succ, List.setIfInBounds_toArray, List.set_cons_zero, List.set_cons_succ]
          refine wpAnyE_done (by kernel_rfl) ?_ _
          (go_wp2_with fail; go_meet; exact ⟨rfl, HVh.out ▸ hW.drop⟩)
        refine AllReadyE.cons rfl (fun K hK => ?_) AllReadyE.nil
        go_simp
        refine hK.out _ _ ?_ (fun hHeld => ?_)
        · (first | exact (Off.refl _ _).drew | exact Wat.off (by repeat (first | assumption | apply Wat.build | apply Wat.drew)))
        clear hK K
        try simp only [Act.put, List.getElem_toArray, List.getElem_cons_zero, List.getElem_cons_succ, List.setIfInBounds_toArray, List.set_cons_zero, List.set_cons_succ]
        refine wpAnyE_ready (rs := [9]) (by kernel_rfl) (by simp) ?_
        refine AllReadyE.cons rfl (fun K hK => ?_) AllReadyE.nil
        go_simp
        refine hK.out _ _ ?_ (fun hHeld => ?_)
        · (first | exact (Off.refl _ _).drew | exact Wat.off (by repeat (first | assumption | apply Wat.build | apply Wat.drew)))
        clear hK K
        try simp only [Act.put, List.getElem_toArray, List.getElem_cons_zero, List.getElem_cons_succ, List.setIfInBounds_toArray, List.set_cons_zero, List.set_cons_succ]
        refine wpAnyE_ready (rs := [10]) (by kernel_rfl) (by simp) ?_
        refine AllReadyE.cons rfl (fun K hK => ?_) AllReadyE.nil
        go_simp
        (go_at_call 51; refine numbers_w [e.x.c, e.x.n, e.x.at_] rfl (by repeat (first | assumption | apply Wat.build | apply Wat.drew)) (by simp [ins]) hbs ?_; intro w5 hW)
        refine hK.out _ _ ?_ (fun hHeld => ?_)
        · (first | exact (Off.refl _ _).drew | exact Wat.off (by repeat (first | assumption | apply Wat.build | apply Wat.drew)))
        clear hK K
        try simp only [Act.put, List.getElem_toArray, List.getElem_cons_zero, List.getElem_cons_succ, List.setIfInBounds_toArray, List.set_cons_zero, List.set_cons_succ]
        refine wpAnyE_ready (rs := [14]) (by kernel_rfl) (by simp) ?_
        refine AllReadyE.cons rfl (fun K hK => ?_) AllReadyE.nil
        go_simp
        (go_at_call 52; refine flags_w [e.x.commit] rfl (by repeat (first | assumption | apply Wat.build | apply Wat.drew)) (by simp [bos]) hbt ?_; intro w5 hW)
        refine hK.out _ _ ?_ (fun hHeld => ?_)
        · (first | exact (Off.refl _ _).drew | exact Wat.off (by repeat (first | assumption | apply Wat.build | apply Wat.drew)))
        clear hK K
        try simp only [Act.put, List.getElem_toArray, List.getElem_cons_zero, List.getElem_cons_succ, List.setIfInBounds_toArray, List.set_cons_zero, List.set_cons_succ]
        refine wpAnyE_ready (rs := [19]) (by kernel_rfl) (by simp) ?_
        refine AllReadyE.lcons (by kernel_rfl) rfl (fun K hK => ?_) AllReadyE.nil
        go_simp
        (go_at_call 51; refine numbers_w [(me : Int)] rfl (by repeat (first | assumption | apply Wat.build | apply Wat.drew)) (by simp [ins]) hbu ?_; intro w5 hW)
        refine hK.out _ _ ?_
        clear hK K
        try simp only [Act.put, List.getElem_toArray, List.getElem_cons_zero, List.getElem_cons_succ, List.setIfInBounds_toArray, List.set_cons_zero, List.set_cons_succ]
        refine wpAnyE_done (by kernel_rfl) ?_ _
        (go_wp2_with fail; go_meet; exact ⟨rfl, HVh.out ▸ hW.drop⟩)
      case rest =>
        obtain ⟨rfl, hW⟩ := hcut
        obtain ⟨g3, d3, hw3, hs3, _⟩ := hW
        have c4 := (hbx.off hs3.off hnw).cell (i := 4) rfl
        have hsw3 := hsB.trans hs3
        have hl3 := putVh_len s2 e.x
        obtain ⟨s3, hs3e⟩ : ∃ s3, Hid (putVh s2 e.x = s3) := ⟨_, rfl⟩
        rw [hs3e.out] at hw3 hf3 hl3
        have hb3 : Hid (s3.2.length + (costRds e.x.reads + C2) ≤ 140737488355328) := by show _ ≤ _; have := hbC.out; omega
        clear hcl HVh hbx hwB hbs hbt hbu hb2 hf2 hbC hl3 hsB hs3
        obtain ⟨wo, rfl⟩ : ∃ wo : World, wo = wr := ⟨_, rfl⟩
        go_wp2_with fail
        go_loopw [55] (fun i wr => ∃ (t : Nat) (s4 : Bool × List UInt8) (g4 : Option Addr) (d4 : Nat), i = .int .i64 t ∧ t ≤ me ∧ Wr wr p s4.1 g4 d4 s4.2 ∧ WStep w wr p g0 g4 ∧ Hid ((e.x.reads.drop t).foldl putRd s4 = e.x.reads.foldl putRd s3) ∧ Hid (s4.2.length + (costRds (e.x.reads.drop t) + C2) ≤ 140737488355328)) (fun i _ => me - (intOf i).toNat)
        case atStart => exact ⟨0, s3, g3, d3, rfl, Nat.zero_le _, hw3, hsw3, rfl, hb3⟩
        case round =>
          clear c4 hw3 hsw3 hb3
          obtain ⟨t, s4, g4, d4, rfl, ht, hw4, hs4, hf4, hb4⟩ := hrel
          by_cases htm : t < me
          · obtain ⟨y, hy⟩ := at_of_lt (l := e.x.reads) (j := t) (by have := hme.out; omega)
            obtain ⟨b2, o2, ix2, Q2, _⟩ := ((h.off hs4.off hap).vok e (List.mem_of_getElem? he.out)).sl.ix_rdx e.cap
            rw [hme.out] at ix2
            have hix2 := ix2 t htm
            obtain ⟨y0, y1, y2⟩ := Q2.out t y hy.out
            have hdr : e.x.reads.drop t = y :: e.x.reads.drop (t + 1) := by
              have h9 := hy.out
              rw [List.drop_eq_getElem_cons (by have := hme.out; omega)]
              congr 1
              exact (List.getElem?_eq_some_iff.1 h9).2
            rw [hdr] at hf4 hb4
            have hf5 : Hid ((e.x.reads.drop (t + 1)).foldl putRd (putRd s4 y) = e.x.reads.foldl putRd s3) := hf4
            have hbD : Hid (s4.2.length + costRd y + (costRds (e.x.reads.drop (t + 1)) + C2) ≤ 140737488355328) := by
              show _ ≤ _
              have := hb4.out
              simp only [costRds, List.map_cons, List.sum_cons] at this ⊢
              omega
            have hb5 : Hid ((putRd s4 y).2.length + (costRds (e.x.reads.drop (t + 1)) + C2) ≤ 140737488355328) := by
              show _ ≤ _
              have := hbD.out
              have := putRd_len s4 y
              omega
            have hbs : s4.2.length + lenOf ([y.key].map fun s => s.data.toList) ≤ 140737488355328 := by
              have := hbD.out
              unfold costRd at this; simp only [List.map_cons, List.map_nil]; omega
            have hbt : (putTexts s4 [y.key]).2.length + 1 ≤ 140737488355328 := by
              have h1 := putTexts_len s4 [y.key]
              have := hbD.out
              unfold costRd at this; simp only [List.map_cons, List.map_nil] at h1; omega
            have hbu : (putFlags (putTexts s4 [y.key]) [y.is]).2.length + lenOf ([y.val].map fun s => s.data.toList) ≤ 140737488355328 := by
              have h1 := putTexts_len s4 [y.key]
              have h2 := putFlags_len [y.is] (putTexts s4 [y.key])
              have := hbD.out
              unfold costRd at this; simp only [List.map_cons, List.map_nil, List.length_cons, List.length_nil] at h1 h2 ⊢; omega
            have hal : Off Old wr (wr.alloc (.cells #[.string y.key, .bool y.is, .string y.val] 83)) := (Off.refl _ _).alloc _
            have hbx := Blk.new wr #[.string y.key, .bool y.is, .string y.val] 83
            have hwB := hw4.old hal
            have hsB := hs4.trans (WStep.of_old hal p g4)
            have hclr := hw4.clr (Nat.le_refl wr.heap.size)
            have hnw : ¬ WS p g4 wr.heap.size := by rintro (hh | hh); exact hclr.1 hh; exact hclr.2 hh
            have HPR : Hid (putTexts (putFlags (putTexts s4 [y.key]) [y.is]) [y.val] = putRd s4 y) := rfl
            clear Q2 ix2 hbD hb4 hf4 hdr
            go_upto_region 11 with fail
            generalize (wr.alloc (.cells #[.string y.key, .bool y.is, .string y.val] 83)) = wB at *
            have hcl : ∀ w', Off (WS p g4) wB w' → w'.cell? ⟨wr.heap.size, 0, none⟩ = some (.string y.key) ∧ w'.cell? ⟨wr.heap.size, 1, none⟩ = some (.bool y.is) ∧ w'.cell? ⟨wr.heap.size, 2, none⟩ = some (.string y.val) := fun w' ho => ⟨(hbx.off ho hnw).cell rfl, (hbx.off ho hnw).cell rfl, (hbx.off ho hnw).cell rfl⟩
            have hW := Wat.start hwB
            clear y0 y1 y2 hwB hw4
            have hlt' : t + 1 ≤ me := by omega
            clear h hap hln HK HBD hj hs2 hlt he hme hL2 hf3 hC2 hs4 hclr hnw hbx hal hix hix2 hy
            refine wp_region_E (fun w' => Off (WS p g4) wB w') [12] (by kernel_rfl) ?_ (fun hHeld => ?_)
            · (first | exact (Off.refl _ _).drew | exact Wat.off (by repeat (first | assumption | apply Wat.build | apply Wat.drew)))
            refine wpAnyE_take (i := 0) (v := ?_) rfl (by kernel_rfl) (by kernel_rfl) (by kernel_rfl) (fun _ _ _ h => h) (Or.inl ⟨by rfl, ?_⟩) ?_
            rotate_left
            · (intro w _; go_simp; try with_reducible rfl)
            try simp only [Act.put, List.getElem_toArray, List.getElem_cons_zero, List.getElem_cons_succ, List.setIfInBounds_toArray, List.set_cons_zero, List.set_cons_succ]
            refine wpAnyE_take (i := 1) (v := ?_) rfl (by kernel_rfl) (by kernel_rfl) (by kernel_rfl) (fun _ _ _ h => h) (Or.inl ⟨by rfl, ?_⟩) ?_
            rotate_left
            · (intro w _; go_simp; try with_reducible rfl)
            try simp only [Act.put, List.getElem_toArray, List.getElem_cons_zero, List.getElem_cons_succ, List.setIfInBounds_toArray, List.set_cons_zero, List.set_cons_succ]
            refine wpAnyE_load (tr := [[], [], [1], [1, 2], [0, 1, 2, 3], [], [5], [5, 6], [0, 1, 2, 3, 4, 5, 6, 7], [], [9], [9, 10], [0, 1, 2, 3, 4, 5, 6, 7, 8, 9, 10, 11]]) (i := 2) (v := ?_) (by kernel_rfl) rfl (by kernel_rfl) (by kernel_rfl) (by kernel_rfl) (by kernel_rfl) (by kernel_rfl) (fun _ _ _ h => h) (Or.inl ⟨by rfl, ?_⟩) hHeld ?_
            rotate_left
            · (intro w hSw; (try dsimp only at hSw); go_simp; try with_reducible rfl)
            try simp only [Act.put, List.getElem_toArray, List.getElem_cons_zero, List.getElem_cons_succ, List.setIfInBounds_toArray, List.set_cons_zero, List.set_cons_succ]
            refine wpAnyE_take (i := 5) (v := ?_) rfl (by kernel_rfl) (by kernel_rfl) (by kernel_rfl) (fun _ _ _ h => h) (Or.inl ⟨by rfl, ?_⟩) ?_
            rotate_left
            · (intro w _; go_simp; try with_reducible rfl)
            try simp only [Act.put, List.getElem_toArray, List.getElem_cons_zero, List.getElem_cons_succ, List.setIfInBounds_toArray, List.set_cons_zero, List.set_cons_succ]
            refine wpAnyE_load (tr := [[], [], [1], [1, 2], [0, 1, 2, 3], [], [5], [5, 6], [0, 1, 2, 3, 4, 5, 6, 7], [], [9], [9, 10], [0, 1, 2, 3, 4, 5, 6, 7, 8, 9, 10, 11]]) (i := 6) (v := ?_) (by kernel_rfl) rfl (by kernel_rfl) (by kernel_rfl) (by kernel_rfl) (by kernel_rfl) (by kernel_rfl) (fun _ _ _ h => h) (Or.inl ⟨by rfl, ?_⟩) hHeld ?_
            rotate_left
            · (intro w hSw; (try dsimp only at hSw); go_simp; try with_reducible rfl)
            try simp only [Act.put, List.getElem_toArray, List.getElem_cons_zero, List.getElem_cons_succ, List.setIfInBounds_toArray, List.set_cons_zero, List.set_cons_succ]
            refine wpAnyE_take (i := 9) (v := ?_) rfl (by kernel_rfl) (by kernel_rfl) (by kernel_rfl) (fun _ _ _ h => h) (Or.inl ⟨by rfl, ?_⟩) ?_
            rotate_left
            · (intro w _; go_simp; try with_reducible rfl)
            try simp only [Act.put, List.getElem_toArray, List.getElem_cons_zero, List.getElem_cons_succ, List.setIfInBounds_toArray, List.set_cons_zero, List.set_cons_succ]
            refine wpAnyE_load (tr := [[], [], [1], [1, 2], [0, 1, 2, 3], [], [5], [5, 6], [0, 1, 2, 3, 4, 5, 6, 7], [], [9], [9, 10], [0, 1, 2, 3, 4, 5, 6, 7, 8, 9, 10, 11]]) (i := 10) (v := ?_) (by kernel_rfl) rfl (by kernel_rfl) (by kernel_rfl) (by kernel_rfl) (by kernel_rfl) (by kernel_rfl) (fun _ _ _ h => h) (Or.inl ⟨by rfl, ?_⟩) hHeld ?_
            rotate_left
            · (intro w hSw; (try dsimp only at hSw); go_simp; try with_reducible rfl)
            try simp only [Act.put, List.getElem_toArray, List.getElem_cons_zero, List.getElem_cons_succ, List.setIfInBounds_toArray, List.set_cons_zero, List.set_cons_succ]
            refine wpAnyE_ready (rs := [3, 7, 11]) (by kernel_rfl) (by simp) ?_
            refine AllReadyE.cons rfl (fun K hK => ?_) ?_
            · skip
              go_simp
              refine hK.out _ _ ?_ (fun hHeld => ?_)
              · (first | exact (Off.refl _ _).drew | exact Wat.off (by repeat (first | assumption | apply Wat.build | apply Wat.drew)))
              clear hK K
              try simp only [Act.put, List.getElem_toArray, List.getElem_cons_zero, List.getElem_cons_succ, List.setIfInBounds_toArray, List.set_cons_zero, List.set_cons_succ]
              refine wpAnyE_ready (rs := [4, 7, 11]) (by kernel_rfl) (by simp) ?_
              refine AllReadyE.cons rfl (fun K hK => ?_) ?_
              · skip
                go_simp
                (go_at_call 53; refine texts_w [y.key] rfl (by repeat (first | assumption | apply Wat.build | apply Wat.drew)) (by simp [sts]) hbs ?_; intro w5 hW)
                refine hK.out _ _ ?_ (fun hHeld => ?_)
                · (first | exact (Off.refl _ _).drew | exact Wat.off (by repeat (first | assumption | apply Wat.build | apply Wat.drew)))
                clear hK K
                try simp only [Act.put, List.getElem_toArray, List.getElem_cons_zero, List.getElem_cons_succ, List.setIfInBounds_toArray, List.set_cons_zero, List.set_cons_succ]
                refine wpAnyE_ready (rs := [7, 11]) (by kernel_rfl) (by simp) ?_
                refine AllReadyE.cons rfl (fun K hK => ?_) ?_
                · skip
                  go_simp
                  refine hK.out _ _ ?_ (fun hHeld => ?_)
                  · (first | exact (Off.refl _ _).drew | exact Wat.off (by repeat (first | assumption | apply Wat.build | apply Wat.drew)))
                  clear hK K
                  try simp only [Act.put, List.getElem_toArray, List.getElem_cons_zero, List.getElem_cons_succ, List.setIfInBounds_toArray, List.set_cons_zero, List.set_cons_succ]
                  refine wpAnyE_ready (rs := [8, 11]) (by kernel_rfl) (by simp) ?_
                  refine AllReadyE.cons rfl (fun K hK => ?_) ?_
                  · skip
                    go_simp
                    (go_at_call 52; refine flags_w [y.is] rfl (by repeat (first | assumption | apply Wat.build | apply Wat.drew)) (by simp [bos]) hbt ?_; intro w5 hW)
                    refine hK.out _ _ ?_ (fun hHeld => ?_)
                    · (first | exact (Off.refl _ _).drew | exact Wat.off (by repeat (first | assumption | apply Wat.build | apply Wat.drew)))
                    clear hK K
                    try simp only [Act.put, List.getElem_toArray, List.getElem_cons_zero, List.getElem_cons_succ, List.setIfInBounds_toArray, List.set_cons_zero, List.set_cons_succ]
                    refine wpAnyE_ready (rs := [11]) (by kernel_rfl) (by simp) ?_
                    refine AllReadyE.cons rfl (fun K hK => ?_) AllReadyE.nil
                    go_simp
                    refine hK.out _ _ ?_ (fun hHeld => ?_)
                    · (first | exact (Off.refl _ _).drew | exact Wat.off (by repeat (first | assumption | apply Wat.build | apply Wat.drew)))
                    clear hK K
                    try simp only [Act.put, List.getElem_toArray, List.getElem_cons_zero, List.getElem_cons_succ, List.setIfInBounds_toArray, List.set_cons_zero, List.set_cons_succ]
                    refine wpAnyE_ready (rs := [12]) (by kernel_rfl) (by simp) ?_
                    refine AllReadyE.lcons (by kernel_rfl) rfl (fun K hK => ?_) AllReadyE.nil
                    go_simp
                    (go_at_call 53; refine texts_w [y.val] rfl (by repeat (first | assumption | apply Wat.build | apply Wat.drew)) (by simp [sts]) hbu ?_; intro w5 hW)
                    refine hK.out _ _ ?_
                    clear hK K
                    try simp only [Act.put, List.getElem_toArray, List.getElem_cons_zero, List.getElem_cons_succ, List.setIfInBounds_toArray, List.set_cons_zero, List.set_cons_succ]
                    refine wpAnyE_done (by kernel_rfl) ?_ _
                    (obtain ⟨g5, d5, hw5, hs5, _⟩ := hW; have hsw5 := hsB.trans hs5; rw [HPR.out] at hw5; clear hcl hs5 hsB hbs hbt hbu; go_wp2_with fail; go_roundw; (case rel => exact ⟨t + 1, putRd s4 y, g5, d5, by go_num, hlt', hw5, hsw5, hf5, hb5⟩); (case measure => simp [intOf]; omega))
                  refine AllReadyE.cons rfl (fun K hK => ?_) AllReadyE.nil
                  go_simp
                  refine hK.out _ _ ?_ (fun hHeld => ?_)
                  · (first | exact (Off.refl _ _).drew | exact Wat.off (by repeat (first | assumption | apply Wat.build | apply Wat.drew)))
                  clear hK K
                  try simp only [Act.put, List.getElem_toArray, List.getElem_cons_zero, List.getElem_cons_succ, List.setIfInBounds_toArray, List.set_cons_zero, List.set_cons_succ]
                  refine wpAnyE_ready (rs := [8]) (by kernel_rfl) (by simp) ?_
                  refine AllReadyE.cons rfl (fun K hK => ?_) AllReadyE.nil
                  go_simp
                  (go_at_call 52; refine flags_w [y.is] rfl (by repeat (first | assumption | apply Wat.build | apply Wat.drew)) (by simp [bos]) hbt ?_; intro w5 hW)
                  refine hK.out _ _ ?_ (fun hHeld => ?_)
                  · (first | exact (Off.refl _ _).drew | exact Wat.off (by repeat (first | assumption | apply Wat.build | apply Wat.drew)))
                  clear hK K
                  try simp only [Act.put, List.getElem_toArray, List.getElem_cons_zero, List.getElem_cons_succ, List.setIfInBounds_toArray, List.set_cons_zero, List.set_cons_succ]
                  refine wpAnyE_ready (rs := [12]) (by kernel_rfl) (by simp) ?_
                  refine AllReadyE.lcons (by kernel_rfl) rfl (fun K hK => ?_) AllReadyE.nil
                  go_simp
                  (go_at_call 53; refine texts_w [y.val] rfl (by repeat (first | assumption | apply Wat.build | apply Wat.drew)) (by simp [sts]) hbu ?_; intro w5 hW)
                  refine hK.out _ _ ?_
                  clear hK K
                  try simp only [Act.put, List.getElem_toArray, List.getElem_cons_zero, List.getElem_cons_succ, List.setIfInBounds_toArray, List.set_cons_zero, List.set_cons_succ]
                  refine wpAnyE_done (by kernel_rfl) ?_ _
                  (obtain ⟨g5, d5, hw5, hs5, _⟩ := hW; have hsw5 := hsB.trans hs5; rw [HPR.out] at hw5; clear hcl hs5 hsB hbs hbt hbu; go_wp2_with fail; go_roundw; (case rel => exact ⟨t + 1, putRd s4 y, g5, d5, by go_num, hlt', hw5, hsw5, hf5, hb5⟩); (case measure => simp [intOf]; omega))
                refine AllReadyE.cons rfl (fun K hK => ?_) AllReadyE.nil
                go_simp
                refine hK.out _ _ ?_ (fun hHeld => ?_)
                · (first | exact (Off.refl _ _).drew | exact Wat.off (by repeat (first | assumption | apply Wat.build | apply Wat.drew)))
                clear hK K
                try simp only [Act.put, List.getElem_toArray, List.getElem_cons_zero, List.getElem_cons_succ, List.setIfInBounds_toArray, List.set_cons_zero, List.set_cons_succ]
                refine wpAnyE_ready (rs := [7]) (by kernel_rfl) (by simp) ?_
                refine AllReadyE.cons rfl (fun K hK => ?_) AllReadyE.nil
                go_simp
                refine hK.out _ _ ?_ (fun hHeld => ?_)
                · (first | exact (Off.refl _ _).drew | exact Wat.off (by repeat (first | assumption | apply Wat.build | apply Wat.drew)))
                clear hK K
                try simp only [Act.put, List.getElem_toArray, List.getElem_cons_zero, List.getElem_cons_succ, List.setIfInBounds_toArray, List.set_cons_zero, List.set_cons_succ]
                refine wpAnyE_ready (rs := [8]) (by kernel_rfl) (by simp) ?_
                refine AllReadyE.cons rfl (fun K hK => ?_) AllReadyE.nil
                go_simp
                (go_at_call 52; refine flags_w [y.is] rfl (by repeat (first | assumption | apply Wat.build | apply Wat.drew)) (by simp [bos]) hbt ?_; intro w5 hW)
                refine hK.out _ _ ?_ (fun hHeld => ?_)
                · (first | exact (Off.refl _ _).drew | exact Wat.off (by repeat (first | assumption | apply Wat.build | apply Wat.drew)))
                clear hK K
                try simp only [Act.put, List.getElem_toArray, List.getElem_cons_zero, List.getElem_cons_succ, List.setIfInBounds_toArray, List.set_cons_zero, List.set_cons_succ]
                refine wpAnyE_ready (rs := [12]) (by kernel_rfl) (by simp) ?_
                refine AllReadyE.lcons (by kernel_rfl) rfl (fun K hK => ?_) AllReadyE.nil
                go_simp
                (go_at_call 53; refine texts_w [y.val] rfl (by repeat (first | assumption | apply Wat.build | apply Wat.drew)) (by simp [sts]) hbu ?_; intro w5 hW)
                refine hK.out _ _ ?_
                clear hK K
                try simp only [Act.put, List.getElem_toArray, List.getElem_cons_zero, List.getElem_cons_succ, List.setIfInBounds_toArray, List.set_cons_zero, List.set_cons_succ]
                refine wpAnyE_done (by kernel_rfl) ?_ _
                (obtain ⟨g5, d5, hw5, hs5, _⟩ := hW; have hsw5 := hsB.trans hs5; rw [HPR.out] at hw5; clear hcl hs5 hsB hbs hbt hbu; go_wp2_with fail; go_roundw; (case rel => exact ⟨t + 1, putRd s4 y, g5, d5, by go_num, hlt', hw5, hsw5, hf5, hb5⟩); (case measure => simp [intOf]; omega))
              refine AllReadyE.cons rfl (fun K hK => ?_) ?_
              · skip
                go_simp
                refine hK.out _ _ ?_ (fun hHeld => ?_)
                · (first | exact (Off.refl _ _).drew | exact Wat.off (by repeat (first | assumption | apply Wat.build | apply Wat.drew)))
                clear hK K
                try simp only [Act.put, List.getElem_toArray, List.getElem_cons_zero, List.getElem_cons_succ, List.setIfInBounds_toArray, List.set_cons_zero, List.set_cons_succ]
                refine wpAnyE_ready (rs := [4, 11]) (by kernel_rfl) (by simp) ?_
                refine AllReadyE.cons rfl (fun K hK => ?_) ?_
                · skip
                  go_simp
                  (go_at_call 53; refine texts_w [y.key] rfl (by repeat (first | assumption | apply Wat.build | apply Wat.drew)) (by simp [sts]) hbs ?_; intro w5 hW)
                  refine hK.out _ _ ?_ (fun hHeld => ?_)
                  · (first | exact (Off.refl _ _).drew | exact Wat.off (by repeat (first | assumption | apply Wat.build | apply Wat.drew)))
                  clear hK K
                  try simp only [Act.put, List.getElem_toArray, List.getElem_cons_zero, List.getElem_cons_succ, List.setIfInBounds_toArray, List.set_cons_zero, List.set_cons_succ]
                  refine wpAnyE_ready (rs := [8, 11]) (by kernel_rfl) (by simp) ?_
                  refine AllReadyE.cons rfl (fun K hK => ?_) ?_
                  · skip
                    go_simp
                    (go_at_call 52; refine flags_w [y.is] rfl (by repeat (first | assumption | apply Wat.build | apply Wat.drew)) (by simp [bos]) hbt ?_; intro w5 hW)
                    refine hK.out _ _ ?_ (fun hHeld => ?_)
                    · (first | exact (Off.refl _ _).drew | exact Wat.off (by repeat (first | assumption | apply Wat.build | apply Wat.drew)))
                    clear hK K
                    try simp only [Act.put, List.getElem_toArray, List.getElem_cons_zero, List.getElem_cons_succ, List.setIfInBounds_toArray, List.set_cons_zero, List.set_cons_succ]
                    refine wpAnyE_ready (rs := [11]) (by kernel_rfl) (by simp) ?_
                    refine AllReadyE.cons rfl (fun K hK => ?_) AllReadyE.nil
                    go_simp
                    refine hK.out _ _ ?_ (fun hHeld => ?_)
                    · (first | exact (Off.refl _ _).drew | exact Wat.off (by repeat (first | assumption | apply Wat.build | apply Wat.drew)))
                    clear hK K
                    try simp only [Act.put, List.getElem_toArray, List.getElem_cons_zero, List.getElem_cons_succ, List.setIfInBounds_toArray, List.set_cons_zero, List.set_cons_succ]
                    refine wpAnyE_ready (rs := [12]) (by kernel_rfl) (by simp) ?_
                    refine AllReadyE.lcons (by kernel_rfl) rfl (fun K hK => ?_) AllReadyE.nil
                    go_simp
                    (go_at_call 53; refine texts_w [y.val] rfl (by repeat (first | assumption | apply Wat.build | apply Wat.drew)) (by simp [sts]) hbu ?_; intro w5 hW)
                    refine hK.out _ _ ?_
                    clear hK K
                    try simp only [Act.put, List.getElem_toArray, List.getElem_cons_zero, List.getElem_cons_succ, List.setIfInBounds_toArray, List.set_cons_zero, List.set_cons_succ]
                    refine wpAnyE_done (by kernel_rfl) ?_ _
                    (obtain ⟨g5, d5, hw5, hs5, _⟩ := hW; have hsw5 := hsB.trans hs5; rw [HPR.out] at hw5; clear hcl hs5 hsB hbs hbt hbu; go_wp2_with fail; go_roundw; (case rel => exact ⟨t + 1, putRd s4 y, g5, d5, by go_num, hlt', hw5, hsw5, hf5, hb5⟩); (case measure => simp [intOf]; omega))
                  refine AllReadyE.cons rfl (fun K hK => ?_) AllReadyE.nil
                  go_simp
                  refine hK.out _ _ ?_ (fun hHeld => ?_)
                  · (first | exact (Off.refl _ _).drew | exact Wat.off (by repeat (first | assumption | apply Wat.build | apply Wat.drew)))
                  clear hK K
                  try simp only [Act.put, List.getElem_toArray, List.getElem_cons_zero, List.getElem_cons_succ, List.setIfInBounds_toArray, List.set_cons_zero, List.set_cons_succ]
                  refine wpAnyE_ready (rs := [8]) (by kernel_rfl) (by simp) ?_
                  refine AllReadyE.cons rfl (fun K hK => ?_) AllReadyE.nil
                  go_simp
                  (go_at_call 52; refine flags_w [y.is] rfl (by repeat (first | assumption | apply Wat.build | apply Wat.drew)) (by simp [bos]) hbt ?_; intro w5 hW)
                  refine hK.out _ _ ?_ (fun hHeld => ?_)
                  · (first | exact (Off.refl _ _).drew | exact Wat.off (by repeat (first | assumption | apply Wat.build | apply Wat.drew)))
                  clear hK K
                  try simp only [Act.put, List.getElem_toArray, List.getElem_cons_zero, List.getElem_cons_succ, List.setIfInBounds_toArray, List.set_cons_zero, List.set_cons_succ]
                  refine wpAnyE_ready (rs := [12]) (by kernel_rfl) (by simp) ?_
                  refine AllReadyE.lcons (by kernel_rfl) rfl (fun K hK => ?_) AllReadyE.nil
                  go_simp
                  (go_at_call 53; refine texts_w [y.val] rfl (by repeat (first | assumption | apply Wat.build | apply Wat.drew)) (by simp [sts]) hbu ?_; intro w5 hW)
                  refine hK.out _ _ ?_
                  clear hK K
                  try simp only [Act.put, List.getElem_toArray, List.getElem_cons_zero, List.getElem_cons_succ, List.setIfInBounds_toArray, List.set_cons_zero, List.set_cons_succ]
                  refine wpAnyE_done (by kernel_rfl) ?_ _
                  (obtain ⟨g5, d5, hw5, hs5, _⟩ := hW; have hsw5 := hsB.trans hs5; rw [HPR.out] at hw5; clear hcl hs5 hsB hbs hbt hbu; go_wp2_with fail; go_roundw; (case rel => exact ⟨t + 1, putRd s4 y, g5, d5, by go_num, hlt', hw5, hsw5, hf5, hb5⟩); (case measure => simp [intOf]; omega))
                refine AllReadyE.cons rfl (fun K hK => ?_) AllReadyE.nil
                go_simp
                refine hK.out _ _ ?_ (fun hHeld => ?_)
                · (first | exact (Off.refl _ _).drew | exact Wat.off (by repeat (first | assumption | apply Wat.build | apply Wat.drew)))
                clear hK K
                try simp only [Act.put, List.getElem_toArray, List.getElem_cons_zero, List.getElem_cons_succ, List.setIfInBounds_toArray, List.set_cons_zero, List.set_cons_succ]
                refine wpAnyE_ready (rs := [4]) (by kernel_rfl) (by simp) ?_
                refine AllReadyE.cons rfl (fun K hK => ?_) AllReadyE.nil
                go_simp
                (go_at_call 53; refine texts_w [y.key] rfl (by repeat (first | assumption | apply Wat.build | apply Wat.drew)) (by simp [sts]) hbs ?_; intro w5 hW)
                refine hK.out _ _ ?_ (fun hHeld => ?_)
                · (first | exact (Off.refl _ _).drew | exact Wat.off (by repeat (first | assumption | apply Wat.build | apply Wat.drew)))
                clear hK K
                try simp only [Act.put, List.getElem_toArray, List.getElem_cons_zero, List.getElem_cons_succ, List.setIfInBounds_toArray, List.set_cons_zero, List.set_cons_succ]
                refine wpAnyE_ready (rs := [8]) (by kernel_rfl) (by simp) ?_
                refine AllReadyE.cons rfl (fun K hK => ?_) AllReadyE.nil
                go_simp
                (go_at_call 52; refine flags_w [y.is] rfl (by repeat (first | assumption | apply Wat.build | apply Wat.drew)) (by simp [bos]) hbt ?_; intro w5 hW)
                refine hK.out _ _ ?_ (fun hHeld => ?_)
                · (first | exact (Off.refl _ _).drew | exact Wat.off (by repeat (first | assumption | apply Wat.build | apply Wat.drew)))
                clear hK K
                try simp only [Act.put, List.getElem_toArray, List.getElem_cons_zero, List.getElem_cons_succ, List.setIfInBounds_toArray, List.set_cons_zero, List.set_cons_succ]
                refine wpAnyE_ready (rs := [12]) (by kernel_rfl) (by simp) ?_
                refine AllReadyE.lcons (by kernel_rfl) rfl (fun K hK => ?_) AllReadyE.nil
                go_simp
                (go_at_call 53; refine texts_w [y.val] rfl (by repeat (first | assumption | apply Wat.build | apply Wat.drew)) (by simp [sts]) hbu ?_; intro w5 hW)
                refine hK.out _ _ ?_
                clear hK K
                try simp only [Act.put, List.getElem_toArray, List.getElem_cons_zero, List.getElem_cons_succ, List.setIfInBounds_toArray, List.set_cons_zero, List.set_cons_succ]
                refine wpAnyE_done (by kernel_rfl) ?_ _
                (obtain ⟨g5, d5, hw5, hs5, _⟩ := hW; have hsw5 := hsB.trans hs5; rw [HPR.out] at hw5; clear hcl hs5 hsB hbs hbt hbu; go_wp2_with fail; go_roundw; (case rel => exact ⟨t + 1, putRd s4 y, g5, d5, by go_num, hlt', hw5, hsw5, hf5, hb5⟩); (case measure => simp [intOf]; omega))
              refine AllReadyE.cons rfl (fun K hK => ?_) AllReadyE.nil
              go_simp
              refine hK.out _ _ ?_ (fun hHeld => ?_)
              · (first | exact (Off.refl _ _).drew | exact Wat.off (by repeat (first | assumption | apply Wat.build | apply Wat.drew)))
              clear hK K
              try simp only [Act.put, List.getElem_toArray, List.getElem_cons_zero, List.getElem_cons_succ, List.setIfInBounds_toArray, List.set_cons_zero, List.set_cons_succ]
              refine wpAnyE_ready (rs := [4, 7]) (by kernel_rfl) (by simp) ?_
              refine AllReadyE.cons rfl (fun K hK => ?_) ?_
              · skip
                go_simp
                (go_at_call 53; refine texts_w [y.key] rfl (by repeat (first | assumption | apply Wat.build | apply Wat.drew)) (by simp [sts]) hbs ?_; intro w5 hW)
                refine hK.out _ _ ?_ (fun hHeld => ?_)
                · (first | exact (Off.refl _ _).drew | exact Wat.off (by repeat (first | assumption | apply Wat.build | apply Wat.drew)))
                clear hK K
                try simp only [Act.put, List.getElem_toArray, List.getElem_cons_zero, List.getElem_cons_succ, List.setIfInBounds_toArray, List.set_cons_zero, List.set_cons_succ]
                refine wpAnyE_ready (rs := [7]) (by kernel_rfl) (by simp) ?_
                refine AllReadyE.cons rfl (fun K hK => ?_) AllReadyE.nil
                go_simp
                refine hK.out _ _ ?_ (fun hHeld => ?_)
                · (first | exact (Off.refl _ _).drew | exact Wat.off (by repeat (first | assumption | apply Wat.build | apply Wat.drew)))
                clear hK K
                try simp only [Act.put, List.getElem_toArray, List.getElem_cons_zero, List.getElem_cons_succ, List.setIfInBounds_toArray, List.set_cons_zero, List.set_cons_succ]
                refine wpAnyE_ready (rs := [8]) (by kernel_rfl) (by simp) ?_
                refine AllReadyE.cons rfl (fun K hK => ?_) AllReadyE.nil
                go_simp
                (go_at_call 52; refine flags_w [y.is] rfl (by repeat (first | assumption | apply Wat.build | apply Wat.drew)) (by simp [bos]) hbt ?_; intro w5 hW)
                refine hK.out _ _ ?_ (fun hHeld => ?_)
                · (first | exact (Off.refl _ _).drew | exact Wat.off (by repeat (first | assumption | apply Wat.build | apply Wat.drew)))
                clear hK K
                try simp only [Act.put, List.getElem_toArray, List.getElem_cons_zero, List.getElem_cons_succ, List.setIfInBounds_toArray, List.set_cons_zero, List.set_cons_succ]
                refine wpAnyE_ready (rs := [12]) (by kernel_rfl) (by simp) ?_
                refine AllReadyE.lcons (by kernel_rfl) rfl (fun K hK => ?_) AllReadyE.nil
                go_simp
                (go_at_call 53; refine texts_w [y.val] rfl (by repeat (first | assumption | apply Wat.build | apply Wat.drew)) (by simp [sts]) hbu ?_; intro w5 hW)
                refine hK.out _ _ ?_
                clear hK K
                try simp only [Act.put, List.getElem_toArray, List.getElem_cons_zero, List.getElem_cons_succ, List.setIfInBounds_toArray, List.set_cons_zero, List.set_cons_succ]
                refine wpAnyE_done (by kernel_rfl) ?_ _
                (obtain ⟨g5, d5, hw5, hs5, _⟩ := hW; have hsw5 := hsB.trans hs5; rw [HPR.out] at hw5; clear hcl hs5 hsB hbs hbt hbu; go_wp2_with fail; go_roundw; (case rel => exact ⟨t + 1, putRd s4 y, g5, d5, by go_num, hlt', hw5, hsw5, hf5, hb5⟩); (case measure => simp [intOf]; omega))
              refine AllReadyE.cons rfl (fun K hK => ?_) AllReadyE.nil
              go_simp
              refine hK.out _ _ ?_ (fun hHeld => ?_)
              · (first | exact (Off.refl _ _).drew | exact Wat.off (by repeat (first | assumption | apply Wat.build | apply Wat.drew)))
              clear hK K
              try simp only [Act.put, List.getElem_toArray, List.getElem_cons_zero, List.getElem_cons_succ, List.setIfInBounds_toArray, List.set_cons_zero, List.set_cons_succ]
              refine wpAnyE_ready (rs := [4]) (by kernel_rfl) (by simp) ?_
              refine AllReadyE.cons rfl (fun K hK => ?_) AllReadyE.nil
              go_simp
              (go_at_call 53; refine texts_w [y.key] rfl (by repeat (first | assumption | apply Wat.build | apply Wat.drew)) (by simp [sts]) hbs ?_; intro w5 hW)
              refine hK.out _ _ ?_ (fun hHeld => ?_)
              · (first | exact (Off.refl _ _).drew | exact Wat.off (by repeat (first | assumption | apply Wat.build | apply Wat.drew)))
              clear hK K
              try simp only [Act.put, List.getElem_toArray, List.getElem_cons_zero, List.getElem_cons_succ, List.setIfInBounds_toArray, List.set_cons_zero, List.set_cons_succ]
              refine wpAnyE_ready (rs := [8]) (by kernel_rfl) (by simp) ?_
              refine AllReadyE.cons rfl (fun K hK => ?_) AllReadyE.nil
              go_simp
              (go_at_call 52; refine flags_w [y.is] rfl (by repeat (first | assumption | apply Wat.build | apply Wat.drew)) (by simp [bos]) hbt ?_; intro w5 hW)
              refine hK.out _ _ ?_ (fun hHeld => ?_)
              · (first | exact (Off.refl _ _).drew | exact Wat.off (by repeat (first | assumption | apply Wat.build | apply Wat.drew)))
              clear hK K
              try simp only [Act.put, List.getElem_toArray, List.getElem_cons_zero, List.getElem_cons_succ, List.setIfInBounds_toArray, List.set_cons_zero, List.set_cons_succ]
              refine wpAnyE_ready (rs := [12]) (by kernel_rfl) (by simp) ?_
              refine AllReadyE.lcons (by kernel_rfl) rfl (fun K hK => ?_) AllReadyE.nil
              go_simp
              (go_at_call 53; refine texts_w [y.val] rfl (by repeat (first | assumption | apply Wat.build | apply Wat.drew)) (by simp [sts]) hbu ?_; intro w5 hW)
              refine hK.out _ _ ?_
              clear hK K
              try simp only [Act.put, List.getElem_toArray, List.getElem_cons_zero, List.getElem_cons_succ, List.setIfInBounds_toArray, List.set_cons_zero, List.set_cons_succ]
              refine wpAnyE_done (by kernel_rfl) ?_ _
              (obtain ⟨g5, d5, hw5, hs5, _⟩ := hW; have hsw5 := hsB.trans hs5; rw [HPR.out] at hw5; clear hcl hs5 hsB hbs hbt hbu; go_wp2_with fail; go_roundw; (case rel => exact ⟨t + 1, putRd s4 y, g5, d5, by go_num, hlt', hw5, hsw5, hf5, hb5⟩); (case measure => simp [intOf]; omega))
            refine AllReadyE.cons rfl (fun K hK => ?_) ?_
            · skip
              go_simp
              refine hK.out _ _ ?_ (fun hHeld => ?_)
              · (first | exact (Off.refl _ _).drew | exact Wat.off (by repeat (first | assumption | apply Wat.build | apply Wat.drew)))
              clear hK K
              try simp only [Act.put, List.getElem_toArray, List.getElem_cons_zero, List.getElem_cons_succ, List.setIfInBounds_toArray, List.set_cons_zero, List.set_cons_succ]
              refine wpAnyE_ready (rs := [3, 11]) (by kernel_rfl) (by simp) ?_
              refine AllReadyE.cons rfl (fun K hK => ?_) ?_
              · skip
                go_simp
                refine hK.out _ _ ?_ (fun hHeld => ?_)
                · (first | exact (Off.refl _ _).drew | exact Wat.off (by repeat (first | assumption | apply Wat.build | apply Wat.drew)))
                clear hK K
                try simp only [Act.put, List.getElem_toArray, List.getElem_cons_zero, List.getElem_cons_succ, List.setIfInBounds_toArray, List.set_cons_zero, List.set_cons_succ]
                refine wpAnyE_ready (rs := [4, 11]) (by kernel_rfl) (by simp) ?_
                refine AllReadyE.cons rfl (fun K hK => ?_) ?_
                · skip
                  go_simp
                  (go_at_call 53; refine texts_w [y.key] rfl (by repeat (first | assumption | apply Wat.build | apply Wat.drew)) (by simp [sts]) hbs ?_; intro w5 hW)
                  refine hK.out _ _ ?_ (fun hHeld => ?_)
                  · (first | exact (Off.refl _ _).drew | exact Wat.off (by repeat (first | assumption | apply Wat.build | apply Wat.drew)))
                  clear hK K
                  try simp only [Act.put, List.getElem_toArray, List.getElem_cons_zero, List.getElem_cons_succ, List.setIfInBounds_toArray, List.set_cons_zero, List.set_cons_succ]
                  refine wpAnyE_ready (rs := [8, 11]) (by kernel_rfl) (by simp) ?_
                  refine AllReadyE.cons rfl (fun K hK => ?_) ?_
                  · skip
                    go_simp
                    (go_at_call 52; refine flags_w [y.is] rfl (by repeat (first | assumption | apply Wat.build | apply Wat.drew)) (by simp [bos]) hbt ?_; intro w5 hW)
                    refine hK.out _ _ ?_ (fun hHeld => ?_)
                    · (first | exact (Off.refl _ _).drew | exact Wat.off (by repeat (first | assumption | apply Wat.build | apply Wat.drew)))
                    clear hK K
                    try simp only [Act.put, List.getElem_toArray, List.getElem_cons_zero, List.getElem_cons_succ, List.setIfInBounds_toArray, List.set_cons_zero, List.set_cons_succ]
                    refine wpAnyE_ready (rs := [11]) (by kernel_rfl) (by simp) ?_
                    refine AllReadyE.cons rfl (fun K hK => ?_) AllReadyE.nil
                    go_simp
                    refine hK.out _ _ ?_ (fun hHeld => ?_)
                    · (first | exact (Off.refl _ _).drew | exact Wat.off (by repeat (first | assumption | apply Wat.build | apply Wat.drew)))
                    clear hK K
                    try simp only [Act.put, List.getElem_toArray, List.getElem_cons_zero, List.getElem_cons_succ, List.setIfInBounds_toArray, List.set_cons_zero, List.set_cons_succ]
                    refine wpAnyE_ready (rs := [12]) (by kernel_rfl) (by simp) ?_
                    refine AllReadyE.lcons (by kernel_rfl) rfl (fun K hK => ?_) AllReadyE.nil
                    go_simp
                    (go_at_call 53; refine texts_w [y.val] rfl (by repeat (first | assumption | apply Wat.build | apply Wat.drew)) (by simp [sts]) hbu ?_; intro w5 hW)
                    refine hK.out _ _ ?_
                    clear hK K
                    try simp only [Act.put, List.getElem_toArray, List.getElem_cons_zero, List.getElem_cons_succ, List.setIfInBounds_toArray, List.set_cons_zero, List.set_cons_succ]
                    refine wpAnyE_done (by kernel_rfl) ?_ _
                    (obtain ⟨g5, d5, hw5, hs5, _⟩ := hW; have hsw5 := hsB.trans hs5; rw [HPR.out] at hw5; clear hcl hs5 hsB hbs hbt hbu; go_wp2_with fail; go_roundw; (case rel => exact ⟨t + 1, putRd s4 y, g5, d5, by go_num, hlt', hw5, hsw5, hf5, hb5⟩); (case measure => simp [intOf]; omega))
                  refine AllReadyE.cons rfl (fun K hK => ?_) AllReadyE.nil
                  go_simp
                  refine hK.out _ _ ?_ (fun hHeld => ?_)
                  · (first | exact (Off.refl _ _).drew | exact Wat.off (by repeat (first | assumption | apply Wat.build | apply Wat.drew)))
                  clear hK K
                  try simp only [Act.put, List.getElem_toArray, List.getElem_cons_zero, List.getElem_cons_succ, List.setIfInBounds_toArray, List.set_cons_zero, List.set_cons_succ]
                  refine wpAnyE_ready (rs := [8]) (by kernel_rfl) (by simp) ?_
                  refine AllReadyE.cons rfl (fun K hK => ?_) AllReadyE.nil
                  go_simp
                  (go_at_call 52; refine flags_w [y.is] rfl (by repeat (first | assumption | apply Wat.build | apply Wat.drew)) (by simp [bos]) hbt ?_; intro w5 hW)
                  refine hK.out _ _ ?_ (fun hHeld => ?_)
                  · (first | exact (Off.refl _ _).drew | exact Wat.off (by repeat (first | assumption | apply Wat.build | apply Wat.drew)))
                  clear hK K
                  try simp only [Act.put, List.getElem_toArray, List.getElem_cons_zero, List.getElem_cons_succ, List.setIfInBounds_toArray, List.set_cons_zero, List.set_cons_succ]
                  refine wpAnyE_ready (rs := [12]) (by kernel_rfl) (by simp) ?_
                  refine AllReadyE.lcons (by kernel_rfl) rfl (fun K hK => ?_) AllReadyE.nil
                  go_simp
                  (go_at_call 53; refine texts_w [y.val] rfl (by repeat (first | assumption | apply Wat.build | apply Wat.drew)) (by simp [sts]) hbu ?_; intro w5 hW)
                  refine hK.out _ _ ?_
                  clear hK K
                  try simp only [Act.put, List.getElem_toArray, List.getElem_cons_zero, List.getElem_cons_succ, List.setIfInBounds_toArray, List.set_cons_zero, List.set_cons_succ]
                  refine wpAnyE_done (by kernel_rfl) ?_ _
                  (obtain ⟨g5, d5, hw5, hs5, _⟩ := hW; have hsw5 := hsB.trans hs5; rw [HPR.out] at hw5; clear hcl hs5 hsB hbs hbt hbu; go_wp2_with fail; go_roundw; (case rel => exact ⟨t + 1, putRd s4 y, g5, d5, by go_num, hlt', hw5, hsw5, hf5, hb5⟩); (case measure => simp [intOf]; omega))
                refine AllReadyE.cons rfl (fun K hK => ?_) AllReadyE.nil
                go_simp
                refine hK.out _ _ ?_ (fun hHeld => ?_)
                · (first | exact (Off.refl _ _).drew | exact Wat.off (by repeat (first | assumption | apply Wat.build | apply Wat.drew)))
                clear hK K
                try simp only [Act.put, List.getElem_toArray, List.getElem_cons_zero, List.getElem_cons_succ, List.setIfInBounds_toArray, List.set_cons_zero, List.set_cons_succ]
                refine wpAnyE_ready (rs := [4]) (by kernel_rfl) (by simp) ?_
                refine AllReadyE.cons rfl (fun K hK => ?_) AllReadyE.nil
                go_simp
                (go_at_call 53; refine texts_w [y.key] rfl (by repeat (first | assumption | apply Wat.build | apply Wat.drew)) (by simp [sts]) hbs ?_; intro w5 hW)
                refine hK.out _ _ ?_ (fun hHeld => ?_)
                · (first | exact (Off.refl _ _).drew | exact Wat.off (by repeat (first | assumption | apply Wat.build | apply Wat.drew)))
                clear hK K
                try simp only [Act.put, List.getElem_toArray, List.getElem_cons_zero, List.getElem_cons_succ, List.setIfInBounds_toArray, List.set_cons_zero, List.set_cons_succ]
                refine wpAnyE_ready (rs := [8]) (by kernel_rfl) (by simp) ?_
                refine AllReadyE.cons rfl (fun K hK => ?_) AllReadyE.nil
                go_simp
                (go_at_call 52; refine flags_w [y.is] rfl (by repeat (first | assumption | apply Wat.build | apply Wat.drew)) (by simp [bos]) hbt ?_; intro w5 hW)
                refine hK.out _ _ ?_ (fun hHeld => ?_)
                · (first | exact (Off.refl _ _).drew | exact Wat.off (by repeat (first | assumption | apply Wat.build | apply Wat.drew)))
                clear hK K
                try simp only [Act.put, List.getElem_toArray, List.getElem_cons_zero, List.getElem_cons_succ, List.setIfInBounds_toArray, List.set_cons_zero, List.set_cons_succ]
                refine wpAnyE_ready (rs := [12]) (by kernel_rfl) (by simp) ?_
                refine AllReadyE.lcons (by kernel_rfl) rfl (fun K hK => ?_) AllReadyE.nil
                go_simp
                (go_at_call 53; refine texts_w [y.val] rfl (by repeat (first | assumption | apply Wat.build | apply Wat.drew)) (by simp [sts]) hbu ?_; intro w5 hW)
                refine hK.out _ _ ?_
                clear hK K
                try simp only [Act.put, List.getElem_toArray, List.getElem_cons_zero, List.getElem_cons_succ, List.setIfInBounds_toArray, List.set_cons_zero, List.set_cons_succ]
                refine wpAnyE_done (by kernel_rfl) ?_ _
                (obtain ⟨g5, d5, hw5, hs5, _⟩ := hW; have hsw5 := hsB.trans hs5; rw [HPR.out] at hw5; clear hcl hs5 hsB hbs hbt hbu; go_wp2_with fail; go_roundw; (case rel => exact ⟨t + 1, putRd s4 y, g5, d5, by go_num, hlt', hw5, hsw5, hf5, hb5⟩); (case measure => simp [intOf]; omega))
              refine AllReadyE.cons rfl (fun K hK => ?_) AllReadyE.nil
              go_simp
              refine hK.out _ _ ?_ (fun hHeld => ?_)
              · (first | exact (Off.refl _ _).drew | exact Wat.off (by repeat (first | assumption | apply Wat.build | apply Wat.drew)))
              clear hK K
              try simp only [Act.put, List.getElem_toArray, List.getElem_cons_zero, List.getElem_cons_succ, List.setIfInBounds_toArray, List.set_cons_zero, List.set_cons_succ]
              refine wpAnyE_ready (rs := [3]) (by kernel_rfl) (by simp) ?_
              refine AllReadyE.cons rfl (fun K hK => ?_) AllReadyE.nil
              go_simp
              refine hK.out _ _ ?_ (fun hHeld => ?_)
              · (first | exact (Off.refl _ _).drew | exact Wat.off (by repeat (first | assumption | apply Wat.build | apply Wat.drew)))
              clear hK K
              try simp only [Act.put, List.getElem_toArray, List.getElem_cons_zero, List.getElem_cons_succ, List.setIfInBounds_toArray, List.set_cons_zero, List.set_cons_succ]
              refine wpAnyE_ready (rs := [4]) (by kernel_rfl) (by simp) ?_
              refine AllReadyE.cons rfl (fun K hK => ?_) AllReadyE.nil
              go_simp
              (go_at_call 53; refine texts_w [y.key] rfl (by repeat (first | assumption | apply Wat.build | apply Wat.drew)) (by simp [sts]) hbs ?_; intro w5 hW)
              refine hK.out _ _ ?_ (fun hHeld => ?_)
              · (first | exact (Off.refl _ _).drew | exact Wat.off (by repeat (first | assumption | apply Wat.build | apply Wat.drew)))
              clear hK K
              try simp only [Act.put, List.getElem_toArray, List.getElem_cons_zero, List.getElem_cons_succ, List.setIfInBounds_toArray, List.set_cons_zero, List.set_cons_succ]
              refine wpAnyE_ready (rs := [8]) (by kernel_rfl) (by simp) ?_
              refine AllReadyE.cons rfl (fun K hK => ?_) AllReadyE.nil
              go_simp
              (go_at_call 52; refine flags_w [y.is] rfl (by repeat (first | assumption | apply Wat.build | apply Wat.drew)) (by simp [bos]) hbt ?_; intro w5 hW)
              refine hK.out _ _ ?_ (fun hHeld => ?_)
              · (first | exact (Off.refl _ _).drew | exact Wat.off (by repeat (first | assumption | apply Wat.build | apply Wat.drew)))
              clear hK K
              try simp only [Act.put, List.getElem_toArray, List.getElem_cons_zero, List.getElem_cons_succ, List.setIfInBounds_toArray, List.set_cons_zero, List.set_cons_succ]
              refine wpAnyE_ready (rs := [12]) (by kernel_rfl) (by simp) ?_
              refine AllReadyE.lcons (by kernel_rfl) rfl (fun K hK => ?_) AllReadyE.nil
              go_simp
              (go_at_call 53; refine texts_w [y.val] rfl (by repeat (first | assumption | apply Wat.build | apply Wat.drew)) (by simp [sts]) hbu ?_; intro w5 hW)
              refine hK.out _ _ ?_
              clear hK K
              try simp only [Act.put, List.getElem_toArray, List.getElem_cons_zero, List.getElem_cons_succ, List.setIfInBounds_toArray, List.set_cons_zero, List.set_cons_succ]
              refine wpAnyE_done (by kernel_rfl) ?_ _
              (obtain ⟨g5, d5, hw5, hs5, _⟩ := hW; have hsw5 := hsB.trans hs5; rw [HPR.out] at hw5; clear hcl hs5 hsB hbs hbt hbu; go_wp2_with fail; go_roundw; (case rel => exact ⟨t + 1, putRd s4 y, g5, d5, by go_num, hlt', hw5, hsw5, hf5, hb5⟩); (case measure => simp [intOf]; omega))
            refine AllReadyE.cons rfl (fun K hK => ?_) AllReadyE.nil
            go_simp
            refine hK.out _ _ ?_ (fun hHeld => ?_)
            · (first | exact (Off.refl _ _).drew | exact Wat.off (by repeat (first | assumption | apply Wat.build | apply Wat.drew)))
            clear hK K
            try simp only [Act.put, List.getElem_toArray, List.getElem_cons_zero, List.getElem_cons_succ, List.setIfInBounds_toArray, List.set_cons_zero, List.set_cons_succ]
            refine wpAnyE_ready (rs := [3, 7]) (by kernel_rfl) (by simp) ?_
            refine AllReadyE.cons rfl (fun K hK => ?_) ?_
            · skip
              go_simp
              refine hK.out _ _ ?_ (fun hHeld => ?_)
              · (first | exact (Off.refl _ _).drew | exact Wat.off (by repeat (first | assumption | apply Wat.build | apply Wat.drew)))
              clear hK K
              try simp only [Act.put, List.getElem_toArray, List.getElem_cons_zero, List.getElem_cons_succ, List.setIfInBounds_toArray, List.set_cons_zero, List.set_cons_succ]
              refine wpAnyE_ready (rs := [4, 7]) (by kernel_rfl) (by simp) ?_
              refine AllReadyE.cons rfl (fun K hK => ?_) ?_
              · skip
                go_simp
                (go_at_call 53; refine texts_w [y.key] rfl (by repeat (first | assumption | apply Wat.build | apply Wat.drew)) (by simp [sts]) hbs ?_; intro w5 hW)
                refine hK.out _ _ ?_ (fun hHeld => ?_)
                · (first | exact (Off.refl _ _).drew | exact Wat.off (by repeat (first | assumption | apply Wat.build | apply Wat.drew)))
                clear hK K
                try simp only [Act.put, List.getElem_toArray, List.getElem_cons_zero, List.getElem_cons_succ, List.setIfInBounds_toArray, List.set_cons_zero, List.set_cons_succ]
                refine wpAnyE_ready (rs := [7]) (by kernel_rfl) (by simp) ?_
                refine AllReadyE.cons rfl (fun K hK => ?_) AllReadyE.nil
                go_simp
                refine hK.out _ _ ?_ (fun hHeld => ?_)
                · (first | exact (Off.refl _ _).drew | exact Wat.off (by repeat (first | assumption | apply Wat.build | apply Wat.drew)))
                clear hK K
                try simp only [Act.put, List.getElem_toArray, List.getElem_cons_zero, List.getElem_cons_succ, List.setIfInBounds_toArray, List.set_cons_zero, List.set_cons_succ]
                refine wpAnyE_ready (rs := [8]) (by kernel_rfl) (by simp) ?_
                refine AllReadyE.cons rfl (fun K hK => ?_) AllReadyE.nil
                go_simp
                (go_at_call 52; refine flags_w [y.is] rfl (by repeat (first | assumption | apply Wat.build | apply Wat.drew)) (by simp [bos]) hbt ?_; intro w5 hW)
                refine hK.out _ _ ?_ (fun hHeld => ?_)
                · (first | exact (Off.refl _ _).drew | exact Wat.off (by repeat (first | assumption | apply Wat.build | apply Wat.drew)))
                clear hK K
                try simp only [Act.put, List.getElem_toArray, List.getElem_cons_zero, List.getElem_cons_succ, List.setIfInBounds_toArray, List.set_cons_zero, List.set_cons_succ]
                refine wpAnyE_ready (rs := [12]) (by kernel_rfl) (by simp) ?_
                refine AllReadyE.lcons (by kernel_rfl) rfl (fun K hK => ?_) AllReadyE.nil
                go_simp
                (go_at_call 53; refine texts_w [y.val] rfl (by repeat (first | assumption | apply Wat.build | apply Wat.drew)) (by simp [sts]) hbu ?_; intro w5 hW)
                refine hK.out _ _ ?_
                clear hK K
                try simp only [Act.put, List.getElem_toArray, List.getElem_cons_zero, List.getElem_cons_succ, List.setIfInBounds_toArray, List.set_cons_zero, List.set_cons_succ]
                refine wpAnyE_done (by kernel_rfl) ?_ _
                (obtain ⟨g5, d5, hw5, hs5, _⟩ := hW; have hsw5 := hsB.trans hs5; rw [HPR.out] at hw5; clear hcl hs5 hsB hbs hbt hbu; go_wp2_with fail; go_roundw; (case rel => exact ⟨t + 1, putRd s4 y, g5, d5, by go_num, hlt', hw5, hsw5, hf5, hb5⟩); (case measure => simp [intOf]; omega))
              refine AllReadyE.cons rfl (fun K hK => ?_) AllReadyE.nil
              go_simp
              refine hK.out _ _ ?_ (fun hHeld => ?_)
              · (first | exact (Off.refl _ _).drew | exact Wat.off (by repeat (first | assumption | apply Wat.build | apply Wat.drew)))
              clear hK K
              try simp only [Act.put, List.getElem_toArray, List.getElem_cons_zero, List.getElem_cons_succ, List.setIfInBounds_toArray, List.set_cons_zero, List.set_cons_succ]
              refine wpAnyE_ready (rs := [4]) (by kernel_rfl) (by simp) ?_
              refine AllReadyE.cons rfl (fun K hK => ?_) AllReadyE.nil
              go_simp
              (go_at_call 53; refine texts_w [y.key] rfl (by repeat (first | assumption | apply Wat.build | apply Wat.drew)) (by simp [sts]) hbs ?_; intro w5 hW)
              refine hK.out _ _ ?_ (fun hHeld => ?_)
              · (first | exact (Off.refl _ _).drew | exact Wat.off (by repeat (first | assumption | apply Wat.build | apply Wat.drew)))
              clear hK K
              try simp only [Act.put, List.getElem_toArray, List.getElem_cons_zero, List.getElem_cons_succ, List.setIfInBounds_toArray, List.set_cons_zero, List.set_cons_succ]
              refine wpAnyE_ready (rs := [8]) (by kernel_rfl) (by simp) ?_
              refine AllReadyE.cons rfl (fun K hK => ?_) AllReadyE.nil
              go_simp
              (go_at_call 52; refine flags_w [y.is] rfl (by repeat (first | assumption | apply Wat.build | apply Wat.drew)) (by simp [bos]) hbt ?_; intro w5 hW)
              refine hK.out _ _ ?_ (fun hHeld => ?_)
              · (first | exact (Off.refl _ _).drew | exact Wat.off (by repeat (first | assumption | apply Wat.build | apply Wat.drew)))
              clear hK K
              try simp only [Act.put, List.getElem_toArray, List.getElem_cons_zero, List.getElem_cons_succ, List.setIfInBounds_toArray, List.set_cons_zero, List.set_cons_succ]
              refine wpAnyE_ready (rs := [12]) (by kernel_rfl) (by simp) ?_
              refine AllReadyE.lcons (by kernel_rfl) rfl (fun K hK => ?_) AllReadyE.nil
              go_simp
              (go_at_call 53; refine texts_w [y.val] rfl (by repeat (first | assumption | apply Wat.build | apply Wat.drew)) (by simp [sts]) hbu ?_; intro w5 hW)
              refine hK.out _ _ ?_
              clear hK K
              try simp only [Act.put, List.getElem_toArray, List.getElem_cons_zero, List.getElem_cons_succ, List.setIfInBounds_toArray, List.set_cons_zero, List.set_cons_succ]
              refine wpAnyE_done (by kernel_rfl) ?_ _
              (obtain ⟨g5, d5, hw5, hs5, _⟩ := hW; have hsw5 := hsB.trans hs5; rw [HPR.out] at hw5; clear hcl hs5 hsB hbs hbt hbu; go_wp2_with fail; go_roundw; (case rel => exact ⟨t + 1, putRd s4 y, g5, d5, by go_num, hlt', hw5, hsw5, hf5, hb5⟩); (case measure => simp [intOf]; omega))
            refine AllReadyE.cons rfl (fun K hK => ?_) AllReadyE.nil
            go_simp
            refine hK.out _ _ ?_ (fun hHeld => ?_)
            · (first | exact (Off.refl _ _).drew | exact Wat.off (by repeat (first | assumption | apply Wat.build | apply Wat.drew)))
            clear hK K
            try simp only [Act.put, List.getElem_toArray, List.getElem_cons_zero, List.getElem_cons_succ, List.setIfInBounds_toArray, List.set_cons_zero, List.set_cons_succ]
            refine wpAnyE_ready (rs := [3]) (by kernel_rfl) (by simp) ?_
            refine AllReadyE.cons rfl (fun K hK => ?_) AllReadyE.nil
            go_simp
            refine hK.out _ _ ?_ (fun hHeld => ?_)
            · (first | exact (Off.refl _ _).drew | exact Wat.off (by repeat (first | assumption | apply Wat.build | apply Wat.drew)))
            clear hK K
            try simp only [Act.put, List.getElem_toArray, List.getElem_cons_zero, List.getElem_cons_succ, List.setIfInBounds_toArray, List.set_cons_zero, List.set_cons_succ]
            refine wpAnyE_ready (rs := [4]) (by kernel_rfl) (by simp) ?_
            refine AllReadyE.cons rfl (fun K hK => ?_) AllReadyE.nil
            go_simp
            (go_at_call 53; refine texts_w [y.key] rfl (by repeat (first | assumption | apply Wat.build | apply Wat.drew)) (by simp [sts]) hbs ?_; intro w5 hW)
            refine hK.out _ _ ?_ (fun hHeld => ?_)
            · (first | exact (Off.refl _ _).drew | exact Wat.off (by repeat (first | assumption | apply Wat.build | apply Wat.drew)))
            clear hK K
            try simp only [Act.put, List.getElem_toArray, List.getElem_cons_zero, List.getElem_cons_succ, List.setIfInBounds_toArray, List.set_cons_zero, List.set_cons_succ]
            refine wpAnyE_ready (rs := [8]) (by kernel_rfl) (by simp) ?_
            refine AllReadyE.cons rfl (fun K hK => ?_) AllReadyE.nil
            go_simp
            (go_at_call 52; refine flags_w [y.is] rfl (by repeat (first | assumption | apply Wat.build | apply Wat.drew)) (by simp [bos]) hbt ?_; intro w5 hW)
            refine hK.out _ _ ?_ (fun hHeld => ?_)
            · (first | exact (Off.refl _ _).drew | exact Wat.off (by repeat (first | assumption | apply Wat.build | apply Wat.drew)))
            clear hK K
            try simp only [Act.put, List.getElem_toArray, List.getElem_cons_zero, List.getElem_cons_succ, List.setIfInBounds_toArray, List.set_cons_zero, List.set_cons_succ]
            refine wpAnyE_ready (rs := [12]) (by kernel_rfl) (by simp) ?_
            refine AllReadyE.lcons (by kernel_rfl) rfl (fun K hK => ?_) AllReadyE.nil
            go_simp
            (go_at_call 53; refine texts_w [y.val] rfl (by repeat (first | assumption | apply Wat.build | apply Wat.drew)) (by simp [sts]) hbu ?_; intro w5 hW)
            refine hK.out _ _ ?_
            clear hK K
            try simp only [Act.put, List.getElem_toArray, List.getElem_cons_zero, List.getElem_cons_succ, List.setIfInBounds_toArray, List.set_cons_zero, List.set_cons_succ]
            refine wpAnyE_done (by kernel_rfl) ?_ _
            (obtain ⟨g5, d5, hw5, hs5, _⟩ := hW; have hsw5 := hsB.trans hs5; rw [HPR.out] at hw5; clear hcl hs5 hsB hbs hbt hbu; go_wp2_with fail; go_roundw; (case rel => exact ⟨t + 1, putRd s4 y, g5, d5, by go_num, hlt', hw5, hsw5, hf5, hb5⟩); (case measure => simp [intOf]; omega))
          · obtain rfl : t = me := by omega
            have h9 := hf4.out
            rw [List.drop_of_length_le (by have := hme.out; omega)] at h9
            have h9 : s4 = e.x.reads.foldl putRd s3 := h9
            have hf6 : Hid (((l.map Ve.x).drop (j + 1)).foldl putVd s4 = putBk s (l.map Ve.x)) := by show _ = _; rw [h9, hL2.out]; exact hf3.out
            have hb6 : Hid (s4.2.length + costVds ((l.map Ve.x).drop (j + 1)) ≤ 140737488355328) := by
              show _ ≤ _
              have := hb4.out
              rw [hL2.out, hC2.out]; omega
            clear h9 hf4 hb4 hf3
            go_wp2_with fail
            go_roundw
            case rel => exact ⟨j + 1, s4, g4, d4, by go_num, by omega, hw4, hs4, hf6, hb6⟩
            case measure => simp [intOf]; omega
    · obtain rfl : j = l.length := by omega
      have hfin := hf2.out
      rw [List.drop_of_length_le (by simp)] at hfin
      have hfin : s2 = putBk s (l.map Ve.x) := hfin
      subst hfin
      have HF := HK.out wr g2 d2 hw2 hs2
      clear HK
      go_wp2_with fail
      exact HF
end Go.Proofs.Ytahpfcfecghpmaa
