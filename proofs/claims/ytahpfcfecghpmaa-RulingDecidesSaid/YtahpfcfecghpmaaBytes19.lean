/- A book of verdicts, by the document, as bytes. -/
import Derived.Test.YtahpfcfecghpmaaRefB2
import Derived.Test.YtahpfcfecghpmaaOrd
import Derived.Test.YtahpfcfecghpmaaBat
import Derived.Test.YtahpfcfecghpmaaPut4
import Derived.Test.YtahpfcfecghpmaaPutPure
import Derived.Deep.CutRange
import Derived.KernelRfl
namespace Go.Proofs.Ytahpfcfecghpmaa
open Go.RowKit
set_option linter.unusedSimpArgs false

set_option maxRecDepth 100000 in
theorem rnumbers_c (a : Option Addr) (m c : Nat) (ns : List Int) (hm : ns.length = m) (hok : ns.all numOk = true) (w : World) (ha : Sl w a (ins ns)) (bd : m ≤ 1000) (R : Ending → World → Prop)
    (k : ∀ w' g n d, BOut w w' g n d (encs ns) → R (.returned (.slice g n d)) w') :
    Calls Try.prog 56 #[.slice a m c] w R := by
  have HK := Lib.hid k; clear k
  have HE : Hid ((outOf (put4 ns [] [] [])).1 = encs ns) := by
    show _ = _
    rw [put4_ok hok (by simp) (by simp)]
    simp [outOf, wrB]
  go_enter Try.func56, Try.ntmps56
  go_wp2_with (go_at_call 78; go_must (refine refWrite_n a none none none m 0 0 0 c 0 0 0 ns [] [] [] _ hm rfl rfl rfl ha (Sl.nil _ _) (Sl.nil _ _) (Sl.nil _ _) (by simp [RowsOk]) (by simp [lenOf]; omega) _ ?_))
  intro w1 g1 n1 d1 h1
  have h2 : BOut w w1 g1 n1 d1 (encs ns) := by
    have h3 : BOut w w1 g1 n1 d1 (outOf (put4 ns [] [] [])).1 := h1
    rwa [HE.out] at h3
  have HF := HK.out w1 g1 n1 d1 h2
  clear HK h1 h2
  go_wp2_with fail
  exact HF
set_option maxRecDepth 100000 in
theorem rtext_c (s : ByteArray) (w : World) (bd : s.size ≤ 1000000000) (R : Ending → World → Prop)
    (k : ∀ w' g n d, BOut w w' g n d (rowEnc s.data.toList) → R (.returned (.slice g n d)) w') :
    Calls Try.prog 58 #[.string s] w R := by
  have HK := Lib.hid k; clear k
  have kc := fun (w : World) (s : ByteArray) => run_bytes_of_string (P := Try.prog) w 9 57 5 s Try.underlying9 Try.underlying57 Try.underlying5
  have hxs : Hid (s.data.toList.length = s.size) := by show _ = _; simp
  go_enter Try.func58, Try.ntmps58
  go_wp2_with fail
  generalize hC : grownCap w s.size 0 5 = C at *
  clear hC
  have hoff : Off Old w (w.alloc (Obj.cells (bytesRow s C) 5 ((bytesRow s C).size, (bytesRow s C).size + 1))).drew := ((Off.refl _ _).alloc _).drew
  have hr : Sl (w.alloc (Obj.cells (bytesRow s C) 5 ((bytesRow s C).size, (bytesRow s C).size + 1))).drew (some ⟨w.heap.size, 0, none⟩) (bys s.data.toList) := (Sl.string w s C 5 _).drew
  refine refRow_c (some ⟨w.heap.size, 0, none⟩) s.size C s.data.toList _ hxs.out hr bd _ ?_
  intro w1 g1 n1 d1 h1
  have HF := HK.out w1 g1 n1 d1 (h1.pre hoff)
  clear HK h1 hr hoff kc
  go_wp2_with fail
  exact HF
def encRd (r : Rdx) : List UInt8 := rowEnc r.key.data.toList ++ [flagB r.is] ++ rowEnc r.val.data.toList
def encVd (x : Vd) : List UInt8 := encs [x.c, x.n, x.at_] ++ [flagB x.commit] ++ encs [(x.reads.length : Int)] ++ x.reads.flatMap encRd
def encBk (l : List Vd) : List UInt8 := encs [(l.length : Int)] ++ l.flatMap encVd
def numsOk (x : Vd) : Prop := numOk x.c = true ∧ numOk x.n = true ∧ numOk x.at_ = true
theorem encs_le (ns : List Int) (h : ns.all numOk = true) : (encs ns).length ≤ 9 * ns.length := encs_len ns (by simpa using h)
theorem numOk_nat {n : Nat} (h : n ≤ 1000000000) : numOk (n : Int) = true := by simp [numOk]; omega
set_option maxRecDepth 100000 in
set_option maxHeartbeats 4000000 in
theorem rbBytes_c (p : Nat) (g : Option Addr) (d : Nat) (l : List Ve) (w : World) (h : RBk w p g d l) (hok : ∀ e ∈ l, numsOk e.x) (bd : 9 + costVds (l.map Ve.x) ≤ 1000000000) (hln : l.length ≤ 1000000) (R : Ending → World → Prop)
    (k : ∀ w' g' n' d', BOut w w' g' n' d' (encBk (l.map Ve.x)) → R (.returned (.slice g' n' d')) w') :
    Calls Try.prog 28 #[.pointer (some ⟨p, 0, none⟩)] w R := by
  have HK := Lib.hid k; clear k
  have HBD := Lib.hid bd; clear bd
  have HOK := Lib.hid hok; clear hok
  obtain ⟨i0, hi, hz0, hz1, hz2⟩ := info_parts u8info
  have c0 := h.blk.cell (i := 0) rfl
  have hnl : [(l.length : Int)].all numOk = true := by simp [numOk_nat (n := l.length) (by omega)]
  go_enter Try.func28, Try.ntmps28
  go_wp2_with (go_at_call 56; go_must (refine rnumbers_c _ 1 1 [(l.length : Int)] rfl hnl _ (Sl.new w (ins [(l.length : Int)]) _) (by omega) _ ?_))
  intro w1 g1 n1 d1 h1
  have h1 := h1.pre ((Off.refl Old w).alloc _)
  obtain ⟨L1, hL1⟩ : ∃ L1, Hid (encs [(l.length : Int)] = L1) := ⟨_, rfl⟩
  have hl1 := encs_le _ hnl
  rw [hL1.out] at h1 hl1
  have hn1 : n1 ≤ 9 := by have := h1.len; simp at hl1; omega
  have hf1 : Hid (L1 ++ (l.map Ve.x).flatMap encVd = encBk (l.map Ve.x)) := by show _ = _; rw [encBk, List.length_map, hL1.out]
  have hb1 : Hid (n1 + costVds (l.map Ve.x) ≤ 1000000000) := by show _ ≤ _; have := HBD.out; omega
  clear hl1 hnl
  go_wp2_with fail
  go_loopw [3, 4] (fun v i wr => ∃ (j n2 : Nat) (g2 : Option Addr) (d2 : Nat) (L2 : List UInt8), i = .int .i64 j ∧ j ≤ l.length ∧ v = .slice g2 n2 d2 ∧ BOut w wr g2 n2 d2 L2 ∧ Hid (L2 ++ ((l.map Ve.x).drop j).flatMap encVd = encBk (l.map Ve.x)) ∧ Hid (n2 + costVds ((l.map Ve.x).drop j) ≤ 1000000000)) (fun _ i _ => l.length - (intOf i).toNat)
  case atStart => exact ⟨0, n1, g1, d1, L1, rfl, Nat.zero_le _, rfl, h1, hf1, hb1⟩
  case round =>
    clear c0 h1 hf1 hb1 hL1 hn1
    obtain ⟨j, n2, g2, d2, L2, rfl, hj, rfl, hw2, hf2, hb2⟩ := hrel
    have hP := h.old hw2.off
    have c0 := hP.blk.cell (i := 0) rfl
    by_cases hlt : j < l.length
    · obtain ⟨e, he⟩ := at_of_lt hlt
      obtain ⟨b, o, ix, Q⟩ := ((own_sl2 hP.own).2.2).ix_rve d
      have hix := ix j hlt
      obtain ⟨x0, x1, x2, x3, x4⟩ := Q.out j e he.out
      obtain ⟨me, hme⟩ : ∃ me, Hid (e.x.reads.length = me) := ⟨_, rfl⟩
      rw [hme.out] at x4
      have hme6 : Hid (me ≤ 1000000000) := by show _ ≤ _; rw [← hme.out]; exact (hP.vok e (List.mem_of_getElem? he.out)).len
      have hdr : (l.map Ve.x).drop j = e.x :: (l.map Ve.x).drop (j + 1) := by
        have h9 := he.out
        rw [List.drop_eq_getElem_cons (by simpa using hlt)]
        congr 1
        rw [List.getElem_map]
        congr 1
        exact (List.getElem?_eq_some_iff.1 h9).2
      rw [hdr] at hf2 hb2
      obtain ⟨M2, hM2⟩ : ∃ M2, Hid ((l.map Ve.x).drop (j + 1) = M2) := ⟨_, rfl⟩
      rw [hM2.out] at hf2 hb2
      clear hdr
      obtain ⟨C2, hC2⟩ : ∃ C2, Hid (costVds M2 = C2) := ⟨_, rfl⟩
      have hbC : Hid (n2 + 37 + (costRds e.x.reads + C2) ≤ 1000000000) := by
        show _ ≤ _
        have := hb2.out
        rw [← hC2.out]
        simp only [costVds, costVd, List.map_cons, List.sum_cons] at this ⊢
        omega
      obtain ⟨hk1, hk2, hk3⟩ := HOK.out e (List.mem_of_getElem? he.out)
      have hok3 : [e.x.c, e.x.n, e.x.at_].all numOk = true := by simp [hk1, hk2, hk3]
      have hokm : [(me : Int)].all numOk = true := by simp [numOk_nat hme6.out]
      obtain ⟨E1, hE1⟩ : ∃ E1, Hid (encs [e.x.c, e.x.n, e.x.at_] = E1) := ⟨_, rfl⟩
      obtain ⟨E2, hE2⟩ : ∃ E2, Hid (encs [(me : Int)] = E2) := ⟨_, rfl⟩
      have he1 : E1.length ≤ 27 := by rw [← hE1.out]; exact encs_le _ hok3
      have he2 : E2.length ≤ 9 := by rw [← hE2.out]; exact encs_le _ hokm
      have hf3 : Hid (L2 ++ E1 ++ [flagB e.x.commit] ++ E2 ++ (e.x.reads.flatMap encRd ++ M2.flatMap encVd) = encBk (l.map Ve.x)) := by
        show _ = _
        rw [← hf2.out, List.flatMap_cons, encVd, hme.out, hE1.out, hE2.out]
        simp only [List.append_assoc]
      have hal : Off Old wr (wr.alloc (.cells #[.int .i64 e.x.c, .int .i64 e.x.n, .bool e.x.commit, .int .i64 e.x.at_, .slice e.a me e.cap] 41)) := (Off.refl _ _).alloc _
      have hbx := Blk.new wr #[.int .i64 e.x.c, .int .i64 e.x.n, .bool e.x.commit, .int .i64 e.x.at_, .slice e.a me e.cap] 41
      have hwB := hw2.old hal
      have hnw : ¬ BS g2 wr.heap.size := fun hk => by
        have := own_lt hw2.own (k := wr.heap.size) (by rw [own_block_eq']; exact hk)
        omega
      have hb27 : n2 + 37 ≤ 1000000000 := by have := hbC.out; omega
      clear Q ix hk1 hk2 hk3 hf2 hb2
      go_upto_region 6 with fail
      generalize (wr.alloc (.cells #[.int .i64 e.x.c, .int .i64 e.x.n, .bool e.x.commit, .int .i64 e.x.at_, .slice e.a me e.cap] 41)) = wB at *
      have hcl : ∀ w', Off (BS g2) wB w' → w'.cell? ⟨wr.heap.size, 0, none⟩ = some (.int .i64 e.x.c) ∧ w'.cell? ⟨wr.heap.size, 1, none⟩ = some (.int .i64 e.x.n) ∧ w'.cell? ⟨wr.heap.size, 2, none⟩ = some (.bool e.x.commit) ∧ w'.cell? ⟨wr.heap.size, 3, none⟩ = some (.int .i64 e.x.at_) ∧ w'.cell? ⟨wr.heap.size, 4, none⟩ = some (.slice e.a me e.cap) := fun w' ho => ⟨(hbx.off ho hnw).cell rfl, (hbx.off ho hnw).cell rfl, (hbx.off ho hnw).cell rfl, (hbx.off ho hnw).cell rfl, (hbx.off ho hnw).cell rfl⟩
      have hW := Bat.start hwB.own
      clear x0 x1 x2 x3 x4
      refine wp_region_E (fun w' => Off (BS g2) wB w') [14, 15] (by kernel_rfl) ?_ (fun hHeld => ?_)
      · (first | exact (Off.refl _ _).drew | exact Bat.off (by repeat (first | assumption | apply Bat.alloc | apply Bat.drew)))
      refine wpAnyE_take (i := 0) (v := ?_) rfl (by kernel_rfl) (by kernel_rfl) (by kernel_rfl) (fun _ _ _ h => h) (Or.inl ⟨by rfl, ?_⟩) ?_
      rotate_left
      · (intro w _; go_simp; try with_reducible rfl)
      try simp only [Act.put, List.getElem_toArray, List.getElem_cons_zero, List.getElem_cons_succ, List.setIfInBounds_toArray, List.set_cons_zero, List.set_cons_succ]
      refine wpAnyE_take (i := 1) (v := ?_) rfl (by kernel_rfl) (by kernel_rfl) (by kernel_rfl) (fun _ _ _ h => h) (Or.inl ⟨by rfl, ?_⟩) ?_
      rotate_left
      · (intro w _; go_simp; try with_reducible rfl)
      try simp only [Act.put, List.getElem_toArray, List.getElem_cons_zero, List.getElem_cons_succ, List.setIfInBounds_toArray, List.set_cons_zero, List.set_cons_succ]
      refine wpAnyE_take (i := 2) (v := ?_) rfl (by kernel_rfl) (by kernel_rfl) (by kernel_rfl) (fun _ _ _ h => h) (Or.inl ⟨by rfl, ?_⟩) ?_
      rotate_left
      · (intro w _; go_simp; try with_reducible rfl)
      try simp only [Act.put, List.getElem_toArray, List.getElem_cons_zero, List.getElem_cons_succ, List.setIfInBounds_toArray, List.set_cons_zero, List.set_cons_succ]
      refine wpAnyE_load (tr := [[], [], [1], [1, 2], [], [4], [4, 5], [], [7], [1, 2, 3, 4, 5, 6, 7, 8], [1, 2, 3, 4, 5, 6, 7, 8, 9], [0, 1, 2, 3, 4, 5, 6, 7, 8, 9, 10], [], [12], [0, 1, 2, 3, 4, 5, 6, 7, 8, 9, 10, 11, 12, 13], [0, 1, 2, 3, 4, 5, 6, 7, 8, 9, 10, 11, 12, 13, 14], [0, 1, 2, 3, 4, 5, 6, 7, 8, 9, 10, 11, 12, 13, 14, 15]]) (i := 3) (v := ?_) (by kernel_rfl) rfl (by kernel_rfl) (by kernel_rfl) (by kernel_rfl) (by kernel_rfl) (by kernel_rfl) (fun _ _ _ h => h) (Or.inl ⟨by rfl, ?_⟩) hHeld ?_
      rotate_left
      · (intro w hSw; (try dsimp only at hSw); go_simp; try with_reducible rfl)
      try simp only [Act.put, List.getElem_toArray, List.getElem_cons_zero, List.getElem_cons_succ, List.setIfInBounds_toArray, List.set_cons_zero, List.set_cons_succ]
      refine wpAnyE_take (i := 4) (v := ?_) rfl (by kernel_rfl) (by kernel_rfl) (by kernel_rfl) (fun _ _ _ h => h) (Or.inl ⟨by rfl, ?_⟩) ?_
      rotate_left
      · (intro w _; go_simp; try with_reducible rfl)
      try simp only [Act.put, List.getElem_toArray, List.getElem_cons_zero, List.getElem_cons_succ, List.setIfInBounds_toArray, List.set_cons_zero, List.set_cons_succ]
      refine wpAnyE_take (i := 5) (v := ?_) rfl (by kernel_rfl) (by kernel_rfl) (by kernel_rfl) (fun _ _ _ h => h) (Or.inl ⟨by rfl, ?_⟩) ?_
      rotate_left
      · (intro w _; go_simp; try with_reducible rfl)
      try simp only [Act.put, List.getElem_toArray, List.getElem_cons_zero, List.getElem_cons_succ, List.setIfInBounds_toArray, List.set_cons_zero, List.set_cons_succ]
      refine wpAnyE_load (tr := [[], [], [1], [1, 2], [], [4], [4, 5], [], [7], [1, 2, 3, 4, 5, 6, 7, 8], [1, 2, 3, 4, 5, 6, 7, 8, 9], [0, 1, 2, 3, 4, 5, 6, 7, 8, 9, 10], [], [12], [0, 1, 2, 3, 4, 5, 6, 7, 8, 9, 10, 11, 12, 13], [0, 1, 2, 3, 4, 5, 6, 7, 8, 9, 10, 11, 12, 13, 14], [0, 1, 2, 3, 4, 5, 6, 7, 8, 9, 10, 11, 12, 13, 14, 15]]) (i := 6) (v := ?_) (by kernel_rfl) rfl (by kernel_rfl) (by kernel_rfl) (by kernel_rfl) (by kernel_rfl) (by kernel_rfl) (fun _ _ _ h => h) (Or.inl ⟨by rfl, ?_⟩) hHeld ?_
      rotate_left
      · (intro w hSw; (try dsimp only at hSw); go_simp; try with_reducible rfl)
      try simp only [Act.put, List.getElem_toArray, List.getElem_cons_zero, List.getElem_cons_succ, List.setIfInBounds_toArray, List.set_cons_zero, List.set_cons_succ]
      refine wpAnyE_take (i := 7) (v := ?_) rfl (by kernel_rfl) (by kernel_rfl) (by kernel_rfl) (fun _ _ _ h => h) (Or.inl ⟨by rfl, ?_⟩) ?_
      rotate_left
      · (intro w _; go_simp; try with_reducible rfl)
      try simp only [Act.put, List.getElem_toArray, List.getElem_cons_zero, List.getElem_cons_succ, List.setIfInBounds_toArray, List.set_cons_zero, List.set_cons_succ]
      refine wpAnyE_load (tr := [[], [], [1], [1, 2], [], [4], [4, 5], [], [7], [1, 2, 3, 4, 5, 6, 7, 8], [1, 2, 3, 4, 5, 6, 7, 8, 9], [0, 1, 2, 3, 4, 5, 6, 7, 8, 9, 10], [], [12], [0, 1, 2, 3, 4, 5, 6, 7, 8, 9, 10, 11, 12, 13], [0, 1, 2, 3, 4, 5, 6, 7, 8, 9, 10, 11, 12, 13, 14], [0, 1, 2, 3, 4, 5, 6, 7, 8, 9, 10, 11, 12, 13, 14, 15]]) (i := 8) (v := ?_) (by kernel_rfl) rfl (by kernel_rfl) (by kernel_rfl) (by kernel_rfl) (by kernel_rfl) (by kernel_rfl) (fun _ _ _ h => h) (Or.inl ⟨by rfl, ?_⟩) hHeld ?_
      rotate_left
      · (intro w hSw; (try dsimp only at hSw); go_simp; try with_reducible rfl)
      try simp only [Act.put, List.getElem_toArray, List.getElem_cons_zero, List.getElem_cons_succ, List.setIfInBounds_toArray, List.set_cons_zero, List.set_cons_succ]
      refine wpAnyE_take (i := 12) (v := ?_) rfl (by kernel_rfl) (by kernel_rfl) (by kernel_rfl) (fun _ _ _ h => h) (Or.inl ⟨by rfl, ?_⟩) ?_
      rotate_left
      · (intro w _; go_simp; try with_reducible rfl)
      try simp only [Act.put, List.getElem_toArray, List.getElem_cons_zero, List.getElem_cons_succ, List.setIfInBounds_toArray, List.set_cons_zero, List.set_cons_succ]
      refine wpAnyE_load (tr := [[], [], [1], [1, 2], [], [4], [4, 5], [], [7], [1, 2, 3, 4, 5, 6, 7, 8], [1, 2, 3, 4, 5, 6, 7, 8, 9], [0, 1, 2, 3, 4, 5, 6, 7, 8, 9, 10], [], [12], [0, 1, 2, 3, 4, 5, 6, 7, 8, 9, 10, 11, 12, 13], [0, 1, 2, 3, 4, 5, 6, 7, 8, 9, 10, 11, 12, 13, 14], [0, 1, 2, 3, 4, 5, 6, 7, 8, 9, 10, 11, 12, 13, 14, 15]]) (i := 13) (v := ?_) (by kernel_rfl) rfl (by kernel_rfl) (by kernel_rfl) (by kernel_rfl) (by kernel_rfl) (by kernel_rfl) (fun _ _ _ h => h) (Or.inl ⟨by rfl, ?_⟩) hHeld ?_
      rotate_left
      · (intro w hSw; (try dsimp only at hSw); go_simp; try with_reducible rfl)
      try simp only [Act.put, List.getElem_toArray, List.getElem_cons_zero, List.getElem_cons_succ, List.setIfInBounds_toArray, List.set_cons_zero, List.set_cons_succ]
      refine wpAnyE_ready (rs := [9]) (by kernel_rfl) (by simp) ?_
      refine AllReadyE.cons rfl (fun K hK => ?_) AllReadyE.nil
      go_simp
      refine hK.out _ _ ?_ (fun hHeld => ?_)
      · (first | exact (Off.refl _ _).drew | exact Bat.off (by repeat (first | assumption | apply Bat.alloc | apply Bat.drew)))
      clear hK K
      try simp only [Act.put, List.getElem_toArray, List.getElem_cons_zero, List.getElem_cons_succ, List.setIfInBounds_toArray, List.set_cons_zero, List.set_cons_succ]
      refine wpAnyE_ready (rs := [10]) (by kernel_rfl) (by simp) ?_
      refine AllReadyE.cons rfl (fun K hK => ?_) AllReadyE.nil
      go_simp
      (go_at_call 56; refine rnumbers_c _ 3 3 [e.x.c, e.x.n, e.x.at_] rfl hok3 _ (Sl.new wB (ins [e.x.c, e.x.n, e.x.at_]) _).drew (by omega) _ ?_; intro w5 g5 n5 d5 hb5; rw [hE1.out] at hb5; have hn5 := hb5.len; have hW := Bat.row (by repeat (first | assumption | apply Bat.alloc | apply Bat.drew)) hb5)
      refine hK.out _ _ ?_ (fun hHeld => ?_)
      · (first | exact (Off.refl _ _).drew | exact Bat.off (by repeat (first | assumption | apply Bat.alloc | apply Bat.drew)))
      clear hK K
      try simp only [Act.put, List.getElem_toArray, List.getElem_cons_zero, List.getElem_cons_succ, List.setIfInBounds_toArray, List.set_cons_zero, List.set_cons_succ]
      refine wpAnyE_ready (rs := [11]) (by kernel_rfl) (by simp) ?_
      refine AllReadyE.cons rfl (fun K hK => ?_) AllReadyE.nil
      (refine step_append_sl rfl (.tmp 31) (.tmp 41) 57 rfl 5 i0 (.int .u8 0) 1 1 Try.underlying57 hi hz0 hz1 hz2 rfl (by decide) (.slice g2 n2 d2) n2 (bys L2) rfl hW.own g5 n5 d5 (bys E1) rfl (hW.has (List.mem_cons_self ..)).2 (hW.has (List.mem_cons_self ..)).1 (bys_oneCell _) (by omega) (by omega) ?_; intro g6 d6 w6 hg6; have hW := hW.app hg6)
      refine hK.out _ _ ?_ (fun hHeld => ?_)
      · (first | exact (Off.refl _ _).drew | exact Bat.off (by repeat (first | assumption | apply Bat.alloc | apply Bat.drew)))
      clear hK K
      try simp only [Act.put, List.getElem_toArray, List.getElem_cons_zero, List.getElem_cons_succ, List.setIfInBounds_toArray, List.set_cons_zero, List.set_cons_succ]
      refine wpAnyE_ready (rs := [14]) (by kernel_rfl) (by simp) ?_
      refine AllReadyE.lcons (by kernel_rfl) rfl (fun K hK => ?_) AllReadyE.nil
      go_simp
      (go_at_call 57; refine refFlag_c e.x.commit _ _ ?_; intro w7 g7 n7 d7 hb7; obtain rfl : n7 = 1 := hb7.len.symm; have hW := Bat.row (by repeat (first | assumption | apply Bat.alloc | apply Bat.drew)) hb7)
      refine hK.out _ _ ?_
      clear hK K
      try simp only [Act.put, List.getElem_toArray, List.getElem_cons_zero, List.getElem_cons_succ, List.setIfInBounds_toArray, List.set_cons_zero, List.set_cons_succ]
      refine wpAnyE_ready (rs := [15]) (by kernel_rfl) (by simp) ?_
      refine AllReadyE.lcons (by kernel_rfl) rfl (fun K hK => ?_) AllReadyE.nil
      (refine step_append_sl rfl (.tmp 42) (.tmp 45) 57 rfl 5 i0 (.int .u8 0) 1 1 Try.underlying57 hi hz0 hz1 hz2 rfl (by decide) (.slice g6 (n2 + n5) d6) (n2 + n5) (bys (L2 ++ E1)) rfl hW.own g7 1 d7 (bys [flagB e.x.commit]) rfl (hW.has (List.mem_cons_self ..)).2 (hW.has (List.mem_cons_self ..)).1 (bys_oneCell _) (by omega) (by omega) ?_; intro g8 d8 w8 hg8; have hW := hW.app hg8)
      refine hK.out _ _ ?_
      clear hK K
      try simp only [Act.put, List.getElem_toArray, List.getElem_cons_zero, List.getElem_cons_succ, List.setIfInBounds_toArray, List.set_cons_zero, List.set_cons_succ]
      refine wpAnyE_take (i := 16) (v := ?_) rfl (by kernel_rfl) (by kernel_rfl) (by kernel_rfl) (fun _ _ _ h => h) (Or.inl ⟨by rfl, ?_⟩) ?_
      rotate_left
      · (intro w _; go_simp; try with_reducible rfl)
      try simp only [Act.put, List.getElem_toArray, List.getElem_cons_zero, List.getElem_cons_succ, List.setIfInBounds_toArray, List.set_cons_zero, List.set_cons_succ]
      refine wpAnyE_done (by kernel_rfl) ?_ _
      have c3 := (hbx.off hW.off hnw).cell (i := 4) rfl
      have hz8 := hW.off.size
      clear hb5 hg6 hb7 hg8 hcl
      obtain ⟨L8, hL8⟩ : ∃ L8, Hid (L2 ++ E1 ++ [flagB e.x.commit] = L8) := ⟨_, rfl⟩
      rw [hL8.out] at hW hf3
      go_wp2_with (go_at_call 56; go_must (refine rnumbers_c _ 1 1 [(me : Int)] rfl hokm _ (Sl.new w8 (ins [(me : Int)]) _) (by omega) _ ?_))
      intro w9 g9 n9 d9 hb9
      rw [hE2.out] at hb9
      have hn9 := hb9.len
      have hW := Bat.row (hW.alloc _) hb9
      go_wp2_with (at_builtin; go_must (refine wpList_append_sl rfl (.tmp 47) (.tmp 52) 57 rfl 5 i0 (.int .u8 0) 1 1 Try.underlying57 hi hz0 hz1 hz2 rfl (by decide) (.slice g8 (n2 + n5 + 1) d8) (n2 + n5 + 1) (bys L8) rfl hW.own g9 n9 d9 (bys E2) rfl (hW.has (List.mem_cons_self ..)).2 (hW.has (List.mem_cons_self ..)).1 (bys_oneCell _) (by omega) (by omega) ?_))
      intro g10 d10 w10 hg10
      have hW := hW.app hg10
      have hx10 := Lib.hid (hbx.off hW.off hnw)
      have hq10 := Lib.hid (hW.not hnw hbx.lt)
      have hO10 := hW.out hwB
      obtain ⟨L3, hL3⟩ : ∃ L3, Hid (L8 ++ E2 = L3) := ⟨_, rfl⟩
      rw [hL3.out] at hO10 hf3
      have hb3 : Hid (n2 + n5 + 1 + n9 + (costRds e.x.reads + C2) ≤ 1000000000) := by show _ ≤ _; have := hbC.out; omega
      generalize n2 + n5 + 1 + n9 = n3 at *
      clear hg10 hb9 hwB hbx c3 hb27
      obtain ⟨wo, rfl⟩ : ∃ wo : World, wo = wr := ⟨_, rfl⟩
      go_wp2_with fail
      go_loopw [3, 6] (fun v i wr => ∃ (t n4 : Nat) (g4 : Option Addr) (d4 : Nat) (L4 : List UInt8), i = .int .i64 t ∧ t ≤ me ∧ v = .slice g4 n4 d4 ∧ BOut w wr g4 n4 d4 L4 ∧ Hid (L4 ++ (e.x.reads.drop t).flatMap encRd = L3 ++ e.x.reads.flatMap encRd) ∧ Hid (n4 + (costRds (e.x.reads.drop t) + C2) ≤ 1000000000) ∧ Hid (Blk wr wo.heap.size #[.int .i64 e.x.c, .int .i64 e.x.n, .bool e.x.commit, .int .i64 e.x.at_, .slice e.a me e.cap].toList 41) ∧ Hid (¬ BS g4 wo.heap.size)) (fun _ i _ => me - (intOf i).toNat)
      case atStart => exact ⟨0, n3, g10, d10, L3, rfl, Nat.zero_le _, rfl, hO10, rfl, hb3, hx10, hq10⟩
      case round =>
        clear hO10 hb3 hx10 hq10 hW
        obtain ⟨t, n4, g4, d4, L4, rfl, ht, rfl, hO4, hf4, hb4, hx4, hq4⟩ := hrel
        have c3 := hx4.out.cell (i := 4) rfl
        have hm6 := hme6.out
        by_cases htm : t < me
        · obtain ⟨y, hy⟩ := at_of_lt (l := e.x.reads) (j := t) (by have := hme.out; omega)
          obtain ⟨b2, o2, ix2, Q2, _⟩ := ((h.old hO4.off).vok e (List.mem_of_getElem? he.out)).sl.ix_rdx e.cap
          rw [hme.out] at ix2
          have hix2 := ix2 t htm
          obtain ⟨y0, y1, y2⟩ := Q2.out t y hy.out
          have hdr : e.x.reads.drop t = y :: e.x.reads.drop (t + 1) := by
            have h9 := hy.out
            rw [List.drop_eq_getElem_cons (by have := hme.out; omega)]
            congr 1
            exact (List.getElem?_eq_some_iff.1 h9).2
          rw [hdr] at hf4 hb4
          obtain ⟨K2, hK2⟩ : ∃ K2, Hid (rowEnc y.key.data.toList = K2) := ⟨_, rfl⟩
          obtain ⟨V2, hV2⟩ : ∃ V2, Hid (rowEnc y.val.data.toList = V2) := ⟨_, rfl⟩
          have hf5 : Hid ((L4 ++ K2 ++ [flagB y.is] ++ V2) ++ (e.x.reads.drop (t + 1)).flatMap encRd = L3 ++ e.x.reads.flatMap encRd) := by
            show _ = _
            rw [← hf4.out, List.flatMap_cons, encRd, hK2.out, hV2.out]
            simp only [List.append_assoc]
          have hbD : Hid (n4 + (y.key.size + y.val.size + 19) + (costRds (e.x.reads.drop (t + 1)) + C2) ≤ 1000000000) := by
            show _ ≤ _
            have := hb4.out
            simp only [costRds, costRd, lenOf, List.map_cons, List.map_nil, List.sum_cons, List.sum_nil, ByteArray.size_data, Array.length_toList] at this ⊢
            omega
          have hk2 : K2.length ≤ y.key.size + 9 := by
            rw [← hK2.out]
            have := rowEnc_len (l := y.key.data.toList) (by have := hbD.out; simp; omega)
            simpa using this
          have hv2 : V2.length ≤ y.val.size + 9 := by
            rw [← hV2.out]
            have := rowEnc_len (l := y.val.data.toList) (by have := hbD.out; simp; omega)
            simpa using this
          have hbs : n4 + (y.key.size + y.val.size + 19) ≤ 1000000000 := by have := hbD.out; omega
          have hal : Off Old wr (wr.alloc (.cells #[.string y.key, .bool y.is, .string y.val] 83)) := (Off.refl _ _).alloc _
          have hbx := Blk.new wr #[.string y.key, .bool y.is, .string y.val] 83
          have hwB := hO4.old hal
          have hxB := Lib.hid (hx4.out.old hal)
          have hnw : ¬ BS g4 wr.heap.size := fun hk => by
            have := own_lt hO4.own (k := wr.heap.size) (by rw [own_block_eq']; exact hk)
            omega
          clear Q2 ix2 hb4 hf4 hdr hx4
          go_upto_region 12 with fail
          generalize (wr.alloc (.cells #[.string y.key, .bool y.is, .string y.val] 83)) = wB at *
          have hcl : ∀ w', Off (BS g4) wB w' → w'.cell? ⟨wr.heap.size, 0, none⟩ = some (.string y.key) ∧ w'.cell? ⟨wr.heap.size, 1, none⟩ = some (.bool y.is) ∧ w'.cell? ⟨wr.heap.size, 2, none⟩ = some (.string y.val) := fun w' ho => ⟨(hbx.off ho hnw).cell rfl, (hbx.off ho hnw).cell rfl, (hbx.off ho hnw).cell rfl⟩
          have hW := Bat.start hwB.own
          clear y0 y1 y2 c3
          refine wp_region_E (fun w' => Off (BS g4) wB w') [11, 12] (by kernel_rfl) ?_ (fun hHeld => ?_)
          · (first | exact (Off.refl _ _).drew | exact Bat.off (by repeat (first | assumption | apply Bat.alloc | apply Bat.drew)))
          refine wpAnyE_take (i := 0) (v := ?_) rfl (by kernel_rfl) (by kernel_rfl) (by kernel_rfl) (fun _ _ _ h => h) (Or.inl ⟨by rfl, ?_⟩) ?_
          rotate_left
          · (intro w _; go_simp; try with_reducible rfl)
          try simp only [Act.put, List.getElem_toArray, List.getElem_cons_zero, List.getElem_cons_succ, List.setIfInBounds_toArray, List.set_cons_zero, List.set_cons_succ]
          refine wpAnyE_take (i := 1) (v := ?_) rfl (by kernel_rfl) (by kernel_rfl) (by kernel_rfl) (fun _ _ _ h => h) (Or.inl ⟨by rfl, ?_⟩) ?_
          rotate_left
          · (intro w _; go_simp; try with_reducible rfl)
          try simp only [Act.put, List.getElem_toArray, List.getElem_cons_zero, List.getElem_cons_succ, List.setIfInBounds_toArray, List.set_cons_zero, List.set_cons_succ]
          refine wpAnyE_load (tr := [[], [], [1], [1, 2], [0, 1, 2, 3], [], [5], [0, 1, 2, 3, 4, 5, 6], [0, 1, 2, 3, 4, 5, 6, 7], [], [9], [0, 1, 2, 3, 4, 5, 6, 7, 8, 9, 10], [0, 1, 2, 3, 4, 5, 6, 7, 8, 9, 10, 11], [0, 1, 2, 3, 4, 5, 6, 7, 8, 9, 10, 11, 12]]) (i := 2) (v := ?_) (by kernel_rfl) rfl (by kernel_rfl) (by kernel_rfl) (by kernel_rfl) (by kernel_rfl) (by kernel_rfl) (fun _ _ _ h => h) (Or.inl ⟨by rfl, ?_⟩) hHeld ?_
          rotate_left
          · (intro w hSw; (try dsimp only at hSw); go_simp; try with_reducible rfl)
          try simp only [Act.put, List.getElem_toArray, List.getElem_cons_zero, List.getElem_cons_succ, List.setIfInBounds_toArray, List.set_cons_zero, List.set_cons_succ]
          refine wpAnyE_take (i := 5) (v := ?_) rfl (by kernel_rfl) (by kernel_rfl) (by kernel_rfl) (fun _ _ _ h => h) (Or.inl ⟨by rfl, ?_⟩) ?_
          rotate_left
          · (intro w _; go_simp; try with_reducible rfl)
          try simp only [Act.put, List.getElem_toArray, List.getElem_cons_zero, List.getElem_cons_succ, List.setIfInBounds_toArray, List.set_cons_zero, List.set_cons_succ]
          refine wpAnyE_load (tr := [[], [], [1], [1, 2], [0, 1, 2, 3], [], [5], [0, 1, 2, 3, 4, 5, 6], [0, 1, 2, 3, 4, 5, 6, 7], [], [9], [0, 1, 2, 3, 4, 5, 6, 7, 8, 9, 10], [0, 1, 2, 3, 4, 5, 6, 7, 8, 9, 10, 11], [0, 1, 2, 3, 4, 5, 6, 7, 8, 9, 10, 11, 12]]) (i := 6) (v := ?_) (by kernel_rfl) rfl (by kernel_rfl) (by kernel_rfl) (by kernel_rfl) (by kernel_rfl) (by kernel_rfl) (fun _ _ _ h => h) (Or.inl ⟨by rfl, ?_⟩) hHeld ?_
          rotate_left
          · (intro w hSw; (try dsimp only at hSw); go_simp; try with_reducible rfl)
          try simp only [Act.put, List.getElem_toArray, List.getElem_cons_zero, List.getElem_cons_succ, List.setIfInBounds_toArray, List.set_cons_zero, List.set_cons_succ]
          refine wpAnyE_take (i := 9) (v := ?_) rfl (by kernel_rfl) (by kernel_rfl) (by kernel_rfl) (fun _ _ _ h => h) (Or.inl ⟨by rfl, ?_⟩) ?_
          rotate_left
          · (intro w _; go_simp; try with_reducible rfl)
          try simp only [Act.put, List.getElem_toArray, List.getElem_cons_zero, List.getElem_cons_succ, List.setIfInBounds_toArray, List.set_cons_zero, List.set_cons_succ]
          refine wpAnyE_load (tr := [[], [], [1], [1, 2], [0, 1, 2, 3], [], [5], [0, 1, 2, 3, 4, 5, 6], [0, 1, 2, 3, 4, 5, 6, 7], [], [9], [0, 1, 2, 3, 4, 5, 6, 7, 8, 9, 10], [0, 1, 2, 3, 4, 5, 6, 7, 8, 9, 10, 11], [0, 1, 2, 3, 4, 5, 6, 7, 8, 9, 10, 11, 12]]) (i := 10) (v := ?_) (by kernel_rfl) rfl (by kernel_rfl) (by kernel_rfl) (by kernel_rfl) (by kernel_rfl) (by kernel_rfl) (fun _ _ _ h => h) (Or.inl ⟨by rfl, ?_⟩) hHeld ?_
          rotate_left
          · (intro w hSw; (try dsimp only at hSw); go_simp; try with_reducible rfl)
          try simp only [Act.put, List.getElem_toArray, List.getElem_cons_zero, List.getElem_cons_succ, List.setIfInBounds_toArray, List.set_cons_zero, List.set_cons_succ]
          refine wpAnyE_ready (rs := [3]) (by kernel_rfl) (by simp) ?_
          refine AllReadyE.cons rfl (fun K hK => ?_) AllReadyE.nil
          go_simp
          (go_at_call 58; refine rtext_c y.key _ (by omega) _ ?_; intro w5 g5 n5 d5 hb5; rw [hK2.out] at hb5; have hn5 := hb5.len; have hW := Bat.row (by repeat (first | assumption | apply Bat.alloc | apply Bat.drew)) hb5)
          refine hK.out _ _ ?_ (fun hHeld => ?_)
          · (first | exact (Off.refl _ _).drew | exact Bat.off (by repeat (first | assumption | apply Bat.alloc | apply Bat.drew)))
          clear hK K
          try simp only [Act.put, List.getElem_toArray, List.getElem_cons_zero, List.getElem_cons_succ, List.setIfInBounds_toArray, List.set_cons_zero, List.set_cons_succ]
          refine wpAnyE_ready (rs := [4]) (by kernel_rfl) (by simp) ?_
          refine AllReadyE.cons rfl (fun K hK => ?_) AllReadyE.nil
          (refine step_append_sl rfl (.tmp 66) (.tmp 69) 57 rfl 5 i0 (.int .u8 0) 1 1 Try.underlying57 hi hz0 hz1 hz2 rfl (by decide) (.slice g4 n4 d4) n4 (bys L4) rfl hW.own g5 n5 d5 (bys K2) rfl (hW.has (List.mem_cons_self ..)).2 (hW.has (List.mem_cons_self ..)).1 (bys_oneCell _) (by omega) (by omega) ?_; intro g6 d6 w6 hg6; have hW := hW.app hg6)
          refine hK.out _ _ ?_ (fun hHeld => ?_)
          · (first | exact (Off.refl _ _).drew | exact Bat.off (by repeat (first | assumption | apply Bat.alloc | apply Bat.drew)))
          clear hK K
          try simp only [Act.put, List.getElem_toArray, List.getElem_cons_zero, List.getElem_cons_succ, List.setIfInBounds_toArray, List.set_cons_zero, List.set_cons_succ]
          refine wpAnyE_ready (rs := [7]) (by kernel_rfl) (by simp) ?_
          refine AllReadyE.cons rfl (fun K hK => ?_) AllReadyE.nil
          go_simp
          (go_at_call 57; refine refFlag_c y.is _ _ ?_; intro w7 g7 n7 d7 hb7; obtain rfl : n7 = 1 := hb7.len.symm; have hW := Bat.row (by repeat (first | assumption | apply Bat.alloc | apply Bat.drew)) hb7)
          refine hK.out _ _ ?_ (fun hHeld => ?_)
          · (first | exact (Off.refl _ _).drew | exact Bat.off (by repeat (first | assumption | apply Bat.alloc | apply Bat.drew)))
          clear hK K
          try simp only [Act.put, List.getElem_toArray, List.getElem_cons_zero, List.getElem_cons_succ, List.setIfInBounds_toArray, List.set_cons_zero, List.set_cons_succ]
          refine wpAnyE_ready (rs := [8]) (by kernel_rfl) (by simp) ?_
          refine AllReadyE.cons rfl (fun K hK => ?_) AllReadyE.nil
          (refine step_append_sl rfl (.tmp 70) (.tmp 73) 57 rfl 5 i0 (.int .u8 0) 1 1 Try.underlying57 hi hz0 hz1 hz2 rfl (by decide) (.slice g6 (n4 + n5) d6) (n4 + n5) (bys (L4 ++ K2)) rfl hW.own g7 1 d7 (bys [flagB y.is]) rfl (hW.has (List.mem_cons_self ..)).2 (hW.has (List.mem_cons_self ..)).1 (bys_oneCell _) (by omega) (by omega) ?_; intro g8 d8 w8 hg8; have hW := hW.app hg8)
          refine hK.out _ _ ?_ (fun hHeld => ?_)
          · (first | exact (Off.refl _ _).drew | exact Bat.off (by repeat (first | assumption | apply Bat.alloc | apply Bat.drew)))
          clear hK K
          try simp only [Act.put, List.getElem_toArray, List.getElem_cons_zero, List.getElem_cons_succ, List.setIfInBounds_toArray, List.set_cons_zero, List.set_cons_succ]
          refine wpAnyE_ready (rs := [11]) (by kernel_rfl) (by simp) ?_
          refine AllReadyE.lcons (by kernel_rfl) rfl (fun K hK => ?_) AllReadyE.nil
          go_simp
          (go_at_call 58; refine rtext_c y.val _ (by omega) _ ?_; intro w9 g9 n9 d9 hb9; rw [hV2.out] at hb9; have hn9 := hb9.len; have hW := Bat.row (by repeat (first | assumption | apply Bat.alloc | apply Bat.drew)) hb9)
          refine hK.out _ _ ?_
          clear hK K
          try simp only [Act.put, List.getElem_toArray, List.getElem_cons_zero, List.getElem_cons_succ, List.setIfInBounds_toArray, List.set_cons_zero, List.set_cons_succ]
          refine wpAnyE_ready (rs := [12]) (by kernel_rfl) (by simp) ?_
          refine AllReadyE.lcons (by kernel_rfl) rfl (fun K hK => ?_) AllReadyE.nil
          (refine step_append_sl rfl (.tmp 74) (.tmp 77) 57 rfl 5 i0 (.int .u8 0) 1 1 Try.underlying57 hi hz0 hz1 hz2 rfl (by decide) (.slice g8 (n4 + n5 + 1) d8) (n4 + n5 + 1) (bys (L4 ++ K2 ++ [flagB y.is])) rfl hW.own g9 n9 d9 (bys V2) rfl (hW.has (List.mem_cons_self ..)).2 (hW.has (List.mem_cons_self ..)).1 (bys_oneCell _) (by omega) (by omega) ?_; intro g10 d10 w10 hg10; have hW := hW.app hg10)
          refine hK.out _ _ ?_
          clear hK K
          try simp only [Act.put, List.getElem_toArray, List.getElem_cons_zero, List.getElem_cons_succ, List.setIfInBounds_toArray, List.set_cons_zero, List.set_cons_succ]
          refine wpAnyE_take (i := 13) (v := ?_) rfl (by kernel_rfl) (by kernel_rfl) (by kernel_rfl) (fun _ _ _ h => h) (Or.inl ⟨by rfl, ?_⟩) ?_
          rotate_left
          · (intro w _; go_simp; try with_reducible rfl)
          try simp only [Act.put, List.getElem_toArray, List.getElem_cons_zero, List.getElem_cons_succ, List.setIfInBounds_toArray, List.set_cons_zero, List.set_cons_succ]
          refine wpAnyE_done (by kernel_rfl) ?_ _
          have hO10 := hW.out hwB
          have hq5 := Lib.hid (hW.not hq4.out hxB.out.lt)
          have hx5 := Lib.hid (hxB.out.off hW.off hq4.out)
          have hb5' : Hid (n4 + n5 + 1 + n9 + (costRds (e.x.reads.drop (t + 1)) + C2) ≤ 1000000000) := by show _ ≤ _; have := hbD.out; omega
          generalize n4 + n5 + 1 + n9 = n10 at *
          clear hcl hb5 hg6 hb7 hg8 hb9 hg10 hbx hW
          go_wp2_with fail
          go_roundw
          case rel => exact ⟨t + 1, n10, g10, d10, _, by go_num, by omega, rfl, hO10, hf5, hb5', hx5, hq5⟩
          case measure => simp [intOf]; omega
        · obtain rfl : t = me := by omega
          have h9 := hf4.out
          rw [List.drop_of_length_le (by have := hme.out; omega)] at h9
          simp only [List.flatMap_nil, List.append_nil] at h9
          have hf6 : Hid (L4 ++ ((l.map Ve.x).drop (j + 1)).flatMap encVd = encBk (l.map Ve.x)) := by
            show _ = _
            rw [h9, hM2.out, ← hf3.out, List.append_assoc]
          have hb6 : Hid (n4 + costVds ((l.map Ve.x).drop (j + 1)) ≤ 1000000000) := by
            show _ ≤ _
            have := hb4.out
            rw [hM2.out, hC2.out]; omega
          clear h9 hf4 hb4 hf3
          go_wp2_with fail
          go_roundw
          case rel => exact ⟨j + 1, n4, g4, d4, L4, by go_num, by omega, rfl, hO4, hf6, hb6⟩
          case measure => simp [intOf]; omega
    · obtain rfl : j = l.length := by omega
      have hfin := hf2.out
      rw [List.drop_of_length_le (by simp)] at hfin
      simp only [List.flatMap_nil, List.append_nil] at hfin
      subst hfin
      have HF := HK.out wr g2 n2 d2 hw2
      clear HK
      go_wp2_with fail
      exact HF
end Go.Proofs.Ytahpfcfecghpmaa
