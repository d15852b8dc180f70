/- The document's past: merged, asked, as bytes. -/
import Derived.Test.YtfllejlooaipiaaRef17b
import Derived.Test.YtfllejlooaipiaaPast5
import Derived.Test.YtfllejlooaipiaaPut4
import Derived.Test.YtfllejlooaipiaaInts
namespace Go.Proofs.Ytfllejlooaipiaa
open Go.RowKit
set_option linter.unusedSimpArgs false

set_option maxRecDepth 100000 in
set_option maxHeartbeats 1000000 in
theorem rbytes_c (p : Nat) (N : List Int) (w : World) (h : Rps w p N) (R : Ending → World → Prop) (k : ∀ w' g n d, BOut w w' g n d (outOf (put4 N [] [] [])).1 → R (.returned (.slice g n d)) w') :
    Calls Try.prog 27 #[.pointer (some ⟨p, 0, none⟩)] w R := by
  have HK := Lib.hid k; clear k
  obtain ⟨i0, hi, hz0, hz1, hz2⟩ := info_parts intinfo
  have hN := Lib.hid h.len
  go_enter Try.func27, Try.ntmps27
  go_wp2_with fail
  go_loopw [3, 4] (fun v i wr => ∃ (j d : Nat) (g : Option Addr), i = .int .i64 (j + 1 : Nat) ∧ j ≤ 8 ∧ v = .slice g j d ∧ IOut w wr g j d (N.take j)) (fun _ i _ => 10 - (intOf i).toNat)
  case atStart => exact ⟨0, 0, none, rfl, Nat.zero_le _, rfl, ⟨World.ownsRow_nil _ _ _ _, Off.refl _ _, fun b h => by simp [Value.ownBlock] at h⟩⟩
  case round =>
    obtain ⟨j, d, g, rfl, hj, rfl, hI⟩ := hrel
    by_cases hlt : j < 8
    · obtain ⟨x, hx⟩ := at_of_lt (l := N) (j := j) (by rw [hN.out]; exact hlt)
      have cx := (h.old hI.off).at hx.out
      have ht : Hid (N.take j ++ [x] = N.take (j + 1)) := by show _ = _; rw [List.take_add_one, hx.out]; rfl
      generalize N.take j = L at *
      generalize hJ : j + 1 = J at *
      have HJ := Lib.hid hJ
      have hJ1 : 1 ≤ J := by omega
      have hJ9 : J ≤ 8 := by omega
      clear hJ
      go_wp2_with (at_builtin; go_must (refine wpList_append_new rfl (.tmp 11) (.tmp 18) 57 rfl 3 i0 (.int .i64 0) 1 8 Try.underlying57 hi hz0 hz1 hz2 rfl (by decide) (.slice g j d) j (ins L) rfl hI.own 1 1 (ins [x]) rfl rfl (ins_oneCell _) (by omega) (by omega) ?_))
      intro g2 d2 w2 hg
      have hI2 := hI.app hg
      rw [ht.out] at hI2
      clear hI hg cx
      go_wp2_with fail
      have HJ' := HJ.out
      subst HJ'
      go_roundw
      case rel => exact ⟨j + 1, d2, g2, by go_num, by omega, by simp, hI2⟩
      case measure => simp [intOf]; omega
    · obtain rfl : j = 8 := by omega
      rw [List.take_of_length_le (by rw [hN.out]; exact Nat.le_refl _)] at hI
      have hs := hI.sl
      have HO := Lib.hid hI.off
      clear hi hz0 hz1 hz2
      go_wp2_with (go_at_call 42; go_must (refine refWrite_n g none none none 8 0 0 0 d 0 0 0 N [] [] [] _ hN.out rfl rfl rfl hs (Sl.nil _ _) (Sl.nil _ _) (Sl.nil _ _) (fun r h => (by cases h)) (by rw [hN.out]; decide) _ ?_))
      intro w2 g2 n2 d2 hB
      have HF := HK.out w2 g2 n2 d2 (hB.pre HO.out)
      clear HK
      go_wp2_with fail
      exact HF
theorem sz_rpast (w : World) : (sizeOf 29).run Try.prog w = .ok 1 w := by kernel_rfl
set_option maxRecDepth 100000 in
set_option maxHeartbeats 1000000 in
theorem rmerge_c (p : Nat) (N : List Int) (a : Option Addr) (n c : Nat) (qs : List Nat) (Ms : List (List Int)) (w : World) (hn : qs.length = n) (h : Rps w p N) (ha : Sl w a (pts qs)) (hs : ∀ q, a = some q → qs ≠ [] → q.block ≠ p) (hl : Ms.length = qs.length)
    (hq : ∀ (i q : Nat) (M : List Int), qs[i]? = some q → Ms[i]? = some M → q ≠ p ∧ Rps w q M) (bn : n ≤ 1000000000) (R : Ending → World → Prop)
    (k : ∀ w', Rps w' p (mergeAll N Ms) → Off (fun k => k = p) w w' → R (.returned (.tuple #[])) w') :
    Calls Try.prog 20 #[.pointer (some ⟨p, 0, none⟩), .slice a n c] w R := by
  subst hn
  have HK := Lib.hid k; clear k
  have HQ := Lib.hid hq; clear hq
  have HL := Lib.hid hl; clear hl
  have HS := Lib.hid hs; clear hs
  go_enter Try.func20, Try.ntmps20
  go_wp2_with fail
  go_loopw [4, 5] (fun i _ wr => ∃ j : Nat, i = .int .i64 j ∧ j ≤ qs.length ∧ Off (fun k => k = p) w wr ∧ Rps wr p (mergeAll N (Ms.take j))) (fun i _ _ => qs.length - (intOf i).toNat)
  case atStart => exact ⟨0, rfl, Nat.zero_le _, Off.refl _ _, h⟩
  case round =>
    clear h
    obtain ⟨j, rfl, hj, ho, hp1⟩ := hrel
    by_cases hlt : j < qs.length
    · obtain ⟨q, hq⟩ := at_of_lt hlt
      obtain ⟨M, hM⟩ := at_of_lt (l := Ms) (j := j) (by rw [HL.out]; exact hlt)
      have hne := (HQ.out j q M hq.out hM.out).1
      have hpq0 := Lib.hid (HQ.out j q M hq.out hM.out).2
      have hR : Hid (mergeAll N (Ms.take (j + 1)) = mergeN (mergeAll N (Ms.take j)) M) := by
        show _ = _; simp [mergeAll, List.take_add_one, hM.out]
      generalize mergeAll N (Ms.take j) = N1 at *
      go_wp2_with fail
      go_loopw [5] (fun i wr2 => ∃ k : Nat, i = .int .i64 (k + 1 : Nat) ∧ k ≤ 8 ∧ Off (fun k => k = p) w wr2 ∧ Rps wr2 p (mergeUp N1 M k)) (fun i _ => 10 - (intOf i).toNat)
      case atStart => exact ⟨0, rfl, Nat.zero_le _, ho, hp1⟩
      case round =>
        clear hp1 ho
        obtain ⟨k, rfl, hk, ho, hp1⟩ := hrel
        by_cases hk8 : k < 8
        · have hpq := hpq0.out.off ho hne
          obtain ⟨b, o, ix, Q⟩ := (ha.off ho (fun x e hn => HS.out x e (by rintro rfl; exact hn rfl))).ix1 Try.underlying26 sz_rpast (n := qs.length) (by simp) c
          have cx := Q.out j _ (pts_at hq.out)
          have hR2 : Hid (mergeUp N1 M (k + 1) = raiseN (mergeUp N1 M k) ⟨((k + 1 : Nat) : Int), M.getD k 0⟩) := mergeUp_succ _ _ k
          generalize mergeUp N1 M k = N2 at *
          obtain ⟨x, hx⟩ := at_of_lt (l := M) (j := k) (by rw [hpq.len]; exact hk8)
          obtain ⟨y, hy⟩ := at_of_lt (l := N2) (j := k) (by rw [hp1.len]; exact hk8)
          have cm := hpq.at hx.out
          have cy := hp1.at hy.out
          have fy := hp1.blk.free (k + 1)
          have hR3 : Hid (raiseN N2 ⟨((k + 1 : Nat) : Int), M.getD k 0⟩ = N2.set k (if y < x then x else y)) := by
            show _ = _; simp [raiseN, hy.out, hx.out, max_if]
          have hset := hp1.set k (if y < x then x else y)
          rw [← hR3.out, ← hR2.out] at hset
          have hos : Off (fun k => k = p) w (wr.setCell ⟨p, k + 1, none⟩ (.int .i64 (if y < x then x else y))) := ho.setCell (fun _ => rfl) _
          clear ho hp1 hR3 hR2 hpq
          generalize hM1 : k + 1 = M1 at *
          have hM9 : M1 < 9 := by omega
          have hM0 : 1 ≤ M1 := by omega
          have HM := Lib.hid hM1
          clear hM1
          have hset := Lib.hid hset
          have hos := Lib.hid hos
          go_wp2_with fail
          go_region
          go_wp2_with fail
          have HM' := HM.out
          subst HM'
          go_roundw
          case rel => exact ⟨k + 1, by go_num, by omega, hos.out.drew, hset.out.old (Off.refl _ _).drew⟩
          case measure => simp [intOf]; omega
        · obtain rfl : k = 8 := by omega
          go_wp2_with fail
          go_roundw
          case rel => exact ⟨j + 1, by go_num, by omega, ho, by rw [hR.out]; exact hp1⟩
          case measure => simp [intOf]; omega
    · rw [List.take_of_length_le (by rw [HL.out]; omega)] at hp1
      have HF := HK.out _ hp1 ho
      clear HK
      go_wp2_with fail
      first | exact HF | (go_end0; exact HF)
set_option maxHeartbeats 1000000 in
theorem ris_c (p : Nat) (N : List Int) (x : Nm) (w : World) (h : Rps w p N) (R : Ending → World → Prop) (k : ∀ w', Off Old w w' → R (.returned (.bool (x.ok && decide (x.n ≤ ofN N x.c)))) w') :
    Calls Try.prog 29 #[.pointer (some ⟨p, 0, none⟩), .agg #[.int .i64 x.c, .int .i64 x.n]] w R := by
  have HK := Lib.hid k; clear k
  obtain ⟨v, hv⟩ : ∃ v, Hid (x.ok = v) := ⟨_, rfl⟩
  have ho0 : Off Old w (w.alloc (.cells #[.int .i64 x.c, .int .i64 x.n] 53)).drew := ((Off.refl Old w).alloc _).drew
  have h0 := h.old ho0
  have hb0 := (Blk.new w #[.int .i64 x.c, .int .i64 x.n] 53).drew
  have c0 := hb0.cell (i := 0) rfl
  have c1 := hb0.cell (i := 1) rfl
  cases v
  · go_enter Try.func29, Try.ntmps29
    go_wp2_with fail
    have hF : x.ok = false := hv.out
    rw [hF] at HK
    have HK2 := fun w2 (e : Off Old (w.alloc (.cells #[.int .i64 x.c, .int .i64 x.n] 53)).drew w2) => HK.out w2 (ho0.trans e)
    have HK2 := Lib.hid HK2
    clear HK
    refine wp_region_held_drew (S := (fun w' => w'.cell? ⟨w.heap.size, 0, none⟩ = some (.int .i64 x.c) ∧ w'.cell? ⟨w.heap.size, 1, none⟩ = some (.int .i64 x.n))) (by kernel_rfl) ?_ (fun hHeld => ?_)
    · (first | exact ⟨c0, c1⟩ | exact hkeep1)
    refine wpAnyH_take (i := 0) (v := ?_) rfl (by kernel_rfl) (by kernel_rfl) (by kernel_rfl) (fun _ _ _ h => h) (Or.inl ⟨by rfl, ?_⟩) (by assumption) ?_
    rotate_left
    · (intro w hSw; (try dsimp only at hSw); go_simp; try with_reducible rfl)
    try simp only [Act.put, List.getElem_toArray, List.getElem_cons_zero, List.getElem_cons_succ, List.setIfInBounds_toArray, List.set_cons_zero, List.set_cons_succ]
    refine wpAnyH_ready (rs := [1]) (by kernel_rfl) (by simp) ?_
    refine AllReadyH.cons rfl (fun K hK => ?_) AllReadyH.nil
    go_simp
    (go_at_call 65; refine rright_c x _ _ ?_; rw [hF]; intro w2 e2; have hkeep1 : w2.cell? ⟨w.heap.size, 0, none⟩ = some (.int .i64 x.c) ∧ w2.cell? ⟨w.heap.size, 1, none⟩ = some (.int .i64 x.n) := ⟨e2.cell (fun x => x) c0, e2.cell (fun x => x) c1⟩)
    refine hK.out _ _ ?_ (fun hHeld => ?_)
    · (first | exact ⟨c0, c1⟩ | exact hkeep1)
    clear hK K
    try simp only [Act.put, List.getElem_toArray, List.getElem_cons_zero, List.getElem_cons_succ, List.setIfInBounds_toArray, List.set_cons_zero, List.set_cons_succ]
    refine wpAnyH_take (i := 2) (v := ?_) rfl (by kernel_rfl) (by kernel_rfl) (by kernel_rfl) (fun _ _ _ h => h) (Or.inl ⟨by rfl, ?_⟩) (by assumption) ?_
    rotate_left
    · (intro w hSw; (try dsimp only at hSw); go_simp; try with_reducible rfl)
    try simp only [Act.put, List.getElem_toArray, List.getElem_cons_zero, List.getElem_cons_succ, List.setIfInBounds_toArray, List.set_cons_zero, List.set_cons_succ]
    refine wpAnyH_take (i := 3) (v := undef) rfl (by kernel_rfl) (by kernel_rfl) (by kernel_rfl) (fun _ _ _ h => h) (Or.inr ⟨by rfl, rfl⟩) (by assumption) ?_
    try simp only [Act.put, List.getElem_toArray, List.getElem_cons_zero, List.getElem_cons_succ, List.setIfInBounds_toArray, List.set_cons_zero, List.set_cons_succ]
    refine wpAnyH_take (i := 4) (v := undef) rfl (by kernel_rfl) (by kernel_rfl) (by kernel_rfl) (fun _ _ _ h => h) (Or.inr ⟨by rfl, rfl⟩) (by assumption) ?_
    try simp only [Act.put, List.getElem_toArray, List.getElem_cons_zero, List.getElem_cons_succ, List.setIfInBounds_toArray, List.set_cons_zero, List.set_cons_succ]
    refine wpAnyH_take (i := 5) (v := undef) rfl (by kernel_rfl) (by kernel_rfl) (by kernel_rfl) (fun _ _ _ h => h) (Or.inr ⟨by rfl, rfl⟩) (by assumption) ?_
    try simp only [Act.put, List.getElem_toArray, List.getElem_cons_zero, List.getElem_cons_succ, List.setIfInBounds_toArray, List.set_cons_zero, List.set_cons_succ]
    refine wpAnyH_take (i := 6) (v := undef) rfl (by kernel_rfl) (by kernel_rfl) (by kernel_rfl) (fun _ _ _ h => h) (Or.inr ⟨by rfl, rfl⟩) (by assumption) ?_
    try simp only [Act.put, List.getElem_toArray, List.getElem_cons_zero, List.getElem_cons_succ, List.setIfInBounds_toArray, List.set_cons_zero, List.set_cons_succ]
    refine wpAnyH_take (i := 7) (v := undef) rfl (by kernel_rfl) (by kernel_rfl) (by kernel_rfl) (fun _ _ _ h => h) (Or.inr ⟨by rfl, rfl⟩) (by assumption) ?_
    try simp only [Act.put, List.getElem_toArray, List.getElem_cons_zero, List.getElem_cons_succ, List.setIfInBounds_toArray, List.set_cons_zero, List.set_cons_succ]
    refine wpAnyH_take (i := 8) (v := undef) rfl (by kernel_rfl) (by kernel_rfl) (by kernel_rfl) (fun _ _ _ h => h) (Or.inr ⟨by rfl, rfl⟩) (by assumption) ?_
    try simp only [Act.put, List.getElem_toArray, List.getElem_cons_zero, List.getElem_cons_succ, List.setIfInBounds_toArray, List.set_cons_zero, List.set_cons_succ]
    refine wpAnyH_take (i := 9) (v := undef) rfl (by kernel_rfl) (by kernel_rfl) (by kernel_rfl) (fun _ _ _ h => h) (Or.inr ⟨by rfl, rfl⟩) (by assumption) ?_
    try simp only [Act.put, List.getElem_toArray, List.getElem_cons_zero, List.getElem_cons_succ, List.setIfInBounds_toArray, List.set_cons_zero, List.set_cons_succ]
    refine wpAnyH_take (i := 10) (v := undef) rfl (by kernel_rfl) (by kernel_rfl) (by kernel_rfl) (fun _ _ _ h => h) (Or.inr ⟨by rfl, rfl⟩) (by assumption) ?_
    try simp only [Act.put, List.getElem_toArray, List.getElem_cons_zero, List.getElem_cons_succ, List.setIfInBounds_toArray, List.set_cons_zero, List.set_cons_succ]
    refine wpAnyH_take (i := 11) (v := undef) rfl (by kernel_rfl) (by kernel_rfl) (by kernel_rfl) (fun _ _ _ h => h) (Or.inr ⟨by rfl, rfl⟩) (by assumption) ?_
    try simp only [Act.put, List.getElem_toArray, List.getElem_cons_zero, List.getElem_cons_succ, List.setIfInBounds_toArray, List.set_cons_zero, List.set_cons_succ]
    refine wpAnyH_take (i := 12) (v := undef) rfl (by kernel_rfl) (by kernel_rfl) (by kernel_rfl) (fun _ _ _ h => h) (Or.inr ⟨by rfl, rfl⟩) (by assumption) ?_
    try simp only [Act.put, List.getElem_toArray, List.getElem_cons_zero, List.getElem_cons_succ, List.setIfInBounds_toArray, List.set_cons_zero, List.set_cons_succ]
    refine wpAnyH_take (i := 13) (v := ?_) rfl (by kernel_rfl) (by kernel_rfl) (by kernel_rfl) (fun _ _ _ h => h) (Or.inl ⟨by rfl, ?_⟩) (by assumption) ?_
    rotate_left
    · (intro w hSw; (try dsimp only at hSw); go_simp; try with_reducible rfl)
    try simp only [Act.put, List.getElem_toArray, List.getElem_cons_zero, List.getElem_cons_succ, List.setIfInBounds_toArray, List.set_cons_zero, List.set_cons_succ]
    refine wpAnyH_take (i := 14) (v := ?_) rfl (by kernel_rfl) (by kernel_rfl) (by kernel_rfl) (fun _ _ _ h => h) (Or.inl ⟨by rfl, ?_⟩) (by assumption) ?_
    rotate_left
    · (intro w hSw; (try dsimp only at hSw); go_simp; try with_reducible rfl)
    try simp only [Act.put, List.getElem_toArray, List.getElem_cons_zero, List.getElem_cons_succ, List.setIfInBounds_toArray, List.set_cons_zero, List.set_cons_succ]
    refine wpAnyH_done (by kernel_rfl) ?_ _
    go_wp2_with fail
    first | exact HK2.out _ e2 | exact e2
  · have hF : x.ok = true := hv.out
    rw [hF] at HK
    rw [Bool.true_and] at HK
    have hc := Nm.ok_c hF
    obtain ⟨xc, xn⟩ := x
    dsimp only at hc HK ho0 hb0 c0 c1 h0 hF
    obtain ⟨m, rfl⟩ : ∃ m : Nat, xc = ((m + 1 : Nat) : Int) := ⟨(xc - 1).toNat, by omega⟩
    have hm8 : m < 8 := by omega
    obtain ⟨y, hy⟩ := at_of_lt (l := N) (j := m) (by rw [h.len]; exact hm8)
    have cy := h0.at hy.out
    have hyv : Hid (ofN N ((m + 1 : Nat) : Int) = y) := by show _ = _; simp [ofN, hy.out]; omega
    have HKy : Hid (∀ w', Off Old w w' → R (.returned (.bool (decide (xn ≤ y)))) w') := fun w' ho => by
      have := HK.out w' ho; rw [hyv.out] at this; exact this
    clear HK
    generalize hM1 : m + 1 = M1 at *
    have hM9 : M1 < 9 := by omega
    have HM := Lib.hid hM1
    clear hM1 hyv
    have hMi : (0 : Int) ≤ (M1 : Int) := by omega
    have hMj : (M1 : Int) < 9 := by omega
    go_enter Try.func29, Try.ntmps29
    go_wp2_with fail
    have hkeep0 : (w.alloc (.cells #[.int .i64 (M1 : Int), .int .i64 xn] 53)).drew.cell? ⟨w.heap.size, 0, none⟩ = some (.int .i64 (M1 : Int)) ∧ (w.alloc (.cells #[.int .i64 (M1 : Int), .int .i64 xn] 53)).drew.cell? ⟨w.heap.size, 1, none⟩ = some (.int .i64 xn) ∧ (w.alloc (.cells #[.int .i64 (M1 : Int), .int .i64 xn] 53)).drew.cell? ⟨p, M1, none⟩ = some (.int .i64 y) := ⟨c0, c1, cy⟩
    first | (go_region_held3 (fun w' => w'.cell? ⟨w.heap.size, 0, none⟩ = some (.int .i64 (M1 : Int)) ∧ w'.cell? ⟨w.heap.size, 1, none⟩ = some (.int .i64 xn) ∧ w'.cell? ⟨p, M1, none⟩ = some (.int .i64 y)) (first | exact hkeep0 | exact hkeep1) (first | (go_at_call 65; refine rright_c ⟨(M1 : Int), xn⟩ _ _ ?_; rw [hF]; intro w2 e2; have hkeep1 : w2.cell? ⟨w.heap.size, 0, none⟩ = some (.int .i64 (M1 : Int)) ∧ w2.cell? ⟨w.heap.size, 1, none⟩ = some (.int .i64 xn) ∧ w2.cell? ⟨p, M1, none⟩ = some (.int .i64 y) := ⟨e2.cell (fun x => x) c0, e2.cell (fun x => x) c1, e2.cell (fun x => x) cy⟩))) | fail
    go_wp2_with fail
    exact HKy.out _ (ho0.trans e2)
end Go.Proofs.Ytfllejlooaipiaa
