/- The verifier's kit: names lent, kept. -/
import Derived.Test.YtfllejlooaipiaaNames
import Derived.Test.YtfllejlooaipiaaKit4
namespace Go.Proofs.Ytfllejlooaipiaa
open Go.RowKit
set_option linter.unusedSimpArgs false

theorem own_full_s {w : World} {e : TypeId} {s g n : Nat} {xs : List Value} (h : w.ownsRow 0 e s (.slice (some ⟨g, 0, none⟩) n n) n xs) : Blk w g xs e := by
  rcases h.2 with ⟨h1, _⟩ | ⟨g', cap, cur, h1, _, h2, _, _, h3, h4⟩
  · cases h1
  · cases h1
    unfold Blk
    rw [h2]
    have : cur.toList.take (n * s) = cur.toList := List.take_of_length_le (by simp; omega)
    rw [this] at h4
    rw [← h4]
def markNm (k i : Nat) : Nm := ⟨0, markN k i⟩
def marksNm (k m : Nat) : List Nm := (List.range m).map (markNm k)
@[simp] theorem marksNm_len (k m : Nat) : (marksNm k m).length = m := by simp [marksNm]
theorem marksNm_succ (k m : Nat) : marksNm k (m + 1) = marksNm k m ++ [markNm k m] := by simp [marksNm, List.range_succ]
theorem marksNm_at {k m i : Nat} (h : i < m) : (marksNm k m)[i]? = some (markNm k i) := by simp [marksNm, h]
theorem markName_c (k i : Nat) (hk : k ≤ 1000000) (hi : i ≤ 1000000000) (w : World) (R : Ending → World → Prop) (K : ∀ w', Off Old w w' → R (.returned (.agg #[.int .i64 0, .int .i64 (markN k i)])) w') :
    Calls Try.prog 61 #[.int .i64 k, .int .i64 i] w R := by
  have HK := Lib.hid K; clear K
  go_enter Try.func61, Try.ntmps61
  go_wp2_with (go_at_call 84; go_must (refine mark_c k i hk hi _ _ ?_))
  have HF := HK.out (w.alloc (.cells #[.int .i64 0, .int .i64 (markN k i)] 53)) ((Off.refl _ _).alloc _)
  clear HK
  go_wp2_with fail
  exact bodyPost_ret (v := .agg #[.int .i64 0, .int .i64 (markN k i)]) (by simp [results, Try.results61, go_sem]) rfl HF
set_option maxRecDepth 100000 in
set_option maxHeartbeats 1000000 in
theorem lentNames_c (a : Option Addr) (n c : Nat) (l : List Nm) (w : World) (hn : l.length = n) (h : Sl w a (nms l)) (bd : n ≤ 1000000000) (R : Ending → World → Prop)
    (k : ∀ w' g, Blk w' g (nms (l ++ marksNm 1 12)) 53 → Off Old w w' → w.heap.size ≤ g → R (.returned (.slice (some ⟨g, 0, none⟩) n (n + 12))) w') :
    Calls Try.prog 13 #[.slice a n c] w R := by
  have HN := Lib.hid hn; clear hn
  obtain ⟨i0, hi, hz0, hz1, hz2⟩ := info_parts nminfo
  have HK := Lib.hid k; clear k
  have hln : Hid ((nms l).length = n * 2) := by show _ = _; rw [nms_length, HN.out]
  go_enter Try.func13, Try.ntmps13
  go_wp2_with (at_make; go_must (refine wpList_make_new rfl _ _ 23 rfl 53 i0 (.agg #[.int .i64 0, .int .i64 0]) 2 16 Try.underlying23 hi hz0 hz1 hz2 _ _ _ (n + 12) rfl rfl (by omega) (by omega) (by omega) ?_))
  intro w1 hown ho1
  have h1 := h.old ho1
  go_wp2_with (at_builtin; go_must (refine wpList_append_fit rfl (.tmp 9) (.tmp 10) 23 rfl 53 i0 (.agg #[.int .i64 0, .int .i64 0]) 2 16 Try.underlying23 hi hz0 hz1 hz2 rfl (by decide) w.heap.size 0 (n + 12) [] rfl hown a n c (nms l) rfl hln.out h1 (nms_oneCell _) (by omega) (by omega) (by omega) ?_))
  intro w2 hown2 ho2
  have ho3 : Off Old w w2 := ho1.step ho2 (by intro i e hl; omega)
  clear ho2 ho1 h1 hown h
  go_wp2_with fail
  go_loopw [3, 4] (fun v i wr => ∃ j : Nat, i = .int .i64 j ∧ j ≤ 12 ∧ v = .slice (some ⟨w.heap.size, 0, none⟩) (n + j) (n + 12) ∧ wr.ownsRow 0 53 2 (.slice (some ⟨w.heap.size, 0, none⟩) (n + j) (n + 12)) (n + j) (nms (l ++ marksNm 1 j)) ∧ Off Old w wr) (fun _ i _ => 12 - (intOf i).toNat)
  case atStart => exact ⟨0, rfl, by omega, rfl, by simpa [marksNm] using hown2, ho3⟩
  case round =>
    obtain ⟨j, rfl, hj, rfl, hown, ho⟩ := hrel
    by_cases hlt : j < 12
    · obtain ⟨V, hV⟩ : ∃ V, Hid (nms (l ++ marksNm 1 j) = V) := ⟨_, rfl⟩
      rw [hV.out] at hown
      go_wp2_with (go_at_call 61; go_must (refine markName_c 1 j (by omega) (by omega) _ _ ?_))
      intro w3 ho4
      have hown3 := own_off hown ho4 (fun _ _ x => x)
      have hz3 := ho4.size
      go_wp2_with (at_builtin; go_must (refine wpList_append_fit_new rfl (.tmp 16) (.tmp 19) 23 rfl 53 i0 (.agg #[.int .i64 0, .int .i64 0]) 2 16 Try.underlying23 hi hz0 hz1 hz2 rfl (by decide) w.heap.size (n + j) (n + 12) V rfl hown3 1 1 (nms [markNm 1 j]) rfl rfl (nms_oneCell _) (by omega) (by omega) (by omega) ?_))
      intro w4 hown4 ho5
      have hown5 : w4.ownsRow 0 53 2 (.slice (some ⟨w.heap.size, 0, none⟩) (n + (j + 1)) (n + 12)) (n + (j + 1)) (nms (l ++ marksNm 1 (j + 1))) := by
        have := hown4
        rw [marksNm_succ, ← List.append_assoc, nms_append, hV.out]
        simpa [Nat.add_assoc] using this
      have ho6 : Off Old w w4 := (ho.trans ho4).step ho5 (by intro i e hl; omega)
      clear hown hown3 hown4 ho ho4 ho5
      go_wp2_with fail
      go_roundw
      case rel => exact ⟨j + 1, by go_num, by omega, by simp [Nat.add_assoc], hown5, ho6⟩
      case measure => simp [intOf]; omega
    · obtain rfl : j = 12 := by omega
      have HF := HK.out wr w.heap.size (own_full_s hown) ho (Nat.le_refl _)
      clear HK
      go_wp2_with fail
      exact HF
theorem markName_1 (T : Nat) (hT : T ≤ 12) (w : World) (R : Ending → World → Prop) (K : ∀ w', Off Old w w' → R (.returned (.agg #[.int .i64 0, .int .i64 (markN 1 T)])) w') :
    Calls Try.prog 61 #[.int .i64 1, .int .i64 (T : Int)] w R := markName_c 1 T (by omega) (by omega) w R K
set_option maxRecDepth 100000 in
set_option maxHeartbeats 1000000 in
theorem keptNames_c (g : Nat) (a : Option Addr) (n c : Nat) (l : List Nm) (w : World) (hn : l.length = n) (hb : Blk w g (nms (l ++ marksNm 1 12)) 53) (h : Sl w a (nms l)) (bd : n ≤ 1000000000) (R : Ending → World → Prop)
    (k : ∀ w', Off Old w w' → R (.returned (.bool true)) w') :
    Calls Try.prog 19 #[.slice (some ⟨g, 0, none⟩) n (n + 12), .slice a n c] w R := by
  have HK := Lib.hid k; clear k
  subst hn
  have hAll : Hid ((l ++ marksNm 1 12).length = l.length + 12) := by show _ = _; simp
  go_enter Try.func19, Try.ntmps19
  go_wp2_with fail
  go_loopw [6] (fun i wr => ∃ j : Nat, i = .int .i64 j ∧ j ≤ l.length + 12 ∧ Off Old w wr) (fun i _ => l.length + 12 - (intOf i).toNat)
  case atStart => exact ⟨0, rfl, by omega, Off.refl _ _⟩
  case round =>
    obtain ⟨j, rfl, hj, ho⟩ := hrel
    by_cases hlt : j < l.length
    · obtain ⟨x, hx⟩ := at_of_lt hlt
      obtain ⟨b, o, ix, Q, _⟩ := (h.old ho).ixn c
      obtain ⟨cx1, cx2⟩ := Q.out j x hx.out
      have hq := nms_at (l := l ++ marksNm 1 12) (j := j) (x := x) (by rw [List.getElem?_append_left hlt]; exact hx.out)
      rw [Nat.mul_comm] at hq
      have cg1 := (hb.off ho (fun x => x)).cell hq.1
      have cg2 := (hb.off ho (fun x => x)).cell hq.2
      have hnd : decide (l.length ≤ j) = false := by simpa using hlt
      clear hq
      go_wp2_with fail
      go_quiet (fail)
      go_wp2_with fail
      go_roundw
      case rel => exact ⟨j + 1, by go_num, by omega, ho.drewN _⟩
      case measure => simp [intOf]; omega
    · by_cases hend : j < l.length + 12
      · have hq := nms_at (l := l ++ marksNm 1 12) (j := j) (x := markNm 1 (j - l.length)) (by rw [List.getElem?_append_right (by omega)]; exact marksNm_at (by omega))
        rw [Nat.mul_comm] at hq
        have cg1 : wr.cell? ⟨g, j * 2, none⟩ = some (.int .i64 0) := (hb.off ho (fun x => x)).cell hq.1
        have cg2 : wr.cell? ⟨g, j * 2 + 1, none⟩ = some (.int .i64 (markN 1 (j - l.length))) := (hb.off ho (fun x => x)).cell hq.2
        have hsub : IntKind.i64.wrap ((j : Int) - (l.length : Int)) = ((j - l.length : Nat) : Int) := by
          rw [IntWalk.i64_in _ (by omega)]; omega
        have hnd : decide (l.length ≤ j) = true := by simpa using hlt
        have hlt2 : decide (j < l.length) = false := by simpa using hlt
        have ht12 : j - l.length ≤ 12 := by omega
        clear hq hb
        generalize hT : j - l.length = T at *
        clear hT
        have hkeep0 : wr.cell? ⟨g, j * 2, none⟩ = some (.int .i64 0) ∧ wr.cell? ⟨g, j * 2 + 1, none⟩ = some (.int .i64 (markN 1 T)) := ⟨cg1, cg2⟩
        have hkeepd : wr.drew.cell? ⟨g, j * 2, none⟩ = some (.int .i64 0) ∧ wr.drew.cell? ⟨g, j * 2 + 1, none⟩ = some (.int .i64 (markN 1 T)) := ⟨cg1, cg2⟩
        go_wp2_with fail
        refine wp_region_held_drew (S := (fun w' => w'.cell? ⟨g, j * 2, none⟩ = some (.int .i64 0) ∧ w'.cell? ⟨g, j * 2 + 1, none⟩ = some (.int .i64 (markN 1 T)))) (by kernel_rfl) ?_ (fun hHeld => ?_)
        · (first | exact hkeepd | exact hkeep1)
        refine wpAnyH_take (i := 0) (v := ?_) rfl (by kernel_rfl) (by kernel_rfl) (by kernel_rfl) (fun _ _ _ h => h) (Or.inl ⟨by rfl, ?_⟩) (by assumption) ?_
        rotate_left
        · (intro w hSw; (try dsimp only at hSw); go_simp; try with_reducible rfl)
        try simp only [Act.put, List.getElem_toArray, List.getElem_cons_zero, List.getElem_cons_succ, List.setIfInBounds_toArray, List.set_cons_zero, List.set_cons_succ]
        refine wpAnyH_take (i := 1) (v := ?_) rfl (by kernel_rfl) (by kernel_rfl) (by kernel_rfl) (fun _ _ _ h => h) (Or.inl ⟨by rfl, ?_⟩) (by assumption) ?_
        rotate_left
        · (intro w hSw; (try dsimp only at hSw); go_simp; try with_reducible rfl)
        try simp only [Act.put, List.getElem_toArray, List.getElem_cons_zero, List.getElem_cons_succ, List.setIfInBounds_toArray, List.set_cons_zero, List.set_cons_succ]
        refine wpAnyH_take (i := 2) (v := ?_) rfl (by kernel_rfl) (by kernel_rfl) (by kernel_rfl) (fun _ _ _ h => h) (Or.inl ⟨by rfl, ?_⟩) (by assumption) ?_
        rotate_left
        · (intro w hSw; (try dsimp only at hSw); go_simp; try with_reducible rfl)
        try simp only [Act.put, List.getElem_toArray, List.getElem_cons_zero, List.getElem_cons_succ, List.setIfInBounds_toArray, List.set_cons_zero, List.set_cons_succ]
        refine wpAnyH_take (i := 3) (v := ?_) rfl (by kernel_rfl) (by kernel_rfl) (by kernel_rfl) (fun _ _ _ h => h) (Or.inl ⟨by rfl, ?_⟩) (by assumption) ?_
        rotate_left
        · (intro w hSw; (try dsimp only at hSw); go_simp; try with_reducible rfl)
        try simp only [Act.put, List.getElem_toArray, List.getElem_cons_zero, List.getElem_cons_succ, List.setIfInBounds_toArray, List.set_cons_zero, List.set_cons_succ]
        refine wpAnyH_take (i := 4) (v := ?_) rfl (by kernel_rfl) (by kernel_rfl) (by kernel_rfl) (fun _ _ _ h => h) (Or.inl ⟨by rfl, ?_⟩) (by assumption) ?_
        rotate_left
        · (intro w hSw; (try dsimp only at hSw); go_simp; try with_reducible rfl)
        try simp only [Act.put, List.getElem_toArray, List.getElem_cons_zero, List.getElem_cons_succ, List.setIfInBounds_toArray, List.set_cons_zero, List.set_cons_succ]
        refine wpAnyH_take (i := 5) (v := undef) rfl (by kernel_rfl) (by kernel_rfl) (by kernel_rfl) (fun _ _ _ h => h) (Or.inr ⟨by rfl, rfl⟩) (by assumption) ?_
        try simp only [Act.put, List.getElem_toArray, List.getElem_cons_zero, List.getElem_cons_succ, List.setIfInBounds_toArray, List.set_cons_zero, List.set_cons_succ]
        refine wpAnyH_take (i := 6) (v := undef) rfl (by kernel_rfl) (by kernel_rfl) (by kernel_rfl) (fun _ _ _ h => h) (Or.inr ⟨by rfl, rfl⟩) (by assumption) ?_
        try simp only [Act.put, List.getElem_toArray, List.getElem_cons_zero, List.getElem_cons_succ, List.setIfInBounds_toArray, List.set_cons_zero, List.set_cons_succ]
        refine wpAnyH_take (i := 7) (v := undef) rfl (by kernel_rfl) (by kernel_rfl) (by kernel_rfl) (fun _ _ _ h => h) (Or.inr ⟨by rfl, rfl⟩) (by assumption) ?_
        try simp only [Act.put, List.getElem_toArray, List.getElem_cons_zero, List.getElem_cons_succ, List.setIfInBounds_toArray, List.set_cons_zero, List.set_cons_succ]
        refine wpAnyH_take (i := 8) (v := undef) rfl (by kernel_rfl) (by kernel_rfl) (by kernel_rfl) (fun _ _ _ h => h) (Or.inr ⟨by rfl, rfl⟩) (by assumption) ?_
        try simp only [Act.put, List.getElem_toArray, List.getElem_cons_zero, List.getElem_cons_succ, List.setIfInBounds_toArray, List.set_cons_zero, List.set_cons_succ]
        refine wpAnyH_take (i := 9) (v := undef) rfl (by kernel_rfl) (by kernel_rfl) (by kernel_rfl) (fun _ _ _ h => h) (Or.inr ⟨by rfl, rfl⟩) (by assumption) ?_
        try simp only [Act.put, List.getElem_toArray, List.getElem_cons_zero, List.getElem_cons_succ, List.setIfInBounds_toArray, List.set_cons_zero, List.set_cons_succ]
        refine wpAnyH_take (i := 10) (v := undef) rfl (by kernel_rfl) (by kernel_rfl) (by kernel_rfl) (fun _ _ _ h => h) (Or.inr ⟨by rfl, rfl⟩) (by assumption) ?_
        try simp only [Act.put, List.getElem_toArray, List.getElem_cons_zero, List.getElem_cons_succ, List.setIfInBounds_toArray, List.set_cons_zero, List.set_cons_succ]
        refine wpAnyH_take (i := 11) (v := undef) rfl (by kernel_rfl) (by kernel_rfl) (by kernel_rfl) (fun _ _ _ h => h) (Or.inr ⟨by rfl, rfl⟩) (by assumption) ?_
        try simp only [Act.put, List.getElem_toArray, List.getElem_cons_zero, List.getElem_cons_succ, List.setIfInBounds_toArray, List.set_cons_zero, List.set_cons_succ]
        refine wpAnyH_take (i := 12) (v := undef) rfl (by kernel_rfl) (by kernel_rfl) (by kernel_rfl) (fun _ _ _ h => h) (Or.inr ⟨by rfl, rfl⟩) (by assumption) ?_
        try simp only [Act.put, List.getElem_toArray, List.getElem_cons_zero, List.getElem_cons_succ, List.setIfInBounds_toArray, List.set_cons_zero, List.set_cons_succ]
        refine wpAnyH_take (i := 13) (v := undef) rfl (by kernel_rfl) (by kernel_rfl) (by kernel_rfl) (fun _ _ _ h => h) (Or.inr ⟨by rfl, rfl⟩) (by assumption) ?_
        try simp only [Act.put, List.getElem_toArray, List.getElem_cons_zero, List.getElem_cons_succ, List.setIfInBounds_toArray, List.set_cons_zero, List.set_cons_succ]
        refine wpAnyH_take (i := 14) (v := undef) rfl (by kernel_rfl) (by kernel_rfl) (by kernel_rfl) (fun _ _ _ h => h) (Or.inr ⟨by rfl, rfl⟩) (by assumption) ?_
        try simp only [Act.put, List.getElem_toArray, List.getElem_cons_zero, List.getElem_cons_succ, List.setIfInBounds_toArray, List.set_cons_zero, List.set_cons_succ]
        refine wpAnyH_take (i := 15) (v := ?_) rfl (by kernel_rfl) (by kernel_rfl) (by kernel_rfl) (fun _ _ _ h => h) (Or.inl ⟨by rfl, ?_⟩) (by assumption) ?_
        rotate_left
        · (intro w hSw; (try dsimp only at hSw); go_simp; try with_reducible rfl)
        try simp only [Act.put, List.getElem_toArray, List.getElem_cons_zero, List.getElem_cons_succ, List.setIfInBounds_toArray, List.set_cons_zero, List.set_cons_succ]
        refine wpAnyH_take (i := 16) (v := ?_) rfl (by kernel_rfl) (by kernel_rfl) (by kernel_rfl) (fun _ _ _ h => h) (Or.inl ⟨by rfl, ?_⟩) (by assumption) ?_
        rotate_left
        · (intro w hSw; (try dsimp only at hSw); go_simp; try with_reducible rfl)
        try simp only [Act.put, List.getElem_toArray, List.getElem_cons_zero, List.getElem_cons_succ, List.setIfInBounds_toArray, List.set_cons_zero, List.set_cons_succ]
        refine wpAnyH_take (i := 17) (v := ?_) rfl (by kernel_rfl) (by kernel_rfl) (by kernel_rfl) (fun _ _ _ h => h) (Or.inl ⟨by rfl, ?_⟩) (by assumption) ?_
        rotate_left
        · (intro w hSw; (try dsimp only at hSw); go_simp; try with_reducible rfl)
        try simp only [Act.put, List.getElem_toArray, List.getElem_cons_zero, List.getElem_cons_succ, List.setIfInBounds_toArray, List.set_cons_zero, List.set_cons_succ]
        refine wpAnyH_take (i := 18) (v := ?_) rfl (by kernel_rfl) (by kernel_rfl) (by kernel_rfl) (fun _ _ _ h => h) (Or.inl ⟨by rfl, ?_⟩) (by assumption) ?_
        rotate_left
        · (intro w hSw; (try dsimp only at hSw); go_simp; try with_reducible rfl)
        try simp only [Act.put, List.getElem_toArray, List.getElem_cons_zero, List.getElem_cons_succ, List.setIfInBounds_toArray, List.set_cons_zero, List.set_cons_succ]
        refine wpAnyH_take (i := 19) (v := ?_) rfl (by kernel_rfl) (by kernel_rfl) (by kernel_rfl) (fun _ _ _ h => h) (Or.inl ⟨by rfl, ?_⟩) (by assumption) ?_
        rotate_left
        · (intro w hSw; (try dsimp only at hSw); go_simp; try with_reducible rfl)
        try simp only [Act.put, List.getElem_toArray, List.getElem_cons_zero, List.getElem_cons_succ, List.setIfInBounds_toArray, List.set_cons_zero, List.set_cons_succ]
        refine wpAnyH_take (i := 20) (v := ?_) rfl (by kernel_rfl) (by kernel_rfl) (by kernel_rfl) (fun _ _ _ h => h) (Or.inl ⟨by rfl, ?_⟩) (by assumption) ?_
        rotate_left
        · (intro w hSw; (try dsimp only at hSw); go_simp; try with_reducible rfl)
        try simp only [Act.put, List.getElem_toArray, List.getElem_cons_zero, List.getElem_cons_succ, List.setIfInBounds_toArray, List.set_cons_zero, List.set_cons_succ]
        refine wpAnyH_take (i := 21) (v := ?_) rfl (by kernel_rfl) (by kernel_rfl) (by kernel_rfl) (fun _ _ _ h => h) (Or.inl ⟨by rfl, ?_⟩) (by assumption) ?_
        rotate_left
        · (intro w hSw; (try dsimp only at hSw); go_simp; try with_reducible rfl)
        try simp only [Act.put, List.getElem_toArray, List.getElem_cons_zero, List.getElem_cons_succ, List.setIfInBounds_toArray, List.set_cons_zero, List.set_cons_succ]
        refine wpAnyH_take (i := 22) (v := ?_) rfl (by kernel_rfl) (by kernel_rfl) (by kernel_rfl) (fun _ _ _ h => h) (Or.inl ⟨by rfl, ?_⟩) (by assumption) ?_
        rotate_left
        · (intro w hSw; (try dsimp only at hSw); go_simp; try with_reducible rfl)
        try simp only [Act.put, List.getElem_toArray, List.getElem_cons_zero, List.getElem_cons_succ, List.setIfInBounds_toArray, List.set_cons_zero, List.set_cons_succ]
        refine wpAnyH_take (i := 23) (v := ?_) rfl (by kernel_rfl) (by kernel_rfl) (by kernel_rfl) (fun _ _ _ h => h) (Or.inl ⟨by rfl, ?_⟩) (by assumption) ?_
        rotate_left
        · (intro w hSw; (try dsimp only at hSw); go_simp; try with_reducible rfl)
        try simp only [Act.put, List.getElem_toArray, List.getElem_cons_zero, List.getElem_cons_succ, List.setIfInBounds_toArray, List.set_cons_zero, List.set_cons_succ]
        refine wpAnyH_take (i := 24) (v := ?_) rfl (by kernel_rfl) (by kernel_rfl) (by kernel_rfl) (fun _ _ _ h => h) (Or.inl ⟨by rfl, ?_⟩) (by assumption) ?_
        rotate_left
        · (intro w hSw; (try dsimp only at hSw); go_simp; try with_reducible rfl)
        try simp only [Act.put, List.getElem_toArray, List.getElem_cons_zero, List.getElem_cons_succ, List.setIfInBounds_toArray, List.set_cons_zero, List.set_cons_succ]
        refine wpAnyH_take (i := 25) (v := ?_) rfl (by kernel_rfl) (by kernel_rfl) (by kernel_rfl) (fun _ _ _ h => h) (Or.inl ⟨by rfl, ?_⟩) (by assumption) ?_
        rotate_left
        · (intro w hSw; (try dsimp only at hSw); go_simp; try with_reducible rfl)
        try simp only [Act.put, List.getElem_toArray, List.getElem_cons_zero, List.getElem_cons_succ, List.setIfInBounds_toArray, List.set_cons_zero, List.set_cons_succ]
        refine wpAnyH_take (i := 26) (v := ?_) rfl (by kernel_rfl) (by kernel_rfl) (by kernel_rfl) (fun _ _ _ h => h) (Or.inl ⟨by rfl, ?_⟩) (by assumption) ?_
        rotate_left
        · (intro w hSw; (try dsimp only at hSw); go_simp; try with_reducible rfl)
        try simp only [Act.put, List.getElem_toArray, List.getElem_cons_zero, List.getElem_cons_succ, List.setIfInBounds_toArray, List.set_cons_zero, List.set_cons_succ]
        refine wpAnyH_take (i := 27) (v := ?_) rfl (by kernel_rfl) (by kernel_rfl) (by kernel_rfl) (fun _ _ _ h => h) (Or.inl ⟨by rfl, ?_⟩) (by assumption) ?_
        rotate_left
        · (intro w hSw; (try dsimp only at hSw); go_simp; try with_reducible rfl)
        try simp only [Act.put, List.getElem_toArray, List.getElem_cons_zero, List.getElem_cons_succ, List.setIfInBounds_toArray, List.set_cons_zero, List.set_cons_succ]
        refine wpAnyH_take (i := 28) (v := ?_) rfl (by kernel_rfl) (by kernel_rfl) (by kernel_rfl) (fun _ _ _ h => h) (Or.inl ⟨by rfl, ?_⟩) (by assumption) ?_
        rotate_left
        · (intro w hSw; (try dsimp only at hSw); go_simp; try with_reducible rfl)
        try simp only [Act.put, List.getElem_toArray, List.getElem_cons_zero, List.getElem_cons_succ, List.setIfInBounds_toArray, List.set_cons_zero, List.set_cons_succ]
        refine wpAnyH_take (i := 29) (v := ?_) rfl (by kernel_rfl) (by kernel_rfl) (by kernel_rfl) (fun _ _ _ h => h) (Or.inl ⟨by rfl, ?_⟩) (by assumption) ?_
        rotate_left
        · (intro w hSw; (try dsimp only at hSw); go_simp; try with_reducible rfl)
        try simp only [Act.put, List.getElem_toArray, List.getElem_cons_zero, List.getElem_cons_succ, List.setIfInBounds_toArray, List.set_cons_zero, List.set_cons_succ]
        refine wpAnyH_ready (rs := [30]) (by kernel_rfl) (by simp) ?_
        refine AllReadyH.cons rfl (fun K hK => ?_) AllReadyH.nil
        go_simp
        (go_at_call 61; refine markName_1 T ht12 _ _ ?_; intro w2 e1; have hkeep1 : w2.cell? ⟨g, j * 2, none⟩ = some (.int .i64 0) ∧ w2.cell? ⟨g, j * 2 + 1, none⟩ = some (.int .i64 (markN 1 T)) := ⟨e1.cell (fun x => x) cg1, e1.cell (fun x => x) cg2⟩)
        refine hK.out _ _ ?_ (fun hHeld => ?_)
        · (first | exact hkeepd | exact hkeep1)
        clear hK K
        try simp only [Act.put, List.getElem_toArray, List.getElem_cons_zero, List.getElem_cons_succ, List.setIfInBounds_toArray, List.set_cons_zero, List.set_cons_succ]
        refine wpAnyH_take (i := 31) (v := ?_) rfl (by kernel_rfl) (by kernel_rfl) (by kernel_rfl) (fun _ _ _ h => h) (Or.inl ⟨by rfl, ?_⟩) (by assumption) ?_
        rotate_left
        · (intro w hSw; (try dsimp only at hSw); go_simp; try with_reducible rfl)
        try simp only [Act.put, List.getElem_toArray, List.getElem_cons_zero, List.getElem_cons_succ, List.setIfInBounds_toArray, List.set_cons_zero, List.set_cons_succ]
        refine wpAnyH_take (i := 32) (v := ?_) rfl (by kernel_rfl) (by kernel_rfl) (by kernel_rfl) (fun _ _ _ h => h) (Or.inl ⟨by rfl, ?_⟩) (by assumption) ?_
        rotate_left
        · (intro w hSw; (try dsimp only at hSw); go_simp; try with_reducible rfl)
        try simp only [Act.put, List.getElem_toArray, List.getElem_cons_zero, List.getElem_cons_succ, List.setIfInBounds_toArray, List.set_cons_zero, List.set_cons_succ]
        refine wpAnyH_take (i := 33) (v := ?_) rfl (by kernel_rfl) (by kernel_rfl) (by kernel_rfl) (fun _ _ _ h => h) (Or.inl ⟨by rfl, ?_⟩) (by assumption) ?_
        rotate_left
        · (intro w hSw; (try dsimp only at hSw); go_simp; try with_reducible rfl)
        try simp only [Act.put, List.getElem_toArray, List.getElem_cons_zero, List.getElem_cons_succ, List.setIfInBounds_toArray, List.set_cons_zero, List.set_cons_succ]
        refine wpAnyH_take (i := 34) (v := ?_) rfl (by kernel_rfl) (by kernel_rfl) (by kernel_rfl) (fun _ _ _ h => h) (Or.inl ⟨by rfl, ?_⟩) (by assumption) ?_
        rotate_left
        · (intro w hSw; (try dsimp only at hSw); go_simp; try with_reducible rfl)
        try simp only [Act.put, List.getElem_toArray, List.getElem_cons_zero, List.getElem_cons_succ, List.setIfInBounds_toArray, List.set_cons_zero, List.set_cons_succ]
        refine wpAnyH_done (by kernel_rfl) ?_ _
        have ho2 := ho.drew.trans e1
        go_wp2_with fail
        go_roundw
        case rel => exact ⟨j + 1, by go_num, by omega, ho2⟩
        case measure => simp [intOf]; omega
      · obtain rfl : j = l.length + 12 := by omega
        have HF := HK.out wr ho
        clear HK
        go_wp2_with fail
        exact HF
end Go.Proofs.Ytfllejlooaipiaa
