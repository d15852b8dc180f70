/- What is past: merged, copied, written. -/
import Derived.Test.YtfllejlooaipiaaPast4
namespace Go.Proofs.Ytfllejlooaipiaa
open Go.RowKit

def mergeUp (N M : List Int) (k : Nat) : List Int := (List.range k).foldl (fun N (i : Nat) => raiseN N ⟨(i : Int) + 1, M.getD i 0⟩) N
theorem mergeUp_succ (N M : List Int) (k : Nat) : mergeUp N M (k + 1) = raiseN (mergeUp N M k) ⟨(k : Int) + 1, M.getD k 0⟩ := by
  simp [mergeUp, List.range_succ]
def mergeN (N M : List Int) : List Int := mergeUp N M 8
def mergeAll (N : List Int) (Ms : List (List Int)) : List Int := Ms.foldl mergeN N
theorem eight {α : Type} {l : List α} (h : l.length = 8) : ∃ a b c d e f g i, l = [a, b, c, d, e, f, g, i] := by
  match l, h with
  | [a, b, c, d, e, f, g, i], _ => exact ⟨a, b, c, d, e, f, g, i, rfl⟩
set_option maxRecDepth 100000 in
set_option maxHeartbeats 1000000 in
theorem merge_c (p : Nat) (N : List Int) (a : Option Addr) (c : Nat) (qs : List Nat) (Ms : List (List Int)) (w : World) (h : Pst w p N) (ha : Sl w a (pts qs)) (hs : ∀ q, a = some q → qs ≠ [] → q.block ≠ p) (hl : Ms.length = qs.length)
    (hq : ∀ (i q : Nat) (M : List Int), qs[i]? = some q → Ms[i]? = some M → q ≠ p ∧ Pst w q M) (bn : qs.length ≤ 1000000000) (R : Ending → World → Prop)
    (k : ∀ w', Pst w' p (mergeAll N Ms) → Off (fun k => k = p) w w' → R (.returned (.int .i64 0)) w') :
    Calls Try.prog 21 #[.pointer (some ⟨p, 0, none⟩), .slice a qs.length c] w R := by
  have HK := Lib.hid k; clear k
  have HQ := Lib.hid hq; clear hq
  have HL := Lib.hid hl; clear hl
  have hm := h.made
  have ho0 : Off Old w (w.alloc (.cells #[.pointer (some ⟨p, 0, none⟩)] 27)) := (Off.refl Old w).alloc _
  have hmq : Hid (∀ q ∈ qs, (w.alloc (.cells #[.pointer (some ⟨p, 0, none⟩)] 27)).cell? ⟨q, 8, none⟩ = some (.bool true)) := by
    intro q hq
    obtain ⟨i, hi⟩ := List.mem_iff_getElem?.1 hq
    have hil := (List.getElem?_eq_some_iff.1 hi).1
    obtain ⟨M, hM⟩ := at_of_lt (l := Ms) (j := i) (by rw [HL.out]; exact hil)
    exact ((HQ.out i q M hi hM.out).2.old ho0).made
  have hp : p < w.heap.size := h.blk.lt
  go_enter Try.func21, Try.ntmps21
  go_wp2_with (first | (go_at_call 66; refine pknown_n p _ hm _ ?_) | (go_at_call 66; refine pknown_c _ _ qs _ (ha.old ho0) hmq.out bn _ ?_))
  have h0 := h.old ho0
  generalize hw1 : w.alloc (.cells #[.pointer (some ⟨p, 0, none⟩)] 27) = w1 at *
  clear hw1 hmq
  go_loopw [6, 7, 8, 20] (fun _ _ _ i wr => ∃ j : Nat, i = .int .i64 j ∧ j ≤ qs.length ∧ Off (fun k => k = p) w wr ∧ Pst wr p (mergeAll N (Ms.take j))) (fun _ _ _ i _ => qs.length - (intOf i).toNat)
  case atStart => exact ⟨0, rfl, Nat.zero_le _, ho0.mono (fun _ x _ => x.elim), h0⟩
  case round =>
    clear h0 ho0
    obtain ⟨j, rfl, hj, ho, hp1⟩ := hrel
    by_cases hlt : j < qs.length
    · obtain ⟨q, hq⟩ := at_of_lt hlt
      obtain ⟨M, hM⟩ := at_of_lt (l := Ms) (j := j) (by rw [HL.out]; exact hlt)
      obtain ⟨hne, hpq⟩ := HQ.out j q M hq.out hM.out
      have hpq := hpq.off ho hne
      have hR : Hid (mergeAll N (Ms.take (j + 1)) = mergeN (mergeAll N (Ms.take j)) M) := by
        show _ = _; simp [mergeAll, List.take_add_one, hM.out]
      generalize mergeAll N (Ms.take j) = N1 at *
      obtain ⟨b, o, ix, Q⟩ := (ha.off ho (fun x e hn => hs x e (by rintro rfl; exact hn rfl))).ix1 Try.underlying25 sz_ppast (n := qs.length) (by simp) c
      have cx := Q.out j _ (pts_at hq.out)
      obtain ⟨m0, m1, m2, m3, m4, m5, m6, m7, hMM⟩ := eight hpq.len
      have HMM := Lib.hid hMM
      subst hMM
      have d0 := hpq.at (i := 0) rfl
      have d1 := hpq.at (i := 1) rfl
      have d2 := hpq.at (i := 2) rfl
      have d3 := hpq.at (i := 3) rfl
      have d4 := hpq.at (i := 4) rfl
      have d5 := hpq.at (i := 5) rfl
      have d6 := hpq.at (i := 6) rfl
      have d7 := hpq.at (i := 7) rfl
      go_wp2_with fail
      go_loopw [7, 8, 29] (fun _ _ i wr2 => ∃ k : Nat, i = .int .i64 k ∧ k ≤ 8 ∧ Off (fun k => k = p) w wr2 ∧ Pst wr2 p (mergeUp N1 [m0, m1, m2, m3, m4, m5, m6, m7] k)) (fun _ _ i _ => 8 - (intOf i).toNat)
      case atStart => exact ⟨0, rfl, Nat.zero_le _, ho, hp1⟩
      case round =>
        clear hp1 ho hpq d0 d1 d2 d3 d4 d5 d6 d7 ix cx
        obtain ⟨k, rfl, hk, ho, hp1⟩ := hrel
        by_cases hk8 : k < 8
        · obtain rfl | rfl | rfl | rfl | rfl | rfl | rfl | rfl : k = 0 ∨ k = 1 ∨ k = 2 ∨ k = 3 ∨ k = 4 ∨ k = 5 ∨ k = 6 ∨ k = 7 := by omega
          · have hR2 : Hid (mergeUp N1 [m0, m1, m2, m3, m4, m5, m6, m7] 1 = raiseN (mergeUp N1 [m0, m1, m2, m3, m4, m5, m6, m7] 0) ⟨1, m0⟩) := mergeUp_succ _ _ 0
            generalize mergeUp N1 [m0, m1, m2, m3, m4, m5, m6, m7] 0 = N2 at *
            have hix : ∀ w, (Instr.index 104 (.agg #[.int .i64 m0, .int .i64 m1, .int .i64 m2, .int .i64 m3, .int .i64 m4, .int .i64 m5, .int .i64 m6, .int .i64 m7]) (.int .i64 0)).run Try.prog w = .ok (.int .i64 m0) w := fun w => by kernel_rfl
            go_wp2_with (go_at_call 67; go_must (refine raise_c p N2 ⟨1, m0⟩ _ hp1 (by simp) (by simp) _ ?_))
            intro w2 e2 e3
            have ho2 := ho.trans e3
            go_wp2_with fail
            go_roundw
            case rel => exact ⟨1, by go_num, by omega, ho2, by rw [hR2.out]; exact e2⟩
            case measure => simp [intOf]
          · have hR2 : Hid (mergeUp N1 [m0, m1, m2, m3, m4, m5, m6, m7] 2 = raiseN (mergeUp N1 [m0, m1, m2, m3, m4, m5, m6, m7] 1) ⟨2, m1⟩) := mergeUp_succ _ _ 1
            generalize mergeUp N1 [m0, m1, m2, m3, m4, m5, m6, m7] 1 = N2 at *
            have hix : ∀ w, (Instr.index 104 (.agg #[.int .i64 m0, .int .i64 m1, .int .i64 m2, .int .i64 m3, .int .i64 m4, .int .i64 m5, .int .i64 m6, .int .i64 m7]) (.int .i64 1)).run Try.prog w = .ok (.int .i64 m1) w := fun w => by kernel_rfl
            go_wp2_with (go_at_call 67; go_must (refine raise_c p N2 ⟨2, m1⟩ _ hp1 (by simp) (by simp) _ ?_))
            intro w2 e2 e3
            have ho2 := ho.trans e3
            go_wp2_with fail
            go_roundw
            case rel => exact ⟨2, by go_num, by omega, ho2, by rw [hR2.out]; exact e2⟩
            case measure => simp [intOf]
          · have hR2 : Hid (mergeUp N1 [m0, m1, m2, m3, m4, m5, m6, m7] 3 = raiseN (mergeUp N1 [m0, m1, m2, m3, m4, m5, m6, m7] 2) ⟨3, m2⟩) := mergeUp_succ _ _ 2
            generalize mergeUp N1 [m0, m1, m2, m3, m4, m5, m6, m7] 2 = N2 at *
            have hix : ∀ w, (Instr.index 104 (.agg #[.int .i64 m0, .int .i64 m1, .int .i64 m2, .int .i64 m3, .int .i64 m4, .int .i64 m5, .int .i64 m6, .int .i64 m7]) (.int .i64 2)).run Try.prog w = .ok (.int .i64 m2) w := fun w => by kernel_rfl
            go_wp2_with (go_at_call 67; go_must (refine raise_c p N2 ⟨3, m2⟩ _ hp1 (by simp) (by simp) _ ?_))
            intro w2 e2 e3
            have ho2 := ho.trans e3
            go_wp2_with fail
            go_roundw
            case rel => exact ⟨3, by go_num, by omega, ho2, by rw [hR2.out]; exact e2⟩
            case measure => simp [intOf]
          · have hR2 : Hid (mergeUp N1 [m0, m1, m2, m3, m4, m5, m6, m7] 4 = raiseN (mergeUp N1 [m0, m1, m2, m3, m4, m5, m6, m7] 3) ⟨4, m3⟩) := mergeUp_succ _ _ 3
            generalize mergeUp N1 [m0, m1, m2, m3, m4, m5, m6, m7] 3 = N2 at *
            have hix : ∀ w, (Instr.index 104 (.agg #[.int .i64 m0, .int .i64 m1, .int .i64 m2, .int .i64 m3, .int .i64 m4, .int .i64 m5, .int .i64 m6, .int .i64 m7]) (.int .i64 3)).run Try.prog w = .ok (.int .i64 m3) w := fun w => by kernel_rfl
            go_wp2_with (go_at_call 67; go_must (refine raise_c p N2 ⟨4, m3⟩ _ hp1 (by simp) (by simp) _ ?_))
            intro w2 e2 e3
            have ho2 := ho.trans e3
            go_wp2_with fail
            go_roundw
            case rel => exact ⟨4, by go_num, by omega, ho2, by rw [hR2.out]; exact e2⟩
            case measure => simp [intOf]
          · have hR2 : Hid (mergeUp N1 [m0, m1, m2, m3, m4, m5, m6, m7] 5 = raiseN (mergeUp N1 [m0, m1, m2, m3, m4, m5, m6, m7] 4) ⟨5, m4⟩) := mergeUp_succ _ _ 4
            generalize mergeUp N1 [m0, m1, m2, m3, m4, m5, m6, m7] 4 = N2 at *
            have hix : ∀ w, (Instr.index 104 (.agg #[.int .i64 m0, .int .i64 m1, .int .i64 m2, .int .i64 m3, .int .i64 m4, .int .i64 m5, .int .i64 m6, .int .i64 m7]) (.int .i64 4)).run Try.prog w = .ok (.int .i64 m4) w := fun w => by kernel_rfl
            go_wp2_with (go_at_call 67; go_must (refine raise_c p N2 ⟨5, m4⟩ _ hp1 (by simp) (by simp) _ ?_))
            intro w2 e2 e3
            have ho2 := ho.trans e3
            go_wp2_with fail
            go_roundw
            case rel => exact ⟨5, by go_num, by omega, ho2, by rw [hR2.out]; exact e2⟩
            case measure => simp [intOf]
          · have hR2 : Hid (mergeUp N1 [m0, m1, m2, m3, m4, m5, m6, m7] 6 = raiseN (mergeUp N1 [m0, m1, m2, m3, m4, m5, m6, m7] 5) ⟨6, m5⟩) := mergeUp_succ _ _ 5
            generalize mergeUp N1 [m0, m1, m2, m3, m4, m5, m6, m7] 5 = N2 at *
            have hix : ∀ w, (Instr.index 104 (.agg #[.int .i64 m0, .int .i64 m1, .int .i64 m2, .int .i64 m3, .int .i64 m4, .int .i64 m5, .int .i64 m6, .int .i64 m7]) (.int .i64 5)).run Try.prog w = .ok (.int .i64 m5) w := fun w => by kernel_rfl
            go_wp2_with (go_at_call 67; go_must (refine raise_c p N2 ⟨6, m5⟩ _ hp1 (by simp) (by simp) _ ?_))
            intro w2 e2 e3
            have ho2 := ho.trans e3
            go_wp2_with fail
            go_roundw
            case rel => exact ⟨6, by go_num, by omega, ho2, by rw [hR2.out]; exact e2⟩
            case measure => simp [intOf]
          · have hR2 : Hid (mergeUp N1 [m0, m1, m2, m3, m4, m5, m6, m7] 7 = raiseN (mergeUp N1 [m0, m1, m2, m3, m4, m5, m6, m7] 6) ⟨7, m6⟩) := mergeUp_succ _ _ 6
            generalize mergeUp N1 [m0, m1, m2, m3, m4, m5, m6, m7] 6 = N2 at *
            have hix : ∀ w, (Instr.index 104 (.agg #[.int .i64 m0, .int .i64 m1, .int .i64 m2, .int .i64 m3, .int .i64 m4, .int .i64 m5, .int .i64 m6, .int .i64 m7]) (.int .i64 6)).run Try.prog w = .ok (.int .i64 m6) w := fun w => by kernel_rfl
            go_wp2_with (go_at_call 67; go_must (refine raise_c p N2 ⟨7, m6⟩ _ hp1 (by simp) (by simp) _ ?_))
            intro w2 e2 e3
            have ho2 := ho.trans e3
            go_wp2_with fail
            go_roundw
            case rel => exact ⟨7, by go_num, by omega, ho2, by rw [hR2.out]; exact e2⟩
            case measure => simp [intOf]
          · have hR2 : Hid (mergeUp N1 [m0, m1, m2, m3, m4, m5, m6, m7] 8 = raiseN (mergeUp N1 [m0, m1, m2, m3, m4, m5, m6, m7] 7) ⟨8, m7⟩) := mergeUp_succ _ _ 7
            generalize mergeUp N1 [m0, m1, m2, m3, m4, m5, m6, m7] 7 = N2 at *
            have hix : ∀ w, (Instr.index 104 (.agg #[.int .i64 m0, .int .i64 m1, .int .i64 m2, .int .i64 m3, .int .i64 m4, .int .i64 m5, .int .i64 m6, .int .i64 m7]) (.int .i64 7)).run Try.prog w = .ok (.int .i64 m7) w := fun w => by kernel_rfl
            go_wp2_with (go_at_call 67; go_must (refine raise_c p N2 ⟨8, m7⟩ _ hp1 (by simp) (by simp) _ ?_))
            intro w2 e2 e3
            have ho2 := ho.trans e3
            go_wp2_with fail
            go_roundw
            case rel => exact ⟨8, by go_num, by omega, ho2, by rw [hR2.out]; exact e2⟩
            case measure => simp [intOf]
        · obtain rfl : k = 8 := by omega
          go_wp2_with fail
          go_roundw
          case rel => exact ⟨j + 1, by go_num, by omega, ho, by rw [hR.out]; exact hp1⟩
          case measure => simp [intOf]; omega
    · rw [List.take_of_length_le (by rw [HL.out]; omega)] at hp1
      have HF := HK.out _ hp1 ho
      clear HK
      go_wp2_with fail
      exact HF
end Go.Proofs.Ytfllejlooaipiaa
