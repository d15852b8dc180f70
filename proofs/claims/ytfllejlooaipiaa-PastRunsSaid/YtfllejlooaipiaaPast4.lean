/- What is past: read. -/
import Derived.Test.YtfllejlooaipiaaPast3
import Derived.Test.YtfllejlooaipiaaReads1
import Derived.Test.YtfllejlooaipiaaRef02b
namespace Go.Proofs.Ytfllejlooaipiaa
open Go.RowKit

/-- so many numbers, one behind the other. -/
def rdMany : Nat → RS → List Int × RS
  | 0, s => ([], s)
  | k + 1, s => ((rdMany k s).1 ++ [(rdNum 1073741824 (rdMany k s).2).1], (rdNum 1073741824 (rdMany k s).2).2)
theorem rdMany_length : ∀ (k : Nat) (s : RS), (rdMany k s).1.length = k
  | 0, _ => rfl
  | k + 1, s => by simp [rdMany, rdMany_length k s]
theorem set_step {l : List Int} {j k : Nat} (hl : l.length = j) (x : Int) : (l ++ List.replicate (k + 1) 0).set j x = (l ++ [x]) ++ List.replicate k 0 := by
  subst hl
  rw [List.set_append_right _ _ (Nat.le_refl _), Nat.sub_self, List.replicate_succ, List.set_cons_zero]; simp
set_option maxRecDepth 100000 in
set_option maxHeartbeats 1000000 in
theorem pread_c (p bb : Nat) (s : RS) (w : World) (h : Rd w p bb s) (hbb : bb ≤ p) (R : Ending → World → Prop)
    (k1 : (rdMany 8 s).2 = none → ∀ w', Rd w' p bb none → Off (fun k => k = p) w w' → R (.returned (.tuple #[.pointer none, .bool false])) w')
    (k2 : (rdMany 8 s).2 ≠ none → ∀ w' q, w.heap.size ≤ q → Pst w' q (rdMany 8 s).1 → Rd w' p bb (rdMany 8 s).2 → Off (fun k => k = p) w w' → R (.returned (.tuple #[.pointer (some ⟨q, 0, none⟩), .bool true])) w') :
    Calls Try.prog 36 #[.pointer (some ⟨p, 0, none⟩)] w R := by
  have K1 := Lib.hid k1; have K2 := Lib.hid k2; clear k1 k2
  go_enter Try.func36, Try.ntmps36
  go_wp2_with (go_at_call 12; refine new_c _ _ ?_)
  intro w1 hp0 ho0 _
  have hr0 := h.old ho0
  have hq : Hid (p < w.heap.size) := h.lt
  generalize hqq : w.heap.size = q at *
  have hqq := Lib.hid hqq
  go_wp2_with fail
  go_loopw [5, 7] (fun _ i wr => ∃ j : Nat, i = .int .i64 j ∧ j ≤ 8 ∧ Rd wr p bb (rdMany j s).2 ∧ Pst wr q ((rdMany j s).1 ++ List.replicate (8 - j) 0) ∧ Off (fun k => k = p) w wr) (fun _ i _ => 8 - (intOf i).toNat)
  case atStart => exact ⟨0, rfl, Nat.zero_le _, hr0, hp0, ho0.mono (fun _ x _ => x.elim)⟩
  case round =>
    clear hr0 hp0 ho0
    obtain ⟨j, rfl, hj, hr, hp, ho⟩ := hrel
    by_cases hlt : j < 8
    · have hR2 : Hid ((rdMany (j + 1) s).2 = (rdNum 1073741824 (rdMany j s).2).2) := rfl
      have hR1 : Hid ((rdMany (j + 1) s).1 ++ List.replicate (8 - (j + 1)) 0 = ((rdMany j s).1 ++ List.replicate (8 - j) 0).set j (rdNum 1073741824 (rdMany j s).2).1) := by
        show _ = _
        rw [show 8 - j = (8 - (j + 1)) + 1 by omega, set_step (rdMany_length j s)]; rfl
      generalize (rdMany j s).1 ++ List.replicate (8 - j) 0 = M at *
      generalize (rdMany j s).2 = s1 at *
      generalize hT : rdNum 1073741824 s1 = T at *
      obtain ⟨v, s2⟩ := T
      have hne : ¬ q = p := by have := hq.out; omega
      obtain ⟨y, hy⟩ := at_of_lt (l := M) (j := j) (by rw [hp.len]; exact hlt)
      have hpd := hp.old (Off.refl Old wr).drew
      go_wp2_with fail
      first | (go_region_with (first | (go_at_call 33; refine number_r p bb s1 1073741824 _ hr.drew _ ?_; rw [hT]; intro w2 e2 e3; have hp2 := hpd.off e3 hne; have cy := hp2.at hy.out; have fy := hp2.blk.free j))) | fail
      all_goals
        have h8 : ∀ w', Off (fun k => k = q) w2 w' → Rd w' p bb s2 := fun w' ho => e2.off ho (fun e => hne e.symm) (by have := hq.out; omega)
        have h9 : ∀ w', Off (fun k => k = q) w2 w' → Off (fun k => k = p) w w' := fun w' ho2 => ((ho.drew.trans e3).step ho2 (by rintro i rfl hi; have := hqq.out; omega))
        have HO := (Off.refl (fun k => k = q) w2).setCell (p := ⟨q, j, none⟩) (fun _ => rfl) (.int .i64 v)
        have HP := hp2.set hlt v
        clear e2 e3 hp2 cy fy
        go_wp2_with fail
        go_roundw
        case rel => exact ⟨j + 1, by go_num, by omega, by rw [hR2.out]; exact h8 _ (by simpa using HO), by rw [hR1.out]; simpa using HP, h9 _ (by simpa using HO)⟩
        case measure => simp [intOf]; omega
    · obtain rfl : j = 8 := by omega
      rw [Nat.sub_self, List.replicate_zero, List.append_nil] at hp
      cases hs8 : (rdMany 8 s).2 with
      | none =>
        rw [hs8] at hr
        have HF := K1.out hs8 wr hr ho
        clear K1 K2
        have hb1 : (((rdLeft none : Nat) : Int) == 0) = true := rfl
        have hb2 : (rdEnd none != 0) = true := rfl
        go_wp2_with (first | (go_at_call 32; refine left_c _ _ none _ hr _ ?_) | (go_at_call 34; refine end_c _ _ none _ hr _ ?_))
        exact HF
      | some l =>
        have HF := K2.out (by rw [hs8]; simp) wr q (by have := hqq.out; omega) hp hr ho
        rw [hs8] at hr
        clear K1 K2
        cases l with
        | nil =>
          have hb1 : (((rdLeft (some []) : Nat) : Int) == 0) = true := rfl
          have hb2 : (rdEnd (some []) != 0) = false := rfl
          go_wp2_with (first | (go_at_call 32; refine left_c _ _ (some []) _ hr _ ?_) | (go_at_call 34; refine end_c _ _ (some []) _ hr _ ?_))
          exact HF
        | cons x xs =>
          have hb1 : (((rdLeft (some (x :: xs)) : Nat) : Int) == 0) = false := by simp [rdLeft]; omega
          go_wp2_with (first | (go_at_call 32; refine left_c _ _ (some (x :: xs)) _ hr _ ?_) | (go_at_call 34; refine end_c _ _ (some (x :: xs)) _ hr _ ?_))
          exact HF
end Go.Proofs.Ytfllejlooaipiaa
