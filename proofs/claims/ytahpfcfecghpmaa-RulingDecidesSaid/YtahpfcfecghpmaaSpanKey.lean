/- Is a text a key? By the program, by the document. -/
import Derived.Test.YtahpfcfecghpmaaLib2
import Derived.Test.YtahpfcfecghpmaaProg
import Derived.KernelRfl
namespace Go.Proofs.Ytahpfcfecghpmaa
open Go.RowKit

def keyB (c : UInt8) : Bool := decide (97 ≤ c.toNat ∧ c.toNat ≤ 122) || decide (48 ≤ c.toNat ∧ c.toNat ≤ 57)
def keyOk (s : ByteArray) : Bool := decide (0 < s.size ∧ s.size ≤ 20) && s.data.toList.all keyB
theorem keyB_more {s : ByteArray} {k : Nat} (hlt : k < s.size) (ha : (s.data.toList.take k).all keyB = true) (hb : keyB s[k] = true) : (s.data.toList.take (k + 1)).all keyB = true := by
  have hl : k < s.data.toList.length := by simpa using hlt
  rw [List.take_succ_eq_append_getElem hl, List.all_append, ha]
  simp only [Array.getElem_toList, List.all_cons, List.all_nil, Bool.and_true, Bool.true_and]
  exact hb
theorem keyOk_not {s : ByteArray} {k : Nat} (hlt : k < s.size) (hb : keyB s[k] = false) : keyOk s = false := by
  have hl : k < s.data.toList.length := by simpa using hlt
  rw [keyOk, Bool.and_eq_false_iff]
  right
  rw [List.all_eq_false]
  refine ⟨_, List.getElem_mem hl, ?_⟩
  rw [Bool.not_eq_true, Array.getElem_toList]
  exact hb
set_option maxHeartbeats 1000000 in
theorem spanKey_c (s : ByteArray) (hs : s.size ≤ 140737488351232) (w : World) (R : Ending → World → Prop) (k : R (.returned (.bool (keyOk s))) w) : Calls Try.prog 74 #[.string s] w R := by
  by_cases h0 : s.size = 0
  · have he : s = ⟨#[]⟩ := by
      obtain ⟨d⟩ := s
      have : d = #[] := Array.eq_empty_of_size_eq_zero h0
      rw [this]
    subst he
    rw [show keyOk ⟨#[]⟩ = false by decide] at k
    go_enter Try.func74, Try.ntmps74
    go_wp2_with fail
    exact k
  · have HK := Lib.hid k; clear k
    go_enter Try.func74, Try.ntmps74
    have hne : (s.toList == ([] : List UInt8)) = false := by
      rw [ByteArray.toList_eq]
      simp only [beq_eq_false_iff_ne, ne_eq]
      intro h
      apply h0
      have := congrArg List.length h
      simpa using this
    have hrg : (-9223372036854775808 : Int) ≤ s.size ∧ (s.size : Int) ≤ 9223372036854775807 := by omega
    by_cases h20 : 20 < s.size
    · go_wp2_with fail
      have hv : keyOk s = false := by simp only [keyOk, Bool.and_eq_false_iff, decide_eq_false_iff_not]; left; omega
      have hk := HK.out
      rw [hv] at hk
      exact hk
    · go_wp2_with fail
      go_loopw [14] (fun i wr => ∃ k : Nat, i = .int .i64 k ∧ k ≤ s.size ∧ (s.data.toList.take k).all keyB = true ∧ wr = w) (fun i _ => s.size - (intOf i).toNat)
      case atStart => exact ⟨0, rfl, by omega, rfl, rfl⟩
      case round =>
        obtain ⟨k, rfl, hk, ha, rfl⟩ := hrel
        have hks : (k : Int) ≤ s.size := by omega
        by_cases hlt : k < s.size
        · have hlt' : (k : Int) < s.size := by omega
          go_wp2_with fail
          all_goals (try simp only [Bool.not_eq_eq_eq_not, Bool.not_true, Bool.not_false, decide_eq_true_eq, decide_eq_false_iff_not] at *)
          all_goals first
            | exact ⟨⟨k + 1, rfl, by omega, keyB_more hlt ha (by simp only [keyB, Bool.or_eq_true, decide_eq_true_eq]; omega), trivial⟩, by show s.size - ((k : Int) + 1).toNat < s.size - (k : Int).toNat; omega⟩
            | (have hv : keyOk s = false := keyOk_not hlt (by simp only [keyB, Bool.or_eq_false_iff, decide_eq_false_iff_not]; omega)
               have hk := HK.out
               rw [hv] at hk
               exact hk)
            | trace_state
        · have hlt' : ¬ (k : Int) < s.size := by omega
          go_wp2_with fail
          have hv : keyOk s = true := by
            have he : k = s.data.toList.length := by
              have : s.data.toList.length = s.size := by simp
              omega
            rw [he, List.take_length] at ha
            simp only [keyOk, ha, Bool.and_true, decide_eq_true_eq]
            omega
          have hk := HK.out
          rw [hv] at hk
          exact hk
set_option maxHeartbeats 1000000 in
theorem refKey_c (s : ByteArray) (hs : s.size ≤ 140737488351232) (w : World) (R : Ending → World → Prop) (k : R (.returned (.bool (keyOk s))) w) : Calls Try.prog 70 #[.string s] w R := by
  by_cases h0 : s.size = 0
  · have he : s = ⟨#[]⟩ := by
      obtain ⟨d⟩ := s
      have : d = #[] := Array.eq_empty_of_size_eq_zero h0
      rw [this]
    subst he
    rw [show keyOk ⟨#[]⟩ = false by decide] at k
    go_enter Try.func70, Try.ntmps70
    go_wp2_with fail
    exact k
  · have HK := Lib.hid k; clear k
    go_enter Try.func70, Try.ntmps70
    have hne : (s.toList == ([] : List UInt8)) = false := by
      rw [ByteArray.toList_eq]
      simp only [beq_eq_false_iff_ne, ne_eq]
      intro h
      apply h0
      have := congrArg List.length h
      simpa using this
    have hrg : (-9223372036854775808 : Int) ≤ s.size ∧ (s.size : Int) ≤ 9223372036854775807 := by omega
    by_cases h20 : 20 < s.size
    · go_wp2_with fail
      have hv : keyOk s = false := by simp only [keyOk, Bool.and_eq_false_iff, decide_eq_false_iff_not]; left; omega
      have hk := HK.out
      rw [hv] at hk
      exact hk
    · go_wp2_with fail
      go_loopw [3] (fun i wr => ∃ k : Nat, i = .int .i64 k ∧ k ≤ s.size ∧ (s.data.toList.take k).all keyB = true ∧ wr = w) (fun i _ => s.size - (intOf i).toNat)
      case atStart => exact ⟨0, rfl, by omega, rfl, rfl⟩
      case round =>
        obtain ⟨k, rfl, hk, ha, rfl⟩ := hrel
        have hks : (k : Int) ≤ s.size := by omega
        by_cases hlt : k < s.size
        · have hlt' : (k : Int) < s.size := by omega
          go_wp2_with fail
          all_goals (try simp only [Bool.not_eq_eq_eq_not, Bool.not_true, Bool.not_false, decide_eq_true_eq, decide_eq_false_iff_not] at *)
          all_goals first
            | exact ⟨⟨k + 1, rfl, by omega, keyB_more hlt ha (by simp only [keyB, Bool.or_eq_true, decide_eq_true_eq]; omega), trivial⟩, by show s.size - ((k : Int) + 1).toNat < s.size - (k : Int).toNat; omega⟩
            | (have hv : keyOk s = false := keyOk_not hlt (by simp only [keyB, Bool.or_eq_false_iff, decide_eq_false_iff_not]; omega)
               have hk := HK.out
               rw [hv] at hk
               exact hk)
            | trace_state
        · have hlt' : ¬ (k : Int) < s.size := by omega
          go_wp2_with fail
          have hv : keyOk s = true := by
            have he : k = s.data.toList.length := by
              have : s.data.toList.length = s.size := by simp
              omega
            rw [he, List.take_length] at ha
            simp only [keyOk, ha, Bool.and_true, decide_eq_true_eq]
            omega
          have hk := HK.out
          rw [hv] at hk
          exact hk
end Go.Proofs.Ytahpfcfecghpmaa
