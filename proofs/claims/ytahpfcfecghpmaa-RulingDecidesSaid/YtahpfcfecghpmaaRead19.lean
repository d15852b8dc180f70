/- Is a read right? By the program, by the document. -/
import Derived.Test.YtahpfcfecghpmaaLib2
import Derived.Test.YtahpfcfecghpmaaSpanKey
import Derived.KernelRfl
namespace Go.Proofs.Ytahpfcfecghpmaa
open Go.RowKit

def readOk (key : ByteArray) (is : Bool) (v : ByteArray) : Bool := keyOk key && decide (v.size ≤ 20) && (is || decide (v.size = 0))
theorem readOk_eq (key : ByteArray) (is : Bool) (v : ByteArray) : readOk key is v = (keyOk key && decide (v.size ≤ 20) && (is || (v.toList == []))) := by
  rw [readOk]
  congr 2
  rw [ByteArray.toList_eq]
  by_cases h : v.size = 0
  · have he : v = ⟨#[]⟩ := by
      obtain ⟨d⟩ := v
      have : d = #[] := Array.eq_empty_of_size_eq_zero h
      rw [this]
    subst he
    decide
  · have hn : v.data.toList ≠ [] := by
      intro hh
      apply h
      have := congrArg List.length hh
      simpa using this
    simp only [h, decide_false]
    symm
    simpa using hn
set_option maxHeartbeats 1000000 in
theorem readRight_c (key : ByteArray) (is : Bool) (v : ByteArray) (hs : key.size ≤ 140737488351232) (hv : v.size ≤ 140737488351232) (w : World) (R : Ending → World → Prop) (k : ∀ w', Off Old w w' → R (.returned (.bool (readOk key is v))) w') : Calls Try.prog 42 #[.agg #[.string key, .bool is, .string v]] w R := by
  have HK := Lib.hid k; clear k
  have hrg : (-9223372036854775808 : Int) ≤ v.size ∧ (v.size : Int) ≤ 9223372036854775807 := by omega
  go_enter Try.func42, Try.ntmps42
  go_wp2_with fail
  refine refKey_c key hs _ _ ?_
  have hfin := HK.out (w.alloc (.cells #[.string key, .bool is, .string v] 83)) ((Off.refl _ _).alloc _)
  clear HK
  rw [readOk_eq] at hfin
  have hfi := Lib.hid hfin; clear hfin
  cases hk : keyOk key <;> cases is <;> by_cases h20 : v.size ≤ 20
  all_goals
    have hfin := hfi.out
    rw [hk] at hfin
    clear hfi
    simp only [h20, decide_true, decide_false, Bool.and_true, Bool.true_and, Bool.and_false, Bool.false_and, Bool.true_or, Bool.false_or] at hfin
    have HF := Lib.hid hfin; clear hfin
    go_wp2_with fail
  all_goals first
    | (exfalso; omega)
    | exact HF.out
    | (have hfin := HF.out
       rw [show (v.toList == []) = v.toList.isEmpty by cases v.toList <;> rfl] at hfin
       exact hfin)
set_option maxHeartbeats 1000000 in
theorem wrong_c (key : ByteArray) (is : Bool) (v : ByteArray) (hs : key.size ≤ 140737488351232) (hv : v.size ≤ 140737488351232) (w : World) (R : Ending → World → Prop) (k : ∀ w', Off Old w w' → R (.returned (.bool (!readOk key is v))) w') : Calls Try.prog 50 #[.agg #[.string key, .bool is, .string v]] w R := by
  have HK := Lib.hid k; clear k
  have hrg : (-9223372036854775808 : Int) ≤ v.size ∧ (v.size : Int) ≤ 9223372036854775807 := by omega
  go_enter Try.func50, Try.ntmps50
  go_wp2_with fail
  refine spanKey_c key hs _ _ ?_
  have hfin := HK.out (w.alloc (.cells #[.string key, .bool is, .string v] 83)) ((Off.refl _ _).alloc _)
  clear HK
  rw [readOk_eq] at hfin
  have hfi := Lib.hid hfin; clear hfin
  cases hk : keyOk key <;> cases is <;> by_cases h20 : v.size ≤ 20
  all_goals
    have hfin := hfi.out
    rw [hk] at hfin
    clear hfi
    simp only [h20, decide_true, decide_false, Bool.and_true, Bool.true_and, Bool.and_false, Bool.false_and, Bool.true_or, Bool.false_or, Bool.not_true, Bool.not_false] at hfin
    have HF := Lib.hid hfin; clear hfin
    go_wp2_with fail
  all_goals first
    | (exfalso; omega)
    | exact HF.out
    | (have hfin := HF.out
       rw [show (v.toList == []) = v.toList.isEmpty by cases v.toList <;> rfl] at hfin
       exact hfin)
    | (have e : decide ((20 : Int) < v.size) = false := by simp only [decide_eq_false_iff_not]; omega
       rw [e]
       have hfin := HF.out
       first
         | exact hfin
         | (rw [show (v.toList == []) = v.toList.isEmpty by cases v.toList <;> rfl] at hfin
            exact hfin))
end Go.Proofs.Ytahpfcfecghpmaa
