/- Is a name one? By the program, by the document. -/
import Derived.Test.YtahpfcfecghpmaaLib2
import Derived.Test.YtahpfcfecghpmaaProg
import Derived.KernelRfl
namespace Go.Proofs.Ytahpfcfecghpmaa
open Go.RowKit

def nameOk (c n : Int) : Bool := decide (1 ≤ c ∧ c ≤ 8 ∧ 1 ≤ n ∧ n ≤ 1073741824)
theorem actName_c (c n : Int) (w : World) (R : Ending → World → Prop) (k : ∀ w', Off Old w w' → R (.returned (.bool (nameOk c n))) w') : Calls Try.prog 48 #[.agg #[.int .i64 c, .int .i64 n]] w R := by
  have HK := Lib.hid k; clear k
  go_enter Try.func48, Try.ntmps48
  go_wp2_with fail
  all_goals
    have hk := HK.out (w.alloc (.cells #[.int .i64 c, .int .i64 n] 35)) ((Off.refl _ _).alloc _)
    first
      | (rw [show nameOk c n = decide (n ≤ 1073741824) by simp only [nameOk, decide_eq_decide]; omega] at hk; exact hk)
      | (rw [show nameOk c n = false by simp only [nameOk, decide_eq_false_iff_not]; omega] at hk; exact hk)
theorem refName_c (c n : Int) (w : World) (R : Ending → World → Prop) (k : ∀ w', Off Old w w' → R (.returned (.bool (nameOk c n))) w') : Calls Try.prog 41 #[.agg #[.int .i64 c, .int .i64 n]] w R := by
  have HK := Lib.hid k; clear k
  go_enter Try.func41, Try.ntmps41
  go_wp2_with fail
  all_goals
    have hk := HK.out (w.alloc (.cells #[.int .i64 c, .int .i64 n] 35)) ((Off.refl _ _).alloc _)
    first
      | (rw [show nameOk c n = decide (n ≤ 1073741824) by simp only [nameOk, decide_eq_decide]; omega] at hk; exact hk)
      | (rw [show nameOk c n = false by simp only [nameOk, decide_eq_false_iff_not]; omega] at hk; exact hk)
end Go.Proofs.Ytahpfcfecghpmaa
