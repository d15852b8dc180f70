/- Is a verdict right? By the program. -/
import Derived.Test.YtahpfcfecghpmaaRow19
import Derived.Test.YtahpfcfecghpmaaActName
import Derived.KernelRfl
namespace Go.Proofs.Ytahpfcfecghpmaa
open Go.RowKit

/-- a verdict as it lies: its reads lie elsewhere. -/
structure Vd where
  c : Int
  n : Int
  commit : Bool
  at_ : Int
  reads : List Rdx
def Vd.ok (x : Vd) : Bool := nameOk x.c x.n && decide (1 ≤ x.at_ ∧ x.at_ ≤ 1073741824) && decide (x.reads.length ≤ 6) && (x.commit || decide (x.reads.length = 0)) && x.reads.all Rdx.ok
theorem wrongAny_m (m : Nat) (a : Option Addr) (c : Nat) (l : List Rdx) (hm : Hid (l.length = m)) (w : World) (ha : Sl w a (rdxs l)) (hf : ∀ x ∈ l, x.fits) (bn : m ≤ 1000000000) (R : Ending → World → Prop) (k : ∀ w', Off Old w w' → R (.returned (.bool (!l.all Rdx.ok))) w') :
    Calls Try.prog 49 #[.slice a m c, .func (.func 50) #[] #[]] w R := by
  have h := hm.out
  subst h
  exact wrongAny_c a c l w ha hf bn R k
set_option maxRecDepth 100000 in
set_option maxHeartbeats 1000000 in
theorem right1_19 (x : Vd) (a : Option Addr) (m c : Nat) (hm : Hid (x.reads.length = m)) (w : World) (ha : Sl w a (rdxs x.reads)) (hf : ∀ y ∈ x.reads, y.fits) (bn : m ≤ 1000000000) (R : Ending → World → Prop) (k : ∀ w', Off Old w w' → R (.returned (.bool (!x.ok))) w') :
    Calls Try.prog 47 #[.agg #[.int .i64 x.c, .int .i64 x.n, .bool x.commit, .int .i64 x.at_, .slice a m c]] w R := by
  have HK := Lib.hid k; clear k
  have HFI := Lib.hid hf; clear hf
  go_enter Try.func47, Try.ntmps47
  go_wp2_with (go_at_call 48; refine actName_c x.c x.n _ _ ?_)
  intro w1 ho1
  have hb := Blk.new w #[.int .i64 x.c, .int .i64 x.n, .bool x.commit, .int .i64 x.at_, .slice a m c] 38
  have hcell : ∀ j u, [Value.int .i64 x.c, .int .i64 x.n, .bool x.commit, .int .i64 x.at_, .slice a m c][j]? = some u → w1.cell? ⟨w.heap.size, j, none⟩ = some u := fun j u hu =>
    ho1.cell (fun x => x) (hb.cell hu)
  have b2 := hcell 2 _ rfl
  have b3 := hcell 3 _ rfl
  have b4 := hcell 4 _ rfl
  clear hcell hb
  have ho := ((Off.refl Old w).alloc _).trans ho1
  clear ho1
  have ha1 := ha.old ho
  obtain ⟨X, hX⟩ : ∃ X, Hid (x.ok = X) := ⟨_, rfl⟩
  rw [hX.out] at HK
  obtain ⟨N, hN⟩ : ∃ N, Hid (nameOk x.c x.n = N) := ⟨_, rfl⟩
  obtain ⟨A, hA⟩ : ∃ A, Hid (x.reads.all Rdx.ok = A) := ⟨_, rfl⟩
  obtain ⟨C, hC⟩ : ∃ C, Hid (x.commit = C) := ⟨_, rfl⟩
  rw [hC.out] at b2
  rw [hN.out]
  have hbn : (-9223372036854775808 : Int) ≤ m ∧ (m : Int) ≤ 9223372036854775807 := by omega
  cases N <;> cases C <;> go_wp2_with (go_at_call 49; (first | refine wrongAny_m m a c x.reads hm _ ha1 HFI.out bn _ ?_ | refine wrongAny_m 0 a c x.reads (Lib.hid (hm.out.trans (by assumption))) _ ha1 HFI.out (by omega) _ ?_); rw [hA.out]; intro w2 ho2)
  all_goals first
    | (have hk := HK.out w1 ho
       rw [show X = false by
         rw [← hX.out]
         simp only [Vd.ok, hm.out, hN.out, hC.out, Bool.and_eq_false_iff, decide_eq_false_iff_not, Bool.false_and, Bool.false_or, Bool.true_and, Bool.true_or]
         first | done | omega | (left; omega) | (left; left; omega) | (left; left; left; omega) | (left; left; right; omega) | (left; right; omega)] at hk
       exact hk)
    | (have hk := HK.out w2 (ho.trans ho2)
       have e1 : decide (x.at_ < 1) = false := by simp only [decide_eq_false_iff_not]; omega
       have e2 : decide (1073741824 < x.at_) = false := by simp only [decide_eq_false_iff_not]; omega
       have e3 : decide ((6 : Int) < m) = false := by simp only [decide_eq_false_iff_not]; omega
       rw [show X = A by
         rw [← hX.out]
         simp only [Vd.ok, hm.out, hN.out, hC.out, hA.out, Bool.true_and, Bool.true_or, Bool.false_or]
         rw [decide_eq_true (show 1 ≤ x.at_ ∧ x.at_ ≤ 1073741824 by omega), decide_eq_true (show m ≤ 6 by omega)]
         first | rfl | (rw [decide_eq_true (show m = 0 by omega)]; rfl) | (simp only [Bool.true_and, Bool.and_true])] at hk
       go_wp2_with fail
       first
         | exact hk
         | (simp only [e1, e2, e3, Bool.false_or, Bool.or_false]; exact hk)
         | (rw [e1, e2]; exact hk))
end Go.Proofs.Ytahpfcfecghpmaa
