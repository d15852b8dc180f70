/- Rows of reads: how they lie, and whether one of them is wrong. -/
import Derived.Test.YtahpfcfecghpmaaReadKit
import Derived.Test.YtahpfcfecghpmaaRead19
import Derived.KernelRfl
namespace Go.Proofs.Ytahpfcfecghpmaa
open Go.RowKit

def Rdx.ok (x : Rdx) : Bool := readOk x.key x.is x.val
def Rdx.fits (x : Rdx) : Prop := x.key.size ≤ 140737488351232 ∧ x.val.size ≤ 140737488351232
set_option maxHeartbeats 400000 in
theorem wrongIx_c (V : Bool) (a : Option Addr) (c : Nat) (l : List Rdx) (w : World) (ha : Sl w a (rdxs l)) (hf : ∀ x ∈ l, x.fits) (bn : l.length ≤ 1000000000) (R : Ending → World → Prop) (hV : Hid (l.all Rdx.ok = V)) (k1 : V = true → ∀ w', Off Old w w' → R (.returned (.int .i64 (-1))) w')
    (k2 : V = false → ∀ w' (i : Nat), Off Old w w' → R (.returned (.int .i64 i)) w') :
    Calls Try.prog 73 #[.slice a l.length c, .func (.func 50) #[] #[]] w R := by
  have K1 := Lib.hid k1; have K2 := Lib.hid k2; clear k1 k2
  have HFI := Lib.hid hf; clear hf
  go_enter Try.func73, Try.ntmps73
  go_wp2_with fail
  go_loopw [5, 8] (fun _ i wr => ∃ j : Nat, i = .int .i64 j ∧ j ≤ l.length ∧ Off Old w wr ∧ Hid ((l.take j).all Rdx.ok = true)) (fun _ i _ => l.length - (intOf i).toNat)
  case atStart => exact ⟨0, rfl, Nat.zero_le _, Off.refl _ _, by show _ = _; simp⟩
  case round =>
    obtain ⟨j, rfl, hj, ho, hok⟩ := hrel
    by_cases hlt : j < l.length
    · obtain ⟨x, hx⟩ := at_of_lt hlt
      obtain ⟨b, o, ix, Q, HB⟩ := Sl.ix_rdx (ha.old ho) c
      obtain ⟨cx1, cx2, cx3⟩ := Q.out j x hx.out
      obtain ⟨hf1, hf2⟩ := HFI.out x (List.mem_of_getElem? hx.out)
      obtain ⟨v, hv⟩ : ∃ v, Hid (x.ok = v) := ⟨_, rfl⟩
      cases v
      · have hbad : l.all Rdx.ok = false := by
          rw [List.all_eq_false]; exact ⟨x, List.mem_of_getElem? hx.out, by rw [hv.out]; simp⟩
        have HK := Lib.hid (K2.out (hV.out.symm.trans hbad))
        clear K1 K2 hbad
        go_wp2_with (go_at_call 50; refine wrong_c x.key x.is x.val hf1 hf2 _ _ ?_; rw [show readOk x.key x.is x.val = false from hv.out])
        intro w1 ho1
        have HF := HK.out w1 j (ho.trans ho1)
        clear HK
        go_wp2_with fail
        exact HF
      · have hok2 : Hid ((l.take (j + 1)).all Rdx.ok = true) := by
          show _ = _; rw [List.take_add_one, hx.out, List.all_append, hok.out]; simp [hv.out]
        go_wp2_with (go_at_call 50; refine wrong_c x.key x.is x.val hf1 hf2 _ _ ?_; rw [show readOk x.key x.is x.val = true from hv.out])
        intro w1 ho1
        go_wp2_with fail
        go_roundw
        case rel => exact ⟨j + 1, by go_num, by omega, ho.trans ho1, hok2⟩
        case measure => simp [intOf]; omega
    · have hall := hok.out
      rw [List.take_of_length_le (by omega)] at hall
      have HF := K1.out (hV.out.symm.trans hall) wr ho
      clear K1 K2 hall
      go_wp2_with fail
      exact HF
theorem wrongAny_c (a : Option Addr) (c : Nat) (l : List Rdx) (w : World) (ha : Sl w a (rdxs l)) (hf : ∀ x ∈ l, x.fits) (bn : l.length ≤ 1000000000) (R : Ending → World → Prop) (k : ∀ w', Off Old w w' → R (.returned (.bool (!l.all Rdx.ok))) w') :
    Calls Try.prog 49 #[.slice a l.length c, .func (.func 50) #[] #[]] w R := by
  have HK := Lib.hid k; clear k
  have HFI := Lib.hid hf; clear hf
  go_enter Try.func49, Try.ntmps49
  obtain ⟨V, hV⟩ : ∃ V, Hid (l.all Rdx.ok = V) := ⟨_, rfl⟩
  rw [hV.out] at HK
  go_wp2_with (go_at_call 73; refine wrongIx_c V _ _ l _ ha HFI.out bn _ hV ?_ ?_)
  · intro hv w1 ho1
    subst hv
    have HF := HK.out w1 ho1
    clear HK
    go_wp2_with fail
    exact HF
  · intro hv w1 i ho1
    subst hv
    have HF := HK.out w1 ho1
    clear HK
    have hi : (0 : Int) ≤ i := by omega
    go_wp2_with fail
    first | exact HF | (simp only [decide_eq_true hi]; exact HF)
end Go.Proofs.Ytahpfcfecghpmaa
