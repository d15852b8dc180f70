/- The verifier's kit: SameBytes. -/
import Derived.Test.YtahpfcfecghpmaaRead2
namespace Go.Proofs.Ytahpfcfecghpmaa
open Go.RowKit

theorem u8_ne (a b : UInt8) : (((a.toNat : Int) != (b.toNat : Int)) = true) ↔ a ≠ b := by
  simp [UInt8.toNat_inj.symm]; omega
theorem take_eq_step {α : Type} {l1 l2 : List α} {j : Nat} {x : α} (h1 : l1[j]? = some x) (h2 : l2[j]? = some x) (h : l1.take j = l2.take j) : l1.take (j+1) = l2.take (j+1) := by
  rw [List.take_add_one, List.take_add_one, h, h1, h2]
theorem ne_of_at {α : Type} {l1 l2 : List α} {j : Nat} {x y : α} (h1 : l1[j]? = some x) (h2 : l2[j]? = some y) (h : x ≠ y) : l1 ≠ l2 := by
  rintro rfl; rw [h1] at h2; cases h2; exact h rfl
theorem eq_of_take {α : Type} {l1 l2 : List α} (h : l1.length = l2.length) (e : l1.take l1.length = l2.take l1.length) : l1 = l2 := by
  rw [List.take_length, h, List.take_length] at e; exact e

set_option maxRecDepth 100000 in
set_option maxHeartbeats 400000 in
theorem sameBytes_c (a1 a2 : Option Addr) (n1 n2 c1 c2 : Nat) (l1 l2 : List UInt8) (w : World) (e1 : n1 = l1.length) (e2 : n2 = l2.length) (h1 : Sl w a1 (bys l1)) (h2 : Sl w a2 (bys l2)) (b1 : l1.length ≤ 140737488355328)
    (R : Ending → World → Prop) (k : ∀ w', Dr w w' → R (.returned (.bool (decide (l1 = l2)))) w') :
    Calls Try.prog 27 #[.slice a1 n1 c1, .slice a2 n2 c2] w R := by
  subst e1
  subst e2
  have HK := Lib.hid k; clear k
  by_cases hl : l1.length = l2.length
  · have hb : ((l1.length : Int) != (l2.length : Int)) = false := by simp [hl]
    have HL := Lib.hid hl; clear hl
    obtain ⟨x1, o1, r1, Q1⟩ := h1.ix1 Try.underlying57 sz_u8 (n := l1.length) (by simp) c1
    obtain ⟨x2, o2, r2, Q2⟩ := h2.ix1 Try.underlying57 sz_u8 (n := l2.length) (by simp) c2
    go_enter Try.func27, Try.ntmps27
    go_wp2_with fail
    go_loopw [5] (fun i wr => ∃ j : Nat, j ≤ l1.length ∧ i = .int .i64 j ∧ Dr w wr ∧ Hid (l1.take j = l2.take j)) (fun i _ => l1.length - (intOf i).toNat)
    case atStart => exact ⟨0, Nat.zero_le _, rfl, Dr.refl _, rfl⟩
    case round =>
      obtain ⟨j, hj, rfl, ⟨m, rfl⟩, ht⟩ := hrel
      by_cases hlt : j < l1.length
      · have hlt2 : j < l2.length := by have := HL.out; omega
        obtain ⟨x, hx⟩ := at_of_lt hlt
        obtain ⟨y, hy⟩ := at_of_lt hlt2
        have g1 := Q1.out j _ (bys_at hx.out)
        have g2 := Q2.out j _ (bys_at hy.out)
        by_cases hxy : x = y
        · have hbb : ((x.toNat : Int) != (y.toNat : Int)) = false := by simp [hxy]
          have hxy := Lib.hid hxy
          rename_i hxy0
          clear hxy0
          go_wp2_with fail
          go_quiet (fail)
          go_wp2_with fail
          go_roundw
          case rel => exact ⟨j + 1, by omega, by go_num, by simp, take_eq_step hx.out (by rw [hxy.out]; exact hy.out) ht.out⟩
          case measure => simp [intOf]; omega
        · have hbb : ((x.toNat : Int) != (y.toNat : Int)) = true := (u8_ne _ _).2 hxy
          have HF : Hid (∀ w', Dr w w' → R (.returned (.bool false)) w') := by
            intro w' hw'
            have := HK.out w' hw'
            rwa [decide_eq_false (ne_of_at hx.out hy.out hxy)] at this
          clear HK
          go_wp2_with fail
          go_quiet (fail)
          go_wp2_with fail
          exact HF.out _ (by simp)
      · obtain rfl : j = l1.length := by omega
        have HF := HK.out (w.drewN m) (by simp)
        rw [decide_eq_true (eq_of_take HL.out ht.out)] at HF
        clear HK
        go_wp2_with fail
        exact HF
  · have hb : ((l1.length : Int) != (l2.length : Int)) = true := by simp; omega
    have hv : ¬ l1 = l2 := by intro h; exact hl (by rw [h])
    have HF := HK.out w (by simp)
    rw [decide_eq_false hv] at HF
    clear HK hv hl
    go_enter Try.func27, Try.ntmps27
    go_wp2_with fail
    exact HF
/-- the same with the answer known. -/
theorem sameBytes_b (v : Bool) (a1 a2 : Option Addr) (n1 n2 c1 c2 : Nat) (l1 l2 : List UInt8) (w : World) (hv : decide (l1 = l2) = v) (e1 : n1 = l1.length) (e2 : n2 = l2.length) (h1 : Sl w a1 (bys l1)) (h2 : Sl w a2 (bys l2)) (b1 : l1.length ≤ 140737488355328)
    (R : Ending → World → Prop) (k : ∀ w', Dr w w' → R (.returned (.bool v)) w') :
    Calls Try.prog 27 #[.slice a1 n1 c1, .slice a2 n2 c2] w R := by
  subst hv; exact sameBytes_c a1 a2 n1 n2 c1 c2 l1 l2 w e1 e2 h1 h2 b1 R k
end Go.Proofs.Ytahpfcfecghpmaa
