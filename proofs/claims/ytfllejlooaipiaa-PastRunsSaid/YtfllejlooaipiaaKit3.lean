/- The verifier's kit: kept bytes. -/
import Derived.Test.YtfllejlooaipiaaKit2
namespace Go.Proofs.Ytfllejlooaipiaa
open Go.RowKit

theorem blk_sl {w : World} {g : Nat} {cs : List Value} {t : TypeId} (h : Blk w g cs t) : Sl w (some ⟨g, 0, none⟩) cs :=
  Sl.mk fun j u hu => by rw [Nat.zero_add]; exact h.cell hu

set_option maxRecDepth 100000 in
set_option maxHeartbeats 400000 in
theorem keptBytes_c (g : Nat) (a : Option Addr) (n c : Nat) (l m : List UInt8) (w : World) (hn : n = m.length) (hb : Blk w g (bys (l ++ marksB 1 0 12)) 5) (h : Sl w a (bys m)) (bd : l.length ≤ 100000000000000) (R : Ending → World → Prop)
    (k : ∀ w', Dr w w' → R (.returned (.bool (decide (l = m)))) w') :
    Calls Try.prog 78 #[.slice (some ⟨g, 0, none⟩) l.length (l.length + 12), .slice a n c] w R := by
  subst hn
  have HK := Lib.hid k; clear k
  by_cases hl : l.length = m.length
  · have hbb : ((l.length : Int) != (m.length : Int)) = false := by simp [hl]
    have HL := Lib.hid hl
    obtain ⟨x2, o2, r2, Q2⟩ := h.ix1 Try.underlying43 sz_u8 (n := m.length) (by simp) c
    have hlm : m.length + 12 ≤ l.length + 12 := by omega
    clear hl
    go_enter Try.func78, Try.ntmps78
    go_wp2_with fail
    go_loopw [6] (fun i wr => ∃ j : Nat, i = .int .i64 j ∧ j ≤ m.length + 12 ∧ Dr w wr ∧ Hid (l.take j = m.take j)) (fun i _ => m.length + 12 - (intOf i).toNat)
    case atStart => exact ⟨0, rfl, by omega, Dr.refl _, rfl⟩
    case round =>
      obtain ⟨j, rfl, hj, hdr, ht⟩ := hrel
      have hcr : ∀ p : Addr, wr.cell? p = w.cell? p := by obtain ⟨q, rfl⟩ := hdr; intro p; rfl
      have HCR := Lib.hid hcr; clear hcr
      have HDR := Lib.hid hdr; clear hdr
      by_cases hlt : j < m.length
      · obtain ⟨y, hy⟩ := at_of_lt hlt
        obtain ⟨x, hx⟩ := at_of_lt (show j < l.length by have := HL.out; omega)
        have hnd : decide (m.length ≤ j) = false := by simpa using hlt
        have g2 := (HCR.out _).trans (Q2.out j _ (bys_at hy.out))
        have g1 := (HCR.out _).trans (hb.cell (i := j) (bys_at (x := x) (by rw [List.getElem?_append_left (by have := HL.out; omega)]; exact hx.out)))
        by_cases hxy : x = y
        · have hbb : ((x.toNat : Int) == (y.toNat : Int)) = true := by simp [hxy]
          have ht2 : Hid (l.take (j + 1) = m.take (j + 1)) := take_eq_step hx.out (by rw [hxy]; exact hy.out) ht.out
          clear hxy ht
          go_wp2_with fail
          go_quiet (fail)
          go_wp2_with fail
          go_roundw
          case rel => exact ⟨j + 1, by go_num, by omega, HDR.out.drewN _, ht2⟩
          case measure => simp [intOf]; omega
        · have hbb : ((x.toNat : Int) == (y.toNat : Int)) = false := by
            rw [beq_eq_false_iff_ne]; intro h; exact hxy (UInt8.toNat_inj.1 (by omega))
          have HF : Hid (∀ w', Dr w w' → R (.returned (.bool false)) w') := by
            intro w' hw'
            have := HK.out w' hw'
            rwa [decide_eq_false (ne_of_at hx.out hy.out hxy)] at this
          clear HK hxy
          go_wp2_with fail
          go_quiet (fail)
          go_wp2_with fail
          exact HF.out _ (HDR.out.drewN _)
      · by_cases hend : j < m.length + 12
        · have g1 := (HCR.out _).trans (hb.cell (i := j) (bys_at (x := markB 1 (j - m.length)) (by
            have := HL.out
            rw [List.getElem?_append_right (by omega), show j - l.length = j - m.length by omega, marksB_at (by omega)]; simp)))
          have hsub : IntKind.i64.wrap ((j : Int) - (m.length : Int)) = ((j - m.length : Nat) : Int) := by
            rw [IntWalk.i64_in _ (by omega)]; omega
          have hnd : decide (m.length ≤ j) = true := by simpa using hlt
          have hbb : (((markB 1 (j - m.length)).toNat : Int) == ((markB 1 (j - m.length)).toNat : Int)) = true := by simp
          have ht12 : j - m.length ≤ 12 := by omega
          generalize hT : j - m.length = T at *
          clear hT
          have ht2 : Hid (l.take (j + 1) = m.take (j + 1)) := by
            have := ht.out
            have := HL.out
            show _ = _
            rw [List.take_of_length_le (by omega), List.take_of_length_le (by omega)]
            rwa [List.take_of_length_le (by omega), List.take_of_length_le (by omega)] at ht
          clear ht
          go_wp2_with fail
          go_quiet ((go_at_call 81; exact Calls.quiet_of_same (markByte_q 1 (T : Int) (by omega) (by omega) (by omega) (by omega) _)))
          go_wp2_with fail
          go_roundw
          case rel => exact ⟨j + 1, by go_num, by omega, HDR.out.drewN _, ht2⟩
          case measure => simp [intOf]; omega
        · obtain rfl : j = m.length + 12 := by omega
          have he : l = m := by
            have := ht.out
            have := HL.out
            rwa [List.take_of_length_le (by omega), List.take_of_length_le (by omega)] at ht
          have HF := HK.out wr HDR.out
          rw [decide_eq_true he] at HF
          clear HK he ht
          go_wp2_with fail
          exact HF
  · have hbb : ((l.length : Int) != (m.length : Int)) = true := by simp; omega
    have hv : ¬ l = m := by intro h; exact hl (by rw [h])
    have HF := HK.out w (by simp)
    rw [decide_eq_false hv] at HF
    clear HK hv hl
    go_enter Try.func78, Try.ntmps78
    go_wp2_with fail
    exact HF
end Go.Proofs.Ytfllejlooaipiaa
