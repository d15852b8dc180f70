/- The document's reader. -/
import Derived.Test.YtahpfcfecghpmaaLib2
import Derived.Test.YtahpfcfecghpmaaKit
namespace Go.Proofs.Ytahpfcfecghpmaa
open Go.RowKit

theorem getN_most {most : Int} : ∀ (k i n : Nat) (l : List UInt8), getN most k i n l = (getN 4611686018427387903 k i n l).bind fun p => if most < (p.1 : Int) then none else some p
  | 0, _, _, _ => rfl
  | _ + 1, _, _, [] => rfl
  | k + 1, i, n, b :: l => by
    simp only [getN]
    split
    · split
      · rename_i h
        split
        · rfl
        · rename_i h'
          have : most < ((n + b.toNat % 128 * 2 ^ i : Nat) : Int) := by
            rcases h with h | h | h
            · exact absurd (.inl h) h'
            · exact absurd (.inr (.inl h)) h'
            · exact h
          show none = if most < ((n + b.toNat % 128 * 2 ^ i : Nat) : Int) then none else _
          rw [if_pos this]
      · rename_i h
        have h1 := not_or.1 h
        have h2 := not_or.1 h1.2
        rw [if_neg (by intro h'; rcases h' with h' | h' | h'; exact h1.1 h'; exact h2.1 h'; exact h2.1 h')]
        show _ = if most < ((n + b.toNat % 128 * 2 ^ i : Nat) : Int) then none else _
        rw [if_neg h2.2]
    · exact getN_most k _ _ l

set_option maxRecDepth 100000 in
set_option maxHeartbeats 1000000 in
theorem get_c (a : Option Addr) (c : Nat) (l : List UInt8) (w : World) (h : Sl w a (bys l)) (R : Ending → World → Prop)
    (k1 : ∀ (N many : Nat), getN 4611686018427387903 9 0 0 l = some (N, l.drop many) → 1 ≤ many → many ≤ l.length → R (.returned (.tuple #[.int .i64 N, .int .i64 many])) w)
    (k2 : getN 4611686018427387903 9 0 0 l = none → R (.returned (.tuple #[.int .i64 0, .int .i64 0])) w) :
    Calls Try.prog 85 #[.slice a l.length c] w R := by
  have K1 := Lib.hid k1; have K2 := Lib.hid k2; clear k1 k2
  go_enter Try.func85, Try.ntmps85
  go_wp2_with fail
  go_loop [4, 5] (fun n i => ∃ (j m : Nat), i = .int .i64 j ∧ n = .int .i64 m ∧ j ≤ 9 ∧ Hid (m < 2 ^ (7 * j)) ∧ j ≤ l.length ∧ Hid (getN 4611686018427387903 9 0 0 l = getN 4611686018427387903 (9 - j) (7 * j) m (l.drop j))) (fun _ i => 9 - (intOf i).toNat)
  case atStart => exact ⟨0, 0, rfl, rfl, by decide, by show _ < _; decide, Nat.zero_le _, rfl⟩
  case round =>
    obtain ⟨j, m, rfl, rfl, hj, hm, hjl, hg⟩ := hrel
    by_cases hlt : j < 9
    · by_cases hl : j < l.length
      · obtain ⟨f, hf⟩ : ∃ f, Hid (9 - j = f + 1) := ⟨8 - j, by show _ = _; omega⟩
        obtain ⟨x, hx⟩ := at_of_lt hl
        obtain ⟨b, o, ix, Q⟩ := h.ix1 Try.underlying57 sz_u8 (n := l.length) (by simp) c
        have cx := Q.out j _ (bys_at hx.out)
        have hd : Hid (l.drop j = x :: l.drop (j + 1)) := by
          show _ = _
          rw [List.drop_eq_getElem_cons hl]; congr
          have := hx.out; rw [List.getElem?_eq_getElem hl] at this; exact Option.some.inj this
        obtain ⟨y, z, N, e1, hy, e2, e3, hN, hN2, hN3⟩ := num_step x m j hm.out hlt
        have HN := Lib.hid hN; clear hN
        have hx0 := u8_ge x
        have hx1 := u8_lt x
        have HN2 := Lib.hid hN2; clear hN2
        by_cases hbig : 128 ≤ x.toNat
        · have hg' : Hid (getN 4611686018427387903 9 0 0 l = getN 4611686018427387903 (9 - (j + 1)) (7 * (j + 1)) N (l.drop (j + 1))) := by
            show _ = _
            rw [hg.out, hf.out, hd.out, getN, if_neg (by omega), HN.out, show 9 - (j + 1) = f by have := hf.out; omega, show 7 * (j + 1) = 7 * j + 7 by omega]
          clear hg
          go_wp2_with fail
          go_round
          case rel => exact ⟨j + 1, N, by go_num, rfl, by omega, HN2.out, by omega, hg'⟩
          case measure => simp [intOf]; omega
        · have hval : Hid (getN 4611686018427387903 9 0 0 l = if (0 < 7 * j ∧ x.toNat = 0) ∨ 4611686018427387903 < (N : Int) ∨ 4611686018427387903 < (N : Int) then none else some (N, l.drop (j + 1))) := by
            show _ = _
            rw [hg.out, hf.out, hd.out, getN, if_pos (by omega), HN.out]
          clear hg hd hm HN HN2 hf
          by_cases hbad : (0 < 7 * j ∧ x.toNat = 0) ∨ 4611686018427387903 < (N : Int)
          · have HF := K2.out (by rw [hval.out, if_pos (by rcases hbad with h | h; exact .inl h; exact .inr (.inl h))])
            clear K1 K2 hval
            rcases hbad with ⟨hj0, hx2⟩ | hbad
            · have q1 : ((x.toNat : Int) == 0) = true := by simpa using hx2
              have hj1 : 0 < j := by omega
              clear hj0 hx2
              go_wp2_with fail
              exact HF
            · have hs2 : ¬ (0 < j) ∨ (0 < j ∧ ((x.toNat : Int) == 0) = false) ∨ (0 < j ∧ ((x.toNat : Int) == 0) = true) := by
                by_cases h0 : 0 < j
                · cases hq : ((x.toNat : Int) == 0) <;> simp [h0]
                · exact .inl h0
              rcases hs2 with h0 | ⟨h0, q0⟩ | ⟨h0, q0⟩
              all_goals
                go_wp2_with fail
                exact HF
          · have HF := K1.out N (j + 1) (by rw [hval.out, if_neg (by rintro (h | h | h); exact hbad (.inl h); exact hbad (.inr h); exact hbad (.inr h))]) (by omega) (by omega)
            clear K1 K2 hval
            have hs2 : ¬ (0 < j) ∨ (0 < j ∧ ((x.toNat : Int) == 0) = false) := by
              by_cases h0 : 0 < j
              · refine .inr ⟨h0, ?_⟩
                rw [beq_eq_false_iff_ne]; omega
              · exact .inl h0
            have hb1 : (N : Int) ≤ 4611686018427387903 := by omega
            clear hbad
            have e9 : IntKind.i64.wrap ((j : Int) + 1) = ((j + 1 : Nat) : Int) := by
              rw [IntWalk.i64_in _ (by omega)]; omega
            rcases hs2 with h0 | ⟨h0, q0⟩
            all_goals
              go_wp2_with fail
              exact HF
      · have HF := K2.out (by
          have h9 : l.drop j = [] := List.drop_eq_nil_of_le (by omega)
          obtain ⟨f, hf⟩ : ∃ f, 9 - j = f + 1 := ⟨8 - j, by omega⟩
          rw [hg.out, h9, hf]; rfl)
        clear K1 K2 hg hm
        go_wp2_with fail
        exact HF
    · obtain rfl : j = 9 := by omega
      have HF := K2.out (by rw [hg.out]; rfl)
      clear K1 K2 hg hm
      by_cases hl : 9 < l.length
      · go_wp2_with fail
        exact HF
      · go_wp2_with fail
        exact HF
end Go.Proofs.Ytahpfcfecghpmaa
