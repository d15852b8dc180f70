/- Numbers as bytes: written and read again. -/
import Derived.Test.YtahpfcfecghpmaaRead2
namespace Go.Proofs.Ytahpfcfecghpmaa
open Go.RowKit

theorem u8_of (b : UInt8) : UInt8.ofNat b.toNat = b := by simp
theorem getN_canon {most : Int} : ∀ {k i m : Nat} {l l' : List UInt8} {N : Nat}, getN most k i m l = some (N, l') → ∃ x, N = m + x * 2 ^ i ∧ l = enc x ++ l' ∧ (0 < i → 0 < x)
  | 0, _, _, _, _, _, h => by simp [getN] at h
  | _ + 1, _, _, [], _, _, h => by simp [getN] at h
  | k + 1, i, m, b :: l, l', N, h => by
    rw [getN] at h
    split at h
    · rename_i hb
      split at h
      · cases h
      · rename_i hn
        simp only [Option.some.injEq, Prod.mk.injEq] at h
        obtain ⟨rfl, rfl⟩ := h
        rw [not_or] at hn
        refine ⟨b.toNat, by rw [Nat.mod_eq_of_lt hb], by rw [enc_small hb, u8_of]; rfl, fun hi => ?_⟩
        have := hn.1
        omega
    · rename_i hb
      obtain ⟨x, e1, e2, e3⟩ := getN_canon h
      have hx := e3 (by omega)
      have hlt := b.toNat_lt
      refine ⟨b.toNat % 128 + 128 * x, ?_, ?_, fun _ => by omega⟩
      · rw [e1, Nat.pow_add, Nat.add_mul, Nat.add_assoc]
        congr 1
        rw [show (2 : Nat) ^ 7 = 128 from rfl, Nat.mul_comm (2 ^ i) 128, ← Nat.mul_assoc, Nat.mul_comm x 128]
      · rw [enc_big (by omega), e2]
        have h1 : (b.toNat % 128 + 128 * x) % 128 = b.toNat % 128 := by omega
        have h2 : (b.toNat % 128 + 128 * x) / 128 = x := by omega
        rw [h1, h2, show b.toNat % 128 + 128 = b.toNat from by omega, u8_of]
        rfl
theorem getN_enc {most : Int} : ∀ (k i m x : Nat) (l : List UInt8), x < 128 ^ k → (0 < i → 0 < x) → 0 < k → ((m + x * 2 ^ i : Nat) : Int) ≤ 4611686018427387903 → ((m + x * 2 ^ i : Nat) : Int) ≤ most → getN most k i m (enc x ++ l) = some (m + x * 2 ^ i, l)
  | 0, _, _, _, _, _, _, h0, _, _ => absurd h0 (by omega)
  | k + 1, i, m, x, l, hx, hi, _, h1, h2 => by
    by_cases hs : x < 128
    · rw [enc_small hs, List.singleton_append, getN]
      have e : (UInt8.ofNat x).toNat = x := by simp; omega
      rw [e, if_pos hs, Nat.mod_eq_of_lt hs, if_neg (by rw [not_or, not_or]; exact ⟨fun ⟨a, b⟩ => by have := hi a; omega, by omega, by omega⟩)]
    · rw [enc_big hs, List.cons_append, getN]
      have e : (UInt8.ofNat (x % 128 + 128)).toNat = x % 128 + 128 := by simp; omega
      have e2 : (x % 128 + 128) % 128 = x % 128 := by omega
      have e3 : m + x % 128 * 2 ^ i + x / 128 * 2 ^ (i + 7) = m + x * 2 ^ i := by
        rw [Nat.add_assoc, Nat.pow_add, show (2 : Nat) ^ 7 = 128 from rfl]
        congr 1
        have hx' : x = x % 128 + 128 * (x / 128) := by omega
        conv => rhs; rw [hx']
        rw [Nat.add_mul, Nat.mul_comm (2 ^ i) 128, ← Nat.mul_assoc, Nat.mul_comm (x / 128) 128]
      have hk : 0 < k := by
        rcases Nat.eq_zero_or_pos k with rfl | hp
        · simp at hx; omega
        · exact hp
      rw [e, if_neg (by omega), e2, getN_enc k (i + 7) _ (x / 128) l (by rw [Nat.pow_succ] at hx; exact Nat.div_lt_of_lt_mul (by rwa [Nat.mul_comm] at hx)) (fun _ => by omega) hk (by rw [e3]; exact h1) (by rw [e3]; exact h2), e3]
/-- a number that was written is read. -/
theorem rdNum_enc {most : Int} {n : Nat} (h1 : (n : Int) ≤ 4611686018427387903) (h2 : (n : Int) ≤ most) (l : List UInt8) : rdNum most (some (enc n ++ l)) = ((n : Int), some l) := by
  have := getN_enc (most := most) 9 0 0 n l (by have : (128 : Nat) ^ 9 = 9223372036854775808 := by decide
                                                omega) (by omega) (by omega) (by simpa using h1) (by simpa using h2)
  simp only [rdNum, this]
  simp
theorem rdNum_some {most : Int} {s : RS} {n : Int} {l' : List UInt8} (h : rdNum most s = (n, some l')) : ∃ N : Nat, n = (N : Int) ∧ s = some (enc N ++ l') ∧ (N : Int) ≤ most ∧ (N : Int) ≤ 4611686018427387903 := by
  cases s with
  | none => simp [rdNum] at h
  | some l =>
    simp only [rdNum] at h
    split at h
    · rename_i N l1 hg
      simp only [Prod.mk.injEq, Option.some.injEq] at h
      obtain ⟨rfl, rfl⟩ := h
      obtain ⟨x, e1, e2, _⟩ := getN_canon hg
      have := getN_len hg
      simp at e1
      subst e1
      exact ⟨N, rfl, by rw [e2], this.2.1, this.2.2⟩
    · simp at h
theorem rdNum_none {most : Int} {s : RS} (h : (rdNum most s).2 = none) : (rdNum most s).1 = 0 := by
  cases s with
  | none => rfl
  | some l => simp only [rdNum] at h ⊢; split <;> simp_all
def encs (l : List Int) : List UInt8 := l.flatMap fun n => enc n.toNat
theorem putNums_ok : ∀ (l : List Int) (s : Bool × List UInt8), (∀ x ∈ l, numOk x = true) → putNums s l = (s.1, s.2 ++ encs l)
  | [], s, _ => by simp [putNums, encs]
  | x :: l, s, h => by
    have hx := h x (by simp)
    have := putNums_ok l (putNum s x) (fun y hy => h y (by simp [hy]))
    simp only [putNums, List.foldl_cons] at this ⊢
    rw [this]; simp [putNum, hx, encs]
end Go.Proofs.Ytahpfcfecghpmaa
