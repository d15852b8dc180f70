/- The bytes of numbers, by themselves. -/
import Derived.Test.YtahpfcfecghpmaaLib
namespace Go.Proofs.Ytahpfcfecghpmaa
open Go.RowKit
/-- the bytes of a number. -/
def enc (n : Nat) : List UInt8 := if n < 128 then [UInt8.ofNat n] else UInt8.ofNat (n % 128 + 128) :: enc (n / 128)
termination_by n
decreasing_by omega
theorem enc_small {n : Nat} (h : n < 128) : enc n = [UInt8.ofNat n] := by rw [enc]; simp [h]
theorem enc_big {n : Nat} (h : ¬ n < 128) : enc n = UInt8.ofNat (n % 128 + 128) :: enc (n / 128) := by rw [enc]; simp [h]
theorem enc_len_le : ∀ (k n : Nat), n < 128 ^ k → 0 < k → (enc n).length ≤ k
  | 0, _, _, h => absurd h (by omega)
  | k + 1, n, h, _ => by
    by_cases hn : n < 128
    · rw [enc_small hn]; simp
    · rw [enc_big hn]
      have h0 : 0 < k := by
        rcases Nat.eq_zero_or_pos k with rfl | hp
        · simp at h; omega
        · exact hp
      have := enc_len_le k (n / 128) (by rw [Nat.pow_succ] at h; exact Nat.div_lt_of_lt_mul (by rwa [Nat.mul_comm] at h)) h0
      simp; omega
theorem enc_len {n : Nat} (h : (n : Int) ≤ 4611686018427387903) : (enc n).length ≤ 9 := enc_len_le 9 n (by omega) (by omega)
theorem enc_pos (n : Nat) : 0 < (enc n).length := by
  by_cases hn : n < 128
  · rw [enc_small hn]; simp
  · rw [enc_big hn]; simp
/-- may a number be written? -/
def numOk (x : Int) : Bool := decide (0 ≤ x ∧ x ≤ 4611686018427387903)
/-- what a number makes of a writer: spoilt, bytes. -/
def putNum (s : Bool × List UInt8) (x : Int) : Bool × List UInt8 := if numOk x then (s.1, s.2 ++ enc x.toNat) else (true, s.2)
theorem putNum_len (s : Bool × List UInt8) (x : Int) : (putNum s x).2.length ≤ s.2.length + 9 := by
  unfold putNum
  split
  · rename_i h; simp [numOk] at h
    have := enc_len (n := x.toNat) (by omega)
    simp; omega
  · simp
def putNums (s : Bool × List UInt8) (l : List Int) : Bool × List UInt8 := l.foldl putNum s
theorem putNums_len (l : List Int) : ∀ s : Bool × List UInt8, (putNums s l).2.length ≤ s.2.length + 9 * l.length := by
  induction l with
  | nil => intro s; simp [putNums]
  | cons x l ih => intro s; have := ih (putNum s x); have := putNum_len s x; simp only [putNums, List.foldl_cons, List.length_cons] at *; omega
def flagB (b : Bool) : UInt8 := if b then 1 else 0
def putRow (s : Bool × List UInt8) (r : List UInt8) : Bool × List UInt8 := ((putNum s r.length).1, (putNum s r.length).2 ++ r)

theorem bits_or_128 : ∀ r : Fin 256, bits BinOp.or IntKind.u8 ((r.val : Nat) : Int) 128 = ((r.val % 128 + 128 : Nat) : Int) := by decide +kernel
theorem or_128 (m : Nat) : bits BinOp.or IntKind.u8 ((m : Int) % 256) 128 = ((UInt8.ofNat (m % 128 + 128)).toNat : Int) := by
  have h : bits BinOp.or IntKind.u8 ((m % 256 : Nat) : Int) 128 = ((m % 256 % 128 + 128 : Nat) : Int) := bits_or_128 ⟨m % 256, by omega⟩
  simp only [UInt8.toNat_ofNat']
  have e1 : ((m : Int) % 256) = ((m % 256 : Nat) : Int) := by omega
  rw [e1, h]
  omega
theorem low_byte {m : Nat} (h : m < 128) : ((UInt8.ofNat m).toNat : Int) = (m : Int) := by
  simp only [UInt8.toNat_ofNat']; omega
def putFlag (s : Bool × List UInt8) (b : Bool) : Bool × List UInt8 := (s.1, s.2 ++ [flagB b])
def putFlags (s : Bool × List UInt8) (l : List Bool) : Bool × List UInt8 := l.foldl putFlag s
theorem putFlags_len (l : List Bool) : ∀ s : Bool × List UInt8, (putFlags s l).2.length = s.2.length + l.length := by
  induction l with
  | nil => intro s; simp [putFlags]
  | cons x l ih => intro s; have := ih (putFlag s x); simp only [putFlags, List.foldl_cons, List.length_cons] at *; simp [putFlag] at this ⊢; omega
def putRows (s : Bool × List UInt8) (l : List (List UInt8)) : Bool × List UInt8 := l.foldl putRow s
def lenOf (l : List (List UInt8)) : Nat := (l.map (fun r => r.length + 9)).sum
theorem putRow_len (s : Bool × List UInt8) (r : List UInt8) : (putRow s r).2.length ≤ s.2.length + (r.length + 9) := by
  have := putNum_len s r.length; simp [putRow]; omega
theorem putRows_len (l : List (List UInt8)) : ∀ s : Bool × List UInt8, (putRows s l).2.length ≤ s.2.length + lenOf l := by
  induction l with
  | nil => intro s; simp [putRows, lenOf]
  | cons x l ih => intro s; have := ih (putRow s x); have := putRow_len s x; simp only [putRows, lenOf, List.foldl_cons, List.map_cons, List.sum_cons] at *; omega
theorem lenOf_take (l : List (List UInt8)) (j : Nat) {x : List UInt8} (h : l[j]? = some x) : lenOf (l.take j) + (x.length + 9) ≤ lenOf l := by
  have e : l = l.take j ++ x :: l.drop (j + 1) := by
    have hj := (List.getElem?_eq_some_iff.1 h).1
    have hx := (List.getElem?_eq_some_iff.1 h).2
    rw [← hx, ← List.drop_eq_getElem_cons hj, List.take_append_drop]
  have : lenOf l = lenOf (l.take j ++ x :: l.drop (j + 1)) := by rw [← e]
  rw [this]
  simp [lenOf]
theorem lenOf_ge (l : List (List UInt8)) : 9 * l.length ≤ lenOf l := by
  induction l with
  | nil => simp [lenOf]
  | cons x l ih => simp only [lenOf, List.map_cons, List.sum_cons, List.length_cons] at *; omega
theorem lenOf_one (x : List UInt8) : lenOf [x] = x.length + 9 := by simp [lenOf]

/-! ### reading -/
/-- a number off the head: k bytes at most are left, i bits and n stand. -/
def getN (most : Int) : Nat → Nat → Nat → List UInt8 → Option (Nat × List UInt8)
  | 0, _, _, _ => none
  | _ + 1, _, _, [] => none
  | k + 1, i, n, b :: l =>
    if b.toNat < 128 then
      (if (0 < i ∧ b.toNat = 0) ∨ 4611686018427387903 < ((n + b.toNat % 128 * 2 ^ i : Nat) : Int) ∨ most < ((n + b.toNat % 128 * 2 ^ i : Nat) : Int) then none else some (n + b.toNat % 128 * 2 ^ i, l))
    else getN most k (i + 7) (n + b.toNat % 128 * 2 ^ i) l
/-- a reader's state: what is left; none: it has failed. -/
abbrev RS := Option (List UInt8)
def rdNum (most : Int) : RS → Int × RS
  | none => (0, none)
  | some l => match getN most 9 0 0 l with
    | some (n, l') => ((n : Int), some l')
    | none => (0, none)
def rdFlag : RS → Bool × RS
  | none => (false, none)
  | some [] => (false, none)
  | some (b :: l) => if 1 < b.toNat then (false, none) else ((b.toNat : Int) == 1, some l)
def rdRow (most : Int) (s : RS) : List UInt8 × RS :=
  match rdNum most s with
  | (_, none) => ([], none)
  | (n, some l) => if l.length < n.toNat then ([], none) else (l.take n.toNat, some (l.drop n.toNat))
def rdLeft : RS → Nat
  | none => 0
  | some l => l.length
def rdEnd : RS → Int
  | some [] => 0
  | _ => 4

theorem bits_and_127 : ∀ r : Fin 256, bits BinOp.and IntKind.u8 ((r.val : Nat) : Int) 127 = ((r.val % 128 : Nat) : Int) := by decide +kernel
theorem and_127 (x : UInt8) : bits BinOp.and IntKind.u8 (x.toNat : Int) 127 = ((x.toNat % 128 : Nat) : Int) := by
  have h : bits BinOp.and IntKind.u8 ((x.toNat : Nat) : Int) 127 = ((x.toNat % 128 : Nat) : Int) := bits_and_127 ⟨x.toNat, x.toNat_lt⟩
  exact h
theorem bits_or_nat {a b : Nat} (ha : a < 2 ^ 63) (hb : b < 2 ^ 63) : bits BinOp.or IntKind.i64 (a : Int) (b : Int) = ((a ||| b : Nat) : Int) := by
  have hlt : a ||| b < 2 ^ 63 := Nat.or_lt_two_pow ha hb
  have e : (BitVec.ofInt 64 (a : Int) ||| BitVec.ofInt 64 (b : Int)).toNat = a ||| b := by
    simp only [BitVec.toNat_or, BitVec.ofInt_natCast, BitVec.toNat_ofNat]
    rw [Nat.mod_eq_of_lt (by omega), Nat.mod_eq_of_lt (by omega)]
  have h0 : bits BinOp.or IntKind.i64 (a : Int) (b : Int) = IntKind.i64.wrap ((BitVec.ofInt 64 (a : Int) ||| BitVec.ofInt 64 (b : Int)).toNat : Int) := rfl
  rw [h0, e]
  exact IntWalk.i64_in _ (by omega)
theorem num_step (x : UInt8) (m j : Nat) (hm : m < 2 ^ (7 * j)) (hj : j < 9) : ∃ y z N : Nat, bits BinOp.and IntKind.u8 (x.toNat : Int) 127 = (y : Int) ∧ y < 128 ∧ wrap64 ((y : Int) * 2 ^ (7 * j)) = (z : Int) ∧
    bits BinOp.or IntKind.i64 (m : Int) (z : Int) = (N : Int) ∧ N = m + x.toNat % 128 * 2 ^ (7 * j) ∧ N < 2 ^ (7 * (j + 1)) ∧ N < 9223372036854775808 := by
  have hp : (2 : Nat) ^ (7 * j) ≤ 2 ^ 56 := Nat.pow_le_pow_right (by omega) (by omega)
  have h56 : (2 : Nat) ^ 56 = 72057594037927936 := by decide
  have hy : x.toNat % 128 < 128 := Nat.mod_lt _ (by omega)
  have hz : x.toNat % 128 * 2 ^ (7 * j) ≤ 127 * 2 ^ (7 * j) := Nat.mul_le_mul_right _ (by omega)
  have hs : (2 : Nat) ^ (7 * (j + 1)) = 128 * 2 ^ (7 * j) := by rw [Nat.mul_add, Nat.pow_add]; omega
  refine ⟨x.toNat % 128, x.toNat % 128 * 2 ^ (7 * j), m + x.toNat % 128 * 2 ^ (7 * j), and_127 x, hy, ?_, ?_, rfl, ?_, ?_⟩
  · have e : ((x.toNat % 128 : Nat) : Int) * 2 ^ (7 * j) = ((x.toNat % 128 * 2 ^ (7 * j) : Nat) : Int) := by simp
    rw [e]
    exact IntWalk.wrap64_in _ (by omega)
  · rw [bits_or_nat (by omega) (by omega), Nat.or_comm, Nat.mul_comm, ← Nat.two_pow_add_eq_or_of_lt hm, Nat.add_comm]
  · rw [hs]; omega
  · omega
end Go.Proofs.Ytahpfcfecghpmaa
