/- Numbers, flags, rows one behind the other: written, and read again. -/
import Derived.Test.YtahpfcfecghpmaaPure2
namespace Go.Proofs.Ytahpfcfecghpmaa
open Go.RowKit

inductive Item where
  | num (n : Int)
  | flag (b : Bool)
  | row (l : List UInt8)
def Item.ok : Item → Bool
  | .num n => numOk n
  | .flag _ => true
  | .row l => decide ((l.length : Int) ≤ 4611686018427387903)
def Item.enc : Item → List UInt8
  | .num n => Go.Proofs.Ytahpfcfecghpmaa.enc n.toNat
  | .flag b => [flagB b]
  | .row l => Go.Proofs.Ytahpfcfecghpmaa.enc l.length ++ l
def Item.put (s : Bool × List UInt8) : Item → Bool × List UInt8
  | .num n => putNum s n
  | .flag b => putFlag s b
  | .row l => putRow s l
/-- is just this read? -/
def Item.rd (s : RS) : Item → Bool × RS
  | .num n => (decide ((rdNum n s).1 = n), (rdNum n s).2)
  | .flag b => (decide ((rdFlag s).1 = b), (rdFlag s).2)
  | .row l => (decide ((rdRow l.length s).1 = l), (rdRow l.length s).2)
def putItems (s : Bool × List UInt8) (l : List Item) : Bool × List UInt8 := l.foldl Item.put s
def encItems (l : List Item) : List UInt8 := l.flatMap Item.enc
def rdItems (s : Bool × RS) (l : List Item) : Bool × RS := l.foldl (fun t it => ((it.rd t.2).1 && t.1, (it.rd t.2).2)) s

theorem Item.put_ok (s : Bool × List UInt8) (it : Item) (h : it.ok = true) : it.put s = (s.1, s.2 ++ it.enc) := by
  cases it with
  | num n => simp only [Item.ok] at h; simp [Item.put, putNum, h, Item.enc]
  | flag b => rfl
  | row l =>
    have : numOk (l.length : Int) = true := by simp [Item.ok] at h; simp [numOk, h]
    simp [Item.put, putRow, putNum, this, Item.enc]
theorem Item.put_bad (s : Bool × List UInt8) (it : Item) (h : it.ok = false) : (it.put s).1 = true := by
  cases it with
  | num n => simp only [Item.ok] at h; simp [Item.put, putNum, h]
  | flag b => simp [Item.ok] at h
  | row l =>
    have : numOk (l.length : Int) = false := by
      simp only [Item.ok, decide_eq_false_iff_not] at h
      simp only [numOk, decide_eq_false_iff_not]; omega
    simp [Item.put, putRow, putNum, this]
theorem Item.put_spoilt (s : Bool × List UInt8) (it : Item) (h : s.1 = true) : (it.put s).1 = true := by
  cases it with
  | num n => simp only [Item.put, putNum]; split <;> simp [h]
  | flag b => exact h
  | row l => simp only [Item.put, putRow, putNum]; split <;> simp [h]
theorem putItems_ok : ∀ (l : List Item) (s : Bool × List UInt8), (∀ x ∈ l, x.ok = true) → putItems s l = (s.1, s.2 ++ encItems l)
  | [], s, _ => by simp [putItems, encItems]
  | x :: l, s, h => by
    have hx := x.put_ok s (h x (by simp))
    have := putItems_ok l (x.put s) (fun y hy => h y (by simp [hy]))
    simp only [putItems, List.foldl_cons] at this ⊢
    rw [this, hx]; simp [encItems]
theorem putItems_spoilt : ∀ (l : List Item) (s : Bool × List UInt8), s.1 = true → (putItems s l).1 = true
  | [], _, h => h
  | x :: l, s, h => putItems_spoilt l (x.put s) (x.put_spoilt s h)
theorem putItems_bad : ∀ (l : List Item) (s : Bool × List UInt8), (∃ x ∈ l, x.ok = false) → (putItems s l).1 = true
  | [], _, h => by simp at h
  | x :: l, s, h => by
    obtain ⟨y, hy, hb⟩ := h
    rcases List.mem_cons.1 hy with rfl | hy
    · exact putItems_spoilt l _ (y.put_bad s hb)
    · exact putItems_bad l (x.put s) ⟨y, hy, hb⟩

theorem rdFlag_enc (b : Bool) (t : List UInt8) : rdFlag (some (flagB b :: t)) = (b, some t) := by cases b <;> simp [rdFlag, flagB]
theorem rdRow_enc {l : List UInt8} (h : (l.length : Int) ≤ 4611686018427387903) (t : List UInt8) : rdRow l.length (some (enc l.length ++ l ++ t)) = (l, some t) := by
  have := rdNum_enc (most := (l.length : Int)) (n := l.length) h (by omega) (l ++ t)
  simp only [rdRow, List.append_assoc, this]
  simp
theorem Item.rd_enc (it : Item) (h : it.ok = true) (t : List UInt8) : it.rd (some (it.enc ++ t)) = (true, some t) := by
  cases it with
  | num n =>
    simp only [Item.ok, numOk, decide_eq_true_eq] at h
    obtain ⟨N, rfl⟩ := Int.eq_ofNat_of_zero_le h.1
    have := rdNum_enc (most := (N : Int)) (n := N) h.2 (by omega) t
    simp [Item.rd, Item.enc, this]
  | flag b => simp [Item.rd, Item.enc, rdFlag_enc]
  | row l =>
    simp only [Item.ok, decide_eq_true_eq] at h
    simp only [Item.rd, Item.enc, rdRow_enc h]; simp
theorem rdItems_enc : ∀ (l : List Item) (t : List UInt8), (∀ x ∈ l, x.ok = true) → rdItems (true, some (encItems l ++ t)) l = (true, some t)
  | [], t, _ => by simp [rdItems, encItems]
  | x :: l, t, h => by
    have hx := x.rd_enc (h x (by simp)) (encItems l ++ t)
    have := rdItems_enc l t (fun y hy => h y (by simp [hy]))
    simp only [rdItems, List.foldl_cons, encItems, List.flatMap_cons, List.append_assoc] at this ⊢
    simp only [encItems] at hx
    rw [hx]; simpa using this

theorem rdFlag_some {s : RS} {b : Bool} {r : List UInt8} (h : rdFlag s = (b, some r)) : s = some (flagB b :: r) := by
  match s with
  | none => simp [rdFlag] at h
  | some [] => simp [rdFlag] at h
  | some (x :: l) =>
    simp only [rdFlag] at h
    split at h
    · simp at h
    · rename_i hx
      simp only [Prod.mk.injEq, Option.some.injEq] at h
      obtain ⟨rfl, rfl⟩ := h
      have hx2 : x = 0 ∨ x = 1 := by
        have h2 : x.toNat = 0 ∨ x.toNat = 1 := by omega
        rcases h2 with h2 | h2
        · exact .inl (UInt8.toNat_inj.1 h2)
        · exact .inr (UInt8.toNat_inj.1 h2)
      rcases hx2 with rfl | rfl <;> rfl
theorem rdRow_some {most : Int} {s : RS} {v r : List UInt8} (h : rdRow most s = (v, some r)) : s = some (enc v.length ++ v ++ r) ∧ (v.length : Int) ≤ most := by
  simp only [rdRow] at h
  split at h
  · simp at h
  · rename_i n l hn
    obtain ⟨N, rfl, rfl, hm, _⟩ := rdNum_some hn
    split at h
    · simp at h
    · rename_i hl
      simp only [Int.toNat_natCast, Prod.mk.injEq, Option.some.injEq] at h hl
      obtain ⟨rfl, rfl⟩ := h
      have : (l.take N).length = N := by simp; omega
      rw [this]
      exact ⟨by simp, hm⟩
theorem Item.rd_some {s : RS} {it : Item} {r : List UInt8} (h : it.rd s = (true, some r)) : s = some (it.enc ++ r) := by
  cases it with
  | num n =>
    simp only [Item.rd, Prod.mk.injEq, decide_eq_true_eq] at h
    obtain ⟨N, e, rfl, _⟩ := rdNum_some (n := n) (l' := r) (s := s) (most := n) (by rw [← h.2]; exact Prod.ext h.1 rfl)
    subst e; rfl
  | flag b =>
    simp only [Item.rd, Prod.mk.injEq, decide_eq_true_eq] at h
    exact rdFlag_some (Prod.ext h.1 h.2)
  | row l =>
    simp only [Item.rd, Prod.mk.injEq, decide_eq_true_eq] at h
    have := rdRow_some (v := l) (r := r) (s := s) (most := l.length) (Prod.ext h.1 h.2)
    exact this.1
theorem Item.rd_none (it : Item) : (it.rd none).2 = none := by
  cases it <;> simp [Item.rd, rdNum, rdFlag, rdRow]
theorem rdItems_none : ∀ (l : List Item) (b : Bool), (rdItems (b, none) l).2 = none
  | [], _ => rfl
  | x :: l, b => by
    have := rdItems_none l ((x.rd none).1 && b)
    simp only [rdItems, List.foldl_cons] at this ⊢
    rw [x.rd_none]; exact this
theorem rdItems_false : ∀ (l : List Item) (s : RS), (rdItems (false, s) l).1 = false
  | [], _ => rfl
  | x :: l, s => by
    have := rdItems_false l (x.rd s).2
    simp only [rdItems, List.foldl_cons] at this ⊢
    simpa using this
theorem rdItems_some : ∀ (l : List Item) (s : RS) (r : List UInt8), rdItems (true, s) l = (true, some r) → s = some (encItems l ++ r)
  | [], s, r, h => by simp [rdItems] at h; simp [encItems, h]
  | x :: l, s, r, h => by
    simp only [rdItems, List.foldl_cons, Bool.and_true] at h
    cases hx : (x.rd s).1 with
    | false => rw [hx] at h; have := rdItems_false l (x.rd s).2; simp only [rdItems] at this; rw [h] at this; cases this
    | true =>
      rw [hx] at h
      have h2 := rdItems_some l (x.rd s).2 r h
      have := Item.rd_some (it := x) (s := s) (r := encItems l ++ r) (Prod.ext hx h2)
      rw [this]; simp [encItems]
theorem Item.rd_len (it : Item) (s : RS) : rsLen (it.rd s).2 ≤ rsLen s := by
  cases it with
  | num n => exact rdNum_len n s
  | flag b =>
    simp only [Item.rd]
    match s with
    | none => simp [rdFlag, rsLen]
    | some [] => simp [rdFlag, rsLen]
    | some (x :: l) => simp only [rdFlag]; split <;> simp [rsLen]
  | row l =>
    have h1 := rdNum_len l.length s
    simp only [Item.rd, rdRow]
    split
    · simp [rsLen]
    · rename_i hn
      rw [hn] at h1
      split
      · simp [rsLen]
      · simp [rsLen] at h1 ⊢; omega
theorem rdItems_len : ∀ (l : List Item) (t : Bool × RS), rsLen (rdItems t l).2 ≤ rsLen t.2
  | [], _ => Nat.le_refl _
  | x :: l, t => Nat.le_trans (rdItems_len l _) (x.rd_len t.2)
theorem rdItems_append (l m : List Item) (s : Bool × RS) : rdItems s (l ++ m) = rdItems (rdItems s l) m := by simp [rdItems]
theorem putItems_append (l m : List Item) (s : Bool × List UInt8) : putItems s (l ++ m) = putItems (putItems s l) m := by simp [putItems]
end Go.Proofs.Ytahpfcfecghpmaa
