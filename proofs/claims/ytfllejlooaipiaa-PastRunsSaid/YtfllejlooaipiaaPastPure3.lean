/- Written and read again: the same numbers. -/
import Derived.Test.YtfllejlooaipiaaPastPure2
namespace Go.Proofs.Ytfllejlooaipiaa
open Go.RowKit

theorem raiseAll_range {l : List Nm} (h : l.all Nm.ok = true) : ∀ x ∈ raiseAll zero8 l, 0 ≤ x ∧ x ≤ 1073741824 := by
  intro x hx
  obtain ⟨i, hi⟩ := List.mem_iff_getElem?.1 hx
  have hl := (List.getElem?_eq_some_iff.1 hi).1
  rw [raiseAll_len, zero8_len] at hl
  have h1 := raiseAll_at h zero8_len hl
  rw [zero8_at hl] at h1
  have h2 : (raiseAll zero8 l).getD i 0 = x := by simp [List.getD, hi]
  rw [h2] at h1; subst h1
  exact top_range h (by decide) (by decide)
/-- raised once more by what was raised. -/
theorem raise_again {l m : List Nm} {k : Nat} (hl : l.all Nm.ok = true) (hm : m.all Nm.ok = true) :
    raiseAll (raiseAll zero8 (m ++ l.drop k ++ l.take k)) l = raiseAll zero8 (m ++ l.drop k ++ l.take k) := by
  have h1 : (raiseAll zero8 (m ++ l.drop k ++ l.take k)).length = 8 := raiseAll_len _ zero8
  refine eq8 (by rw [raiseAll_len]; exact h1) h1 fun i hi => ?_
  rw [raiseAll_at hl h1 hi, turned_at hl hm hi]
  have h3 := top_max ((i : Int) + 1) l 0 (max (top ((i : Int) + 1) l 0) (top ((i : Int) + 1) m 0))
  have h4 := top_le ((i : Int) + 1) l 0
  rw [show max 0 (max (top ((i : Int) + 1) l 0) (top ((i : Int) + 1) m 0)) = max (top ((i : Int) + 1) l 0) (top ((i : Int) + 1) m 0) by omega] at h3
  omega
theorem rdMany_enc : ∀ (k : Nat) (N : List Int), N.length = k → (∀ x ∈ N, 0 ≤ x ∧ x ≤ 1073741824) → ∀ t, rdMany k (some (encs N ++ t)) = (N, some t)
  | 0, N, hl, _, t => by
    obtain rfl := List.eq_nil_of_length_eq_zero hl
    simp [rdMany, encs]
  | k + 1, N, hl, h, t => by
    obtain ⟨M, x, rfl⟩ : ∃ M x, N = M ++ [x] := ⟨N.dropLast, N.getLast (by intro h0; rw [h0] at hl; cases hl), (List.dropLast_concat_getLast _).symm⟩
    have hx := h x (by simp)
    obtain ⟨n, rfl⟩ := Int.eq_ofNat_of_zero_le hx.1
    have ih := rdMany_enc k M (by simpa using hl) (fun y hy => h y (by simp [hy])) (enc n ++ t)
    have e : encs (M ++ [(n : Int)]) ++ t = encs M ++ (enc n ++ t) := by simp [encs]
    rw [e]
    simp only [rdMany, ih, rdNum_enc (most := 1073741824) (n := n) (by omega) hx.2 t]
end Go.Proofs.Ytfllejlooaipiaa
