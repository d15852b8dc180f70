/- What raising and merging make: plain facts. -/
import Derived.Test.YtfllejlooaipiaaPast6
namespace Go.Proofs.Ytfllejlooaipiaa
open Go.RowKit

/-- the greatest number of a client among names, and what there was. -/
def top (c : Int) (l : List Nm) (n : Int) : Int := l.foldl (fun n x => if x.c = c then max n x.n else n) n
theorem raiseN_len (N : List Int) (x : Nm) : (raiseN N x).length = N.length := by simp [raiseN]
theorem raiseAll_len : ∀ (l : List Nm) (N : List Int), (raiseAll N l).length = N.length
  | [], _ => rfl
  | x :: l, N => by
    have := raiseAll_len l (raiseN N x)
    simp only [raiseAll, List.foldl_cons] at this ⊢
    rw [this, raiseN_len]
theorem raiseN_at {N : List Int} {x : Nm} (h1 : 1 ≤ x.c) (h8 : x.c ≤ 8) (hl : N.length = 8) {i : Nat} (hi : i < 8) :
    (raiseN N x).getD i 0 = if x.c = (i : Int) + 1 then max (N.getD i 0) x.n else N.getD i 0 := by
  simp only [raiseN]
  by_cases h : x.c = (i : Int) + 1
  · have e : x.c.toNat - 1 = i := by omega
    rw [if_pos h, e]
    simp [List.getD, hl, hi]
  · rw [if_neg h]
    have e : x.c.toNat - 1 ≠ i := by omega
    simp [List.getD, e]
theorem raiseAll_at : ∀ {l : List Nm} {N : List Int}, l.all Nm.ok = true → N.length = 8 → ∀ {i : Nat}, i < 8 → (raiseAll N l).getD i 0 = top ((i : Int) + 1) l (N.getD i 0)
  | [], _, _, _, _, _ => rfl
  | x :: l, N, h, hl, i, hi => by
    simp only [List.all_cons, Bool.and_eq_true] at h
    have hc := Nm.ok_c h.1
    have ih := raiseAll_at (l := l) (N := raiseN N x) h.2 (by rw [raiseN_len, hl]) hi
    simp only [raiseAll, List.foldl_cons, top] at ih ⊢
    rw [ih, raiseN_at hc.1 hc.2 hl hi]
theorem mergeUp_at {N M : List Int} (hl : N.length = 8) : ∀ {k : Nat}, k ≤ 8 → (mergeUp N M k).length = 8 ∧ ∀ {i : Nat}, i < 8 → (mergeUp N M k).getD i 0 = if i < k then max (N.getD i 0) (M.getD i 0) else N.getD i 0
  | 0, _ => by refine ⟨hl, fun {i} hi => ?_⟩; simp [mergeUp]
  | k + 1, hk => by
    obtain ⟨h1, h2⟩ := mergeUp_at (N := N) (M := M) hl (k := k) (by omega)
    rw [mergeUp_succ]
    refine ⟨by rw [raiseN_len, h1], fun {i} hi => ?_⟩
    rw [raiseN_at (by simp only; omega) (by simp only; omega) h1 hi, h2 hi]
    simp only
    by_cases h : k = i
    · subst h
      rw [if_pos rfl, if_neg (Nat.lt_irrefl _), if_pos (Nat.lt_succ_self _)]
    · rw [if_neg (by omega)]
      by_cases h3 : i < k
      · rw [if_pos h3, if_pos (by omega)]
      · rw [if_neg h3, if_neg (by omega)]
theorem mergeN_len {N M : List Int} (hl : N.length = 8) : (mergeN N M).length = 8 := (mergeUp_at hl (Nat.le_refl _)).1
theorem mergeN_at {N M : List Int} (hl : N.length = 8) {i : Nat} (hi : i < 8) : (mergeN N M).getD i 0 = max (N.getD i 0) (M.getD i 0) := by
  rw [mergeN, (mergeUp_at hl (Nat.le_refl _)).2 hi, if_pos hi]
/-- two lists of eight are the same where their numbers are. -/
theorem eq8 {N M : List Int} (h1 : N.length = 8) (h2 : M.length = 8) (h : ∀ i, i < 8 → N.getD i 0 = M.getD i 0) : N = M := by
  refine List.ext_getElem (by rw [h1, h2]) fun i hi hj => ?_
  have := h i (by omega)
  simpa [List.getD, hi, hj] using this
theorem top_le (c : Int) : ∀ (l : List Nm) (n : Int), n ≤ top c l n
  | [], n => Int.le_refl n
  | x :: l, n => by
    have := top_le c l (if x.c = c then max n x.n else n)
    simp only [top, List.foldl_cons] at this ⊢
    split at this <;> split <;> omega
theorem top_max (c : Int) : ∀ (l : List Nm) (n m : Int), top c l (max n m) = max (top c l n) m
  | [], n, m => rfl
  | x :: l, n, m => by
    simp only [top, List.foldl_cons]
    have h1 := top_max c l
    simp only [top] at h1
    split
    · rw [show max (max n m) x.n = max (max n x.n) m by omega, h1]
    · rw [h1]
theorem top_append (c : Int) (l m : List Nm) (n : Int) : top c (l ++ m) n = top c m (top c l n) := by simp [top]
theorem top_comm (c : Int) : ∀ (l m : List Nm) (n : Int), top c l (top c m n) = top c m (top c l n)
  | [], m, n => rfl
  | x :: l, m, n => by
    have h1 := top_comm c l m
    have e : ∀ k, top c (x :: l) k = top c l (if x.c = c then max k x.n else k) := fun k => rfl
    rw [e, e]
    split
    · rw [← top_max, h1]
    · exact h1 n
theorem top_mem {c : Int} : ∀ {l : List Nm} {n : Int} {x : Nm}, x ∈ l → x.c = c → x.n ≤ top c l n
  | y :: l, n, x, h, hc => by
    have e : top c (y :: l) n = top c l (if y.c = c then max n y.n else n) := rfl
    rw [e]
    rcases List.mem_cons.1 h with rfl | h
    · rw [if_pos hc]
      have := top_le c l (max n x.n); omega
    · exact top_mem h hc
/-- no number is greater than 2^30, none is less than 0. -/
theorem top_range {c : Int} : ∀ {l : List Nm} {n : Int}, l.all Nm.ok = true → 0 ≤ n → n ≤ 1073741824 → 0 ≤ top c l n ∧ top c l n ≤ 1073741824
  | [], n, _, h1, h2 => ⟨h1, h2⟩
  | x :: l, n, h, h1, h2 => by
    simp only [List.all_cons, Bool.and_eq_true] at h
    have e : top c (x :: l) n = top c l (if x.c = c then max n x.n else n) := rfl
    rw [e]
    have h3 := h.1
    simp [Nm.ok] at h3
    exact top_range h.2 (by split <;> omega) (by split <;> omega)
end Go.Proofs.Ytfllejlooaipiaa
