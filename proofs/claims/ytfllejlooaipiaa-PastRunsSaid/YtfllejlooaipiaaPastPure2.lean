/- PastGrows' plain law: in whatever order, in one past or in several. -/
import Derived.Test.YtfllejlooaipiaaPastPure
namespace Go.Proofs.Ytfllejlooaipiaa
open Go.RowKit

theorem zero8_len : zero8.length = 8 := rfl
theorem zero8_at {i : Nat} (hi : i < 8) : zero8.getD i 0 = 0 := by
  obtain rfl | rfl | rfl | rfl | rfl | rfl | rfl | rfl : i = 0 ∨ i = 1 ∨ i = 2 ∨ i = 3 ∨ i = 4 ∨ i = 5 ∨ i = 6 ∨ i = 7 := by omega
  all_goals rfl
theorem turned_at {l m : List Nm} {k : Nat} (hl : l.all Nm.ok = true) (hm : m.all Nm.ok = true) {i : Nat} (hi : i < 8) :
    (raiseAll zero8 (m ++ l.drop k ++ l.take k)).getD i 0 = max (top ((i : Int) + 1) l 0) (top ((i : Int) + 1) m 0) := by
  have hT : (m ++ l.drop k ++ l.take k).all Nm.ok = true := by
    have h1 := List.all_eq_true.1 hl
    have h2 := List.all_eq_true.1 hm
    rw [List.all_eq_true]
    intro y hy
    simp only [List.mem_append] at hy
    rcases hy with (hy | hy) | hy
    · exact h2 y hy
    · exact h1 y (List.mem_of_mem_drop hy)
    · exact h1 y (List.mem_of_mem_take hy)
  rw [raiseAll_at hT zero8_len hi]
  have hz := zero8_at hi
  rw [hz, top_append, top_append, top_comm, ← top_append, List.take_append_drop]
  have h0 := top_le ((i : Int) + 1) m 0
  have := top_max ((i : Int) + 1) l 0 (top ((i : Int) + 1) m 0)
  rw [show max 0 (top ((i : Int) + 1) m 0) = top ((i : Int) + 1) m 0 by omega] at this
  exact this
/-- p, merged with q twice, is what all names together make; so is q, merged with p. -/
theorem grown_p {l m : List Nm} {k : Nat} (hl : l.all Nm.ok = true) (hm : m.all Nm.ok = true) :
    mergeN (mergeN (raiseAll zero8 l) (raiseAll zero8 m)) (raiseAll zero8 m) = raiseAll zero8 (m ++ l.drop k ++ l.take k) := by
  have h1 : (raiseAll zero8 l).length = 8 := raiseAll_len l zero8
  refine eq8 (mergeN_len (mergeN_len h1)) (raiseAll_len _ zero8) fun i hi => ?_
  rw [turned_at hl hm hi, mergeN_at (mergeN_len h1) hi, mergeN_at h1 hi, raiseAll_at hl zero8_len hi, raiseAll_at hm zero8_len hi, zero8_at hi]
  omega
theorem grown_q {l m : List Nm} {k : Nat} (hl : l.all Nm.ok = true) (hm : m.all Nm.ok = true) :
    mergeN (raiseAll zero8 m) (raiseAll zero8 l) = raiseAll zero8 (m ++ l.drop k ++ l.take k) := by
  have h1 : (raiseAll zero8 m).length = 8 := raiseAll_len m zero8
  refine eq8 (mergeN_len h1) (raiseAll_len _ zero8) fun i hi => ?_
  rw [turned_at hl hm hi, mergeN_at h1 hi, raiseAll_at hl zero8_len hi, raiseAll_at hm zero8_len hi, zero8_at hi]
  omega
end Go.Proofs.Ytfllejlooaipiaa
