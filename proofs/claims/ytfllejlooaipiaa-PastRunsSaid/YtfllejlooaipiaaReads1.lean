/- WireBack's reads. -/
import Derived.Test.YtfllejlooaipiaaReads
namespace Go.Proofs.Ytfllejlooaipiaa
open Go.RowKit

/-- is all read, to the end? -/
def rdAll (s : RS) (l : List Item) : Bool := (rdItems (true, s) l).1 && decide ((rdItems (true, s) l).2 = some [])
set_option maxRecDepth 100000 in
set_option maxHeartbeats 1000000 in
theorem reads_c (p bb n c2 c3 c4 c5 : Nat) (s : RS) (a2 a3 a4 a5 : Option Addr) (ns : List Int) (fs : List Bool) (ts : List ByteArray) (rs : List BRow) (w : World) (hr : Rd w p bb s) (ha : Args w (fun k => k = p) a2 a3 a4 a5 ns fs ts rs)
    (bd : rsLen s ≤ 100000000000) (bn : n ≤ 100000000) (b6 : ∀ r ∈ rs, r.l.length ≤ 100000000) (b7 : ∀ t ∈ ts, t.size ≤ 100000000) (R : Ending → World → Prop)
    (k : ∀ w', Off (fun k => k = p) w w' → R (.returned (.bool (rdAll s (allItems ns fs ts rs n)))) w') :
    Calls Try.prog 56 #[.pointer (some ⟨p, 0, none⟩), .int .i64 n, .slice a2 ns.length c2, .slice a3 fs.length c3, .slice a4 ts.length c4, .slice a5 rs.length c5] w R := by
  have HK := Lib.hid k; clear k
  unfold rdAll at HK
  go_enter Try.func56, Try.ntmps56
  go_wp2_with (go_at_call 57; refine reads2_c _ _ _ _ _ _ _ _ _ _ _ _ _ _ _ _ _ hr ha bd bn b6 b7 _ ?_)
  generalize rdItems (true, s) (allItems ns fs ts rs n) = T at *
  obtain ⟨ok, s1⟩ := T
  simp only at HK
  intro w1 h1 ho
  have h1 : Rd w1 p bb s1 := h1
  have HF := HK.out w1 ho
  clear HK ha
  cases ok with
  | false =>
    go_wp2_with fail
    exact HF
  | true =>
    cases s1 with
    | none =>
      go_wp2_with (first | (go_at_call 32; refine left_c _ _ _ _ h1 _ ?_) | (go_at_call 34; refine end_c _ _ _ _ h1 _ ?_))
      exact HF
    | some l =>
      cases l with
      | nil =>
        go_wp2_with (first | (go_at_call 32; refine left_c _ _ _ _ h1 _ ?_) | (go_at_call 34; refine end_c _ _ _ _ h1 _ ?_))
        exact HF
      | cons x xs =>
        have hb : (((rdLeft (some (x :: xs)) : Nat) : Int) == 0) = false := by simp [rdLeft]; omega
        go_wp2_with (first | (go_at_call 32; refine left_c _ _ _ _ h1 _ ?_) | (go_at_call 34; refine end_c _ _ _ _ h1 _ ?_))
        exact HF
end Go.Proofs.Ytfllejlooaipiaa
