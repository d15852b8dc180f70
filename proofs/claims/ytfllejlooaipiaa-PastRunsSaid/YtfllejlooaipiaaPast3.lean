/- What is past: raised by many. -/
import Derived.Test.YtfllejlooaipiaaPast2
namespace Go.Proofs.Ytfllejlooaipiaa
open Go.RowKit

theorem Nm.ok_c {x : Nm} (h : x.ok = true) : 1 ≤ x.c ∧ x.c ≤ 8 := by simp [Nm.ok] at h; omega
set_option maxHeartbeats 1000000 in
theorem raiseAll_c (p : Nat) (N : List Int) (v : Bool) (a : Option Addr) (c : Nat) (l : List Nm) (w : World) (hv : l.all Nm.ok = v) (h : Pst w p N) (ha : Sl w a (nms l)) (hs : ∀ q, a = some q → l ≠ [] → q.block ≠ p) (bn : l.length ≤ 1000000000) (R : Ending → World → Prop)
    (k1 : v = true → ∀ w', Pst w' p (raiseAll N l) → Off (fun k => k = p) w w' → R (.returned (.int .i64 0)) w')
    (k2 : v = false → ∀ w', Off Old w w' → R (.returned (.int .i64 2)) w') :
    Calls Try.prog 16 #[.pointer (some ⟨p, 0, none⟩), .slice a l.length c] w R := by
  have K1 := Lib.hid k1; have K2 := Lib.hid k2; clear k1 k2
  have hm := h.made
  have ho0 : Off Old w (w.alloc (.cells #[.pointer (some ⟨p, 0, none⟩)] 27)) := (Off.refl Old w).alloc _
  go_enter Try.func16, Try.ntmps16
  cases v
  · have K2' := K2.out rfl
    clear K2
    go_wp2_with (first | (go_at_call 66; refine pknown_n p _ hm _ ?_) | (go_at_call 14; refine right_c false _ _ l _ hv (ha.old ho0) bn _ ?_))
    intro w1 ho1
    have HF := K2' w1 (ho0.trans ho1)
    clear K1 K2'
    go_wp2_with fail
    exact HF
  · have HV := Lib.hid hv
    have K1' := K1.out rfl
    clear K1 K2
    have K1' := fun w' h1 h2 => K1' w' h1 h2
    have K3 := Lib.hid K1'
    clear K1'
    go_wp2_with (first | (go_at_call 66; refine pknown_n p _ hm _ ?_) | (go_at_call 14; refine right_c true _ _ l _ hv (ha.old ho0) bn _ ?_))
    intro w1 ho1
    have ho2 := ho0.trans ho1
    have h1 := h.old ho2
    have ha1 := ha.old ho2
    clear ho0 ho1 hv
    have hp : p < w.heap.size := h.blk.lt
    go_wp2_with fail
    go_loopw [6, 18] (fun _ i wr => ∃ j : Nat, i = .int .i64 j ∧ j ≤ l.length ∧ Off (fun k => k = p) w wr ∧ Pst wr p (raiseAll N (l.take j))) (fun _ i _ => l.length - (intOf i).toNat)
    case atStart => exact ⟨0, rfl, Nat.zero_le _, ho2.mono (fun _ x _ => x.elim), h1⟩
    case round =>
      clear h1 ha1 ho2
      obtain ⟨j, rfl, hj, ho, h1⟩ := hrel
      by_cases hlt : j < l.length
      · obtain ⟨x, hx⟩ := at_of_lt hlt
        obtain ⟨b, o, ix, Q, HB⟩ := Sl.ixn (ha.off ho (fun q e hn => hs q e (by rintro rfl; exact hn rfl))) c
        obtain ⟨cx1, cx2⟩ := Q.out j x hx.out
        have hok := Nm.ok_c (List.all_eq_true.1 HV.out x (List.mem_of_getElem? hx.out))
        have hR : Hid (raiseAll N (l.take (j + 1)) = raiseN (raiseAll N (l.take j)) x) := by
          show _ = _; simp [raiseAll, List.take_add_one, hx.out]
        generalize raiseAll N (l.take j) = M at *
        have hb0 := Blk.new wr #[.int .i64 x.c, .int .i64 x.n] 53
        have c0 := hb0.cell (i := 0) rfl
        have c1 := hb0.cell (i := 1) rfl
        have ho3 := ((Off.refl Old wr).alloc (.cells #[.int .i64 x.c, .int .i64 x.n] 53)).drew
        have h2 := h1.old ho3
        go_wp2_with fail
        first | (go_region_with (first | (go_at_call 67; refine raise_c p M x _ h2 hok.1 hok.2 _ ?_; intro w2 e2 e3))) | fail
        all_goals
          have ho4 : Off (fun k => k = p) w w2 := (ho.trans (ho3.mono (fun _ x _ => x.elim))).trans e3
          go_wp2_with fail
          go_roundw
          case rel => exact ⟨j + 1, by go_num, by omega, ho4, by rw [hR.out]; exact e2⟩
          case measure => simp [intOf]; omega
      · rw [List.take_of_length_le (by omega)] at h1
        have HF := K3.out _ h1 ho
        clear K3
        go_wp2_with fail
        exact HF
theorem raise_ok (p : Nat) (N : List Int) (a : Option Addr) (c : Nat) (l : List Nm) (w : World) (hv : l.all Nm.ok = true) (h : Pst w p N) (ha : Sl w a (nms l)) (hs : ∀ q, a = some q → l ≠ [] → q.block ≠ p) (bn : l.length ≤ 1000000000) (R : Ending → World → Prop)
    (k1 : ∀ w', Pst w' p (raiseAll N l) → Off (fun k => k = p) w w' → R (.returned (.int .i64 0)) w') :
    Calls Try.prog 16 #[.pointer (some ⟨p, 0, none⟩), .slice a l.length c] w R := raiseAll_c p N true a c l w hv h ha hs bn R (fun _ => k1) (fun h => by cases h)
theorem raise_bad (p : Nat) (N : List Int) (a : Option Addr) (c : Nat) (l : List Nm) (w : World) (hv : l.all Nm.ok = false) (h : Pst w p N) (ha : Sl w a (nms l)) (hs : ∀ q, a = some q → l ≠ [] → q.block ≠ p) (bn : l.length ≤ 1000000000) (R : Ending → World → Prop)
    (k2 : ∀ w', Off Old w w' → R (.returned (.int .i64 2)) w') :
    Calls Try.prog 16 #[.pointer (some ⟨p, 0, none⟩), .slice a l.length c] w R := raiseAll_c p N false a c l w hv h ha hs bn R (fun h => by cases h) (fun _ => k2)
end Go.Proofs.Ytfllejlooaipiaa
