/- The document's past: right, raised. -/
import Derived.Test.YtfllejlooaipiaaRef17
import Derived.Test.YtfllejlooaipiaaNames
namespace Go.Proofs.Ytfllejlooaipiaa
open Go.RowKit

set_option maxHeartbeats 400000 in
theorem rright_c (x : Nm) (w : World) (R : Ending → World → Prop) (k : ∀ w', Off Old w w' → R (.returned (.bool x.ok)) w') :
    Calls Try.prog 65 #[.agg #[.int .i64 x.c, .int .i64 x.n]] w R := by
  obtain ⟨c, n⟩ := x
  have HK := k (w.alloc (.cells #[.int .i64 c, .int .i64 n] 53)) ((Off.refl _ _).alloc _)
  clear k
  dsimp only
  by_cases h1 : 1 ≤ c
  · have t1 : decide (1 ≤ c) = true := by simpa using h1
    by_cases h2 : c ≤ 8
    · have t2 : decide (c ≤ 8) = true := by simpa using h2
      by_cases h3 : 1 ≤ n
      · have t3 : decide (1 ≤ n) = true := by simpa using h3
        by_cases h4 : n ≤ 1073741824
        · have t4 : decide (n ≤ 1073741824) = true := by simpa using h4
          rw [show Nm.ok ⟨c, n⟩ = true by simp [Nm.ok]; omega] at HK
          go_enter Try.func65, Try.ntmps65
          go_wp2_with fail
          exact HK
        · have t4 : decide (n ≤ 1073741824) = false := by simpa using h4
          rw [show Nm.ok ⟨c, n⟩ = false by simp [Nm.ok]; omega] at HK
          go_enter Try.func65, Try.ntmps65
          go_wp2_with fail
          exact HK
      · have t3 : decide (1 ≤ n) = false := by simpa using h3
        rw [show Nm.ok ⟨c, n⟩ = false by simp [Nm.ok]; omega] at HK
        go_enter Try.func65, Try.ntmps65
        go_wp2_with fail
        exact HK
    · have t2 : decide (c ≤ 8) = false := by simpa using h2
      rw [show Nm.ok ⟨c, n⟩ = false by simp [Nm.ok]; omega] at HK
      go_enter Try.func65, Try.ntmps65
      go_wp2_with fail
      exact HK
  · have t1 : decide (1 ≤ c) = false := by simpa using h1
    rw [show Nm.ok ⟨c, n⟩ = false by simp [Nm.ok]; omega] at HK
    go_enter Try.func65, Try.ntmps65
    go_wp2_with fail
    exact HK

set_option maxRecDepth 100000 in
set_option maxHeartbeats 1000000 in
theorem rraise_c (p : Nat) (N : List Int) (v : Bool) (a : Option Addr) (c : Nat) (l : List Nm) (w : World) (hv : l.all Nm.ok = v) (h : Rps w p N) (ha : Sl w a (nms l)) (hs : ∀ q, a = some q → l ≠ [] → q.block ≠ p) (bn : l.length ≤ 1000000000) (R : Ending → World → Prop)
    (k : ∀ w', Rps w' p (if v then raiseAll N l else N) → Off (fun k => k = p) w w' → R (.returned (.int .i64 (if v then 0 else 2))) w') :
    Calls Try.prog 17 #[.pointer (some ⟨p, 0, none⟩), .slice a l.length c] w R := by
  have HK := Lib.hid k; clear k
  have HV := Lib.hid hv; clear hv
  have HS := Lib.hid hs; clear hs
  go_enter Try.func17, Try.ntmps17
  go_wp2_with fail
  go_loopw [5] (fun i wr => ∃ j : Nat, i = .int .i64 j ∧ j ≤ l.length ∧ Off Old w wr ∧ Hid ((l.take j).all Nm.ok = true)) (fun i _ => l.length - (intOf i).toNat)
  case atStart => exact ⟨0, rfl, Nat.zero_le _, Off.refl _ _, rfl⟩
  case round =>
    obtain ⟨j, rfl, hj, ho, hok⟩ := hrel
    by_cases hlt : j < l.length
    · obtain ⟨x, hx⟩ := at_of_lt hlt
      obtain ⟨b, o, ix, Q, HB⟩ := Sl.ixn (ha.old ho) c
      obtain ⟨cx1, cx2⟩ := Q.out j x hx.out
      obtain ⟨u, hu⟩ : ∃ u, Hid (x.ok = u) := ⟨_, rfl⟩
      cases u
      · have hbad : v = false := by
          rw [← HV.out, List.all_eq_false]; exact ⟨x, List.mem_of_getElem? hx.out, by rw [hu.out]; simp⟩
        subst hbad
        go_wp2_with (go_at_call 65; go_must (refine rright_c x _ _ ?_))
        rw [hu.out]
        intro w1 ho1
        have HF := HK.out w1 (h.old (ho.trans ho1)) ((ho.trans ho1).mono (fun _ x _ => x.elim))
        clear HK
        go_wp2_with fail
        exact HF
      · have hok2 : Hid ((l.take (j + 1)).all Nm.ok = true) := by
          show _ = _; rw [List.take_add_one, hx.out, List.all_append, hok.out]; simp [hu.out]
        go_wp2_with (go_at_call 65; go_must (refine rright_c x _ _ ?_))
        rw [hu.out]
        intro w1 ho1
        have ho2 := ho.trans ho1
        clear ho ho1
        go_wp2_with fail
        go_roundw
        case rel => exact ⟨j + 1, by go_num, by omega, ho2, hok2⟩
        case measure => simp [intOf]; omega
    · have hall := hok.out
      rw [List.take_of_length_le (by omega)] at hall
      have hv : v = true := by rw [← HV.out]; exact hall
      subst hv
      have h0 := h.old ho
      go_wp2_with fail
      go_loopw [6] (fun i wr => ∃ j : Nat, i = .int .i64 j ∧ j ≤ l.length ∧ Off (fun k => k = p) w wr ∧ Rps wr p (raiseAll N (l.take j))) (fun i _ => l.length - (intOf i).toNat)
      case atStart => exact ⟨0, rfl, Nat.zero_le _, ho.mono (fun _ x _ => x.elim), h0⟩
      case round =>
        clear h0 ho hok hall hlt hj
        obtain ⟨j, rfl, hj, ho, h1⟩ := hrel
        by_cases hlt : j < l.length
        · obtain ⟨⟨xc, xn⟩, hx⟩ := at_of_lt hlt
          obtain ⟨b, o, ix, Q, HB⟩ := Sl.ixn (ha.off ho (fun q e hn => HS.out q e (by rintro rfl; exact hn rfl))) c
          obtain ⟨cx1, cx2⟩ := Q.out j _ hx.out
          have hxok := Nm.ok_c (List.all_eq_true.1 HV.out _ (List.mem_of_getElem? hx.out))
          dsimp only at cx1 cx2 hxok
          obtain ⟨m, rfl⟩ : ∃ m : Nat, xc = ((m + 1 : Nat) : Int) := ⟨(xc - 1).toNat, by omega⟩
          have hm8 : m < 8 := by omega
          have hR : Hid (raiseAll N (l.take (j + 1)) = raiseN (raiseAll N (l.take j)) ⟨((m + 1 : Nat) : Int), xn⟩) := by
            show _ = _; simp [raiseAll, List.take_add_one, hx.out]
          generalize raiseAll N (l.take j) = M at *
          obtain ⟨y, hy⟩ := at_of_lt (l := M) (j := m) (by rw [h1.len]; exact hm8)
          have cy := h1.at hy.out
          have fy := h1.blk.free (m + 1)
          have hR2 : Hid (raiseN M ⟨((m + 1 : Nat) : Int), xn⟩ = M.set m (if y < xn then xn else y)) := by
            show _ = _; simp [raiseN, hy.out, max_if]
          have hset := h1.set m (if y < xn then xn else y)
          rw [← hR2.out, ← hR.out] at hset
          have hos : Off (fun k => k = p) w (wr.setCell ⟨p, m + 1, none⟩ (.int .i64 (if y < xn then xn else y))) := ho.setCell (fun _ => rfl) _
          clear ho h1 hR2 hR
          generalize hM1 : m + 1 = M1 at *
          have hM9 : M1 < 9 := by omega
          have HM := Lib.hid hM1
          clear hM1
          have hset := Lib.hid hset
          have hos := Lib.hid hos
          go_wp2_with fail
          go_region
          go_wp2_with fail
          go_roundw
          case rel => exact ⟨j + 1, by go_num, by omega, hos.out.drew, hset.out.old (Off.refl _ _).drew⟩
          case measure => simp [intOf]; omega
        · rw [List.take_of_length_le (by omega)] at h1
          have HF := HK.out wr h1 ho
          clear HK
          go_wp2_with fail
          exact HF
end Go.Proofs.Ytfllejlooaipiaa
