/- The document's past: read, asked; are both the same? -/
import Derived.Test.YtfllejlooaipiaaPast4
namespace Go.Proofs.Ytfllejlooaipiaa
open Go.RowKit

/-- the document's past at p. -/
structure Rps (w : World) (p : Nat) (N : List Int) : Prop where
  blk : Blk w p (ins (0 :: N)) 32
  len : N.length = 8
theorem Rps.at {w : World} {p : Nat} {N : List Int} (h : Rps w p N) {i : Nat} {x : Int} (hx : N[i]? = some x) : w.cell? ⟨p, i + 1, none⟩ = some (.int .i64 x) :=
  h.blk.cell (ins_at (by simpa using hx))
theorem Rps.off {S : Nat → Prop} {w w' : World} {p : Nat} {N : List Int} (h : Rps w p N) (ho : Off S w w') (hs : ¬ S p) : Rps w' p N := ⟨h.blk.off ho hs, h.len⟩
theorem Rps.old {w w' : World} {p : Nat} {N : List Int} (h : Rps w p N) (ho : Off Old w w') : Rps w' p N := h.off ho (fun x => x)
theorem Rps.set {w : World} {p : Nat} {N : List Int} (h : Rps w p N) (i : Nat) (x : Int) : Rps (w.setCell ⟨p, i + 1, none⟩ (.int .i64 x)) p (N.set i x) := by
  refine ⟨?_, by simp [h.len]⟩
  have := h.blk.set (i + 1) (.int .i64 x)
  simpa [ins, List.map_set] using this
set_option maxHeartbeats 400000 in
theorem rof_c (p : Nat) (N : List Int) (c : Int) (w : World) (h : Rps w p N) (R : Ending → World → Prop) (k : R (.returned (.int .i64 (ofN N c))) w) :
    Calls Try.prog 68 #[.pointer (some ⟨p, 0, none⟩), .int .i64 c] w R := by
  by_cases h1 : c < 1
  · rw [show ofN N c = 0 by simp [ofN, h1]] at k
    have t1 : decide (c < 1) = true := by simpa using h1
    go_enter Try.func68, Try.ntmps68
    go_wp2_with fail
    exact k
  · by_cases h2 : 8 < c
    · rw [show ofN N c = 0 by simp [ofN, h2]] at k
      have t1 : decide (c < 1) = false := by simpa using h1
      have t2 : decide (8 < c) = true := by simpa using h2
      go_enter Try.func68, Try.ntmps68
      go_wp2_with fail
      exact k
    · obtain ⟨m, rfl⟩ : ∃ m : Nat, c = ((m + 1 : Nat) : Int) := ⟨(c - 1).toNat, by omega⟩
      have hm8 : m < 8 := by omega
      obtain ⟨x, hx⟩ := at_of_lt (l := N) (j := m) (by rw [h.len]; exact hm8)
      have cx := h.at hx.out
      rw [show ofN N ((m + 1 : Nat) : Int) = x by simp [ofN, hx.out]; omega] at k
      generalize hM : m + 1 = M at *
      have t1 : decide ((M : Int) < 1) = false := by simp; omega
      have t2 : decide (8 < (M : Int)) = false := by simp; omega
      have hM9 : M < 9 := by omega
      clear hM
      go_enter Try.func68, Try.ntmps68
      go_wp2_with fail
      exact k
set_option maxHeartbeats 400000 in
theorem same_c (p q : Nat) (N M : List Int) (hNM : N = M) (w : World) (h : Pst w p N) (h2 : Rps w q M) (R : Ending → World → Prop) (k : ∀ w', Off Old w w' → R (.returned (.bool true)) w') :
    Calls Try.prog 18 #[.pointer (some ⟨p, 0, none⟩), .pointer (some ⟨q, 0, none⟩)] w R := by
  subst hNM
  have HK := Lib.hid k; clear k
  go_enter Try.func18, Try.ntmps18
  go_wp2_with fail
  go_loopw [5] (fun i wr => ∃ j : Nat, i = .int .i64 ((j : Int) - 1) ∧ j ≤ 12 ∧ Off Old w wr) (fun i _ => 12 - (intOf i + 1).toNat)
  case atStart => exact ⟨0, rfl, by omega, Off.refl _ _⟩
  case round =>
    obtain ⟨j, rfl, hj, ho⟩ := hrel
    have hp := h.old ho
    have hq := h2.old ho
    by_cases hlt : j < 12
    · have t1 : decide ((j : Int) - 1 < 11) = true := by simp; omega
      go_wp2_with (go_at_call 60; refine of_c p N _ _ hp _ ?_)
      intro w1 ho1
      go_wp2_with (go_at_call 68; refine rof_c q N _ _ (hq.old ho1) _ ?_)
      go_roundw
      case rel => exact ⟨j + 1, by go_num, by omega, ho.trans ho1⟩
      case measure => simp [intOf]; omega
    · obtain rfl : j = 12 := by omega
      have HF := HK.out wr ho
      clear HK
      go_wp2_with fail
      exact HF

set_option maxRecDepth 100000 in
set_option maxHeartbeats 1000000 in
theorem rread_c (m : Nat) (S : Nat → Prop) (s : RS) (w : World) (h : RefRd w m S s) (hS : ∀ k, w.heap.size ≤ k → S k) (R : Ending → World → Prop)
    (k1 : (rdMany 8 s).2 = none → ∀ w', RefRd w' m S none → Off (fun k => k = m) w w' → R (.returned (.tuple #[.pointer none, .bool false])) w')
    (k2 : (rdMany 8 s).2 ≠ none → ∀ w' q, w.heap.size ≤ q → Rps w' q (rdMany 8 s).1 → RefRd w' m S (rdMany 8 s).2 → Off (fun k => k = m) w w' → R (.returned (.tuple #[.pointer (some ⟨q, 0, none⟩), .bool true])) w') :
    Calls Try.prog 37 #[.pointer (some ⟨m, 0, none⟩)] w R := by
  have K1 := Lib.hid k1; have K2 := Lib.hid k2; clear k1 k2
  have ho0 := (Off.refl Old w).alloc (.cells (ins (0 :: List.replicate 8 0)).toArray 32)
  have hp0 : Rps (w.alloc (.cells (ins (0 :: List.replicate 8 0)).toArray 32)) w.heap.size (List.replicate 8 0) := ⟨Blk.new w _ _, rfl⟩
  have hr0 := h.old ho0
  have hq : Hid (m < w.heap.size) := h.lt
  have hSq := hS _ (Nat.le_refl w.heap.size)
  go_enter Try.func37, Try.ntmps37
  go_wp2_with fail
  generalize hqq : w.heap.size = q at *
  have hqq := Lib.hid hqq
  go_loopw [5] (fun i wr => ∃ j : Nat, i = .int .i64 (j + 1 : Nat) ∧ j ≤ 8 ∧ RefRd wr m S (rdMany j s).2 ∧ Rps wr q ((rdMany j s).1 ++ List.replicate (8 - j) 0) ∧ Off (fun k => k = m) w wr) (fun i _ => 9 - (intOf i).toNat)
  case atStart => exact ⟨0, rfl, Nat.zero_le _, hr0, hp0, ho0.mono (fun _ x _ => x.elim)⟩
  case round =>
    clear hr0 hp0 ho0
    obtain ⟨j, rfl, hj, hr, hp, ho⟩ := hrel
    by_cases hlt : j < 8
    · have hR2 : Hid ((rdMany (j + 1) s).2 = (rdNum 1073741824 (rdMany j s).2).2) := rfl
      have hR1 : Hid ((rdMany (j + 1) s).1 ++ List.replicate (8 - (j + 1)) 0 = ((rdMany j s).1 ++ List.replicate (8 - j) 0).set j (rdNum 1073741824 (rdMany j s).2).1) := by
        show _ = _
        rw [show 8 - j = (8 - (j + 1)) + 1 by omega, set_step (rdMany_length j s)]; rfl
      generalize (rdMany j s).1 ++ List.replicate (8 - j) 0 = M at *
      generalize (rdMany j s).2 = s1 at *
      generalize hT : rdNum 1073741824 s1 = T at *
      obtain ⟨v, s2⟩ := T
      have hne : ¬ q = m := by have := hq.out; omega
      obtain ⟨y, hy⟩ := at_of_lt (l := M) (j := j) (by rw [hp.len]; exact hlt)
      have hpd := hp.old (Off.refl Old wr).drew
      have hrd := hr.old (Off.refl Old wr).drew
      go_wp2_with fail
      first | (go_region_with (first | (go_at_call 48; refine rnumber_c m S s1 1073741824 _ hrd _ ?_; rw [hT]; intro w2 e2 e3; have hp2 := hpd.off e3 hne; have cy := hp2.at hy.out; have fy := hp2.blk.free (j + 1)))) | fail
      all_goals
        have h8 : ∀ w', Off (fun k => k = q) w2 w' → RefRd w' m S s2 := fun w' ho => e2.off ho (fun e => hne e.symm) (by rintro k rfl; exact hSq)
        have h9 : ∀ w', Off (fun k => k = q) w2 w' → Off (fun k => k = m) w w' := fun w' ho2 => ((ho.drew.trans e3).step ho2 (by rintro i rfl hi; have := hqq.out; omega))
        have HO := (Off.refl (fun k => k = q) w2).setCell (p := ⟨q, j + 1, none⟩) (fun _ => rfl) (.int .i64 v)
        have HP := hp2.set j v
        clear e2 e3 hp2 cy fy
        go_wp2_with fail
        go_roundw
        case rel => exact ⟨j + 1, by go_num, by omega, by rw [hR2.out]; exact h8 _ (by simpa using HO), by rw [hR1.out]; simpa using HP, h9 _ (by simpa using HO)⟩
        case measure => simp [intOf]; omega
    · obtain rfl : j = 8 := by omega
      rw [Nat.sub_self, List.replicate_zero, List.append_nil] at hp
      cases hs8 : (rdMany 8 s).2 with
      | none =>
        rw [hs8] at hr
        have HF := K1.out hs8 wr hr ho
        clear K1 K2
        have cf := Blk.cell (i := 1) hr.2 rfl
        go_wp2_with fail
        exact HF
      | some l =>
        have HF := K2.out (by rw [hs8]; simp) wr q (by have := hqq.out; omega) hp hr ho
        rw [hs8] at hr
        clear K1 K2
        obtain ⟨_, a, c, hb, _⟩ := hr
        have cf := Blk.cell (i := 1) hb rfl
        go_wp2_with fail
        exact HF
end Go.Proofs.Ytfllejlooaipiaa
