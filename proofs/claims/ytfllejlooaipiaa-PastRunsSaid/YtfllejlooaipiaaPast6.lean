/- What is past: copied, written; are two the same? Pick. -/
import Derived.Test.YtfllejlooaipiaaPast5
namespace Go.Proofs.Ytfllejlooaipiaa
open Go.RowKit

set_option maxRecDepth 100000 in
set_option maxHeartbeats 400000 in
theorem copy_c (p : Nat) (N : List Int) (w : World) (h : Pst w p N) (R : Ending → World → Prop) (k : ∀ w' q, w.heap.size ≤ q → Pst w' q N → Off Old w w' → R (.returned (.pointer (some ⟨q, 0, none⟩))) w') :
    Calls Try.prog 22 #[.pointer (some ⟨p, 0, none⟩)] w R := by
  have HK := Lib.hid k; clear k
  have hm := h.made
  have ho0 : Off Old w (w.alloc (.cells #[.pointer (some ⟨p, 0, none⟩)] 27)) := (Off.refl Old w).alloc _
  have hpq := h.old ho0
  obtain ⟨m0, m1, m2, m3, m4, m5, m6, m7, hMM⟩ := eight hpq.len
  subst hMM
  have d0 := hpq.at (i := 0) rfl
  have d1 := hpq.at (i := 1) rfl
  have d2 := hpq.at (i := 2) rfl
  have d3 := hpq.at (i := 3) rfl
  have d4 := hpq.at (i := 4) rfl
  have d5 := hpq.at (i := 5) rfl
  have d6 := hpq.at (i := 6) rfl
  have d7 := hpq.at (i := 7) rfl
  go_enter Try.func22, Try.ntmps22
  go_wp2_with (go_at_call 66; refine pknown_n p _ hm _ ?_)
  have HF := HK.out _ ((w.alloc (.cells #[.pointer (some ⟨p, 0, none⟩)] 27)).heap.size) (by simp) ⟨Blk.new _ _ _, rfl⟩ (ho0.alloc _)
  simp only [World.size_alloc] at HF
  exact HF

set_option maxHeartbeats 400000 in
theorem equal_c (p q : Nat) (N M : List Int) (hNM : N = M) (w : World) (h : Pst w p N) (h2 : Pst w q M) (R : Ending → World → Prop) (k : ∀ w', Off Old w w' → R (.returned (.bool true)) w') :
    Calls Try.prog 58 #[.pointer (some ⟨p, 0, none⟩), .pointer (some ⟨q, 0, none⟩)] w R := by
  subst hNM
  have HK := Lib.hid k; clear k
  go_enter Try.func58, Try.ntmps58
  go_wp2_with fail
  go_loopw [5] (fun i wr => ∃ j : Nat, i = .int .i64 j ∧ j ≤ 9 ∧ Off Old w wr) (fun i _ => 9 - (intOf i).toNat)
  case atStart => exact ⟨1, rfl, by omega, Off.refl _ _⟩
  case round =>
    obtain ⟨j, rfl, hj, ho⟩ := hrel
    have hp := h.old ho
    have hq := h2.old ho
    by_cases hlt : j < 9
    · have t1 : decide ((j : Int) ≤ 8) = true := by simp; omega
      go_wp2_with (go_at_call 60; refine of_c p N _ _ hp _ ?_)
      intro w1 ho1
      go_wp2_with (go_at_call 60; refine of_c q N _ _ (hq.old ho1) _ ?_)
      intro w2 ho2
      go_wp2_with fail
      go_roundw
      case rel => exact ⟨j + 1, by go_num, by omega, (ho.trans ho1).trans ho2⟩
      case measure => simp [intOf]; omega
    · obtain rfl : j = 9 := by omega
      have HF := HK.out wr ho
      clear HK
      go_wp2_with fail
      exact HF

theorem tmod_lt (x : Int) {n : Nat} (hn : 1 ≤ n) : ∃ k : Nat, k < n ∧ (if x.tmod n < 0 then x.tmod n + n else x.tmod n) = (k : Int) ∧ -(n : Int) < x.tmod n ∧ x.tmod n < n := by
  have h1 : x.tmod n < n := Int.tmod_lt_of_pos x (by omega)
  have h2 : -(n : Int) < x.tmod n := by
    have := Int.lt_tmod_of_pos x (b := (n : Int)) (by omega)
    omega
  refine ⟨(if x.tmod n < 0 then x.tmod n + n else x.tmod n).toNat, ?_, ?_, h2, h1⟩
  · split <;> omega
  · split <;> omega
set_option maxHeartbeats 400000 in
theorem pick_c (x : Int) (n : Nat) (hn : 1 ≤ n) (hb : n ≤ 1000000000) (w : World) (R : Ending → World → Prop) (K : ∀ k : Nat, k < n → R (.returned (.int .i64 k)) w) :
    Calls Try.prog 59 #[.int .i64 x, .int .i64 n] w R := by
  have HK := Lib.hid K; clear K
  obtain ⟨k, hk, he, h1, h2⟩ := tmod_lt x hn
  have HF := HK.out k hk
  clear HK
  have t0 : decide ((n : Int) < 1) = false := by simp; omega
  have t1 : ((n : Int) == 0) = false := beq_eq_false_iff_ne.2 (by omega)
  by_cases hneg : x.tmod n < 0
  · rw [if_pos hneg] at he
    go_enter Try.func59, Try.ntmps59
    go_wp2_with fail
    exact HF
  · rw [if_neg hneg] at he
    go_enter Try.func59, Try.ntmps59
    go_wp2_with fail
    exact HF

theorem numbers_l (p : Nat) (sp : Bool) (g : Option Addr) (d : Nat) (l : List UInt8) (a : Option Addr) (n c : Nat) (xs : List Int) (w : World) (hn : xs.length = n) (hw : Wr w p sp g d l)
    (ha : Sl w a (ins xs)) (hs : ∀ q, a = some q → xs ≠ [] → q.block ≠ p ∧ g.map Addr.block ≠ some q.block) (bd : l.length + 9 * n ≤ 140737488355328) (R : Ending → World → Prop)
    (k : ∀ w' g' d', Wr w' p (putNums (sp, l) xs).1 g' d' (putNums (sp, l) xs).2 → WStep w w' p g g' → R (.returned (.pointer (some ⟨p, 0, none⟩))) w') :
    Calls Try.prog 35 #[.pointer (some ⟨p, 0, none⟩), .slice a n c] w R := by
  subst hn; exact numbers_c p sp g d l a c xs w hw ha hs bd R k
set_option maxRecDepth 100000 in
set_option maxHeartbeats 1000000 in
theorem pwrite_c (q : Nat) (N : List Int) (p : Nat) (sp : Bool) (g : Option Addr) (d : Nat) (l : List UInt8) (w : World) (h : Pst w q N) (hw : Wr w p sp g d l) (hne : q ≠ p) (hg : g.map Addr.block ≠ some q) (bd : l.length ≤ 100000000) (R : Ending → World → Prop)
    (k : ∀ w' g' d', Wr w' p (putNums (sp, l) N).1 g' d' (putNums (sp, l) N).2 → WStep w w' p g g' → R (.returned (.pointer (some ⟨p, 0, none⟩))) w') :
    Calls Try.prog 23 #[.pointer (some ⟨q, 0, none⟩), .pointer (some ⟨p, 0, none⟩)] w R := by
  have HK := Lib.hid k; clear k
  have hm := h.made
  have ho0 : Off Old w (w.alloc (.cells #[.pointer (some ⟨q, 0, none⟩)] 27)) := (Off.refl Old w).alloc _
  have hw0 := hw.old ho0
  have h0 := h.old ho0
  have hs : Sl (w.alloc (.cells #[.pointer (some ⟨q, 0, none⟩)] 27)) (some ⟨q, 0, none⟩) (ins N) := by
    refine Sl.mk fun j u hu => ?_
    rw [Nat.zero_add]
    have hj : j < N.length := by have := (List.getElem?_eq_some_iff.1 hu).1; simpa using this
    obtain ⟨x, hx⟩ := at_of_lt hj
    have h1 := ins_at hx.out
    rw [hu] at h1; cases h1
    exact h0.at hx.out
  have hl8 := h.len
  have hcl : ∀ x : Addr, (some ⟨q, 0, none⟩ : Option Addr) = some x → N ≠ [] → x.block ≠ p ∧ g.map Addr.block ≠ some x.block := by
    rintro x ⟨rfl⟩ _; exact ⟨hne, hg⟩
  have hcl := Lib.hid hcl
  have hl9 := Lib.hid hl8
  clear hl8
  go_enter Try.func23, Try.ntmps23
  go_wp2_with (go_at_call 66; refine pknown_n q _ hm _ ?_)
  refine numbers_l p sp g d l _ 8 8 N _ hl9.out hw0 hs hcl.out (by omega) _ ?_
  intro w1 g1 d1 h1 h2
  have HF := HK.out w1 g1 d1 h1 ((WStep.of_old ho0 p g).trans h2)
  clear HK
  go_wp2_with fail
  exact HF
end Go.Proofs.Ytfllejlooaipiaa
