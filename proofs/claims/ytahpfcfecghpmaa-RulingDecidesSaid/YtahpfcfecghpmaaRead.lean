/- The reader's walks: NewReader, on, take, fail, Number, Flag, Row, Text, Left, End. -/
import Derived.Test.YtahpfcfecghpmaaWrite
namespace Go.Proofs.Ytahpfcfecghpmaa
open Go.RowKit

/-- a reader at p. -/
def Rd (w : World) (p bb : Nat) : RS → Prop
  | none => Blk w p [.bool true, .bool true, .slice none 0 0] 114
  | some l => ∃ a c, Blk w p [.bool true, .bool false, .slice a l.length c] 114 ∧ Sl w a (bys l) ∧ l.length ≤ c ∧ c ≤ 9223372036854775807 ∧ ∀ q, a = some q → l ≠ [] → q.block = bb
theorem Rd.lt {w : World} {p bb : Nat} {s : RS} (h : Rd w p bb s) : p < w.heap.size := by
  cases s with
  | none => exact Blk.lt h
  | some l => obtain ⟨a, c, hb, _⟩ := h; exact hb.lt
/-- the first two cells. -/
theorem Rd.cells {w : World} {p bb : Nat} {s : RS} (h : Rd w p bb s) : w.cell? ⟨p, 0, none⟩ = some (.bool true) ∧ w.cell? ⟨p, 1, none⟩ = some (.bool !s.isSome) ∧ w.frozen? ⟨p, 1, none⟩ = false ∧ w.frozen? ⟨p, 2, none⟩ = false := by
  cases s with
  | none => exact ⟨Blk.cell h rfl, Blk.cell h rfl, Blk.free h _, Blk.free h _⟩
  | some l => obtain ⟨a, c, hb, _⟩ := h; exact ⟨hb.cell rfl, hb.cell rfl, hb.free _, hb.free _⟩
theorem Rd.cell2 {w : World} {p bb : Nat} {s : RS} (h : Rd w p bb s) : ∃ v, w.cell? ⟨p, 2, none⟩ = some v := by
  cases s with
  | none => exact ⟨_, Blk.cell h rfl⟩
  | some l => obtain ⟨a, c, hb, _⟩ := h; exact ⟨_, hb.cell rfl⟩
theorem Rd.off {S : Nat → Prop} {w w' : World} {p bb : Nat} {s : RS} (h : Rd w p bb s) (ho : Off S w w') (h1 : ¬ S p) (h2 : ¬ S bb) : Rd w' p bb s := by
  cases s with
  | none => exact Blk.off h ho h1
  | some l =>
    obtain ⟨a, c, hb, hs, hc, hc2, hq⟩ := h
    exact ⟨a, c, hb.off ho h1, hs.off ho (fun q e hne hS => h2 (by rw [← hq q e (by rintro rfl; exact hne rfl)]; exact hS)), hc, hc2, hq⟩
theorem Rd.old {w w' : World} {p bb : Nat} {s : RS} (h : Rd w p bb s) (ho : Off Old w w') : Rd w' p bb s := h.off ho (fun x => x) (fun x => x)
/-- the same reader where some other block was written that is none of its own. -/
theorem Rd.set_none {w : World} {p bb : Nat} {s : RS} (h : Rd w p bb s) : Rd ((w.setCell ⟨p, 1, none⟩ (.bool true)).setCell ⟨p, 2, none⟩ (.slice none 0 0)) p bb none := by
  cases s with
  | none => exact (Blk.set (Blk.set h 1 _) 2 _)
  | some l => obtain ⟨a, c, hb, _⟩ := h; exact ((hb.set 1 _).set 2 _)

set_option maxHeartbeats 400000 in
theorem on_c (p bb : Nat) (s : RS) (w : World) (h : Rd w p bb s) (R : Ending → World → Prop) (k : R (.returned (.bool s.isSome)) w) :
    Calls Try.prog 67 #[.pointer (some ⟨p, 0, none⟩)] w R := by
  obtain ⟨c0, c1, _, _⟩ := h.cells
  cases s with
  | none =>
    go_enter Try.func67, Try.ntmps67
    go_wp2_with fail
    exact k
  | some l =>
    go_enter Try.func67, Try.ntmps67
    go_wp2_with fail
    exact k

set_option maxHeartbeats 400000 in
theorem fail_c (p bb : Nat) (s : RS) (w : World) (h : Rd w p bb s) (R : Ending → World → Prop) (k : ∀ w', Rd w' p bb none → Off (fun k => k = p) w w' → R (.returned (.tuple #[])) w') :
    Calls Try.prog 82 #[.pointer (some ⟨p, 0, none⟩)] w R := by
  obtain ⟨c0, c1, f1, f2⟩ := h.cells
  obtain ⟨v, c2⟩ := h.cell2
  have HF := k _ h.set_none (((Off.refl (fun k => k = p) w).setCell (p := ⟨p, 1, none⟩) (fun _ => rfl) _).setCell (p := ⟨p, 2, none⟩) (fun _ => rfl) _)
  clear k
  go_enter Try.func82, Try.ntmps82
  go_wp2_with fail
  go_end0
  exact HF

set_option maxHeartbeats 400000 in
theorem take_c (p bb : Nat) (l : List UInt8) (m : Nat) (w : World) (h : Rd w p bb (some l)) (hm : m ≤ l.length) (R : Ending → World → Prop)
    (k : ∀ w' a', Sl w' a' (bys (l.take m)) → Rd w' p bb (some (l.drop m)) → Off (fun k => k = p) w w' → R (.returned (.slice a' m m)) w') :
    Calls Try.prog 81 #[.pointer (some ⟨p, 0, none⟩), .int .i64 m] w R := by
  obtain ⟨c0, c1, f1, f2⟩ := h.cells
  obtain ⟨a, c, hb, hs, hc, hc2, hbb⟩ := h
  have c2 := hb.cell (i := 2) rfl
  have hoff : ∀ v, Off (fun k => k = p) w (w.setCell ⟨p, 2, none⟩ v) := fun v => (Off.refl (fun k => k = p) w).setCell (p := ⟨p, 2, none⟩) (fun _ => rfl) _
  have hne := hs.ne_blk hb (by intro u hu; obtain ⟨x, _, rfl⟩ := List.mem_map.1 hu; simp)
  have hs' : ∀ v, Sl (w.setCell ⟨p, 2, none⟩ v) a (bys l) := fun v => hs.off (hoff v) (fun q hq hn => hne q hq hn)
  have htk : ∀ v, Sl (w.setCell ⟨p, 2, none⟩ v) a (bys (l.take m)) := fun v => by
    have := (hs' v).take m; simpa only [bys, List.map_take] using this
  have HK : Hid (∀ a2 c2, l.length - m ≤ c2 → c2 ≤ 9223372036854775807 → (∀ v, Sl (w.setCell ⟨p, 2, none⟩ v) a2 (bys (l.drop m))) → (∀ q, a2 = some q → l.drop m ≠ [] → q.block = bb) → R (.returned (.slice a m m)) (w.setCell ⟨p, 2, none⟩ (.slice a2 (l.length - m) c2))) := by
    intro a2 c2 h1 h2 h3 h4
    refine k _ a (htk _) ⟨a2, c2, ?_, h3 _, by simpa using h1, h2, h4⟩ (hoff _)
    have := hb.set 2 (.slice a2 (l.length - m) c2)
    simpa using this
  clear k htk
  have hdr : ∀ v, Sl (w.setCell ⟨p, 2, none⟩ v) (Option.map (fun x => x.add m) a) (bys (l.drop m)) := fun v => by
    have := hs' v
    cases a with
    | none =>
      have : l = [] := by
        cases l with
        | nil => rfl
        | cons x xs => obtain ⟨b, o, e, _⟩ := hs 0 _ rfl; cases e
      subst this; simpa using Sl.nil _ _
    | some q =>
      by_cases hl : l = []
      · subst hl; simpa using Sl.nil _ _
      · obtain ⟨b, o, e, _⟩ := this.base
        have e := e (by intro h; exact hl (by simpa [bys] using h))
        cases e
        have := this.drop m
        simpa only [Option.map_some, Addr.add_lit, bys, List.map_drop] using this
  have h0 : Hid (c = m → R (.returned (.slice a m m)) (w.setCell ⟨p, 2, none⟩ (.slice a (l.length - m) 0))) := by
    intro hcm
    have hd : l.drop m = [] := List.drop_of_length_le (by omega)
    refine HK.out a 0 (by omega) (by omega) (fun v => ?_) (fun q _ hn => absurd hd hn)
    rw [hd]; exact Sl.nil _ _
  have hdb : ∀ q, Option.map (fun x => x.add m) a = some q → l.drop m ≠ [] → q.block = bb := by
    intro q hq hn
    have hl : l ≠ [] := by rintro rfl; simp at hn
    cases a with
    | none => cases hq
    | some q0 =>
      obtain ⟨b, o, e, _⟩ := hs.base
      have e := e (by intro h; exact hl (by simpa [bys] using h))
      cases e
      simp only [Option.map_some, Addr.add_lit, Option.some.injEq] at hq
      subst hq
      exact (show b = bb from hbb ⟨b, o, none⟩ rfl hl)
  have h1 := Lib.hid (HK.out _ (c - m) (by omega) (by omega) hdr hdb)
  clear HK hdr hoff hs' hne hdb hbb
  go_enter Try.func81, Try.ntmps81
  go_wp2_with fail
  · exact h0.out (by assumption)
  · exact h1.out

set_option maxHeartbeats 400000 in
theorem take_f (p bb : Nat) (l : List UInt8) (m : Nat) (w : World) (h : Rd w p bb (some l)) (hm : l.length < m) (R : Ending → World → Prop)
    (k : ∀ w', Rd w' p bb none → Off (fun k => k = p) w w' → R (.returned (.slice none 0 0)) w') :
    Calls Try.prog 81 #[.pointer (some ⟨p, 0, none⟩), .int .i64 m] w R := by
  have h' := h
  obtain ⟨a, c, hb, hs, hc, hc2, hbb⟩ := h'
  have c2 := hb.cell (i := 2) rfl
  have HK := Lib.hid k; clear k
  go_enter Try.func81, Try.ntmps81
  go_wp2_with (go_at_call 82; refine fail_c _ _ _ _ h _ ?_)
  intro w' h1 h2
  have HF := HK.out w' h1 h2
  clear HK h1 h2
  go_wp2_with fail
  exact HF

set_option maxHeartbeats 400000 in
theorem left_c (p bb : Nat) (s : RS) (w : World) (h : Rd w p bb s) (R : Ending → World → Prop) (k : R (.returned (.int .i64 (rdLeft s))) w) :
    Calls Try.prog 35 #[.pointer (some ⟨p, 0, none⟩)] w R := by
  cases s with
  | none =>
    go_enter Try.func35, Try.ntmps35
    go_wp2_with (go_at_call 67; refine on_c _ _ _ _ h _ ?_)
    exact k
  | some l =>
    have h' := h
    obtain ⟨a, c, hb, hs, hc, hc2, hbb⟩ := h'
    have c2 := hb.cell (i := 2) rfl
    go_enter Try.func35, Try.ntmps35
    go_wp2_with (go_at_call 67; refine on_c _ _ _ _ h _ ?_)
    exact k

set_option maxHeartbeats 400000 in
theorem end_c (p bb : Nat) (s : RS) (w : World) (h : Rd w p bb s) (R : Ending → World → Prop) (k : R (.returned (.int .i64 (rdEnd s))) w) :
    Calls Try.prog 61 #[.pointer (some ⟨p, 0, none⟩)] w R := by
  obtain ⟨c0, c1, _, _⟩ := h.cells
  cases s with
  | none =>
    go_enter Try.func61, Try.ntmps61
    go_wp2_with fail
    exact k
  | some l =>
    obtain ⟨a, c, hb, hs, hc, hc2, hbb⟩ := h
    have c2 := hb.cell (i := 2) rfl
    cases l with
    | nil =>
      go_enter Try.func61, Try.ntmps61
      go_wp2_with fail
      exact k
    | cons x xs =>
      go_enter Try.func61, Try.ntmps61
      go_wp2_with fail
      exact k

set_option maxRecDepth 100000 in
set_option maxHeartbeats 400000 in
theorem flag_c (p bb : Nat) (s : RS) (w : World) (h : Rd w p bb s) (R : Ending → World → Prop) (k : ∀ w', Rd w' p bb (rdFlag s).2 → Off (fun k => k = p) w w' → R (.returned (.bool (rdFlag s).1)) w') :
    Calls Try.prog 83 #[.pointer (some ⟨p, 0, none⟩)] w R := by
  cases s with
  | none =>
    have HF := k w h (Off.refl _ _)
    clear k
    go_enter Try.func83, Try.ntmps83
    go_wp2_with (go_at_call 67; refine on_c _ _ _ _ h _ ?_)
    exact HF
  | some l =>
    have HK := Lib.hid k; clear k
    cases l with
    | nil =>
      go_enter Try.func83, Try.ntmps83
      go_wp2_with (first | (go_at_call 67; refine on_c _ _ _ _ h _ ?_) | (go_at_call 81; refine take_f _ _ _ 1 _ h (by simp) _ ?_))
      intro w1 h1 h2
      obtain ⟨d0, d1, _, _⟩ := h1.cells
      have HK2 := HK
      clear HK
      go_wp2_with (go_at_call 82; refine fail_c _ _ _ _ h1 _ ?_)
      intro w2 h3 h4
      have HF := HK2.out w2 h3 (h2.trans h4)
      clear HK2
      go_wp2_with fail
      exact HF
    | cons x xs => 
      have hx0 := u8_ge x
      have hx1 := u8_lt x
      by_cases hbig : 1 < x.toNat
      · have hr : rdFlag (some (x :: xs)) = (false, none) := by simp [rdFlag, hbig]
        rw [hr] at HK
        go_enter Try.func83, Try.ntmps83
        go_wp2_with (first | (go_at_call 67; refine on_c _ _ _ _ h _ ?_) | (go_at_call 81; refine take_c _ _ _ 1 _ h (by simp) _ ?_))
        intro w1 a1 hs h1 h2
        obtain ⟨d0, d1, _, _⟩ := h1.cells
        obtain ⟨b, o, rfl, hc⟩ := hs.head
        go_wp2_with (go_at_call 82; refine fail_c _ _ _ _ h1 _ ?_)
        intro w2 h3 h4
        have HF := HK.out w2 h3 (h2.trans h4)
        clear HK
        go_wp2_with fail
        exact HF
      · have hr : rdFlag (some (x :: xs)) = ((x.toNat : Int) == 1, some xs) := by simp [rdFlag, hbig]
        rw [hr] at HK
        go_enter Try.func83, Try.ntmps83
        go_wp2_with (first | (go_at_call 67; refine on_c _ _ _ _ h _ ?_) | (go_at_call 81; refine take_c _ _ _ 1 _ h (by simp) _ ?_))
        intro w1 a1 hs h1 h2
        obtain ⟨d0, d1, _, _⟩ := h1.cells
        obtain ⟨b, o, rfl, hc⟩ := hs.head
        have HF := HK.out w1 h1 h2
        clear HK
        go_wp2_with fail
        exact HF

set_option maxRecDepth 100000 in
set_option maxHeartbeats 4000000 in
theorem number_r (p bb : Nat) (s : RS) (most : Int) (w : World) (h : Rd w p bb s) (R : Ending → World → Prop)
    (k : ∀ w', Rd w' p bb (rdNum most s).2 → Off (fun k => k = p) w w' → R (.returned (.int .i64 (rdNum most s).1)) w') :
    Calls Try.prog 62 #[.pointer (some ⟨p, 0, none⟩), .int .i64 most] w R := by
  cases s with
  | none =>
    have HF := k w h (Off.refl _ _)
    clear k
    go_enter Try.func62, Try.ntmps62
    go_wp2_with (go_at_call 67; refine on_c _ _ _ _ h _ ?_)
    exact HF
  | some l =>
    have HK := Lib.hid k; clear k
    go_enter Try.func62, Try.ntmps62
    go_wp2_with (go_at_call 67; refine on_c _ _ _ _ h _ ?_)
    go_loopw [4, 5, 6, 7] (fun _ n i _ wr => ∃ (j m : Nat) (l' : List UInt8), i = .int .i64 (7 * j : Nat) ∧ n = .int .i64 m ∧ m < 2 ^ (7 * j) ∧ j ≤ 9 ∧ Rd wr p bb (some l') ∧ Off (fun k => k = p) w wr ∧ Hid (getN most 9 0 0 l = getN most (9 - j) (7 * j) m l')) (fun _ _ i _ _ => 63 - (intOf i).toNat)
    case atStart => exact ⟨0, 0, l, rfl, rfl, by decide, by decide, h, Off.refl _ _, rfl⟩
    case round =>
      obtain ⟨j, m, l', rfl, rfl, hm, hj, hr, ho, hg⟩ := hrel
      by_cases hlt : j < 9
      · obtain ⟨f, hf⟩ : ∃ f, 9 - j = f + 1 := ⟨8 - j, by omega⟩
        have HF9 := Lib.hid hf; clear hf
        cases l' with
        | nil =>
          have hn : getN most 9 0 0 l = none := by rw [hg.out, HF9.out]; rfl
          have hv : rdNum most (some l) = (0, none) := by simp only [rdNum, hn]
          rw [hv] at HK
          clear hm hg hv hn
          go_wp2_with (go_at_call 81; refine take_f _ _ _ 1 _ hr (by simp) _ ?_)
          intro w1 h1 h2
          obtain ⟨d0, d1, _, _⟩ := h1.cells
          have HF := HK.out w1 h1 (ho.trans h2)
          clear HK h1 h2
          go_wp2_with fail
          exact HF
        | cons x xs =>
          obtain ⟨y, z, N, e1, hy, e2, e3, hN, hN2, hN3⟩ := num_step x m j hm hlt
          have HN := Lib.hid hN; clear hN
          have hx0 := u8_ge x
          have hx1 := u8_lt x
          by_cases hbig : 128 ≤ x.toNat
          · have hg' : Hid (getN most 9 0 0 l = getN most (9 - (j + 1)) (7 * (j + 1)) N xs) := by
              show _ = _
              rw [hg.out, HF9.out, getN, if_neg (by omega), HN.out, show 9 - (j + 1) = f by have := HF9.out; omega, show 7 * (j + 1) = 7 * j + 7 by omega]
            clear hg hm
            go_wp2_with (go_at_call 81; refine take_c _ _ _ 1 _ hr (by simp) _ ?_)
            intro w1 a1 hs h1 h2
            obtain ⟨d0, d1, _, _⟩ := h1.cells
            obtain ⟨b, o, rfl, hc⟩ := hs.head
            have ho' := ho.trans h2
            clear hs h2 ho
            go_wp2_with fail
            go_roundw
            case rel => exact ⟨j + 1, N, xs, by go_num, rfl, hN2, by omega, h1, ho', hg'⟩
            case measure => simp [intOf]; omega
          · have hval : getN most 9 0 0 l = if (0 < 7 * j ∧ x.toNat = 0) ∨ 4611686018427387903 < (N : Int) ∨ most < (N : Int) then none else some (N, xs) := by
              rw [hg.out, HF9.out, getN, if_pos (by omega), HN.out]
            clear hg hm
            by_cases hbad : (0 < 7 * j ∧ x.toNat = 0) ∨ 4611686018427387903 < (N : Int) ∨ most < (N : Int)
            · have hv : rdNum most (some l) = (0, none) := by simp only [rdNum, hval, if_pos hbad]
              rw [hv] at HK
              clear hval hv
              rcases hbad with ⟨hj0, hx2⟩ | hbad
              · have q1 : ((x.toNat : Int) == 0) = true := by simpa using hx2
                go_wp2_with (go_at_call 81; refine take_c _ _ _ 1 _ hr (by simp) _ ?_)
                intro w1 a1 hs h1 h2
                obtain ⟨d0, d1, _, _⟩ := h1.cells
                obtain ⟨b, o, rfl, hc⟩ := hs.head
                go_wp2_with (go_at_call 82; refine fail_c _ _ _ _ h1 _ ?_)
                intro w2 h3 h4
                have HF := HK.out w2 h3 ((ho.trans h2).trans h4)
                clear HK
                go_wp2_with fail
                exact HF
              · have hs2 : ¬ (0 < j) ∨ (0 < j ∧ ((x.toNat : Int) == 0) = false) ∨ (0 < j ∧ ((x.toNat : Int) == 0) = true) := by
                  by_cases h0 : 0 < j
                  · cases hq : ((x.toNat : Int) == 0) <;> simp [h0]
                  · exact .inl h0
                have hb2 : 4611686018427387903 < (N : Int) ∨ ((N : Int) ≤ 4611686018427387903 ∧ most < (N : Int)) := by omega
                clear hbad
                rcases hs2 with h0 | ⟨h0, q0⟩ | ⟨h0, q0⟩ <;> rcases hb2 with h1 | ⟨h1, h2⟩
                all_goals
                  go_wp2_with (go_at_call 81; refine take_c _ _ _ 1 _ hr (by simp) _ ?_)
                  intro w1 a1 hs h1 h2
                  obtain ⟨d0, d1, _, _⟩ := h1.cells
                  obtain ⟨b, o, rfl, hc⟩ := hs.head
                  go_wp2_with (go_at_call 82; refine fail_c _ _ _ _ h1 _ ?_)
                  intro w2 h3 h4
                  have HF := HK.out w2 h3 ((ho.trans h2).trans h4)
                  clear HK
                  go_wp2_with fail
                  exact HF
            · have hv : rdNum most (some l) = ((N : Int), some xs) := by simp only [rdNum, hval, if_neg hbad]
              rw [hv] at HK
              clear hval hv
              have hs2 : ¬ (0 < j) ∨ (0 < j ∧ ((x.toNat : Int) == 0) = false) := by
                by_cases h0 : 0 < j
                · refine .inr ⟨h0, ?_⟩
                  rw [beq_eq_false_iff_ne]; omega
                · exact .inl h0
              have hb2 : (N : Int) ≤ 4611686018427387903 ∧ (N : Int) ≤ most := by omega
              obtain ⟨b1, b2⟩ := hb2
              clear hbad
              rcases hs2 with h0 | ⟨h0, q0⟩
              all_goals
                go_wp2_with (go_at_call 81; refine take_c _ _ _ 1 _ hr (by simp) _ ?_)
                intro w1 a1 hs h1 h2
                obtain ⟨d0, d1, _, _⟩ := h1.cells
                obtain ⟨b, o, rfl, hc⟩ := hs.head
                have HF := HK.out w1 h1 (ho.trans h2)
                clear HK
                go_wp2_with fail
                exact HF
      · obtain rfl : j = 9 := by omega
        have hn : getN most 9 0 0 l = none := by rw [hg.out]; rfl
        have hv : rdNum most (some l) = (0, none) := by simp only [rdNum, hn]
        rw [hv] at HK
        clear hm hg hv hn
        go_wp2_with (go_at_call 82; refine fail_c _ _ _ _ hr _ ?_)
        intro w2 h3 h4
        have HF := HK.out w2 h3 (ho.trans h4)
        clear HK
        go_wp2_with fail
        exact HF
end Go.Proofs.Ytahpfcfecghpmaa
