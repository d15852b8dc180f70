/- PastGrows' walk. -/
import Derived.Test.YtfllejlooaipiaaNames
import Derived.Test.YtfllejlooaipiaaPastPure3
import Derived.Test.YtfllejlooaipiaaLaw17
import Derived.Test.YtfllejlooaipiaaWireBack
namespace Go.Proofs.Ytfllejlooaipiaa
open Go.RowKit

theorem of_v (v : Int) (p : Nat) (N : List Int) (c : Int) (w : World) (hv : ofN N c = v) (h : Pst w p N) (R : Ending → World → Prop) (k : ∀ w', Off Old w w' → R (.returned (.int .i64 v)) w') :
    Calls Try.prog 60 #[.pointer (some ⟨p, 0, none⟩), .int .i64 c] w R := by
  subst hv; exact of_c p N c w h R k
theorem Sl.ixn_l {w : World} {a : Option Addr} {l : List Nm} {n : Nat} (h : Sl w a (nms l)) (hn : l.length = n) (c : Nat) :
    ∃ b o, (∀ i : Nat, i < n → ∀ w : World, (Instr.indexAt 23 (.slice a n c) (.int .i64 (i : Int))).run Try.prog w = .ok (.pointer (some ⟨b, o + i * 2, none⟩)) w) ∧
      Hid (∀ j x, l[j]? = some x → w.cell? ⟨b, o + j * 2, none⟩ = some (.int .i64 x.c) ∧ w.cell? ⟨b, o + j * 2 + 1, none⟩ = some (.int .i64 x.n)) ∧ Hid (0 < n → a = some ⟨b, o, none⟩) := by
  subst hn; exact h.ixn c
theorem pread_ok (p bb : Nat) (s : RS) (N : List Int) (t : List UInt8) (w : World) (hv : rdMany 8 s = (N, some t)) (h : Rd w p bb s) (hbb : bb ≤ p) (R : Ending → World → Prop)
    (k2 : ∀ w' q, w.heap.size ≤ q → Pst w' q N → Rd w' p bb (some t) → Off (fun k => k = p) w w' → R (.returned (.tuple #[.pointer (some ⟨q, 0, none⟩), .bool true])) w') :
    Calls Try.prog 36 #[.pointer (some ⟨p, 0, none⟩)] w R := by
  refine pread_c p bb s w h hbb R (fun h => by rw [hv] at h; cases h) (fun _ => ?_)
  rw [hv]; exact k2
set_option maxRecDepth 100000 in
set_option maxHeartbeats 4000000 in
theorem pastGrows_c (a0 a1 : Option Addr) (c0 c1 : Nat) (l m : List Nm) (x : Int) (w : World) (s0 : Sl w a0 (nms l)) (s1 : Sl w a1 (nms m)) (k0 : l.length ≤ c0) (k0' : c0 ≤ 9223372036854775807) (n0 : a0 = none → c0 = 0)
    (b0 : l.length ≤ 140737488351232) (b1 : m.length ≤ 140737488351232) (R : Ending → World → Prop) (k : ∀ w', Off Old w w' → R (.returned (.bool true)) w') :
    Calls Try.prog 10 #[.slice a0 l.length c0, .slice a1 m.length c1, .int .i64 x] w R := by
  have HK := Lib.hid k; clear k
  go_enter Try.func10, Try.ntmps10
  go_wp2_with (go_at_call 11; refine awake17_c _ _ ?_)
  intro w1 ho1
  have s0 := s0.old ho1
  have s1 := s1.old ho1
  by_cases hbig : 1000 < l.length + m.length
  · have HF := HK.out _ ho1
    clear HK
    have t1 : decide ((1000 : Int) < (l.length : Int) + (m.length : Int)) = true := by simp; omega
    go_wp2_with fail
    exact HF
  obtain ⟨i0, hi, hz0, hz1, hz2⟩ := info_parts nminfo
  have hall : Hid ((l.all Nm.ok = true ∧ m.all Nm.ok = true) ∨ (l ++ m).all Nm.ok = false) := by
    rw [List.all_append]
    cases l.all Nm.ok <;> cases m.all Nm.ok <;> simp [Hid]
  obtain ⟨v0, hv0⟩ : ∃ v, Hid (l.all Nm.ok = v) := ⟨_, rfl⟩
  obtain ⟨v1, hv1⟩ : ∃ v, Hid (m.all Nm.ok = v) := ⟨_, rfl⟩
  have t1 : decide ((1000 : Int) < (l.length : Int) + (m.length : Int)) = false := by simp; omega
  by_cases hbad : (v0 && v1) = true
  · obtain ⟨rfl, rfl⟩ : v0 = true ∧ v1 = true := by simpa using hbad
    clear hbad hall
    go_wp2_with (go_at_call 14; go_must (refine right_c true _ _ l _ hv0.out s0 (by omega) _ ?_))
    intro w2 ho2
    have s0 := s0.old ho2
    have s1 := s1.old ho2
    go_wp2_with (go_at_call 14; go_must (refine right_c true _ _ m _ hv1.out s1 (by omega) _ ?_))
    intro w3 ho3
    have s0 := s0.old ho3
    have s1 := s1.old ho3
    have hoA := (ho1.trans ho2).trans ho3
    have hA0 : Hid (∀ y, a0 = some y → l ≠ [] → y.block < w3.heap.size) := fun y e hn => s0.lt e (nms_ne hn)
    have hA1 : Hid (∀ y, a1 = some y → m ≠ [] → y.block < w3.heap.size) := fun y e hn => s1.lt e (nms_ne hn)
    clear ho1 ho2 ho3
    go_wp2_with (go_at_call 12; refine new_c _ _ ?_)
    intro w4 hp ho4 hx
    clear hx
    have hp0 := hoA.size
    have hlp := hp.blk.lt
    generalize hpe : w3.heap.size = p at *
    go_wp2_with (go_at_call 12; refine new_c _ _ ?_)
    intro w5 hq ho5 hx
    clear hx
    have hlq := hq.blk.lt
    generalize hqe : w4.heap.size = q at *
    go_wp2_with (go_at_call 12; refine new_c _ _ ?_)
    intro w6 hr ho6 hx
    clear hx
    have hlr := hr.blk.lt
    generalize hre : w5.heap.size = r at *
    have hs1 := ho4.size
    have hs2 := ho5.size
    have hs3 := ho6.size
    have hq := hq.old ho6
    have hp := hp.old (ho5.trans ho6)
    have s0 := s0.old ((ho4.trans ho5).trans ho6)
    have s1 := s1.old ((ho4.trans ho5).trans ho6)
    have hoB := ((hoA.trans ho4).trans ho5).trans ho6
    have hord : Hid (p < q ∧ q < r ∧ r < w6.heap.size ∧ w.heap.size ≤ p) := ⟨by omega, by omega, hlr, by omega⟩
    clear ho4 ho5 ho6 hs1 hs2 hs3 hpe hqe hre hlp hlq hlr hp0 hoA
    have hl1 : Hid (l.length + 1 ≤ 1000000000) := by show _ ≤ _; omega
    go_wp2_with (go_at_call 59; go_must (refine pick_c x (l.length + 1) (by omega) hl1.out _ _ ?_))
    intro k hk
    have hkl : k ≤ l.length := by omega
    have hkc : k ≤ c0 := by omega
    have sT := s0.take (k * 2)
    rw [nms_take] at sT
    obtain ⟨aD, hD⟩ : ∃ aD, Hid (aD = if c0 = k then a0 else a0.map (fun y => y.add (k * 2))) := ⟨_, rfl⟩
    have sD : Sl w6 aD (nms (l.drop k)) := by
      rw [hD.out]
      by_cases hck : c0 = k
      · rw [if_pos hck, List.drop_eq_nil_of_le (by omega)]; exact Sl.nil _ _
      · rw [if_neg hck]
        cases a0 with
        | none => have := n0 rfl; omega
        | some y =>
          by_cases hl0 : l = []
          · subst hl0; simp only [List.drop_nil]; exact Sl.nil _ _
          · obtain ⟨b, o, hbase, _⟩ := s0.base
            have := hbase (nms_ne hl0)
            cases this
            have h := s0.drop (k * 2)
            rw [nms_drop] at h
            rw [show (Option.map (fun y : Addr => y.add (k * 2)) (some ⟨b, o, none⟩)) = some ⟨b, o + k * 2, none⟩ by simp [Addr.add_lit]]
            exact h
    have hDl : Hid (l.length - k = (l.drop k).length) := by show _ = _; simp
    have hTl : Hid ((l.take k).length = k) := by show _ = _; simp; omega
    have hSl : ∀ w, (Instr.slice 23 (.slice a0 l.length c0) (some (.int .i64 (k : Int))) none none).run Try.prog w = .ok (.slice aD (l.length - k) (c0 - k)) w := by
      intro w
      rw [run_slice_l (P := Try.prog) (t := 23) (a := a0) (len := l.length) (cap := c0) (ht := Try.underlying23) (kl := .i64) (l := (k : Int)) (h0 := by omega) (h1 := by omega), show (sizeOf (Try.prog.elem 23)).run Try.prog w = .ok 2 w from sz_name w, hD.out]
      simp [sliced]
    have hkI : (k : Int) ≤ (l.length : Int) := by omega
    have hkC : (k : Int) ≤ (c0 : Int) := by omega
    have hoC : Off Old w6 (w6.drew.alloc (.cells #[] 53)) := (Off.refl Old w6).drew.alloc _
    have hown : (w6.drew.alloc (.cells #[] 53)).ownsRow 0 53 2 (.slice (some ⟨w6.drew.heap.size, 0, none⟩) 0 0) 0 [] := World.ownsRow_made w6.drew #[] 0 (Nat.zero_le _) (by unfold maxLen; omega) rfl
    go_wp2_with fail
    first | (go_loud (go_region_held3 (fun w' => Off Old w6 w') (first | exact (Off.refl Old w6).drew | exact hoC | exact hE1 | exact hE2 | exact hE3) (first | (refine step_append_sl rfl (.tmp 58) (.tmp 59) 23 rfl 53 i0 (.agg #[.int .i64 0, .int .i64 0]) 2 16 Try.underlying23 hi hz0 hz1 hz2 rfl (by decide) (.slice (some ⟨w6.heap.size, 0, none⟩) 0 0) 0 [] rfl hown a1 m.length c1 (nms m) rfl (by simp) (s1.old hoC) (nms_oneCell _) (by omega) (by omega) ?_; intro g7 d7 w7 hg7; obtain ⟨hE1, hb7⟩ := hg7.fresh hoC (by intro k hk; simp [Value.ownBlock] at hk; omega)) | (refine step_append_sl rfl (.tmp 60) (.tmp 63) 23 rfl 53 i0 (.agg #[.int .i64 0, .int .i64 0]) 2 16 Try.underlying23 hi hz0 hz1 hz2 rfl (by decide) (.slice g7 (0 + m.length) d7) (0 + m.length) ([] ++ nms m) rfl hg7.own aD (l.length - k) (c0 - k) (nms (l.drop k)) rfl (by rw [nms_length, ← hDl.out]) (sD.old hE1) (nms_oneCell _) (by omega) (by omega) ?_; intro g8 d8 w8 hg8; obtain ⟨hE2, hb8⟩ := hg8.fresh hE1 hb7) | (refine step_append_sl rfl (.tmp 64) (.tmp 67) 23 rfl 53 i0 (.agg #[.int .i64 0, .int .i64 0]) 2 16 Try.underlying23 hi hz0 hz1 hz2 rfl (by decide) (.slice g8 (0 + m.length + (l.length - k)) d8) (0 + m.length + (l.length - k)) ([] ++ nms m ++ nms (l.drop k)) rfl hg8.own a0 k c0 (nms (l.take k)) rfl (by rw [nms_length, hTl.out]) (sT.old hE2) (nms_oneCell _) (by omega) (by omega) ?_; intro g9 d9 w9 hg9; obtain ⟨hE3, hb9⟩ := hg9.fresh hE2 hb8)))) | fail
    have sT9 : Hid (Sl w9 g9 (nms (m ++ l.drop k ++ l.take k))) := by
      show Sl _ _ _
      rw [nms_append, nms_append]; exact (own_sl2 hg9.own).2.2
    have hTn : Hid ((m ++ l.drop k ++ l.take k).length = m.length + (l.length - k) + k) := by
      show _ = _; simp; omega
    have hTok : Hid ((m ++ l.drop k ++ l.take k).all Nm.ok = true) := by
      show _ = _
      have h1 := List.all_eq_true.1 hv0.out
      have h2 := List.all_eq_true.1 hv1.out
      rw [List.all_eq_true]
      intro y hy
      simp only [List.mem_append] at hy
      rcases hy with (hy | hy) | hy
      · exact h2 y hy
      · exact h1 y (List.mem_of_mem_drop hy)
      · exact h1 y (List.mem_of_mem_take hy)
    have hb9' : Hid (∀ y, g9 = some y → w6.heap.size ≤ y.block) := fun y e => hb9 y.block (by subst e; rfl)
    have hp := hp.old hE3
    have hq := hq.old hE3
    have hr := hr.old hE3
    have s0 := s0.old hE3
    have s1 := s1.old hE3
    have hoD := hoB.trans hE3
    have h69 := hE3.size
    clear hg7 hg8 hg9 hb7 hb8 hb9 hE1 hE2 hE3 hown hoC sD sT hSl hoB hi hz0 hz1 hz2
    obtain ⟨T, hT⟩ : ∃ T, Hid (m ++ l.drop k ++ l.take k = T) := ⟨_, rfl⟩
    rw [hT.out] at sT9 hTn hTok
    have hne0 : Hid (∀ y, a0 = some y → l ≠ [] → y.block ≠ p ∧ y.block ≠ q ∧ y.block ≠ r) := fun y e hn => by have := hA0.out y e hn; have := hord.out; exact ⟨by omega, by omega, by omega⟩
    have hne1 : Hid (∀ y, a1 = some y → m ≠ [] → y.block ≠ p ∧ y.block ≠ q ∧ y.block ≠ r) := fun y e hn => by have := hA1.out y e hn; have := hord.out; exact ⟨by omega, by omega, by omega⟩
    have hneT : Hid (∀ y, g9 = some y → T ≠ [] → y.block ≠ p ∧ y.block ≠ q ∧ y.block ≠ r) := fun y e hn => by have := hb9'.out y e; have := hord.out; exact ⟨by omega, by omega, by omega⟩
    go_wp2_with (go_at_call 16; go_must (refine raise_ok p zero8 a0 c0 l _ hv0.out hp s0 (fun y e hn => (hne0.out y e hn).1) (by omega) _ ?_))
    intro w10 hp1 ho10
    have hd : Hid (q ≠ p ∧ r ≠ p ∧ q ≠ r) := by have := hord.out; exact ⟨by omega, by omega, by omega⟩
    have hq := hq.off ho10 hd.out.1
    have hr := hr.off ho10 hd.out.2.1
    have s0 := s0.off ho10 (fun y e hn => (hne0.out y e (by rintro rfl; exact hn rfl)).1)
    have s1 := s1.off ho10 (fun y e hn => (hne1.out y e (by rintro rfl; exact hn rfl)).1)
    have sT10 : Hid (Sl w10 g9 (nms T)) := sT9.out.off ho10 (fun y e hn => (hneT.out y e (by rintro rfl; exact hn rfl)).1)
    have hoE : Off Old w w10 := hoD.step ho10 (by rintro i rfl hi; have := hord.out; omega)
    have hz10 := ho10.size
    clear ho10 hoD sT9 hp
    generalize hP1 : raiseAll zero8 l = P1 at *
    have HP1 := Lib.hid hP1
    clear hP1
    go_wp2_with (go_at_call 22; go_must (refine copy_c p P1 _ hp1 _ ?_))
    intro w11 u hu hu1 ho11
    have hp1 := hp1.old ho11
    have hq := hq.old ho11
    have hr := hr.old ho11
    have s0 := s0.old ho11
    have s1 := s1.old ho11
    have sT11 : Hid (Sl w11 g9 (nms T)) := sT10.out.old ho11
    have hoF := hoE.trans ho11
    have hun : Hid (u ≠ p ∧ u ≠ q ∧ u ≠ r ∧ w.heap.size ≤ q ∧ w.heap.size ≤ r ∧ w.heap.size ≤ p) := by have := hord.out; exact ⟨by omega, by omega, by omega, by omega, by omega, by omega⟩
    clear ho11 hoE sT10 hz10 hu
    go_wp2_with (go_at_call 16; go_must (refine raise_ok q zero8 a1 c1 m _ hv1.out hq s1 (fun y e hn => (hne1.out y e hn).2.1) (by omega) _ ?_))
    intro w12 hq1 ho12
    have hp2 := hp1.off ho12 hd.out.1.symm
    have hr := hr.off ho12 hd.out.2.2.symm
    have hu1 := hu1.off ho12 hun.out.2.1
    have s0 := s0.off ho12 (fun y e hn => (hne0.out y e (by rintro rfl; exact hn rfl)).2.1)
    have sT12 := sT11.out.off ho12 (fun y e hn => (hneT.out y e (by rintro rfl; exact hn rfl)).2.1)
    have hoG : Off Old w w12 := hoF.step ho12 (by rintro i rfl hi; have := hun.out; omega)
    clear ho12 hoF sT11 hq hp1
    generalize hQ1 : raiseAll zero8 m = Q1 at *
    have HQ1 := Lib.hid hQ1
    clear hQ1
    go_wp2_with (go_at_call 16; go_must (refine raise_ok_l r zero8 g9 _ d9 T _ hTn.out hTok.out hr sT12 (fun y e hn => (hneT.out y e hn).2.2) (by omega) _ ?_))
    intro w13 hr1 ho13
    have hp2 := hp2.off ho13 hd.out.2.1.symm
    have hq1 := hq1.off ho13 hd.out.2.2
    have hu1 := hu1.off ho13 hun.out.2.2.1
    have s0 := s0.off ho13 (fun y e hn => (hne0.out y e (by rintro rfl; exact hn rfl)).2.2)
    have sT13 := sT12.off ho13 (fun y e hn => (hneT.out y e (by rintro rfl; exact hn rfl)).2.2)
    have hoH : Off Old w w13 := hoG.step ho13 (by rintro i rfl hi; have := hun.out; omega)
    clear ho13 hoG sT12 hr
    generalize hR1 : raiseAll zero8 T = R1 at *
    have HR1 := Lib.hid hR1
    clear hR1
    go_wp2_with (go_at_call 21; go_must (refine merge_n2 p q P1 Q1 _ hp2 hq1 hd.out.1 _ ?_))
    intro w14 hp3 ho14
    have hq1 := hq1.off ho14 hd.out.1
    have hr1 := hr1.off ho14 hd.out.2.1
    have hu1 := hu1.off ho14 hun.out.1
    have s0 := s0.off ho14 (fun y e hn => (hne0.out y e (by rintro rfl; exact hn rfl)).1)
    have sT14 := sT13.off ho14 (fun y e hn => (hneT.out y e (by rintro rfl; exact hn rfl)).1)
    have hoI : Off Old w w14 := hoH.step ho14 (by rintro i rfl hi; have := hun.out; omega)
    clear ho14 hoH sT13 hp2
    go_wp2_with (go_at_call 21; go_must (refine merge_n1 q u Q1 P1 _ hq1 hu1 hun.out.2.1 _ ?_))
    intro w15 hq2 ho15
    have hp3 := hp3.off ho15 hd.out.1.symm
    have hr1 := hr1.off ho15 hd.out.2.2.symm
    have hu1 := hu1.off ho15 hun.out.2.1
    have s0 := s0.off ho15 (fun y e hn => (hne0.out y e (by rintro rfl; exact hn rfl)).2.1)
    have sT15 := sT14.off ho15 (fun y e hn => (hneT.out y e (by rintro rfl; exact hn rfl)).2.1)
    have hoJ : Off Old w w15 := hoI.step ho15 (by rintro i rfl hi; have := hun.out; omega)
    clear ho15 hoI sT14 hq1
    have G1 : mergeN (mergeN P1 Q1) Q1 = R1 := by rw [← HP1.out, ← HQ1.out, ← HR1.out, ← hT.out]; exact grown_p hv0.out hv1.out
    have G2 : mergeN Q1 P1 = R1 := by rw [← HP1.out, ← HQ1.out, ← HR1.out, ← hT.out]; exact grown_q hv0.out hv1.out
    rw [G1] at hp3
    rw [G2] at hq2
    clear G1 G2
    go_wp2_with (go_at_call 58; go_must (refine equal_c p r R1 R1 rfl _ hp3 hr1 _ ?_))
    intro w16 ho16
    go_wp2_with (go_at_call 58; go_must (refine equal_c q r R1 R1 rfl _ (hq2.old ho16) (hr1.old ho16) _ ?_))
    intro w17 ho17
    have hp4 := (hp3.old ho16).old ho17
    have hu2 := (hu1.old ho16).old ho17
    have s0 := (s0.old ho16).old ho17
    have sT17 := (sT15.old ho16).old ho17
    have hoK := (hoJ.trans ho16).trans ho17
    clear ho16 ho17 hoJ sT15 hp3 hu1 hq2 hr1
    go_wp2_with fail
    have hRg : Hid (∀ x ∈ R1, 0 ≤ x ∧ x ≤ 1073741824) := by rw [← HR1.out]; exact raiseAll_range hTok.out
    have hRP : Hid (∀ i, i < 8 → P1.getD i 0 ≤ R1.getD i 0) := by
      intro i hi
      rw [← HP1.out, ← HR1.out, ← hT.out, turned_at hv0.out hv1.out hi, raiseAll_at hv0.out zero8_len hi, zero8_at hi]; omega
    have hRl := hp4.len
    have HRl := Lib.hid hRl
    clear hRl
    go_loopw [14] (fun i wr => ∃ c : Int, i = .int .i64 c ∧ 1 ≤ c ∧ c ≤ 9 ∧ Off Old w17 wr) (fun i _ => (10 - intOf i).toNat)
    case atStart => exact ⟨1, rfl, by decide, by decide, Off.refl _ _⟩
    case round =>
      obtain ⟨c, rfl, hc1, hc9, ho⟩ := hrel
      have hp5 := hp4.old ho
      have hu3 := hu2.old ho
      by_cases hlt : c ≤ 8
      · have hlt1 : decide (c ≤ 8) = true := by simpa using hlt
        obtain ⟨x, hx⟩ : ∃ x, Hid (ofN R1 c = x) := ⟨_, rfl⟩
        obtain ⟨y, hy⟩ : ∃ y, Hid (ofN P1 c = y) := ⟨_, rfl⟩
        obtain ⟨hx0, hx1, hxy⟩ : 0 ≤ x ∧ x ≤ 1073741824 ∧ y ≤ x := by
          have h1 := hx.out
          have h2 := hy.out
          have h3 : ¬ (c < 1 ∨ 8 < c) := by omega
          unfold ofN at h1 h2
          rw [if_neg h3] at h1 h2
          have h4 := hRP.out (c.toNat - 1) (by omega)
          have h5 : R1.getD (c.toNat - 1) 0 ∈ R1 := by
            have hb : c.toNat - 1 < R1.length := by rw [HRl.out]; omega
            rw [List.getD, List.getElem?_eq_getElem hb]; exact List.getElem_mem hb
          have h6 := hRg.out _ h5
          omega
        have txy : decide (x < y) = false := by simpa using hxy
        go_wp2_with (go_at_call 60; go_must (refine of_v x p R1 c _ hx.out hp5 _ ?_))
        intro v1 e1
        have hp6 := hp5.old e1
        go_wp2_with (go_at_call 60; go_must (refine of_v y u P1 c _ hy.out (hu3.old e1) _ ?_))
        intro v2 e2
        have hp6 := hp6.old e2
        go_wp2_with (go_at_call 60; go_must (refine of_v x p R1 c _ hx.out hp6 _ ?_))
        intro v3 e3
        have hp6 := hp6.old e3
        have hI : Hid (((⟨c, x + 1⟩ : Nm).ok && decide (x + 1 ≤ ofN R1 c)) = false) := by
          show _ = _; rw [hx.out, show decide (x + 1 ≤ x) = false by simp; omega, Bool.and_false]
        go_wp2_with (go_at_call 28; go_must (refine is_v false p R1 ⟨c, x + 1⟩ _ hI.out hp6 _ ?_))
        intro v4 e4
        have hp6 := hp6.old e4
        have ho4 := (((ho.trans e1).trans e2).trans e3).trans e4
        clear hI e1 e2 e3 e4
        go_wp2_with (go_at_call 60; go_must (refine of_v x p R1 c _ hx.out hp6 _ ?_))
        intro v5 e5
        have hp6 := hp6.old e5
        have ho5 := ho4.trans e5
        clear e5 ho4
        by_cases h0 : 0 < x
        · have t0 : decide (0 < x) = true := by simpa using h0
          go_wp2_with (go_at_call 60; go_must (refine of_v x p R1 c _ hx.out hp6 _ ?_))
          intro v6 e6
          have hp6 := hp6.old e6
          have hI : Hid (((⟨c, x⟩ : Nm).ok && decide (x ≤ ofN R1 c)) = true) := by
            show _ = _; rw [hx.out]; simp [Nm.ok]; omega
          go_wp2_with (go_at_call 28; go_must (refine is_v true p R1 ⟨c, x⟩ _ hI.out hp6 _ ?_))
          intro v7 e7
          have ho6 := (ho5.trans e6).trans e7
          clear hI e6 e7 ho5
          go_wp2_with fail
          go_roundw
          case rel => exact ⟨c + 1, rfl, by omega, by omega, ho6⟩
          case measure => simp [intOf]; omega
        · have t0 : decide (0 < x) = false := by simpa using h0
          go_wp2_with fail
          go_roundw
          case rel => exact ⟨c + 1, rfl, by omega, by omega, ho5⟩
          case measure => simp [intOf]; omega
      · obtain rfl : c = 9 := by omega
        have hoL := hoK.trans ho
        have s0 := s0.old ho
        have sT18 := sT17.old ho
        clear hp4 hu2 hu3 sT17 hoK ho hRP
        go_wp2_with fail
        have hTt : Hid (∀ x ∈ T, (x.ok && decide (x.n ≤ ofN R1 x.c)) = true) := by
          intro y hy
          have h1 := List.all_eq_true.1 hTok.out y hy
          have h2 := Nm.ok_c h1
          rw [h1, Bool.true_and, decide_eq_true_iff]
          unfold ofN
          rw [if_neg (by omega), ← HR1.out, raiseAll_at hTok.out zero8_len (by omega), zero8_at (by omega)]
          exact top_mem hy (by omega)
        go_loopw [15] (fun i wr2 => ∃ j : Nat, i = .int .i64 j ∧ j ≤ T.length ∧ Off Old wr wr2) (fun i _ => T.length - (intOf i).toNat)
        case atStart => exact ⟨0, rfl, Nat.zero_le _, Off.refl _ _⟩
        case round =>
          obtain ⟨j, rfl, hj, ho⟩ := hrel
          have hp6 := hp5.old ho
          have sT19 := sT18.old ho
          have hTn' := hTn.out
          by_cases hlt : j < T.length
          · have hlt' : j < m.length + (l.length - k) + k := by omega
            clear hTn'
            obtain ⟨x, hx⟩ := at_of_lt hlt
            obtain ⟨b, o, ix, Q, HB⟩ := Sl.ixn_l sT19 hTn.out d9
            obtain ⟨cx1, cx2⟩ := Q.out j x hx.out
            have hI : Hid ((x.ok && decide (x.n ≤ ofN R1 x.c)) = true) := hTt.out x (List.mem_of_getElem? hx.out)
            go_wp2_with (go_at_call 28; go_must (refine is_v true p R1 x _ hI.out hp6 _ ?_))
            intro v1 e1
            have ho1 := ho.trans e1
            go_wp2_with fail
            go_roundw
            case rel => exact ⟨j + 1, by go_num, by omega, ho1⟩
            case measure => simp [intOf]; omega
          · obtain rfl : j = T.length := by omega
            have hlt' : ¬ T.length < m.length + (l.length - k) + k := by omega
            clear hTn'
            have hoM := hoL.trans ho
            have s0 := s0.old ho
            clear hoL ho sT18 sT19 hp5 hTt
            go_wp2_with (go_at_call 24; go_must (refine newWriter_c _ _ ?_))
            intro v1 hw1 ho1 hx
            clear hx
            have hpl := hp6.blk.lt
            generalize hpw : wr.heap.size = pw at *
            have hne : p ≠ pw := by omega
            have hpo : Hid (v1.heap.size = v1.heap.size ∧ wr.heap.size ≤ pw) := ⟨rfl, by omega⟩
            clear hpw
            have hlt0 : Hid (∀ y, a0 = some y → l ≠ [] → y.block < wr.heap.size) := fun y e hn => s0.lt e (nms_ne hn)
            have hp7 := hp6.old ho1
            have hN : Hid (putNums (false, []) R1 = (false, encs R1)) := by
              show _ = _
              rw [putNums_ok R1 (false, []) (fun x hx => by have := hRg.out x hx; simp [numOk]; omega)]
              simp
            have hNl : Hid ((encs R1).length ≤ 72) := by
              show _ ≤ _
              have h1 := putNums_len R1 (false, [])
              rw [hN.out, HRl.out] at h1
              simpa using h1
            go_wp2_with (go_at_call 23; go_must (refine pwrite_c p R1 pw false none 0 [] _ hp7 hw1 hne (by simp) (by simp) _ ?_))
            rw [hN.out]
            intro v2 g2 d2 hw2 hst
            have hp8 := hp7.off hst.off (by rintro (h | h); exact hne h; simp at h)
            have ho2 : Off Old wr v2 := ho1.step hst.off (by
              rintro i (h | h) hi
              · have := hpo.out; omega
              · simp at h)
            clear hst hp7 ho1 hp6
            go_wp2_with (go_at_call 25; go_must (refine done_ok pw g2 d2 (encs R1) _ hw2 (by have := hNl.out; omega) _ ?_))
            intro v3 g3 d3 hro ho3
            have hp9 := hp8.old ho3
            have ho4 := ho2.trans ho3
            obtain ⟨hc3, hc3', hs3⟩ := own_sl2 hro
            clear hro hp8 ho2 ho3 hc3 hc3'
            go_wp2_with (go_at_call 31; go_must (refine newReader_c g3 _ d3 (encs R1) _ rfl hs3 (by have := hNl.out; omega) _ ?_))
            intro v4 pr bb hr4 ho5 hbb1 hbb2
            have hp10 := hp9.old ho5
            have ho6 := ho4.trans ho5
            have s0 := s0.old ho6
            have hprl := hr4.lt
            have hsz6 := ho6.size
            have hpl4 := hp10.blk.lt
            have hpr : Hid (pr ≠ p ∧ v3.heap.size ≤ pr ∧ wr.heap.size ≤ v3.heap.size) := by
              have h1 := hp9.blk.lt
              have h2 := ho4.size
              exact ⟨by omega, by omega, h2⟩
            have hM : Hid (rdMany 8 (some (encs R1)) = (R1, some [])) := by
              show _ = _
              have := rdMany_enc 8 R1 HRl.out hRg.out []
              rwa [List.append_nil] at this
            go_wp2_with (go_at_call 36; go_must (refine pread_ok pr bb (some (encs R1)) R1 [] _ hM.out hr4 hbb2 _ ?_))
            intro v5 q5 hq5 hpq hrd ho7
            have hp11 := hp10.off ho7 (fun h => hpr.out.1 h.symm)
            have s0 := s0.off ho7 (fun y e hn => by
              have h1 := hlt0.out y e (by rintro rfl; exact hn rfl)
              have h2 := hpr.out
              omega)
            have ho8 : Off Old wr v5 := ho6.step ho7 (by rintro i rfl hi; have := hpr.out; omega)
            clear hp10 hp9 ho6 ho7 hr4 hrd
            go_wp2_with (go_at_call 58; go_must (refine equal_c q5 p R1 R1 rfl _ hpq hp11 _ ?_))
            intro v6 ho9
            have hs0 : Hid (∀ y, a0 = some y → l ≠ [] → y.block ≠ q5) := fun y e hn => by have := hlt0.out y e hn; omega
            have hra : Hid (raiseAll R1 l = R1) := by show _ = _; rw [← HR1.out, ← hT.out]; exact raise_again hv0.out hv1.out
            go_wp2_with (go_at_call 16; go_must (refine raise_ok q5 R1 a0 c0 l _ hv0.out (hpq.old ho9) (s0.old ho9) hs0.out (by omega) _ ?_))
            rw [hra.out]
            intro v7 hp12 ho10
            have hp13 := (hp11.old ho9).off ho10 (fun h => by omega)
            go_wp2_with (go_at_call 58; go_must (refine equal_c q5 p R1 R1 rfl _ hp12 hp13 _ ?_))
            intro v8 ho11
            have hoF := hoM.trans (((ho8.trans ho9).step ho10 (by rintro i rfl hi; omega)).trans ho11)
            have HF := HK.out v8 hoF
            clear HK
            go_wp2_with fail
            exact HF
  · have hlm : Hid ((l ++ m).all Nm.ok = false) := by
      show _ = _; rw [List.all_append, hv0.out, hv1.out]; simpa using hbad
    clear hall
    have hv : v0 = false ∨ (v0 = true ∧ v1 = false) := by cases v0 <;> cases v1 <;> simp_all
    clear hbad
    rcases hv with rfl | ⟨rfl, rfl⟩
    · go_wp2_with (go_at_call 14; go_must (refine right_c false _ _ l _ hv0.out s0 (by omega) _ ?_))
      intro w2 ho2
      have s0 := s0.old ho2
      have s1 := s1.old ho2
      have ho2 := ho1.trans ho2
      clear ho1
      go_wp2_with (go_at_call 12; refine new_c _ _ ?_)
      intro w3 hp ho3 hx
      clear hx
      have ho4 := ho2.trans ho3
      have hpq : Hid (w.heap.size ≤ w2.heap.size) := ho2.size
      have hps : Hid (∀ q, a0 = some q → l ≠ [] → q.block ≠ w2.heap.size) := by
        intro q e hn; have := s0.lt e (by intro h; apply hn; have h2 := nms_length l; rw [h] at h2; exact List.eq_nil_of_length_eq_zero (by simp at h2; omega)); omega
      have s0 := s0.old ho3
      have s1 := s1.old ho3
      have hlt := hp.blk.lt
      generalize w2.heap.size = p at *
      have hown : (w3.alloc (.cells #[] 53)).ownsRow 0 53 2 (.slice (some ⟨w3.heap.size, 0, none⟩) 0 0) 0 [] := World.ownsRow_made w3 #[] 0 (Nat.zero_le _) (by unfold maxLen; omega) rfl
      have hoa : Off Old w3 (w3.alloc (.cells #[] 53)) := (Off.refl Old w3).alloc _
      have s0' := s0.old hoa
      go_wp2_with (at_builtin; go_must (refine wpList_append_sl rfl (.tmp 38) (.tmp 39) 23 rfl 53 i0 (.agg #[.int .i64 0, .int .i64 0]) 2 16 Try.underlying23 hi hz0 hz1 hz2 rfl (by decide) (.slice (some ⟨w3.heap.size, 0, none⟩) 0 0) 0 [] rfl hown a0 l.length c0 (nms l) rfl (by simp) s0' (nms_oneCell l) (by omega) (by omega) ?_))
      intro g4 d4 w4 hg4
      obtain ⟨ho4', hb4⟩ := hg4.fresh hoa (by intro k hk; simp [Value.ownBlock] at hk; omega)
      have hown4 := hg4.own
      have s1' := s1.old ho4'
      have HG4 := Lib.hid hg4
      clear hg4
      go_wp2_with (at_builtin; go_must (refine wpList_append_sl rfl (.tmp 40) (.tmp 41) 23 rfl 53 i0 (.agg #[.int .i64 0, .int .i64 0]) 2 16 Try.underlying23 hi hz0 hz1 hz2 rfl (by decide) (.slice g4 l.length d4) l.length (nms l) rfl hown4 a1 m.length c1 (nms m) rfl (by simp) s1' (nms_oneCell m) (by omega) (by omega) ?_))
      intro g5 d5 w5 hg5
      obtain ⟨ho5, hb5⟩ := hg5.fresh ho4' hb4
      have s5 : Hid (Sl w5 g5 (nms (l ++ m))) := by show Sl _ _ _; rw [nms_append]; exact (own_sl2 hg5.own).2.2
      have h5 := hp.old ho5
      have hne5 : Hid (∀ q, g5 = some q → l ++ m ≠ [] → q.block ≠ p) := by
        intro q e _; have := hb5 q.block (by subst e; rfl); omega
      have hln : Hid ((l ++ m).length = l.length + m.length) := List.length_append
      have ho6 := ho4.trans ho5
      clear hg5 HG4 hown4 hown hb4 hb5 s0' s1' hoa ho4' ho5
      go_wp2_with (go_at_call 16; go_must (refine raise_bad_l p zero8 g5 _ d5 (l ++ m) _ hln.out hlm.out h5 s5.out hne5.out (by omega) _ ?_))
      intro w6 ho7
      have h6 := h5.old ho7
      have ho8 := ho6.trans ho7
      go_wp2_with (go_at_call 12; refine new_c _ _ ?_)
      intro w7 h7 ho9 hx
      clear hx
      have h8 := h6.old ho9
      have ho10 := ho8.trans ho9
      generalize w6.heap.size = p2 at *
      go_wp2_with (go_at_call 58; refine equal_c p p2 _ _ rfl _ h8 h7 _ ?_)
      intro w8 ho11
      have HF := HK.out w8 (ho10.trans ho11)
      clear HK
      go_wp2_with fail
      exact HF
    · go_wp2_with (go_at_call 14; go_must (refine right_c true _ _ l _ hv0.out s0 (by omega) _ ?_))
      intro w2 ho2
      have s0 := s0.old ho2
      have s1 := s1.old ho2
      have ho2' := ho1.trans ho2
      clear ho1 ho2
      go_wp2_with (go_at_call 14; go_must (refine right_c false _ _ m _ hv1.out s1 (by omega) _ ?_))
      intro w2b ho2
      have s0 := s0.old ho2
      have s1 := s1.old ho2
      have ho2 := ho2'.trans ho2
      clear ho2'
      go_wp2_with (go_at_call 12; refine new_c _ _ ?_)
      intro w3 hp ho3 hx
      clear hx
      have ho4 := ho2.trans ho3
      have hpq : Hid (w.heap.size ≤ w2b.heap.size) := ho2.size
      have hps : Hid (∀ q, a0 = some q → l ≠ [] → q.block ≠ w2b.heap.size) := by
        intro q e hn; have := s0.lt e (by intro h; apply hn; have h2 := nms_length l; rw [h] at h2; exact List.eq_nil_of_length_eq_zero (by simp at h2; omega)); omega
      have s0 := s0.old ho3
      have s1 := s1.old ho3
      have hlt := hp.blk.lt
      generalize w2b.heap.size = p at *
      have hown : (w3.alloc (.cells #[] 53)).ownsRow 0 53 2 (.slice (some ⟨w3.heap.size, 0, none⟩) 0 0) 0 [] := World.ownsRow_made w3 #[] 0 (Nat.zero_le _) (by unfold maxLen; omega) rfl
      have hoa : Off Old w3 (w3.alloc (.cells #[] 53)) := (Off.refl Old w3).alloc _
      have s0' := s0.old hoa
      go_wp2_with (at_builtin; go_must (refine wpList_append_sl rfl (.tmp 38) (.tmp 39) 23 rfl 53 i0 (.agg #[.int .i64 0, .int .i64 0]) 2 16 Try.underlying23 hi hz0 hz1 hz2 rfl (by decide) (.slice (some ⟨w3.heap.size, 0, none⟩) 0 0) 0 [] rfl hown a0 l.length c0 (nms l) rfl (by simp) s0' (nms_oneCell l) (by omega) (by omega) ?_))
      intro g4 d4 w4 hg4
      obtain ⟨ho4', hb4⟩ := hg4.fresh hoa (by intro k hk; simp [Value.ownBlock] at hk; omega)
      have hown4 := hg4.own
      have s1' := s1.old ho4'
      have HG4 := Lib.hid hg4
      clear hg4
      go_wp2_with (at_builtin; go_must (refine wpList_append_sl rfl (.tmp 40) (.tmp 41) 23 rfl 53 i0 (.agg #[.int .i64 0, .int .i64 0]) 2 16 Try.underlying23 hi hz0 hz1 hz2 rfl (by decide) (.slice g4 l.length d4) l.length (nms l) rfl hown4 a1 m.length c1 (nms m) rfl (by simp) s1' (nms_oneCell m) (by omega) (by omega) ?_))
      intro g5 d5 w5 hg5
      obtain ⟨ho5, hb5⟩ := hg5.fresh ho4' hb4
      have s5 : Hid (Sl w5 g5 (nms (l ++ m))) := by show Sl _ _ _; rw [nms_append]; exact (own_sl2 hg5.own).2.2
      have h5 := hp.old ho5
      have hne5 : Hid (∀ q, g5 = some q → l ++ m ≠ [] → q.block ≠ p) := by
        intro q e _; have := hb5 q.block (by subst e; rfl); omega
      have hln : Hid ((l ++ m).length = l.length + m.length) := List.length_append
      have ho6 := ho4.trans ho5
      clear hg5 HG4 hown4 hown hb4 hb5 s0' s1' hoa ho4' ho5
      go_wp2_with (go_at_call 16; go_must (refine raise_bad_l p zero8 g5 _ d5 (l ++ m) _ hln.out hlm.out h5 s5.out hne5.out (by omega) _ ?_))
      intro w6 ho7
      have h6 := h5.old ho7
      have ho8 := ho6.trans ho7
      go_wp2_with (go_at_call 12; refine new_c _ _ ?_)
      intro w7 h7 ho9 hx
      clear hx
      have h8 := h6.old ho9
      have ho10 := ho8.trans ho9
      generalize w6.heap.size = p2 at *
      go_wp2_with (go_at_call 58; refine equal_c p p2 _ _ rfl _ h8 h7 _ ?_)
      intro w8 ho11
      have HF := HK.out w8 (ho10.trans ho11)
      clear HK
      go_wp2_with fail
      exact HF
end Go.Proofs.Ytfllejlooaipiaa
