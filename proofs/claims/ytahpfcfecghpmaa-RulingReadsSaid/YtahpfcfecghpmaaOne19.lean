/- A verdict is read, by the program. -/
import Derived.Test.YtahpfcfecghpmaaRdPure
import Derived.Test.YtahpfcfecghpmaaOrd
import Derived.Test.YtahpfcfecghpmaaBook3
import Derived.KernelRfl
namespace Go.Proofs.Ytahpfcfecghpmaa
open Go.RowKit
set_option linter.unusedSimpArgs false

theorem number_n (p bb : Nat) (s : RS) (most : Int) (N : Int) (hN : Hid ((rdNum most s).1 = N)) (w : World) (h : Rd w p bb s) (R : Ending → World → Prop)
    (k : ∀ w', Rd w' p bb (rdNum most s).2 → Off (fun k => k = p) w w' → R (.returned (.int .i64 N)) w') :
    Calls Try.prog 62 #[.pointer (some ⟨p, 0, none⟩), .int .i64 most] w R := by
  have h1 := hN.out
  subst h1
  exact number_r p bb s most w h R k
set_option maxRecDepth 100000 in
set_option maxHeartbeats 2000000 in
theorem one_c (p bb : Nat) (s : RS) (w : World) (h : Rd w p bb s) (hbb : bb < w.heap.size) (bd : rsLen s ≤ 1000000000) (R : Ending → World → Prop)
    (k : ∀ w' a m c, Rd w' p bb (rdVd s).2 → Vok w' ⟨(rdVd s).1, a, c⟩ → Hid ((rdVd s).1.reads.length = m) → Off (fun k => k = p) w w' → (∀ q, a = some q → w.heap.size ≤ q.block) →
      R (.returned (.agg #[.int .i64 (rdVd s).1.c, .int .i64 (rdVd s).1.n, .bool (rdVd s).1.commit, .int .i64 (rdVd s).1.at_, .slice a m c])) w') :
    Calls Try.prog 63 #[.pointer (some ⟨p, 0, none⟩)] w R := by
  have HK := Lib.hid k; clear k
  have hp := h.lt
  obtain ⟨N1, h1⟩ : ∃ N, Hid ((rdNum 1073741824 s).1 = N) := ⟨_, rfl⟩
  obtain ⟨s1, e1⟩ : ∃ x, Hid ((rdNum 1073741824 s).2 = x) := ⟨_, rfl⟩
  obtain ⟨N2, h2⟩ : ∃ N, Hid ((rdNum 1073741824 s1).1 = N) := ⟨_, rfl⟩
  obtain ⟨s2, e2⟩ : ∃ x, Hid ((rdNum 1073741824 s1).2 = x) := ⟨_, rfl⟩
  obtain ⟨N3, h3⟩ : ∃ N, Hid ((rdNum 1073741824 s2).1 = N) := ⟨_, rfl⟩
  obtain ⟨s3, e3⟩ : ∃ x, Hid ((rdNum 1073741824 s2).2 = x) := ⟨_, rfl⟩
  obtain ⟨F, h4⟩ : ∃ N, Hid ((rdFlag s3).1 = N) := ⟨_, rfl⟩
  obtain ⟨s4, e4⟩ : ∃ x, Hid ((rdFlag s3).2 = x) := ⟨_, rfl⟩
  obtain ⟨M0, h5⟩ : ∃ N, Hid ((rdNum 6 s4).1 = N) := ⟨_, rfl⟩
  obtain ⟨s5, e5⟩ : ∃ x, Hid ((rdNum 6 s4).2 = x) := ⟨_, rfl⟩
  have hM := rdNum_ge 6 s4
  rw [h5.out] at hM
  obtain ⟨M, rfl⟩ := Int.eq_ofNat_of_zero_le hM.1
  have hM6 : M ≤ 6 := by have := hM.2; omega
  clear hM
  have hvd : Hid (rdVd s = (⟨N1, N2, F, N3, (rdRds M s5).1⟩, (rdRds M s5).2)) := by
    show _ = _
    simp only [rdVd, h1.out, e1.out, h2.out, e2.out, h3.out, e3.out, h4.out, e4.out, h5.out, e5.out, Int.toNat_natCast]
  rw [hvd.out] at HK
  have hl5 : rsLen s5 ≤ 1000000000 := by
    have a1 := rdNum_len 1073741824 s
    have a2 := rdNum_len 1073741824 s1
    have a3 := rdNum_len 1073741824 s2
    have a4 := rdFlag_len s3
    have a5 := rdNum_len 6 s4
    rw [e1.out] at a1; rw [e2.out] at a2; rw [e3.out] at a3; rw [e4.out] at a4; rw [e5.out] at a5
    omega
  have hbX := Blk.new2 w (.cells #[.int .i64 0, .int .i64 0, .bool false, .int .i64 0, .slice none 0 0] 38) #[.int .i64 0, .int .i64 0, .bool false, .int .i64 0, .slice none 0 0] 38
  have hbR := (Blk.new w #[.int .i64 0, .int .i64 0, .bool false, .int .i64 0, .slice none 0 0] 38).alloc (.cells #[.int .i64 0, .int .i64 0, .bool false, .int .i64 0, .slice none 0 0] 38)
  have hoA : Off (fun k => k = p) w ((w.alloc (.cells #[.int .i64 0, .int .i64 0, .bool false, .int .i64 0, .slice none 0 0] 38)).alloc (.cells #[.int .i64 0, .int .i64 0, .bool false, .int .i64 0, .slice none 0 0] 38)) := ((Off.refl _ w).alloc _).alloc _
  have hA := h.old (((Off.refl Old w).alloc (.cells #[.int .i64 0, .int .i64 0, .bool false, .int .i64 0, .slice none 0 0] 38)).alloc (.cells #[.int .i64 0, .int .i64 0, .bool false, .int .i64 0, .slice none 0 0] 38))
  have hpX : ∀ k, k = p → k ≠ w.heap.size + 1 := by intro k hk; omega
  have hpR : ¬ w.heap.size = p := by omega
  have hpX2 : ¬ w.heap.size + 1 = p := by omega
  have hbX2 : ¬ bb = w.heap.size + 1 := by omega
  have hpX3 : ¬ p = w.heap.size + 1 := by omega
  go_enter Try.func63, Try.ntmps63
  go_wp2_with (go_at_call 62; go_must (refine number_n p bb s 1073741824 N1 h1 _ hA _ ?_))
  rw [e1.out]
  intro w1 r1 o1
  have b1 := hbX.off o1 hpX2
  have q1 := hbR.off o1 hpR
  have o1 := hoA.trans o1
  have c1 := b1.cell (i := 0) rfl
  have f1 := b1.free 0
  have x1 := Off.setCell (S := fun k => k = w.heap.size + 1) (Off.refl _ w1) (p := ⟨w.heap.size + 1, 0, none⟩) (fun _ => rfl) (.int .i64 N1)
  have b1 := b1.set 0 (.int .i64 N1)
  have q1 := q1.off x1 (by omega)
  have o1 := Off.setCell (S := fun k => k = p) o1 (p := ⟨w.heap.size + 1, 0, none⟩) (by intro h; simp only at h; omega) (.int .i64 N1)
  have r1 := r1.off x1 hpX3 hbX2
  clear hbX hbR hoA hA
  go_wp2_with (go_at_call 62; go_must (refine number_n p bb s1 1073741824 N2 h2 _ r1 _ ?_))
  rw [e2.out]
  intro w2 r2 o2
  have b2 := b1.off o2 hpX2
  have q2 := q1.off o2 hpR
  have o2 := o1.trans o2
  have c2 := b2.cell (i := 1) rfl
  have f2 := b2.free 1
  have x2 := Off.setCell (S := fun k => k = w.heap.size + 1) (Off.refl _ w2) (p := ⟨w.heap.size + 1, 1, none⟩) (fun _ => rfl) (.int .i64 N2)
  have b2 := b2.set 1 (.int .i64 N2)
  have q2 := q2.off x2 (by omega)
  have o2 := Off.setCell (S := fun k => k = p) o2 (p := ⟨w.heap.size + 1, 1, none⟩) (by intro h; simp only at h; omega) (.int .i64 N2)
  have r2 := r2.off x2 hpX3 hbX2
  clear c1 f1 x1 b1 q1 o1 r1
  go_wp2_with (go_at_call 62; go_must (refine number_n p bb s2 1073741824 N3 h3 _ r2 _ ?_))
  rw [e3.out]
  intro w3 r3 o3
  have b3 := b2.off o3 hpX2
  have q3 := q2.off o3 hpR
  have o3 := o2.trans o3
  have c3 := b3.cell (i := 3) rfl
  have f3 := b3.free 3
  have x3 := Off.setCell (S := fun k => k = w.heap.size + 1) (Off.refl _ w3) (p := ⟨w.heap.size + 1, 3, none⟩) (fun _ => rfl) (.int .i64 N3)
  have b3 := b3.set 3 (.int .i64 N3)
  have q3 := q3.off x3 (by omega)
  have o3 := Off.setCell (S := fun k => k = p) o3 (p := ⟨w.heap.size + 1, 3, none⟩) (by intro h; simp only at h; omega) (.int .i64 N3)
  have r3 := r3.off x3 hpX3 hbX2
  clear c2 f2 x2 b2 q2 o2 r2
  go_wp2_with (go_at_call 83; go_must (refine flag_c p bb s3 _ r3 _ ?_))
  rw [e4.out, h4.out]
  intro w4 r4 o4
  have b4 := b3.off o4 hpX2
  have q4 := q3.off o4 hpR
  have o4 := o3.trans o4
  have c4 := b4.cell (i := 2) rfl
  have f4 := b4.free 2
  have x4 := Off.setCell (S := fun k => k = w.heap.size + 1) (Off.refl _ w4) (p := ⟨w.heap.size + 1, 2, none⟩) (fun _ => rfl) (.bool F)
  have b4 := b4.set 2 (.bool F)
  have q4 := q4.off x4 (by omega)
  have o4 := Off.setCell (S := fun k => k = p) o4 (p := ⟨w.heap.size + 1, 2, none⟩) (by intro h; simp only at h; omega) (.bool F)
  have r4 := r4.off x4 hpX3 hbX2
  clear c3 f3 x3 b3 q3 o3 r3
  go_wp2_with (go_at_call 62; go_must (refine number_n p bb s4 6 (M : Int) h5 _ r4 _ ?_))
  rw [e5.out]
  intro w5 r5 o5
  have b5 := Lib.hid (b4.off o5 hpX2)
  have q5 := q4.off o5 hpR
  have o5 := o4.trans o5
  simp only [List.set_cons_succ, List.set_cons_zero] at b5
  clear c4 f4 x4 b4 q4 o4 r4
  obtain ⟨i0, hi, hz0, hz1, hz2⟩ := info_parts rdxinfo
  go_wp2_with fail
  go_loopw [4, 21] (fun _ i wr => ∃ (j : Nat) (a : Option Addr) (c : Nat) (L : List Rdx), i = .int .i64 j ∧ j ≤ M ∧ Hid (L = (rdRds j s5).1) ∧ Rd wr p bb (rdRds j s5).2 ∧ Blk wr (w.heap.size + 1) [.int .i64 N1, .int .i64 N2, .bool F, .int .i64 N3, .slice a j c] 38 ∧ Blk wr w.heap.size [.int .i64 0, .int .i64 0, .bool false, .int .i64 0, .slice none 0 0] 38 ∧ wr.ownsRow 0 83 3 (.slice a j c) j (rdxs L) ∧ Off (fun k => k = p) w wr ∧ (∀ q, a = some q → w.heap.size + 2 ≤ q.block)) (fun _ i _ => M - (intOf i).toNat)
  case atStart => exact ⟨0, none, 0, [], rfl, by omega, rfl, r5, b5.out, q5, World.ownsRow_nil _ _ _ _, o5, by simp⟩
  case round =>
    obtain ⟨j, a, c, L, rfl, hj, hL, hr, hb, hq, hown, ho, hfr⟩ := hrel
    clear b5 q5 o5 r5
    by_cases hlt : j < M
    · obtain ⟨s', es⟩ : ∃ x, Hid ((rdRds j s5).2 = x) := ⟨_, rfl⟩
      rw [es.out] at hr
      have hls : rsLen s' ≤ 1000000000 := by have := rdRds_len j s5; rw [es.out] at this; omega
      obtain ⟨K, hK⟩ : ∃ x, Hid ((rdRow 20 s').1.toArray = x) := ⟨_, rfl⟩
      obtain ⟨s6, e6⟩ : ∃ x, Hid ((rdRow 20 s').2 = x) := ⟨_, rfl⟩
      obtain ⟨B, hBo⟩ : ∃ x, Hid ((rdFlag s6).1 = x) := ⟨_, rfl⟩
      obtain ⟨s7, e7⟩ : ∃ x, Hid ((rdFlag s6).2 = x) := ⟨_, rfl⟩
      obtain ⟨V, hVa⟩ : ∃ x, Hid ((rdRow 20 s7).1.toArray = x) := ⟨_, rfl⟩
      obtain ⟨s8, e8⟩ : ∃ x, Hid ((rdRow 20 s7).2 = x) := ⟨_, rfl⟩
      have hx : Hid (rdRdx s' = (⟨⟨K⟩, B, ⟨V⟩⟩, s8)) := by
        show _ = _
        simp only [rdRdx, e6.out, e7.out, e8.out, hK.out, hBo.out, hVa.out]
      have hl7 : rsLen s7 ≤ 1000000000 := by
        have a1 := rdRow_len 20 s'
        have a2 := rdFlag_len s6
        rw [e6.out] at a1; rw [e7.out] at a2; omega
      have hsn : Hid (rdRds (j + 1) s5 = (L ++ [⟨⟨K⟩, B, ⟨V⟩⟩], s8)) := by
        show _ = _
        rw [rdRds_snoc, ← hL.out, es.out, hx.out]
      have hpr := hr.lt
      have hXl := hb.lt
      have hbr : bb < wr.heap.size := by have := ho.size; omega
      have hy := Blk.new wr #[.string ⟨#[]⟩, .bool false, .string ⟨#[]⟩] 83
      have hal := (Off.refl Old wr).alloc (.cells #[.string ⟨#[]⟩, .bool false, .string ⟨#[]⟩] 83)
      have hr0 := hr.old hal
      have hb0 := hb.old hal
      have hq0 := hq.old hal
      have hown0 := own_off hown hal (fun _ _ x => x)
      have ho0 := ho.trans (hal.mono (S' := fun k => k = p) (fun _ x _ => x.elim))
      have hYp : ¬ wr.heap.size = p := by omega
      have hpY : ¬ p = wr.heap.size := by omega
      have hbY : ¬ bb = wr.heap.size := by omega
      have hXY : ¬ w.heap.size + 1 = wr.heap.size := by omega
      have hzr := ho.size
      have hoY : ∀ k, (Value.slice a j c).ownBlock = some k → ¬ k = wr.heap.size := fun k hk e => by have := own_lt hown hk; omega
      have hop : ∀ k, (Value.slice a j c).ownBlock = some k → ¬ k = p := fun k hk e => by
        cases a with
        | none => simp [Value.ownBlock] at hk
        | some q => simp [Value.ownBlock] at hk; have := hfr q rfl; omega
      go_wp2_with (go_at_call 84; go_must (refine text_r p bb s' 20 _ hr0 (by omega) _ ?_))
      rw [e6.out, hK.out]
      intro w1 r1 o1
      have y1 := hy.off o1 hYp
      have c1 := y1.cell (i := 0) rfl
      have f1 := y1.free 0
      have x1 := Off.setCell (S := fun k => k = wr.heap.size) (Off.refl _ w1) (p := ⟨wr.heap.size, 0, none⟩) (fun _ => rfl) (.string ⟨K⟩)
      have y1 := y1.set 0 (.string ⟨K⟩)
      have b1 := (hb0.off o1 hpX2).off x1 hXY
      have q1 := (hq0.off o1 hpR).off x1 (by omega)
      have n1 := own_off (own_off hown0 o1 hop) x1 hoY
      have o1 := (ho0.trans o1).step x1 (by intro i hi hl; omega)
      have r1 := r1.off x1 hpY hbY
      clear hr0 hb0 hq0 hown0 ho0 hy x1
      go_wp2_with (go_at_call 83; go_must (refine flag_c p bb s6 _ r1 _ ?_))
      rw [e7.out, hBo.out]
      intro w2 r2 o2
      have y2 := y1.off o2 hYp
      have c2 := y2.cell (i := 1) rfl
      have f2 := y2.free 1
      have x2 := Off.setCell (S := fun k => k = wr.heap.size) (Off.refl _ w2) (p := ⟨wr.heap.size, 1, none⟩) (fun _ => rfl) (.bool B)
      have y2 := y2.set 1 (.bool B)
      have b2 := (b1.off o2 hpX2).off x2 hXY
      have q2 := (q1.off o2 hpR).off x2 (by omega)
      have n2 := own_off (own_off n1 o2 hop) x2 hoY
      have o2 := (o1.trans o2).step x2 (by intro i hi hl; omega)
      have r2 := r2.off x2 hpY hbY
      clear c1 f1 y1 b1 q1 n1 o1 r1 x2
      go_wp2_with (go_at_call 84; go_must (refine text_r p bb s7 20 _ r2 (by omega) _ ?_))
      rw [e8.out, hVa.out]
      intro w3 r3 o3
      have y3 := y2.off o3 hYp
      have c3 := y3.cell (i := 2) rfl
      have c31 := y3.cell (i := 1) rfl
      have c30 := y3.cell (i := 0) rfl
      have f3 := y3.free 2
      have bX := b2.off o3 hpX2
      have cX := bX.cell (i := 4) rfl
      clear bX
      have x3 := Off.setCell (S := fun k => k = wr.heap.size) (Off.refl _ w3) (p := ⟨wr.heap.size, 2, none⟩) (fun _ => rfl) (.string ⟨V⟩)
      have y3 := y3.set 2 (.string ⟨V⟩)
      have b3 := (b2.off o3 hpX2).off x3 hXY
      have q3 := (q2.off o3 hpR).off x3 (by omega)
      have n3 := own_off (own_off n2 o3 hop) x3 hoY
      have o3 := (o2.trans o3).step x3 (by intro i hi hl; omega)
      have r3 := r3.off x3 hpY hbY
      clear c2 f2 y2 b2 q2 n2 o2 r2 x3
      simp only [List.set_cons_succ, List.set_cons_zero] at y3
      have hXY2 : ¬ wr.heap.size = w.heap.size + 1 := by omega
      have hnw : Sl ((w3.setCell ⟨wr.heap.size, 2, none⟩ (.string ⟨V⟩)).alloc (.cells #[.string ⟨K⟩, .bool B, .string ⟨V⟩] 83)) (some ⟨w3.heap.size, 0, none⟩) (rdxs [⟨⟨K⟩, B, ⟨V⟩⟩]) := by
        have h0 := Sl.new (w3.setCell ⟨wr.heap.size, 2, none⟩ (.string ⟨V⟩)) (rdxs [⟨⟨K⟩, B, ⟨V⟩⟩]) 83
        rw [show (w3.setCell ⟨wr.heap.size, 2, none⟩ (.string ⟨V⟩)).heap.size = w3.heap.size by simp [World.setCell]] at h0
        exact h0
      have hz3 : wr.heap.size < (w3.setCell ⟨wr.heap.size, 2, none⟩ (.string ⟨V⟩)).heap.size := y3.lt
      go_wp2_with (at_builtin; go_must (refine wpList_append_sl rfl (.tmp 33) (.tmp 35) 36 rfl 83 i0 (.agg #[.string ⟨#[]⟩, .bool false, .string ⟨#[]⟩]) 3 40 Try.underlying36 hi hz0 hz1 hz2 rfl (by decide) (.slice a j c) j (rdxs L) rfl (n3.alloc _) _ 1 1 (rdxs [⟨⟨K⟩, B, ⟨V⟩⟩]) rfl rfl hnw (rdxs_oneCell _) (by omega) (by omega) ?_))
      intro g4 d4 w4 hg0
      have hg := hg0.of_alloc
      have hgO : Off (fun k => (Value.slice a j c).ownBlock = some k) (w3.setCell ⟨wr.heap.size, 2, none⟩ (.string ⟨V⟩)) w4 := hg.off
      have hX4 : ¬ (Value.slice a j c).ownBlock = some (w.heap.size + 1) := fun hk => by
        cases a with
        | none => simp [Value.ownBlock] at hk
        | some q => simp [Value.ownBlock] at hk; have := hfr q rfl; omega
      have hR4 : ¬ (Value.slice a j c).ownBlock = some w.heap.size := fun hk => by
        cases a with
        | none => simp [Value.ownBlock] at hk
        | some q => simp [Value.ownBlock] at hk; have := hfr q rfl; omega
      have hp4 : ¬ (Value.slice a j c).ownBlock = some p := fun hk => hop p hk rfl
      have hb4 : ¬ (Value.slice a j c).ownBlock = some bb := fun hk => by
        cases a with
        | none => simp [Value.ownBlock] at hk
        | some q => simp [Value.ownBlock] at hk; have := hfr q rfl; omega
      have b4 := b3.off hgO hX4
      have q4 := q3.off hgO hR4
      have r4 := r3.off hgO hp4 hb4
      have o4 : Off (fun k => k = p) w w4 := o3.step hgO (fun i hi hl => by
        cases a with
        | none => simp [Value.ownBlock] at hi
        | some q => simp [Value.ownBlock] at hi; have := hfr q rfl; omega)
      have hfr4 : ∀ q, g4 = some q → w.heap.size + 2 ≤ q.block := fun q hq => by
        subst hq
        rcases hg.mov q.block rfl with h1 | h1
        · cases a with
          | none => simp [Value.ownBlock] at h1
          | some q' => simp [Value.ownBlock] at h1; have := hfr q' rfl; omega
        · have := b3.lt; omega
      have c4 := b4.cell (i := 4) rfl
      have f4 := b4.free 4
      have x4 := Off.setCell (S := fun k => k = w.heap.size + 1) (Off.refl _ w4) (p := ⟨w.heap.size + 1, 4, none⟩) (fun _ => rfl) (.slice g4 (j + 1) d4)
      have b5 := b4.set 4 (.slice g4 (j + 1) d4)
      have q5 := q4.off x4 (by omega)
      have r5 := r4.off x4 hpX3 hbX2
      have o5 := Off.setCell (S := fun k => k = p) o4 (p := ⟨w.heap.size + 1, 4, none⟩) (by intro h; simp only at h; omega) (.slice g4 (j + 1) d4)
      have n5 := own_off hg.own x4 (fun k hk e => by
        rw [own_block_eq'] at hk
        obtain ⟨q, hq, rfl⟩ := Option.map_eq_some_iff.1 hk
        have := hfr4 q hq; omega)
      have n5 : (w4.setCell ⟨w.heap.size + 1, 4, none⟩ (.slice g4 (j + 1) d4)).ownsRow 0 83 3 (.slice g4 (j + 1) d4) (j + 1) (rdxs (L ++ [⟨⟨K⟩, B, ⟨V⟩⟩])) := by rw [rdxs_append]; exact n5
      clear c3 c31 c30 f3 cX b3 q3 n3 o3 r3 hnw hg hg0 hgO y3 b4 q4 r4 o4
      go_wp2_with fail
      go_roundw
      case rel => exact ⟨j + 1, g4, d4, _, by go_num, by omega, by show _ = _; rw [hsn.out], by rw [hsn.out]; exact r5, b5, q5, n5, o5, hfr4⟩
      case measure => simp [intOf]; omega
    · obtain rfl : j = M := by omega
      have b0 := hb.cell (i := 0) rfl
      have b1 := hb.cell (i := 1) rfl
      have b2 := hb.cell (i := 2) rfl
      have b3 := hb.cell (i := 3) rfl
      have b4 := hb.cell (i := 4) rfl
      have r0 := hq.cell (i := 0) rfl
      have r1 := hq.cell (i := 1) rfl
      have r2 := hq.cell (i := 2) rfl
      have r3 := hq.cell (i := 3) rfl
      have r4 := hq.cell (i := 4) rfl
      have rf := hq.free
      have hln : Hid ((rdRds j s5).1.length = j) := rdRds_length j s5
      have HR := Lib.hid (hq.set5 (.int .i64 N1) (.int .i64 N2) (.bool F) (.int .i64 N3) (.slice a j c))
      have hS := Lib.hid (Off.set5 (S := fun k => k = w.heap.size) (b := w.heap.size) (Off.refl _ wr) (fun _ => rfl) (.int .i64 N1) (.int .i64 N2) (.bool F) (.int .i64 N3) (.slice a j c))
      have hO := Lib.hid (Off.set5 (S := fun k => k = p) (b := w.heap.size) ho (by intro h; omega) (.int .i64 N1) (.int .i64 N2) (.bool F) (.int .i64 N3) (.slice a j c))
      go_wp2_with fail
      have HF := HK.out _ a j c (hr.off hS.out (by omega) (by omega)) ⟨by
        have h1 := (own_sl2 hown).2.2
        rw [hL.out] at h1
        exact h1.off hS.out (fun q hq hn hk => by have := hfr q hq; omega), rdRds_fits j s5 (by omega), by show (rdRds j s5).1.length ≤ _; rw [hln.out]; omega⟩ hln hO.out (fun q hq => by have := hfr q hq; omega)
      exact bodyPost_ret (v := .agg #[.int .i64 N1, .int .i64 N2, .bool F, .int .i64 N3, .slice a j c]) (by simp [results, Try.results63, go_sem, HR.out.cell (i := 0) rfl, HR.out.cell (i := 1) rfl, HR.out.cell (i := 2) rfl, HR.out.cell (i := 3) rfl, HR.out.cell (i := 4) rfl]) rfl HF
end Go.Proofs.Ytahpfcfecghpmaa
