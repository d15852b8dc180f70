/- A book is read, by the document. -/
import Derived.Test.YtahpfcfecghpmaaBkPure
import Derived.Test.YtahpfcfecghpmaaRefB2
import Derived.Test.YtahpfcfecghpmaaRef02c
import Derived.KernelRfl
namespace Go.Proofs.Ytahpfcfecghpmaa
open Go.RowKit
set_option linter.unusedSimpArgs false

theorem rnum_n (m : Nat) (S : Nat → Prop) (s : RS) (most : Int) (N : Int) (hN : Hid ((rdNum most s).1 = N)) (w : World) (h : RefRd w m S s) (R : Ending → World → Prop)
    (k : ∀ w', RefRd w' m S (rdNum most s).2 → Off (fun k => k = m) w w' → R (.returned (.int .i64 N)) w') :
    Calls Try.prog 64 #[.pointer (some ⟨m, 0, none⟩), .int .i64 most] w R := by
  have h1 := hN.out
  subst h1
  exact rnumber_c m S s most w h R k
theorem RefRd.in {w : World} {m : Nat} {S : Nat → Prop} {s : RS} (h : RefRd w m S s) : S m := h.1
/-- kept where nothing of its own is written: its bytes lie in no block that is new. -/
theorem RefRd.keep {w w' : World} {m : Nat} {S S' : Nat → Prop} {s : RS} (h : RefRd w m S s) (ho : Off S' w w') (hm : ¬ S' m) (hS : ∀ k, S' k → S k) : RefRd w' m S s := h.off ho hm hS
set_option maxRecDepth 100000 in
set_option maxHeartbeats 3000000 in
theorem rbRead_c (p : Nat) (S : Nat → Prop) (s : RS) (w : World) (h : RefRd w p S s) (hS : ∀ k, w.heap.size ≤ k → S k) (bd : rsLen s ≤ 1000000) (O : Option (List Vd) × RS) (hO : Hid (rdBk s = O)) (R : Ending → World → Prop)
    (k1 : O.1 = none → ∀ w', RefRd w' p S O.2 → Off (fun k => k = p) w w' → R (.returned (.tuple #[.pointer none, .bool false])) w')
    (k2 : ∀ L, O.1 = some L → ∀ w' q g d l, RBk w' q g d l → Hid (l.map Ve.x = L) → RefRd w' p S O.2 → Off (fun k => k = p) w w' → (∀ k, RbOwn q g l k → w.heap.size ≤ k) → R (.returned (.tuple #[.pointer (some ⟨q, 0, none⟩), .bool true])) w') :
    Calls Try.prog 34 #[.pointer (some ⟨p, 0, none⟩)] w R := by
  have K1 := Lib.hid k1; clear k1
  have K2 := Lib.hid k2; clear k2
  have HS := Lib.hid hS; clear hS
  have hp := h.lt
  obtain ⟨s1, e1⟩ : ∃ x, Hid ((rdNum 1073741824 s).2 = x) := ⟨_, rfl⟩
  obtain ⟨M0, h1⟩ : ∃ N, Hid ((rdNum 1073741824 s).1 = N) := ⟨_, rfl⟩
  have hM := rdNum_ge 1073741824 s
  rw [h1.out] at hM
  obtain ⟨M, rfl⟩ := Int.eq_ofNat_of_zero_le hM.1
  have hMb : M ≤ 1073741824 := by have := hM.2; omega
  clear hM
  have hO1 : Hid (rdBook M [] s1 = O) := by
    show _ = _
    rw [← hO.out, rdBk, h1.out, e1.out, Int.toNat_natCast]
  have hl1 : rsLen s1 ≤ 1000000 := by have a1 := rdNum_len 1073741824 s; rw [e1.out] at a1; omega
  have hal := (Off.refl Old w).alloc (.cells #[.slice none 0 0] 31)
  have hB0 : RBk (w.alloc (.cells #[.slice none 0 0] 31)) w.heap.size none 0 [] := ⟨Blk.new w _ _, World.ownsRow_nil _ _ _ _, by simp, by simp⟩
  have hr0 := h.old hal
  go_enter Try.func34, Try.ntmps34
  go_wp2_with (go_at_call 64; go_must (refine rnum_n p S s 1073741824 (M : Int) h1 _ hr0 _ ?_))
  rw [e1.out]
  intro w2 r2 o2
  have hO2 : Off (fun k => k = p) w w2 := (hal.mono (fun _ x _ => x.elim)).trans o2
  have hf0 : ∀ k, RbOwn w.heap.size none [] k → w.heap.size ≤ k := fun k hk => by
    rcases hk with rfl | hk | ⟨e, he, _⟩
    · omega
    · cases hk
    · cases he
  have hB2 : RBk w2 w.heap.size none 0 [] := hB0.off o2 (fun k hk => by have := hf0 k hk; omega)
  clear hr0 o2 hB0 hal
  go_wp2_with fail
  go_loopw [6, 7, 8, 9, 10, 11, 12, 13, 14] (fun i _ _ _ _ _ _ _ _ wr => ∃ (j : Nat) (g : Option Addr) (d : Nat) (l : List Ve) (s' : RS), i = .int .i64 j ∧ j ≤ M ∧ RBk wr w.heap.size g d l ∧ RefRd wr p S s' ∧ Hid (rdBook (M - j) (l.map Ve.x) s' = O) ∧ l.length + rsLen s' ≤ 1000000 ∧ Off (fun k => k = p) w wr ∧ (∀ k, RbOwn w.heap.size g l k → w.heap.size ≤ k)) (fun i _ _ _ _ _ _ _ _ _ => M - (intOf i).toNat)
  case atStart => exact ⟨0, none, 0, [], s1, rfl, by omega, hB2, r2, hO1, by simpa using hl1, hO2, hf0⟩
  case round =>
    clear hB2 r2 hO1 hO2 hf0
    obtain ⟨j, g, d, l, s', rfl, hj, hB, hrd, hOr, hlen, ho, hfr⟩ := hrel
    have hpl := hrd.lt
    have hzr := ho.size
    have hBl : ∀ k, RbOwn w.heap.size g l k → k < wr.heap.size := fun k hk => hB.lt hk
    have hpo : ∀ k, RbOwn w.heap.size g l k → ¬ k = p := fun k hk e => by have := hfr k hk; omega
    by_cases hlt : j < M
    · obtain ⟨n, hn⟩ : ∃ n, Hid (M - j = n + 1) := ⟨M - j - 1, by show _ = _; omega⟩
      have hn2 : Hid (M - (j + 1) = n) := by have := hn.out; show _ = _; omega
      have hvb := rdVd_b s'
      have hvl := rdVd_lt s'
      obtain ⟨X, hX⟩ : ∃ X, Hid ((rdVd s').1 = X) := ⟨_, rfl⟩
      obtain ⟨sE, eE⟩ : ∃ X, Hid ((rdVd s').2 = X) := ⟨_, rfl⟩
      rw [hX.out] at hvb
      rw [eE.out] at hvl
      have hvl := Lib.hid hvl
      have hxt : i64B X.at_ := ⟨by omega, by omega⟩
      have hst : Hid (O = if sE.isSome && !((l.map Ve.x).any (sameName X)) && (dec (l.map Ve.x) X).1.isSome then rdBook n (dec (l.map Ve.x) X).2 sE else (none, sE)) := by
        show _ = _
        rw [← hOr.out, hn.out, rdBook, hX.out, eE.out]
      clear hvb hOr
      obtain ⟨N1, h1⟩ : ∃ N, Hid ((rdNum 1073741824 s').1 = N) := ⟨_, rfl⟩
      obtain ⟨s1, e1⟩ : ∃ x, Hid ((rdNum 1073741824 s').2 = x) := ⟨_, rfl⟩
      obtain ⟨N2, h2⟩ : ∃ N, Hid ((rdNum 1073741824 s1).1 = N) := ⟨_, rfl⟩
      obtain ⟨s2, e2⟩ : ∃ x, Hid ((rdNum 1073741824 s1).2 = x) := ⟨_, rfl⟩
      obtain ⟨N3, h3⟩ : ∃ N, Hid ((rdNum 1073741824 s2).1 = N) := ⟨_, rfl⟩
      obtain ⟨s3, e3⟩ : ∃ x, Hid ((rdNum 1073741824 s2).2 = x) := ⟨_, rfl⟩
      obtain ⟨F, h4⟩ : ∃ N, Hid ((rdFlag s3).1 = N) := ⟨_, rfl⟩
      obtain ⟨s4, e4⟩ : ∃ x, Hid ((rdFlag s3).2 = x) := ⟨_, rfl⟩
      obtain ⟨Q0, h5⟩ : ∃ N, Hid ((rdNum 6 s4).1 = N) := ⟨_, rfl⟩
      obtain ⟨s5, e5⟩ : ∃ x, Hid ((rdNum 6 s4).2 = x) := ⟨_, rfl⟩
      have hQ := rdNum_ge 6 s4
      rw [h5.out] at hQ
      obtain ⟨Q, rfl⟩ := Int.eq_ofNat_of_zero_le hQ.1
      have hQ6 : Q ≤ 6 := by have := hQ.2; omega
      clear hQ
      have hvd : Hid (X = ⟨N1, N2, F, N3, (rdRds Q s5).1⟩ ∧ sE = (rdRds Q s5).2) := by
        have hvd0 : rdVd s' = (⟨N1, N2, F, N3, (rdRds Q s5).1⟩, (rdRds Q s5).2) := by
          simp only [rdVd, h1.out, e1.out, h2.out, e2.out, h3.out, e3.out, h4.out, e4.out, h5.out, e5.out, Int.toNat_natCast]
        exact ⟨by rw [← hX.out, hvd0], by rw [← eE.out, hvd0]⟩
      have hl5 : rsLen s5 ≤ 1000000 := by
        have a1 := rdNum_len 1073741824 s'
        have a2 := rdNum_len 1073741824 s1
        have a3 := rdNum_len 1073741824 s2
        have a4 := rdFlag_len s3
        have a5 := rdNum_len 6 s4
        rw [e1.out] at a1; rw [e2.out] at a2; rw [e3.out] at a3; rw [e4.out] at a4; rw [e5.out] at a5
        omega
      have hbX := Blk.new wr #[.int .i64 0, .int .i64 0, .bool false, .int .i64 0, .slice none 0 0] 41
      have hal := (Off.refl Old wr).alloc (.cells #[.int .i64 0, .int .i64 0, .bool false, .int .i64 0, .slice none 0 0] 41)
      have hA := hrd.old hal
      have hBA := hB.old hal
      have hoA := ho.trans (hal.mono (S' := fun k => k = p) (fun _ x _ => x.elim))
      have hpX2 : ¬ wr.heap.size = p := by omega
      have hpX3 : ¬ p = wr.heap.size := by omega
      have hSX : ∀ k, k = wr.heap.size → S k := fun k hk => HS.out k (by omega)
      have hBX : ∀ k, RbOwn w.heap.size g l k → ¬ k = wr.heap.size := fun k hk e => by have := hBl k hk; omega
      go_wp2_with (go_at_call 64; go_must (refine rnum_n p S s' 1073741824 N1 h1 _ hA _ ?_))
      rw [e1.out]
      intro w1 r1 o1
      have b1 := hbX.off o1 hpX2
      have q1 := hBA.off o1 hpo
      have o1 := hoA.trans o1
      have c1 := b1.cell (i := 0) rfl
      have f1 := b1.free 0
      have x1 := Off.setCell (S := fun k => k = wr.heap.size) (Off.refl _ w1) (p := ⟨wr.heap.size, 0, none⟩) (fun _ => rfl) (.int .i64 N1)
      have b1 := b1.set 0 (.int .i64 N1)
      have q1 := q1.off x1 hBX
      have o1 := o1.step x1 (by intro i hi hl; omega)
      have r1 := r1.keep x1 hpX3 hSX
      clear hbX hoA hA hBA hal
      go_wp2_with (go_at_call 64; go_must (refine rnum_n p S s1 1073741824 N2 h2 _ r1 _ ?_))
      rw [e2.out]
      intro w2 r2 o2
      have b2 := b1.off o2 hpX2
      have q2 := q1.off o2 hpo
      have o2 := o1.trans o2
      have c2 := b2.cell (i := 1) rfl
      have f2 := b2.free 1
      have x2 := Off.setCell (S := fun k => k = wr.heap.size) (Off.refl _ w2) (p := ⟨wr.heap.size, 1, none⟩) (fun _ => rfl) (.int .i64 N2)
      have b2 := b2.set 1 (.int .i64 N2)
      have q2 := q2.off x2 hBX
      have o2 := o2.step x2 (by intro i hi hl; omega)
      have r2 := r2.keep x2 hpX3 hSX
      clear c1 f1 x1 b1 q1 o1 r1
      go_wp2_with (go_at_call 64; go_must (refine rnum_n p S s2 1073741824 N3 h3 _ r2 _ ?_))
      rw [e3.out]
      intro w3 r3 o3
      have b3 := b2.off o3 hpX2
      have q3 := q2.off o3 hpo
      have o3 := o2.trans o3
      have c3 := b3.cell (i := 3) rfl
      have f3 := b3.free 3
      have x3 := Off.setCell (S := fun k => k = wr.heap.size) (Off.refl _ w3) (p := ⟨wr.heap.size, 3, none⟩) (fun _ => rfl) (.int .i64 N3)
      have b3 := b3.set 3 (.int .i64 N3)
      have q3 := q3.off x3 hBX
      have o3 := o3.step x3 (by intro i hi hl; omega)
      have r3 := r3.keep x3 hpX3 hSX
      clear c2 f2 x2 b2 q2 o2 r2
      go_wp2_with (go_at_call 65; go_must (refine rflag_c p S s3 _ r3 _ ?_))
      rw [e4.out, h4.out]
      intro w4 r4 o4
      have b4 := b3.off o4 hpX2
      have q4 := q3.off o4 hpo
      have o4 := o3.trans o4
      have c4 := b4.cell (i := 2) rfl
      have f4 := b4.free 2
      have x4 := Off.setCell (S := fun k => k = wr.heap.size) (Off.refl _ w4) (p := ⟨wr.heap.size, 2, none⟩) (fun _ => rfl) (.bool F)
      have b4 := b4.set 2 (.bool F)
      have q4 := q4.off x4 hBX
      have o4 := o4.step x4 (by intro i hi hl; omega)
      have r4 := r4.keep x4 hpX3 hSX
      clear c3 f3 x3 b3 q3 o3 r3
      go_wp2_with (go_at_call 64; go_must (refine rnum_n p S s4 6 (Q : Int) h5 _ r4 _ ?_))
      rw [e5.out]
      intro w5 r5 o5
      have b5 := Lib.hid (b4.off o5 hpX2)
      have q5 := q4.off o5 hpo
      have o5f := o4.trans o5
      clear o5
      simp only [List.set_cons_succ, List.set_cons_zero] at b5
      clear c4 f4 x4 b4 q4 o4 r4
      obtain ⟨i0, hi, hz0, hz1, hz2⟩ := info_parts rdxinfo
      go_wp2_with fail
      obtain ⟨wo, rfl⟩ : ∃ wo : World, wo = wr := ⟨_, rfl⟩
      go_loopw [9, 10] (fun i _ wq => ∃ (t : Nat) (a : Option Addr) (c : Nat) (L : List Rdx), i = .int .i64 t ∧ t ≤ Q ∧ Hid (L = (rdRds t s5).1) ∧ RefRd wq p S (rdRds t s5).2 ∧ Blk wq wo.heap.size [.int .i64 N1, .int .i64 N2, .bool F, .int .i64 N3, .slice a t c] 41 ∧ RBk wq w.heap.size g d l ∧ wq.ownsRow 0 83 3 (.slice a t c) t (rdxs L) ∧ Off (fun k => k = p) w wq ∧ (∀ z, a = some z → wo.heap.size < z.block) ∧ wo.heap.size ≤ wq.heap.size) (fun i _ _ => Q - (intOf i).toNat)
      case atStart => exact ⟨0, none, 0, [], rfl, by omega, rfl, r5, b5.out, q5, World.ownsRow_nil _ _ _ _, o5f, by simp, by have := b5.out.lt; omega⟩
      case round =>
        clear b5 q5 o5f r5
        obtain ⟨t, a, c, L, rfl, hj', hL, hr, hb, hq, hown, hoq, hfq, hzq⟩ := hrel
        by_cases hlt' : t < Q
        · obtain ⟨sv, es⟩ : ∃ x, Hid ((rdRds t s5).2 = x) := ⟨_, rfl⟩
          rw [es.out] at hr
          have hls : rsLen sv ≤ 1000000 := by have := rdRds_len t s5; rw [es.out] at this; omega
          obtain ⟨K, hK⟩ : ∃ x, Hid ((rdRow 20 sv).1 = x) := ⟨_, rfl⟩
          obtain ⟨s6, e6⟩ : ∃ x, Hid ((rdRow 20 sv).2 = x) := ⟨_, rfl⟩
          obtain ⟨B, hBo⟩ : ∃ x, Hid ((rdFlag s6).1 = x) := ⟨_, rfl⟩
          obtain ⟨s7, e7⟩ : ∃ x, Hid ((rdFlag s6).2 = x) := ⟨_, rfl⟩
          obtain ⟨V, hVa⟩ : ∃ x, Hid ((rdRow 20 s7).1 = x) := ⟨_, rfl⟩
          obtain ⟨s8, e8⟩ : ∃ x, Hid ((rdRow 20 s7).2 = x) := ⟨_, rfl⟩
          have hx : Hid (rdRdx sv = (⟨⟨K.toArray⟩, B, ⟨V.toArray⟩⟩, s8)) := by
            show _ = _
            simp only [rdRdx, e6.out, e7.out, e8.out, hK.out, hBo.out, hVa.out]
          have hl7 : rsLen s7 ≤ 1000000 := by
            have a1 := rdRow_len 20 sv
            have a2 := rdFlag_len s6
            rw [e6.out] at a1; rw [e7.out] at a2; omega
          have hsn : Hid (rdRds (t + 1) s5 = (L ++ [⟨⟨K.toArray⟩, B, ⟨V.toArray⟩⟩], s8)) := by
            show _ = _
            rw [rdRds_snoc, ← hL.out, es.out, hx.out]
          have hpr := hr.lt
          have hXl := hb.lt
          have hy := Blk.new wr #[.string ⟨#[]⟩, .bool false, .string ⟨#[]⟩] 83
          have hal := (Off.refl Old wr).alloc (.cells #[.string ⟨#[]⟩, .bool false, .string ⟨#[]⟩] 83)
          have hr0 := hr.old hal
          have hb0 := hb.old hal
          have hq0 := hq.old hal
          have hown0 := own_off hown hal (fun _ _ x => x)
          have ho0 := hoq.trans (hal.mono (S' := fun k => k = p) (fun _ x _ => x.elim))
          have hYp : ¬ wr.heap.size = p := by omega
          have hpY : ¬ p = wr.heap.size := by omega
          have hSY : ∀ k, k = wr.heap.size → S k := fun k hk => HS.out k (by have := hoq.size; omega)
          have hBY : ∀ k, RbOwn w.heap.size g l k → ¬ k = wr.heap.size := fun k hk e => by have := hBl k hk; omega
          have hXY : ¬ wo.heap.size = wr.heap.size := by omega
          have hoY : ∀ k, (Value.slice a t c).ownBlock = some k → ¬ k = wr.heap.size := fun k hk e => by have := own_lt hown hk; omega
          have hop : ∀ k, (Value.slice a t c).ownBlock = some k → ¬ k = p := fun k hk e => by
            cases a with
            | none => simp [Value.ownBlock] at hk
            | some z => simp [Value.ownBlock] at hk; have := hfq z rfl; omega
          go_wp2_with (go_at_call 66; go_must (refine rrow_c p S sv 20 _ hr0 (by omega) _ ?_))
          rw [e6.out, hK.out]
          intro w1 gk nk dk nk1 r1 o1 _
          have hcv : (convert 57 9 (.slice gk nk dk)).run Try.prog w1 = .ok (.string ⟨K.toArray⟩) w1 := run_string_of_sl Try.underlying57 Try.underlying5 Try.underlying9 (by have := nk1.1; simpa using this.symm) (own_sl2 nk1).2.2
          have y1 := hy.off o1 hYp
          have c1 := y1.cell (i := 0) rfl
          have f1 := y1.free 0
          have x1 := Off.setCell (S := fun k => k = wr.heap.size) (Off.refl _ w1) (p := ⟨wr.heap.size, 0, none⟩) (fun _ => rfl) (.string ⟨K.toArray⟩)
          have y1 := y1.set 0 (.string ⟨K.toArray⟩)
          have b1 := (hb0.off o1 hpX2).off x1 hXY
          have q1 := (hq0.off o1 hpo).off x1 hBY
          have n1 := own_off (own_off hown0 o1 hop) x1 hoY
          have o1 := (ho0.trans o1).step x1 (by intro i hi hl; have := hoq.size; omega)
          have r1 := r1.keep x1 hpY hSY
          clear hr0 hb0 hq0 hown0 ho0 hy x1 nk1
          go_wp2_with (go_at_call 65; go_must (refine rflag_c p S s6 _ r1 _ ?_))
          rw [e7.out, hBo.out]
          intro w2 r2 o2
          have y2 := y1.off o2 hYp
          have c2 := y2.cell (i := 1) rfl
          have f2 := y2.free 1
          have x2 := Off.setCell (S := fun k => k = wr.heap.size) (Off.refl _ w2) (p := ⟨wr.heap.size, 1, none⟩) (fun _ => rfl) (.bool B)
          have y2 := y2.set 1 (.bool B)
          have b2 := (b1.off o2 hpX2).off x2 hXY
          have q2 := (q1.off o2 hpo).off x2 hBY
          have n2 := own_off (own_off n1 o2 hop) x2 hoY
          have o2 := (o1.trans o2).step x2 (by intro i hi hl; have := hoq.size; omega)
          have r2 := r2.keep x2 hpY hSY
          clear c1 f1 y1 b1 q1 n1 o1 r1 x2 hcv
          go_wp2_with (go_at_call 66; go_must (refine rrow_c p S s7 20 _ r2 (by omega) _ ?_))
          rw [e8.out, hVa.out]
          intro w3 gv nv dv nv3 r3 o3 _
          have hcv : (convert 57 9 (.slice gv nv dv)).run Try.prog w3 = .ok (.string ⟨V.toArray⟩) w3 := run_string_of_sl Try.underlying57 Try.underlying5 Try.underlying9 (by have := nv3.1; simpa using this.symm) (own_sl2 nv3).2.2
          have y3 := y2.off o3 hYp
          have c3 := y3.cell (i := 2) rfl
          have c31 := y3.cell (i := 1) rfl
          have c30 := y3.cell (i := 0) rfl
          have f3 := y3.free 2
          have bX := b2.off o3 hpX2
          have cX := bX.cell (i := 4) rfl
          clear bX
          have x3 := Off.setCell (S := fun k => k = wr.heap.size) (Off.refl _ w3) (p := ⟨wr.heap.size, 2, none⟩) (fun _ => rfl) (.string ⟨V.toArray⟩)
          have y3 := y3.set 2 (.string ⟨V.toArray⟩)
          have b3 := (b2.off o3 hpX2).off x3 hXY
          have q3 := (q2.off o3 hpo).off x3 hBY
          have n3 := own_off (own_off n2 o3 hop) x3 hoY
          have o3 := (o2.trans o3).step x3 (by intro i hi hl; have := hoq.size; omega)
          have r3 := r3.keep x3 hpY hSY
          clear c2 f2 y2 b2 q2 n2 o2 r2 x3 nv3
          simp only [List.set_cons_succ, List.set_cons_zero] at y3
          have hXY2 : ¬ wr.heap.size = wo.heap.size := by omega
          have hnw : Sl ((w3.setCell ⟨wr.heap.size, 2, none⟩ (.string ⟨V.toArray⟩)).alloc (.cells #[.string ⟨K.toArray⟩, .bool B, .string ⟨V.toArray⟩] 83)) (some ⟨w3.heap.size, 0, none⟩) (rdxs [⟨⟨K.toArray⟩, B, ⟨V.toArray⟩⟩]) := by
            have h0 := Sl.new (w3.setCell ⟨wr.heap.size, 2, none⟩ (.string ⟨V.toArray⟩)) (rdxs [⟨⟨K.toArray⟩, B, ⟨V.toArray⟩⟩]) 83
            rw [show (w3.setCell ⟨wr.heap.size, 2, none⟩ (.string ⟨V.toArray⟩)).heap.size = w3.heap.size by simp [World.setCell]] at h0
            exact h0
          have hz3 : wr.heap.size < (w3.setCell ⟨wr.heap.size, 2, none⟩ (.string ⟨V.toArray⟩)).heap.size := y3.lt
          go_wp2_with (at_builtin; go_must (refine wpList_append_sl rfl (.tmp 57) (.tmp 59) 36 rfl 83 i0 (.agg #[.string ⟨#[]⟩, .bool false, .string ⟨#[]⟩]) 3 40 Try.underlying36 hi hz0 hz1 hz2 rfl (by decide) (.slice a t c) t (rdxs L) rfl (n3.alloc _) _ 1 1 (rdxs [⟨⟨K.toArray⟩, B, ⟨V.toArray⟩⟩]) rfl rfl hnw (rdxs_oneCell _) (by omega) (by omega) ?_))
          intro g4 d4 w4 hg0
          have hg := hg0.of_alloc
          have hgO : Off (fun k => (Value.slice a t c).ownBlock = some k) (w3.setCell ⟨wr.heap.size, 2, none⟩ (.string ⟨V.toArray⟩)) w4 := hg.off
          have hge : ∀ k, (Value.slice a t c).ownBlock = some k → wo.heap.size < k := fun k hk => by
            cases a with
            | none => simp [Value.ownBlock] at hk
            | some z => simp [Value.ownBlock] at hk; have := hfq z rfl; omega
          have b4 := b3.off hgO (fun hk => by have := hge _ hk; omega)
          have q4 := q3.off hgO (fun k hk hk2 => by have := hge _ hk2; have := hBl k hk; omega)
          have r4 := r3.keep hgO (fun hk => by have := hge _ hk; omega) (fun k hk => HS.out k (by have := hge _ hk; omega))
          have o4 : Off (fun k => k = p) w w4 := o3.step hgO (fun i hi hl => by have := hge _ hi; omega)
          have hfr4 : ∀ z, g4 = some z → wo.heap.size < z.block := fun z hz => by
            subst hz
            rcases hg.mov z.block rfl with h1 | h1
            · exact hge _ h1
            · have := b3.lt; omega
          have c4 := b4.cell (i := 4) rfl
          have f4 := b4.free 4
          have x4 := Off.setCell (S := fun k => k = wo.heap.size) (Off.refl _ w4) (p := ⟨wo.heap.size, 4, none⟩) (fun _ => rfl) (.slice g4 (t + 1) d4)
          have b5 := b4.set 4 (.slice g4 (t + 1) d4)
          have q5 := q4.off x4 hBX
          have r5 := r4.keep x4 hpX3 hSX
          have o5 := o4.step x4 (by intro i hi hl; omega)
          have n5 := own_off hg.own x4 (fun k hk e => by
            rw [own_block_eq'] at hk
            obtain ⟨z, hz, rfl⟩ := Option.map_eq_some_iff.1 hk
            have := hfr4 z hz; omega)
          have n5 : (w4.setCell ⟨wo.heap.size, 4, none⟩ (.slice g4 (t + 1) d4)).ownsRow 0 83 3 (.slice g4 (t + 1) d4) (t + 1) (rdxs (L ++ [⟨⟨K.toArray⟩, B, ⟨V.toArray⟩⟩])) := by rw [rdxs_append]; exact n5
          have hzz := b5.lt
          clear c3 c31 c30 f3 cX b3 q3 n3 o3 r3 hnw hg hg0 hgO y3 b4 q4 r4 o4 hcv
          go_wp2_with fail
          go_roundw
          case rel => exact ⟨t + 1, g4, d4, _, by go_num, by omega, by show _ = _; rw [hsn.out], by rw [hsn.out]; exact r5, b5, q5, n5, o5, hfr4, by omega⟩
          case measure => simp [intOf]; omega
        · obtain rfl : t = Q := by omega
          obtain ⟨hX2, hE2⟩ := hvd.out
          have hln : Hid (X.reads.length = t) := by show _ = _; rw [hX2]; exact rdRds_length t s5
          have hr : RefRd wr p S sE := by rw [hE2]; exact hr
          have hb : Blk wr wo.heap.size [.int .i64 X.c, .int .i64 X.n, .bool X.commit, .int .i64 X.at_, .slice a t c] 41 := by rw [hX2]; exact hb
          have hvx : Vok wr ⟨X, a, c⟩ := by
            refine ⟨?_, ?_, ?_⟩
            · show Sl wr a (rdxs X.reads)
              rw [hX2]
              have h1 := (own_sl2 hown).2.2
              rw [hL.out] at h1
              exact h1
            · show ∀ y ∈ X.reads, y.fits
              rw [hX2]; exact rdRds_fits t s5 (by omega)
            · show X.reads.length ≤ _
              rw [hln.out]; omega
          have HB := Lib.hid hb
          have b0 := hb.cell (i := 0) rfl
          have b1 := hb.cell (i := 1) rfl
          have hlm : l.length ≤ 1000000 := by omega
          have hap : X.reads ≠ [] → ∀ z, a = some z → ¬ RbS w.heap.size g z.block := fun _ z hz hS => by
            have h1 := hfq z hz
            have h2 := hBl z.block (by rcases hS with h | h; exact .inl h; exact .inr (.inl h))
            omega
          clear hX2 hE2 hvd hL hown h1 e1 h2 e2 h3 e3 h4 e4 h5 e5 hb
          go_wp2_with (go_at_call 23; go_must (refine rOf_c w.heap.size g d l X _ hq hlm _ ?_ ?_))
          · intro y hf w1 a1 m1 d1 v1 hm1 o1 f1
            unfold Found at hf
            unfold vdV
            have hON : Hid (O = (none, sE)) := by
              show _ = _; rw [hst.out]
              have : (l.map Ve.x).any (sameName X) = true := List.any_eq_true.2 ⟨y, List.mem_of_find?_eq_some hf, List.find?_some hf⟩
              rw [this]; simp
            have hON2 := hON.out
            have hal1 : Off Old w1 (w1.alloc (.cells #[.int .i64 y.c, .int .i64 y.n, .bool y.commit, .int .i64 y.at_, .slice a1 m1 d1] 41)) := (Off.refl _ _).alloc _
            have HF := K1.out (by rw [hON2]) _ (by rw [hON2]; exact (hr.old o1).old hal1) ((hoq.trans (o1.mono (fun _ x _ => x.elim))).trans (hal1.mono (fun _ x _ => x.elim)))
            have cf := (hr.old o1).failed
            have hpl1 := (hr.old o1).lt
            clear K1 K2 hON2 hf b0 b1
            cases sE with
            | none =>
              simp only [Option.isSome_none, Bool.not_false] at cf
              go_wp2_with fail
              exact HF
            | some lx =>
              simp only [Option.isSome_some, Bool.not_true] at cf
              go_wp2_with fail
              exact HF
          · intro hf w1 o1
            unfold Found at hf
            unfold vd0
            have hfd : Hid ((l.map Ve.x).any (sameName X) = false) := by
              show _ = _
              exact List.any_eq_false.2 fun y hy => by simpa using List.find?_eq_none.1 hf y hy
            have hal1 : Off Old w1 (w1.alloc (.cells #[.int .i64 0, .int .i64 0, .bool false, .int .i64 0, .slice none 0 0] 41)) := (Off.refl _ _).alloc _
            have hr1 := (hr.old o1).old hal1
            have hq1 := (hq.old o1).old hal1
            have hv1 := (hvx.old o1).old hal1
            have hO1 := (hoq.trans (o1.mono (S' := fun k => k = p) (fun _ x _ => x.elim))).trans (hal1.mono (S' := fun k => k = p) (fun _ x _ => x.elim))
            have hb1 := HB.out.old o1
            have cf := (hr.old o1).failed
            have hpl1 := (hr.old o1).lt
            clear b0 b1 hf
            cases hsE : sE.isSome with
            | false =>
              have hON : Hid (O = (none, sE)) := by
                show _ = _; rw [hst.out, hsE]; simp
              have hON2 := hON.out
              have HF := K1.out (by rw [hON2]) _ (by rw [hON2]; exact hr1) hO1
              rw [hsE] at cf
              simp only [Bool.not_false] at cf
              clear K1 K2 hON2 hsE
              go_wp2_with fail
              exact HF
            | true =>
              rw [hsE] at cf
              simp only [Bool.not_true] at cf
              have hsE2 := Lib.hid hsE
              clear hsE
              have b0 := hb1.cell (i := 0) rfl
              have b1 := hb1.cell (i := 1) rfl
              have b2 := hb1.cell (i := 2) rfl
              have b3 := hb1.cell (i := 3) rfl
              have b4 := hb1.cell (i := 4) rfl
              have hbl := hb1.lt
              go_wp2_with (go_at_call 16; go_must (refine rDecide_c w.heap.size g d l ⟨X, a, c⟩ t hln _ hq1 hv1 hap hxt hlm _ ?_))
              intro w5 g5 d5 l5 a5 m5 c5 hB5 hl5 hv5 hm5 o5 hmv5 hfr5 hen5
              unfold vdV
              obtain ⟨E, hE⟩ : ∃ E, Hid ((dec (l.map Ve.x) X).1.isSome = E) := ⟨_, rfl⟩
              have hSge : ∀ k, RbS w.heap.size g k → w.heap.size ≤ k := fun k hS => hfr k (by rcases hS with h | h; exact .inl h; exact .inr (.inl h))
              have hr5 := hr1.keep o5 (fun hS => by have := hSge _ hS; omega) (fun k hS => HS.out k (hSge k hS))
              have hO5 : Off (fun k => k = p) w w5 := hO1.step o5 (fun i hi hl => by have := hSge _ hi; omega)
              have hal5 : Off Old w5 (w5.alloc (.cells #[.int .i64 (decV (l.map Ve.x) X).c, .int .i64 (decV (l.map Ve.x) X).n, .bool (decV (l.map Ve.x) X).commit, .int .i64 (decV (l.map Ve.x) X).at_, .slice a5 m5 c5] 41)) := (Off.refl _ _).alloc _
              have hz1 := hO1.size
              cases E with
              | false =>
                have hee : decE (l.map Ve.x) X = 2 := by simp [decE, hE.out]
                have hON : Hid (O = (none, sE)) := by
                  show _ = _; rw [hst.out, hE.out]; simp
                have hON2 := hON.out
                have HF := K1.out (by rw [hON2]) _ (by rw [hON2]; exact hr5.old hal5) (hO5.trans (hal5.mono (fun _ x _ => x.elim)))
                rw [hee]
                clear K1 K2 hON2 hee b0 b1 b2 b3 b4 cf
                go_wp2_with fail
                exact HF
              | true =>
                have hee : decE (l.map Ve.x) X = 0 := by simp [decE, hE.out]
                have hOR : Hid (rdBook (M - (j + 1)) (l5.map Ve.x) sE = O) := by
                  show _ = _; rw [hst.out, hE.out, hsE2.out, hfd.out, hn2.out, hl5.out]; simp
                have hlen5 : l5.length + rsLen sE ≤ 1000000 := by
                  have h1 := dec_len (l.map Ve.x) X
                  have h2 := congrArg List.length hl5.out
                  simp only [List.length_map] at h1 h2
                  have h3 := hvl.out hsE2.out
                  omega
                have hfr6 : ∀ k, RbOwn w.heap.size g5 l5 k → w.heap.size ≤ k := fun k hk => by
                  rcases hk with h1 | h1 | ⟨f, hf, hne, h1⟩
                  · omega
                  · rcases hmv5 k h1 with h2 | h2
                    · exact hfr k (.inr (.inl h2))
                    · omega
                  · rcases hen5 f hf with h2 | h2
                    · exact hfr k (.inr (.inr ⟨f, h2, hne, h1⟩))
                    · obtain ⟨z, hz, rfl⟩ := Option.map_eq_some_iff.1 h1
                      have := h2 z hz; omega
                rw [hee]
                have hB6 := hB5.old hal5
                have hr6 := hr5.old hal5
                have hO6 := hO5.trans (hal5.mono (S' := fun k => k = p) (fun _ x _ => x.elim))
                clear hee b0 b1 b2 b3 b4 cf
                go_wp2_with fail
                go_roundw
                case rel => exact ⟨j + 1, g5, d5, l5, sE, by go_num, by omega, hB6, hr6, hOR, hlen5, hO6, hfr6⟩
                case measure => simp [intOf]; omega
    · obtain rfl : j = M := by omega
      have hOe : Hid (O = (if s'.isSome then some (l.map Ve.x) else none, s')) := by
        show _ = _; rw [← hOr.out, Nat.sub_self]; rfl
      clear hOr
      have cf := hrd.failed
      cases hs' : s'.isSome with
      | false =>
        have hON2 := hOe.out
        rw [hs'] at hON2 cf
        have HF := K1.out (by rw [hON2]; rfl) wr (by rw [hON2]; exact hrd) ho
        clear K1 K2 hON2 hs'
        simp only [Bool.not_false] at cf
        go_wp2_with fail
        exact HF
      | true =>
        have hON2 := hOe.out
        rw [hs'] at hON2 cf
        have HF := K2.out (l.map Ve.x) (by rw [hON2]; rfl) wr w.heap.size g d l hB rfl (by rw [hON2]; exact hrd) ho hfr
        clear K1 K2 hON2 hs'
        simp only [Bool.not_true] at cf
        go_wp2_with fail
        exact HF
end Go.Proofs.Ytahpfcfecghpmaa
