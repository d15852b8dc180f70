/- The document's reader: Flag, Row, End. -/
import Derived.Test.YtahpfcfecghpmaaRef02b
import Derived.Test.YtahpfcfecghpmaaRefW
import Derived.Test.YtahpfcfecghpmaaRead2
namespace Go.Proofs.Ytahpfcfecghpmaa
open Go.RowKit

theorem RefRd.failed {w : World} {m : Nat} {S : Nat → Prop} {s : RS} (h : RefRd w m S s) : w.cell? ⟨m, 1, none⟩ = some (.bool !s.isSome) := by
  cases s with
  | none => exact Blk.cell (i := 1) h.2 rfl
  | some l => obtain ⟨_, a, c, hb, _⟩ := h; exact hb.cell (i := 1) rfl
theorem RefRd.left {w : World} {m : Nat} {S : Nat → Prop} {s : RS} (h : RefRd w m S s) : ∃ a c, w.cell? ⟨m, 0, none⟩ = some (.slice a (rdLeft s) c) := by
  cases s with
  | none => exact ⟨none, 0, Blk.cell (i := 0) h.2 rfl⟩
  | some l => obtain ⟨_, a, c, hb, _⟩ := h; exact ⟨a, c, hb.cell (i := 0) rfl⟩
/-- what is left is cut ahead: the cases of the room. -/
theorem RefRd.cut {w : World} {m : Nat} {S : Nat → Prop} {b o c : Nat} {l : List UInt8} {n : Nat} (h0 : S m) (hb : Blk w m [.slice (some ⟨b, o, none⟩) l.length c, .bool false] 73) (hs : Sl w (some ⟨b, o, none⟩) (bys l)) (hS : ¬ S b) (h1 : l.length ≤ c) (h2 : c ≤ 9223372036854775807) (hn : n ≤ l.length) :
    RefRd (w.setCell ⟨m, 0, none⟩ (.slice (some ⟨b, o + n, none⟩) (l.length - n) (c - n))) m S (some (l.drop n)) := by
  have hs1 := hs.drop n
  rw [show (bys l).drop n = bys (l.drop n) by simp [bys]] at hs1
  have hOff := (Off.refl (fun k => k = m) w).setCell (p := ⟨m, 0, none⟩) (fun _ => rfl) (.slice (some ⟨b, o + n, none⟩) (l.length - n) (c - n))
  refine ⟨h0, some ⟨b, o + n, none⟩, c - n, ?_, ?_, ?_, ?_, ?_, ?_⟩
  · have := hb.set 0 (.slice (some ⟨b, o + n, none⟩) (l.length - n) (c - n))
    rw [show (l.drop n).length = l.length - n by simp]; exact this
  · exact hs1.off hOff (by rintro q ⟨rfl⟩ _; exact fun e => hS (by rw [show b = m from e]; exact h0))
  · rintro q ⟨rfl⟩ _; exact hS
  · simp; omega
  · omega
  · simp
theorem RefRd.cut0 {w : World} {m : Nat} {S : Nat → Prop} {a : Option Addr} {c d : Nat} {l : List UInt8} (h0 : S m) (hb : Blk w m [.slice a c d, .bool false] 73) {b o n : Nat} (hl : l.length ≤ n) :
    RefRd (w.setCell ⟨m, 0, none⟩ (.slice (some ⟨b, o, none⟩) 0 0)) m S (some (l.drop n)) := by
  rw [List.drop_eq_nil_of_le hl]
  exact ⟨h0, some ⟨b, o, none⟩, 0, hb.set 0 _, Sl.nil _ _, by simp, by simp, by omega, by simp⟩
theorem RefRd.cutg {w : World} {m : Nat} {S : Nat → Prop} {a aD : Option Addr} {c : Nat} {l : List UInt8} {n : Nat} (h0 : S m) (hb : Blk w m [.slice a l.length c, .bool false] 73) (hs : Sl w a (bys l)) (hS : ∀ q, a = some q → l ≠ [] → ¬ S q.block) (h1 : l.length ≤ c) (h2 : c ≤ 9223372036854775807) (h3 : a = none → c = 0) (hn : n ≤ l.length)
    (hD : aD = if c = n then a else a.map (fun y => y.add n)) : RefRd (w.setCell ⟨m, 0, none⟩ (.slice aD (l.length - n) (c - n))) m S (some (l.drop n)) := by
  have hbs := hb.set 0 (.slice aD (l.length - n) (c - n))
  have hd : (l.drop n).length = l.length - n := by simp
  have hbs : Blk (w.setCell ⟨m, 0, none⟩ (.slice aD (l.length - n) (c - n))) m [.slice aD (l.drop n).length (c - n), .bool false] 73 := by rw [hd]; exact hbs
  have hnil : l.drop n = [] → RefRd (w.setCell ⟨m, 0, none⟩ (.slice aD (l.length - n) (c - n))) m S (some (l.drop n)) := fun e => by
    have h9 : l.length ≤ n := by have := hd; rw [e] at this; simp at this; omega
    refine ⟨h0, aD, c - n, hbs, by rw [e]; exact Sl.nil _ _, fun q _ h => absurd e h, by rw [e]; simp, by omega, fun hn0 => ?_⟩
    have : a = none := by
      rw [hD] at hn0
      split at hn0
      · exact hn0
      · simpa using hn0
    have := h3 this; omega
  by_cases hcn : c = n
  · exact hnil (List.drop_eq_nil_of_le (by omega))
  · rw [if_neg hcn] at hD
    by_cases hl0 : l = []
    · exact hnil (by rw [hl0]; simp)
    · cases a with
      | none => have := h3 rfl; have : l.length = 0 := by omega
                exact absurd (List.eq_nil_of_length_eq_zero this) hl0
      | some q =>
        obtain ⟨b, o, hbase, _⟩ := hs.base
        have hq := hbase (by intro h; apply hl0; have h2 := bys_length l; rw [h] at h2; exact List.eq_nil_of_length_eq_zero (by simpa using h2.symm))
        cases hq
        rw [show (Option.map (fun y : Addr => y.add n) (some ⟨b, o, none⟩)) = some ⟨b, o + n, none⟩ by simp [Addr.add_lit]] at hD
        subst hD
        exact RefRd.cut h0 hb hs (hS _ rfl hl0) h1 h2 hn
set_option maxHeartbeats 1000000 in
theorem rflag_c (m : Nat) (S : Nat → Prop) (s : RS) (w : World) (h : RefRd w m S s) (R : Ending → World → Prop)
    (k : ∀ w', RefRd w' m S (rdFlag s).2 → Off (fun k => k = m) w w' → R (.returned (.bool (rdFlag s).1)) w') :
    Calls Try.prog 65 #[.pointer (some ⟨m, 0, none⟩)] w R := by
  have c1 := h.failed
  cases s with
  | none =>
    have HF := k w h (Off.refl _ _)
    clear k
    go_enter Try.func65, Try.ntmps65
    go_wp2_with fail
    exact HF
  | some l =>
    have HK := Lib.hid k; clear k
    have H := Lib.hid h
    obtain ⟨h0, a, c, hb, hs, hn, h1, h2, h3⟩ := h
    have c0 := hb.cell (i := 0) rfl
    have f0 := hb.free 0
    cases l with
    | nil =>
      go_enter Try.func65, Try.ntmps65
      go_wp2_with (go_at_call 86; refine rfail_c m S _ _ H.out _ ?_)
      intro w1 h5 h6
      have HF := HK.out w1 h5 h6
      clear HK
      go_wp2_with fail
      exact HF
    | cons x xs =>
      obtain ⟨b, o, rfl, cb⟩ := hs.head
      have hnS : ¬ S b := hn _ rfl (by simp)
      have hpos : 0 < (x :: xs).length := by simp
      have hdrop : Hid ((x :: xs).drop 1 = xs) := rfl
      by_cases hbig : 1 < x.toNat
      · have hv : rdFlag (some (x :: xs)) = (false, none) := by simp [rdFlag, hbig]
        rw [hv] at HK
        clear hv
        generalize (x :: xs).length = n at *
        go_enter Try.func65, Try.ntmps65
        go_wp2_with (go_at_call 86; refine rfail_c m S _ _ H.out _ ?_)
        intro w1 h5 h6
        have HF := HK.out w1 h5 h6
        clear HK
        go_wp2_with fail
        exact HF
      · have hv : rdFlag (some (x :: xs)) = ((x.toNat : Int) == 1, some xs) := by simp [rdFlag, hbig]
        rw [hv] at HK
        clear hv
        by_cases hc1 : c = 1
        · subst hc1
          have hcut : ∀ b o, RefRd (w.setCell ⟨m, 0, none⟩ (.slice (some ⟨b, o, none⟩) 0 0)) m S (some xs) := fun b' o' => by
            have := RefRd.cut0 (b := b') (o := o') (l := x :: xs) (n := 1) h0 hb (by simp at h1 ⊢; omega)
            rwa [hdrop.out] at this
          have HF := fun b o => HK.out _ (hcut b o) ((Off.refl (fun k => k = m) w).setCell (p := ⟨m, 0, none⟩) (fun _ => rfl) _)
          clear HK
          have HF := Lib.hid HF
          have hl1 : (x :: xs).length = 1 := by simp at h1 ⊢; omega
          rw [hl1] at c0
          clear hpos hl1 hcut
          go_enter Try.func65, Try.ntmps65
          go_wp2_with fail
          exact HF.out _ _
        · have HF := HK.out _ (by have := RefRd.cut (n := 1) h0 hb hs hnS h1 h2 (by simp); rwa [hdrop.out] at this) ((Off.refl (fun k => k = m) w).setCell (p := ⟨m, 0, none⟩) (fun _ => rfl) _)
          clear HK
          have hq1 : (((x :: xs).length : Int) == 0) = false := beq_eq_false_iff_ne.2 (by omega)
          have hq2 : decide (1 < (x.toNat : Int)) = false := by simp; omega
          generalize (x :: xs).length = n at *
          have hc2 : decide (c = 1) = false := by simpa using hc1
          go_enter Try.func65, Try.ntmps65
          go_wp2_with fail
          exact HF
set_option maxRecDepth 100000 in
set_option maxHeartbeats 1000000 in
theorem rrow_c (m : Nat) (S : Nat → Prop) (s : RS) (most : Int) (w : World) (h : RefRd w m S s) (bd : rsLen s ≤ 100000000000) (R : Ending → World → Prop)
    (k : ∀ w' g n d, w'.ownsRow 0 5 1 (.slice g n d) n (bys (rdRow most s).1) → RefRd w' m S (rdRow most s).2 → Off (fun k => k = m) w w' → fresh w.heap.size (.slice g n d) → R (.returned (.slice g n d)) w') :
    Calls Try.prog 66 #[.pointer (some ⟨m, 0, none⟩), .int .i64 most] w R := by
  have hb := rdNum_len most s
  have hn0 : 0 ≤ (rdNum most s).1 := by
    cases s with
    | none => simp [rdNum]
    | some l => simp only [rdNum]; split <;> simp
  have HK := Lib.hid k; clear k
  have hm0 : m < w.heap.size := h.lt
  go_enter Try.func66, Try.ntmps66
  go_wp2_with (go_at_call 64; refine rnumber_c m S s most _ h _ ?_)
  unfold rdRow at HK
  generalize rdNum most s = q at *
  obtain ⟨n, s'⟩ := q
  simp only at hb hn0
  obtain ⟨n, rfl⟩ := Int.eq_ofNat_of_zero_le hn0
  intro w1 h1 ho
  have c1 := h1.failed
  have hz := ho.size
  cases s' with
  | none =>
    have HF := HK.out w1 none 0 0 (World.ownsRow_nil _ _ _ _) h1 ho (fun b h => by simp [Value.ownBlock] at h)
    clear HK
    go_wp2_with fail
    exact HF
  | some l =>
    have hlb : l.length ≤ 100000000000 := Nat.le_trans hb bd
    have H1 := Lib.hid h1
    obtain ⟨h0, a, c, hbk, hs, hnn, h2, h3, h4⟩ := h1
    have c0 := hbk.cell (i := 0) rfl
    by_cases hl : l.length < n
    · simp only [Int.toNat_natCast, hl, if_true] at HK
      go_wp2_with (go_at_call 86; refine rfail_c m S _ _ H1.out _ ?_)
      intro w2 h5 h6
      have HF := HK.out w2 none 0 0 (World.ownsRow_nil _ _ _ _) h5 (ho.trans h6) (fun b h => by simp [Value.ownBlock] at h)
      clear HK
      go_wp2_with fail
      exact HF
    · have hk : (if l.length < (n : Int).toNat then (([] : List UInt8), (none : RS)) else (l.take (n : Int).toNat, some (l.drop (n : Int).toNat))) = (l.take n, some (l.drop n)) := by simp [hl]
      simp only [hk] at HK
      have hle : n ≤ l.length := by omega
      have hnc : n ≤ c := by omega
      clear hk hl
      obtain ⟨i0, hi, hz0, hz1, hz2⟩ := info_parts u8info
      have hT : Hid ((l.take n).length = n) := by show _ = _; simp; omega
      have hTb : Hid ((bys (l.take n)).length = n * 1) := by show _ = _; rw [bys_length, hT.out]; omega
      have hoA : Off Old w1 (w1.alloc (.cells #[] 5)) := (Off.refl _ _).alloc _
      have hown : (w1.alloc (.cells #[] 5)).ownsRow 0 5 1 (.slice (some ⟨w1.heap.size, 0, none⟩) 0 0) 0 [] := World.ownsRow_made w1 #[] 0 (Nat.zero_le _) (by unfold maxLen; omega) rfl
      have hsT : Sl (w1.alloc (.cells #[] 5)) a (bys (l.take n)) := by
        have := (hs.old hoA).take n
        rwa [show (bys l).take n = bys (l.take n) by simp [bys]] at this
      have c0A := (hbk.alloc (.cells #[] 5)).cell (i := 0) rfl
      go_wp2_with (at_builtin; go_must (refine wpList_append_sl rfl (.tmp 23) (.tmp 29) 57 rfl 5 i0 (.int .u8 0) 1 1 Try.underlying57 hi hz0 hz1 hz2 rfl (by decide) (.slice (some ⟨w1.heap.size, 0, none⟩) 0 0) 0 [] rfl hown a n c (bys (l.take n)) rfl hTb.out hsT (bys_oneCell _) (by omega) (by omega) ?_))
      intro g2 d2 w2 hg
      have ho2 : Off Old w1 w2 := hoA.step hg.off (fun i hi hl => by simp [Value.ownBlock] at hi; omega)
      have hfr : Hid (fresh w.heap.size (.slice g2 n d2)) := fun b hb => by
        rcases hg.mov b hb with h | h
        · simp [Value.ownBlock] at h; omega
        · simp at h; omega
      have hown2 : Hid (w2.ownsRow 0 5 1 (.slice g2 n d2) n (bys (l.take n))) := by have := hg.own; exact this
      have hbk2 := hbk.off ho2 (fun x => x)
      have hs2 := hs.old ho2
      have c02 := hbk2.cell (i := 0) rfl
      have f02 := hbk2.free 0
      have hgm : Hid ((Value.slice g2 n d2).ownBlock ≠ some m) := fun h => by have := hfr.out m h; omega
      obtain ⟨aD, hD⟩ : ∃ aD, Hid (aD = if c = n then a else a.map (fun y => y.add n)) := ⟨_, rfl⟩
      have hSl : ∀ w, (Instr.slice 57 (.slice a l.length c) (some (.int .i64 (n : Int))) none none).run Try.prog w = .ok (.slice aD (l.length - n) (c - n)) w := by
        intro w
        rw [run_slice_l (P := Try.prog) (t := 57) (a := a) (len := l.length) (cap := c) (ht := Try.underlying57) (kl := .i64) (l := (n : Int)) (h0 := by omega) (h1 := by omega), show (sizeOf (Try.prog.elem 57)).run Try.prog w = .ok 1 w from sz_u8 w, hD.out]
        simp [sliced]
      have hcut := RefRd.cutg (n := n) h0 hbk2 hs2 hnn h2 h3 h4 hle hD.out
      have HF := HK.out _ g2 n d2 (own_off hown2.out ((Off.refl (fun k => k = m) w2).setCell (p := ⟨m, 0, none⟩) (fun _ => rfl) (.slice aD (l.length - n) (c - n))) (fun k hk e => hgm.out (by rw [hk, e]))) hcut ((ho.trans (ho2.mono (fun _ x _ => x.elim))).setCell (p := ⟨m, 0, none⟩) (fun _ => rfl) _) hfr.out
      clear HK hg hown hsT c0A hoA c0 hcut hs2 hs hnn h2 h3 h4
      go_wp2_with fail
      exact HF
end Go.Proofs.Ytahpfcfecghpmaa
