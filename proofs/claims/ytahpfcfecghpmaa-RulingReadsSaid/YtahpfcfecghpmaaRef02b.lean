/- The document's reader: Number. -/
import Derived.Test.YtahpfcfecghpmaaRef02
namespace Go.Proofs.Ytahpfcfecghpmaa
open Go.RowKit

/-- the document's reader at m, whose bytes lie in no block of S. -/
def RefRd (w : World) (m : Nat) (S : Nat → Prop) (s : RS) : Prop :=
  S m ∧ match s with
  | none => Blk w m [.slice none 0 0, .bool true] 73
  | some l => ∃ a c, Blk w m [.slice a l.length c, .bool false] 73 ∧ Sl w a (bys l) ∧ (∀ q, a = some q → l ≠ [] → ¬ S q.block) ∧ l.length ≤ c ∧ c ≤ 9223372036854775807 ∧ (a = none → c = 0)
theorem RefRd.lt {w : World} {m : Nat} {S : Nat → Prop} {s : RS} (h : RefRd w m S s) : m < w.heap.size := by
  cases s with
  | none => exact Blk.lt h.2
  | some l => obtain ⟨_, a, c, h, _⟩ := h; exact h.lt
theorem RefRd.off {w w' : World} {m : Nat} {S S' : Nat → Prop} {s : RS} (h : RefRd w m S s) (ho : Off S' w w') (hm : ¬ S' m) (hS : ∀ k, S' k → S k) : RefRd w' m S s := by
  cases s with
  | none => exact ⟨h.1, Blk.off h.2 ho hm⟩
  | some l => obtain ⟨h0, a, c, h1, h2, h3, h4⟩ := h; exact ⟨h0, a, c, h1.off ho hm, h2.off ho (fun q e hn hs => h3 q e (by rintro rfl; exact hn rfl) (hS _ hs)), h3, h4⟩
theorem RefRd.old {w w' : World} {m : Nat} {S : Nat → Prop} {s : RS} (h : RefRd w m S s) (ho : Off Old w w') : RefRd w' m S s := h.off ho (fun x => x) (fun _ x => x.elim)
theorem rfail_c (m : Nat) (S : Nat → Prop) (s : RS) (w : World) (h : RefRd w m S s) (R : Ending → World → Prop) (k : ∀ w', RefRd w' m S none → Off (fun k => k = m) w w' → R (.returned (.tuple #[])) w') :
    Calls Try.prog 86 #[.pointer (some ⟨m, 0, none⟩)] w R := by
  have HK := Lib.hid k; clear k
  obtain ⟨v, u, hb⟩ : ∃ v u, Blk w m [v, u] 73 := by
    cases s with
    | none => exact ⟨_, _, h.2⟩
    | some l => obtain ⟨_, a, c, h, _⟩ := h; exact ⟨_, _, h⟩
  have f0 := hb.free 0
  have f1 := hb.free 1
  have c0 := hb.cell (i := 0) rfl
  have c1 := hb.cell (i := 1) rfl
  go_enter Try.func86, Try.ntmps86
  go_wp2_with fail
  go_end0
  exact HK.out _ ⟨h.1, show Blk _ _ _ _ by simpa using (hb.set 1 (.bool true)).set 0 (.slice none 0 0)⟩ (((Off.refl (fun k => k = m) w).setCell (p := ⟨m, 1, none⟩) (fun _ => rfl) _).setCell (p := ⟨m, 0, none⟩) (fun _ => rfl) _)
set_option maxHeartbeats 1000000 in
theorem rnumber_c (m : Nat) (S : Nat → Prop) (s : RS) (most : Int) (w : World) (h : RefRd w m S s) (R : Ending → World → Prop)
    (k : ∀ w', RefRd w' m S (rdNum most s).2 → Off (fun k => k = m) w w' → R (.returned (.int .i64 (rdNum most s).1)) w') :
    Calls Try.prog 64 #[.pointer (some ⟨m, 0, none⟩), .int .i64 most] w R := by
  cases s with
  | none =>
    have HF := k w h (Off.refl _ _)
    clear k
    have c1 := Blk.cell (i := 1) h.2 rfl
    go_enter Try.func64, Try.ntmps64
    go_wp2_with fail
    exact HF
  | some l =>
    have HK := Lib.hid k; clear k
    have H := Lib.hid h
    obtain ⟨h0, a, c, hb, hs, hn, h1, h2, h3⟩ := h
    have c0 := hb.cell (i := 0) rfl
    have c1 := hb.cell (i := 1) rfl
    have f0 := hb.free 0
    have hg := getN_most (most := most) 9 0 0 l
    have HG := Lib.hid hg; clear hg
    go_enter Try.func64, Try.ntmps64
    go_wp2_with (go_at_call 85; refine get_c a c l w hs _ ?_ ?_)
    · intro N many e e1 e2
      by_cases hbig : most < (N : Int)
      · have hv : rdNum most (some l) = (0, none) := by simp only [rdNum, HG.out, e]; simp [hbig]
        rw [hv] at HK
        clear HG e hv
        go_wp2_with (go_at_call 86; refine rfail_c m S _ _ H.out _ ?_)
        intro w1 h5 h6
        have HF := HK.out w1 h5 h6
        clear HK
        go_wp2_with fail
        exact HF
      · have hv : rdNum most (some l) = ((N : Int), some (l.drop many)) := by simp only [rdNum, HG.out, e]; simp [hbig]
        rw [hv] at HK
        clear HG e hv
        obtain ⟨b, o, hbase, _⟩ := hs.base
        have ha := hbase (by rintro h; have : (bys l).length = 0 := by rw [h]; rfl
                             rw [bys_length] at this; omega)
        subst ha
        have hnS : Hid (¬ S b) := hn _ rfl (by rintro rfl; simp at e2; omega)
        have hne : b ≠ m := fun e => hnS.out (by rw [e]; exact h0)
        have hs1 := hs.drop many
        rw [show (bys l).drop many = bys (l.drop many) by simp [bys]] at hs1
        have HF := fun v => HK.out (w.setCell ⟨m, 0, none⟩ v)
        clear HK
        have HOff := fun v => (Off.refl (fun k => k = m) w).setCell (p := ⟨m, 0, none⟩) (fun _ => rfl) v
        have HB := fun v => hb.set 0 v
        have HF := Lib.hid HF
        have HOff := Lib.hid HOff
        have HB := Lib.hid HB
        have hl9 : Hid (l.length - many = (l.drop many).length) := by show _ = _; simp
        by_cases hcm : c = many
        · have hl0 : Hid (l.drop many = []) := by show _ = _; exact List.drop_eq_nil_of_le (by omega)
          clear hs1
          go_wp2_with fail
          refine HF.out _ ?_ (HOff.out _)
          rw [hl0.out, show l.length - many = ([] : List UInt8).length by simp; omega]
          exact ⟨h0, some ⟨b, o, none⟩, 0, HB.out _, Sl.nil _ _, by simp, by simp, by omega, by simp⟩
        · go_wp2_with fail
          refine HF.out _ ?_ (HOff.out _)
          refine ⟨h0, some ⟨b, o + many, none⟩, c - many, ?_, ?_, ?_, ?_, ?_, ?_⟩
          · rw [← hl9.out]; exact HB.out _
          · exact hs1.off (HOff.out _) (by rintro q ⟨rfl⟩ _; exact hne)
          · rintro q ⟨rfl⟩ _; exact hnS.out
          · rw [← hl9.out]; omega
          · omega
          · simp
    · intro e
      have hv : rdNum most (some l) = (0, none) := by simp only [rdNum, HG.out, e]; rfl
      rw [hv] at HK
      clear HG e hv
      go_wp2_with (go_at_call 86; refine rfail_c m S _ _ H.out _ ?_)
      intro w1 h5 h6
      have HF := HK.out w1 h5 h6
      clear HK
      go_wp2_with fail
      exact HF
end Go.Proofs.Ytahpfcfecghpmaa
