/- The example of chapter 19. -/
import Derived.Test.YtahpfcfecghpmaaBook4
import Derived.KernelRfl
namespace Go.Proofs.Ytahpfcfecghpmaa
open Go.RowKit
set_option linter.unusedSimpArgs false

theorem fit_nil (x : Vd) (w : World) (h : x.reads = []) : Vok w ⟨x, none, 0⟩ := ⟨by show Sl w none (rdxs x.reads); rw [h]; exact Sl.nil _ _, by show ∀ y ∈ x.reads, y.fits; rw [h]; simp, by show x.reads.length ≤ _; rw [h]; simp⟩
set_option maxRecDepth 100000 in
set_option maxHeartbeats 2000000 in
theorem awake19_c (w : World) (R : Ending → World → Prop) (k : ∀ w', Off Old w w' → R (.returned (.bool true)) w') : Calls Try.prog 7 #[] w R := by
  have HK := Lib.hid k; clear k
  go_enter Try.func7, Try.ntmps7
  go_wp2_with (go_at_call 8; go_must (refine new_c _ _ ?_))
  intro w1 p r hB1 ho1 hp hr
  have hz1 : w.heap.size ≤ w1.heap.size := ho1.size
  have hal1 : Off Old w1 (w1.alloc (.cells #[.int .i64 1, .int .i64 1] 35)) := (Off.refl _ _).alloc _
  have ev : decV ([].map Ve.x) ⟨1, 1, true, 5, []⟩ = ⟨1, 1, true, 5, []⟩ := by kernel_rfl
  have ee : decE ([].map Ve.x) ⟨1, 1, true, 5, []⟩ = 0 := by kernel_rfl
  have el : (dec ([].map Ve.x) ⟨1, 1, true, 5, []⟩).2 = [⟨1, 1, true, 5, []⟩] := by kernel_rfl
  have ev2 : decV [⟨1, 1, true, 5, []⟩] ⟨1, 1, false, 6, []⟩ = ⟨1, 1, true, 5, []⟩ := by kernel_rfl
  have ee2 : decE [⟨1, 1, true, 5, []⟩] ⟨1, 1, false, 6, []⟩ = 0 := by kernel_rfl
  have el2 : (dec [⟨1, 1, true, 5, []⟩] ⟨1, 1, false, 6, []⟩).2 = [⟨1, 1, true, 5, []⟩] := by kernel_rfl
  have EV := Lib.hid ev; have EE := Lib.hid ee; have EL := Lib.hid el; have EV2 := Lib.hid ev2; have EE2 := Lib.hid ee2; have EL2 := Lib.hid el2
  clear ev ee el ev2 ee2 el2
  go_wp2_with (go_at_call 15; go_must (refine bkDecide_c p none 0 r [] ⟨⟨1, 1, true, 5, []⟩, none, 0⟩ 0 rfl _ (hB1.old hal1) (fit_nil _ _ rfl) ⟨⟨by decide, by decide⟩, ⟨by decide, by decide⟩⟩ ⟨by decide, by decide⟩ (fun h => absurd rfl h) (by decide) _ ?_))
  intro w2 g2 d2 l2 a2 m2 c2 hB2 hl2 hv2 hm2 ho2 hmv2 hfr2 hen2
  have hl2 : Hid (l2.map Ve.x = [⟨1, 1, true, 5, []⟩]) := by show _ = _; exact hl2.out.trans EL.out
  have ev := EV.out
  simp only [List.map_nil] at ev
  have ee := EE.out
  simp only [List.map_nil] at ee
  unfold vdV
  rw [ev] at hv2 hm2 ⊢
  rw [ee]
  have hm0 := hm2.out
  simp only [List.length_nil] at hm0
  subst hm0
  clear ev ee EV EE EL hm2
  have hlen2 : Hid (l2.length = 1) := by have := congrArg List.length hl2.out; show _ = _; simpa using this
  have hnm := ((Blk.new w1 #[.int .i64 1, .int .i64 1] 35)).off ho2 (fun hk => by
    have h1 := hB1.lt (k := w1.heap.size) (by rcases hk with h | h | h; exact .inl h; exact .inr (.inl h); exact .inr (.inr (.inl h)))
    omega)
  have n0 := hnm.cell (i := 0) rfl
  have n1 := hnm.cell (i := 1) rfl
  have hnl := hnm.lt
  have hal2 : Off Old w2 (w2.alloc (.cells #[.int .i64 1, .int .i64 1, .bool true, .int .i64 5, .slice a2 0 c2] 38)) := (Off.refl _ _).alloc _
  have hx2 := Blk.new w2 #[.int .i64 1, .int .i64 1, .bool true, .int .i64 5, .slice a2 0 c2] 38
  go_wp2_with (go_at_call 15; go_must (refine bkDecide_c p g2 d2 r l2 ⟨⟨1, 1, false, 6, []⟩, none, 0⟩ 0 rfl _ (hB2.old hal2) (fit_nil _ _ rfl) ⟨⟨by decide, by decide⟩, ⟨by decide, by decide⟩⟩ ⟨by decide, by decide⟩ (fun h => absurd rfl h) (by rw [hlen2.out]; decide) _ ?_))
  intro w3 g3 d3 l3 a3 m3 c3 hB3 hl3 hv3 hm3 ho3 hmv3 hfr3 hen3
  unfold vdV
  rw [hl2.out] at hl3 hv3 hm3 ⊢
  have hl3 : Hid (l3.map Ve.x = [⟨1, 1, true, 5, []⟩]) := by show _ = _; exact hl3.out.trans EL2.out
  rw [EV2.out] at hm3 ⊢
  rw [EE2.out]
  have hm0 := hm3.out
  simp only [List.length_nil] at hm0
  subst hm0
  have hlen3 : Hid (l3.length = 1) := by have := congrArg List.length hl3.out; show _ = _; simpa using this
  have hx3 := hx2.off ho3 (fun hk => by
    have h1 := hB2.lt (k := w2.heap.size) (by rcases hk with h | h | h; exact .inl h; exact .inr (.inl h); exact .inr (.inr (.inl h)))
    omega)
  have c2' := hx3.cell (i := 2) rfl
  have c3' := hx3.cell (i := 3) rfl
  have hxl := hx3.lt
  have hal3 : Off Old w3 (w3.alloc (.cells #[.int .i64 1, .int .i64 1, .bool true, .int .i64 5, .slice a3 0 c3] 38)) := (Off.refl _ _).alloc _
  have hB4 := hB3.old hal3
  have hge : ∀ k, BkS p g2 r k → w.heap.size ≤ k := fun k hk => by
    rcases hk with h | h | h
    · omega
    · rcases hmv2 k h with h1 | h1
      · cases h1
      · omega
    · omega
  have hge0 : ∀ k, BkS p none r k → w.heap.size ≤ k := fun k hk => by
    rcases hk with h | h | h
    · omega
    · cases h
    · omega
  have ho4 : Off Old w (w3.alloc (.cells #[.int .i64 1, .int .i64 1, .bool true, .int .i64 5, .slice a3 0 c3] 38)) :=
    ((((ho1.trans hal1).step ho2 (fun i hi hl => by have := hge0 i hi; omega)).trans hal2).step ho3 (fun i hi hl => by have := hge i hi; omega)).trans hal3
  have HF := HK.out _ ho4
  clear HK n0 n1
  go_wp2_with (go_at_call 20; go_must (refine bkMany_c p g3 d3 r l3 _ hB4 _ ?_); rw [hlen3.out])
  exact HF
end Go.Proofs.Ytahpfcfecghpmaa
