/- The laws of layer 2: the example. -/
import Derived.Test.YtfllejlooaipiaaKit
namespace Go.Proofs.Ytfllejlooaipiaa
open Go.RowKit

theorem ab_list : (⟨#[97, 98]⟩ : ByteArray).data.toList = [97, 98] := rfl
theorem awake_bytes : putRows (putNums (false, []) [300]) [[97, 98]] = (false, [172, 2, 2, 97, 98]) := by decide +kernel

set_option maxRecDepth 100000 in
set_option maxHeartbeats 1000000 in
theorem awake02_c (w : World) (R : Ending → World → Prop) (k : ∀ w', Off Old w w' → R (.returned (.bool true)) w') : Calls Try.prog 30 #[] w R := by
  have HK := Lib.hid k; clear k
  go_enter Try.func30, Try.ntmps30
  go_wp2_with (go_at_call 24; refine newWriter_c _ _ ?_)
  intro w1 hw1 ho1 hz1
  clear hz1
  go_wp2_with (go_at_call 35; refine numbers_n _ _ _ _ _ [300] _ hw1 (by decide) _ ?_)
  intro w2 g2 d2 hw2 hs2
  go_wp2_with (go_at_call 40; refine texts_n _ _ _ _ _ [⟨#[97, 98]⟩] _ hw2 (by decide +kernel) _ ?_)
  intro w3 g3 d3 hw3 hs3
  have hw4 : Wr w3 w.heap.size (putRows (putNums (false, []) [300]) [[97, 98]]).1 g3 d3 (putRows (putNums (false, []) [300]) [[97, 98]]).2 := hw3
  rw [awake_bytes] at hw4
  have ho3 : Off Old w w3 := (ho1.step (hs2.trans hs3).off (by
    rintro i (rfl | hi) hl
    · exact absurd hl (Nat.lt_irrefl _)
    · cases hi))
  clear hw3 hw1 hw2 hs2 hs3 ho1
  go_wp2_with (go_at_call 25; refine done_c _ _ _ _ _ _ hw4 (by decide) _ (by simp) ?_)
  intro w4 g4 d4 e1 e2 e3
  obtain ⟨_, _, hsl⟩ := own_sl2 e1
  have ho4 := ho3.trans e2
  clear e1 e2 e3 ho3 hw4
  go_wp2_with (go_at_call 31; refine newReader_c _ _ _ [128, 0] _ rfl (Sl.new w4 (bys [128, 0]) _) (by decide) _ ?_)
  intro w5 p5 bb hr5 ho5 hp5 hp6
  have ho6 := (ho4.alloc (.cells (bys [128, 0]).toArray 5)).trans ho5
  have hsl5 := hsl.alloc (.cells (bys [128, 0]).toArray 5)
  have hlt : ∀ q, g4 = some q → bys [172, 2, 2, 97, 98] ≠ [] → ¬ q.block = p5 := fun q hq hne h => by have := hsl5.lt hq hne; rw [World.size_alloc] at this; omega
  have hsl6 := hsl5.old ho5
  have hz4 := ho4.size
  clear ho4 ho5 hsl hsl5
  go_wp2_with (go_at_call 33; refine number_r _ _ _ _ _ hr5 _ ?_)
  intro w6 hr6 ho7
  have hv : rdNum 9 (some [128, 0]) = (0, none) := by decide +kernel
  rw [hv] at hr6 ⊢
  have hsl7 := hsl6.off ho7 hlt
  have ho8 : Off Old w w6 := ho6.step ho7 (by rintro i rfl hl; omega)
  clear ho6 ho7 hsl6 hr5 hlt hv
  go_wp2_with (go_at_call 26; refine sameBytes_c _ _ _ _ _ _ [172, 2, 2, 97, 98] [172, 2, 2, 97, 98] _ rfl rfl (hsl7.alloc _) (Sl.new w6 (bys [172, 2, 2, 97, 98]) _) (by decide) _ ?_)
  rintro w7 ⟨m, rfl⟩
  have hr9 : Rd ((w6.alloc (.cells (bys [172, 2, 2, 97, 98]).toArray 5)).drewN m) p5 bb none := hr6.old (((Off.refl _ _).alloc _).drewN m)
  have HF := HK.out _ ((ho8.alloc (.cells (bys [172, 2, 2, 97, 98]).toArray 5)).drewN m)
  clear HK ho8 hsl7 hr6
  go_wp2_with (go_at_call 34; refine end_c _ _ _ _ hr9 _ ?_)
  exact HF
end Go.Proofs.Ytfllejlooaipiaa
