/- The example of chapter 17. -/
import Derived.Test.YtfllejlooaipiaaRef17
import Derived.Test.YtfllejlooaipiaaPastIs
namespace Go.Proofs.Ytfllejlooaipiaa
open Go.RowKit

set_option maxRecDepth 100000 in
set_option maxHeartbeats 400000 in
theorem awake17_c (w : World) (R : Ending → World → Prop) (k : ∀ w', Off Old w w' → R (.returned (.bool true)) w') : Calls Try.prog 11 #[] w R := by
  have HK := Lib.hid k; clear k
  go_enter Try.func11, Try.ntmps11
  go_wp2_with (go_at_call 12; refine new_c _ _ ?_)
  intro w1 h1 ho1 hx
  clear hx
  generalize hq : w.heap.size = q at *
  have hq := Lib.hid hq
  have hsl : Sl (w1.alloc (.cells #[.int .i64 2, .int .i64 5, .int .i64 2, .int .i64 3] 53)) (some ⟨w1.heap.size, 0, none⟩) (nms [⟨2, 5⟩, ⟨2, 3⟩]) := Sl.new w1 [.int .i64 2, .int .i64 5, .int .i64 2, .int .i64 3] 53
  have hb1 := h1.blk.lt
  have h1a := h1.old ((Off.refl Old w1).alloc (.cells #[.int .i64 2, .int .i64 5, .int .i64 2, .int .i64 3] 53))
  have e7 : List.all [(⟨2, 5⟩ : Nm), ⟨2, 3⟩] Nm.ok = true := by decide +kernel
  have e8 : ∀ p : Addr, (some ⟨w1.heap.size, 0, none⟩ : Option Addr) = some p → [(⟨2, 5⟩ : Nm), ⟨2, 3⟩] ≠ [] → p.block ≠ q := by
    rintro p ⟨rfl⟩ _; simp only; omega
  go_wp2_with (go_at_call 16; go_must (refine raise_ok q zero8 (some ⟨w1.heap.size, 0, none⟩) _ [⟨2, 5⟩, ⟨2, 3⟩] _ e7 h1a hsl e8 (by decide) _ ?_))
  intro w2 h2 ho2
  have e0 : raiseAll zero8 [⟨2, 5⟩, ⟨2, 3⟩] = [0, 5, 0, 0, 0, 0, 0, 0] := by decide +kernel
  rw [e0] at h2
  clear e0
  have ho2' : Off Old w w2 := (ho1.alloc _).step ho2 (by rintro i rfl hi; have := hq.out; omega)
  go_wp2_with (go_at_call 60; refine of_c q [0, 5, 0, 0, 0, 0, 0, 0] 2 _ h2 _ ?_)
  intro w3 ho3
  have h3 := h2.old ho3
  have e1 : ((ofN [0, 5, 0, 0, 0, 0, 0, 0] 2) == 5) = true := rfl
  go_wp2_with (go_at_call 28; refine is_v true q [0, 5, 0, 0, 0, 0, 0, 0] ⟨2, 5⟩ _ (by decide +kernel) h3 _ ?_)
  intro w4 ho4
  have h4 := h3.old ho4
  go_wp2_with (go_at_call 28; refine is_v false q [0, 5, 0, 0, 0, 0, 0, 0] ⟨2, 6⟩ _ (by decide +kernel) h4 _ ?_)
  intro w5 ho5
  have HF := HK.out w5 (((ho2'.trans ho3).trans ho4).trans ho5)
  clear HK
  go_wp2_with fail
  exact HF

end Go.Proofs.Ytfllejlooaipiaa
