/- What is past: is it? -/
import Derived.Test.YtfllejlooaipiaaPast2
namespace Go.Proofs.Ytfllejlooaipiaa
open Go.RowKit

set_option maxHeartbeats 1000000 in
theorem is_c (p : Nat) (N : List Int) (x : Nm) (w : World) (h : Pst w p N) (R : Ending → World → Prop) (k : ∀ w', Off Old w w' → R (.returned (.bool (x.ok && decide (x.n ≤ ofN N x.c)))) w') :
    Calls Try.prog 28 #[.pointer (some ⟨p, 0, none⟩), .agg #[.int .i64 x.c, .int .i64 x.n]] w R := by
  have HK := Lib.hid k; clear k
  obtain ⟨v, hv⟩ : ∃ v, Hid (x.ok = v) := ⟨_, rfl⟩
  have ho0 : Off Old w (w.alloc (.cells #[.int .i64 x.c, .int .i64 x.n] 53)).drew := ((Off.refl Old w).alloc _).drew
  have h0 := h.old ho0
  have hb0 := (Blk.new w #[.int .i64 x.c, .int .i64 x.n] 53).drew
  have c0 := hb0.cell (i := 0) rfl
  have c1 := hb0.cell (i := 1) rfl
  go_enter Try.func28, Try.ntmps28
  go_wp2_with fail
  cases v
  · have hF : x.ok = false := hv.out
    rw [hF] at HK
    have HK2 := fun w2 (e : Off Old (w.alloc (.cells #[.int .i64 x.c, .int .i64 x.n] 53)).drew w2) => HK.out w2 (ho0.trans e)
    have HK2 := Lib.hid HK2
    clear HK
    first | (go_region_with (first | (go_at_call 64; refine one_c x _ _ ?_; rw [hF]; intro w2 e2))) | fail
    all_goals
      go_wp2_with fail
      go_ret
      exact HK2.out _ e2
  · have hF : x.ok = true := hv.out
    rw [hF] at HK
    rw [Bool.true_and] at HK
    first | (go_region_held3 (fun w' => w'.cell? ⟨w.heap.size, 0, none⟩ = some (.int .i64 x.c) ∧ w'.cell? ⟨w.heap.size, 1, none⟩ = some (.int .i64 x.n) ∧ Pst w' p N ∧ Off Old w w') (first | go_keep | exact hkeep1 | exact hkeep2) (first | (go_at_call 64; refine one_c x _ _ ?_; rw [hF]; intro w2 e2; have hkeep1 : w2.cell? ⟨w.heap.size, 0, none⟩ = some (.int .i64 x.c) ∧ w2.cell? ⟨w.heap.size, 1, none⟩ = some (.int .i64 x.n) ∧ Pst w2 p N ∧ Off Old w w2 := ⟨e2.cell (fun x => x) c0, e2.cell (fun x => x) c1, h0.old e2, ho0.trans e2⟩) | (go_at_call 60; refine of_c p N x.c _ hkeep1.2.2.1 _ ?_; intro w3 e3; have hkeep2 : w3.cell? ⟨w.heap.size, 0, none⟩ = some (.int .i64 x.c) ∧ w3.cell? ⟨w.heap.size, 1, none⟩ = some (.int .i64 x.n) ∧ Pst w3 p N ∧ Off Old w w3 := ⟨e3.cell (fun x => x) hkeep1.1, e3.cell (fun x => x) hkeep1.2.1, hkeep1.2.2.1.old e3, hkeep1.2.2.2.trans e3⟩))) | fail
    go_wp2_with fail
    exact HK.out _ hkeep2.2.2.2
theorem is_v (v : Bool) (p : Nat) (N : List Int) (x : Nm) (w : World) (hv : (x.ok && decide (x.n ≤ ofN N x.c)) = v) (h : Pst w p N) (R : Ending → World → Prop) (k : ∀ w', Off Old w w' → R (.returned (.bool v)) w') :
    Calls Try.prog 28 #[.pointer (some ⟨p, 0, none⟩), .agg #[.int .i64 x.c, .int .i64 x.n]] w R := by
  subst hv; exact is_c p N x w h R k
end Go.Proofs.Ytfllejlooaipiaa
