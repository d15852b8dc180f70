/- What is past: raised, asked, read. -/
import Derived.Test.YtfllejlooaipiaaPast
namespace Go.Proofs.Ytfllejlooaipiaa
open Go.RowKit

def raiseN (N : List Int) (x : Nm) : List Int := N.set (x.c.toNat - 1) (max (N.getD (x.c.toNat - 1) 0) x.n)
theorem max_if (a b : Int) : max a b = if a < b then b else a := by split <;> omega
set_option maxHeartbeats 400000 in
theorem raise_c (p : Nat) (N : List Int) (x : Nm) (w : World) (h : Pst w p N) (h1 : 1 ≤ x.c) (h8 : x.c ≤ 8) (R : Ending → World → Prop) (k : ∀ w', Pst w' p (raiseN N x) → Off (fun k => k = p) w w' → R (.returned (.tuple #[])) w') :
    Calls Try.prog 67 #[.pointer (some ⟨p, 0, none⟩), .int .i64 x.c, .int .i64 x.n] w R := by
  have HK := Lib.hid k; clear k
  obtain ⟨c, n⟩ := x
  obtain ⟨m, rfl⟩ : ∃ m : Nat, c = (m : Int) + 1 := ⟨(c - 1).toNat, by simp only at h1; omega⟩
  dsimp only at h1 h8 ⊢
  have hm8 : m < 8 := by omega
  obtain ⟨y, hy⟩ := at_of_lt (l := N) (j := m) (by rw [h.len]; exact hm8)
  have cx := h.at hy.out
  have fx := h.blk.free m
  have t3 : IntKind.i64.wrap ((m : Int) + 1 - 1) = (m : Int) := by
    rw [IntWalk.i64_in _ (by omega)]; omega
  have hR : Hid (raiseN N ⟨(m : Int) + 1, n⟩ = N.set m (if y < n then n else y)) := by
    show _ = _; simp [raiseN, hy.out, max_if]
  go_enter Try.func67, Try.ntmps67
  go_wp2_with fail
  go_region
  go_end0
  refine HK.out _ (by rw [hR.out]; exact (h.set hm8 _).old (Off.refl Old _).drew) (((Off.refl (fun k => k = p) w).setCell (p := ⟨p, m, none⟩) (fun _ => rfl) _).drew)

def raiseAll (N : List Int) (l : List Nm) : List Int := l.foldl raiseN N
end Go.Proofs.Ytfllejlooaipiaa
