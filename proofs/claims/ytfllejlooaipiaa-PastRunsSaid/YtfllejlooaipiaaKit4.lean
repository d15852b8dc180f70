/- The verifier's kit: bytes written over, copied. -/
import Derived.Test.YtfllejlooaipiaaKit3
namespace Go.Proofs.Ytfllejlooaipiaa
open Go.RowKit

theorem Sl.ix2 {P : Program} {t e : TypeId} {w : World} {a : Option Addr} {cs : List Value} {n : Nat} (h : Sl w a cs) (ht : P.underlying t = some (.slice e)) (hs : ∀ w, (sizeOf e).run P w = .ok 1 w)
    (hn : cs.length = n) (c : Nat) :
    ∃ b o, (∀ i : Nat, i < n → ∀ w : World, (Instr.indexAt t (.slice a n c) (.int .i64 (i : Int))).run P w = .ok (.pointer (some ⟨b, o + i, none⟩)) w) ∧
      Hid (∀ j u, cs[j]? = some u → w.cell? ⟨b, o + j, none⟩ = some u) ∧ Hid (0 < n → a = some ⟨b, o, none⟩) := by
  obtain ⟨b, o, p, q⟩ := h.base
  have p' : 0 < n → a = some ⟨b, o, none⟩ := fun h0 => p (ne_nil_of_pos (by omega))
  exact ⟨b, o, fun i hi w => by simpa only [Nat.mul_one] using indexAt_any ht hs (c := c) p' i hi w, q, p'⟩

set_option maxRecDepth 100000 in
set_option maxHeartbeats 1000000 in
theorem overBytes_c (g n : Nat) (xs : List UInt8) (w : World) (hb : Blk w g (bys xs) 5) (hx : xs.length = n + 12) (bd : n ≤ 900000000) (R : Ending → World → Prop)
    (k : ∀ w' ys, Blk w' g (bys ys) 5 → ys.length = n + 12 → Off (fun k => k = g) w w' → R (.returned (.tuple #[])) w') :
    Calls Try.prog 46 #[.slice (some ⟨g, 0, none⟩) n (n + 12)] w R := by
  have HK := Lib.hid k; clear k
  have HX := Lib.hid hx; clear hx
  go_enter Try.func46, Try.ntmps46
  go_wp2_with fail
  go_loopw [3] (fun i wr => ∃ (j : Nat) (ys : List UInt8), i = .int .i64 j ∧ j ≤ n + 12 ∧ Blk wr g (bys ys) 5 ∧ ys.length = n + 12 ∧ Off (fun k => k = g) w wr) (fun i _ => n + 12 - (intOf i).toNat)
  case atStart => exact ⟨0, xs, rfl, by omega, hb, HX.out, Off.refl _ _⟩
  case round =>
    obtain ⟨j, ys, rfl, hj, hby, hy, ho⟩ := hrel
    have HY := Lib.hid hy; clear hy
    by_cases hlt : j < n + 12
    · obtain ⟨y, hyj⟩ := at_of_lt (show j < ys.length by have := HY.out; omega)
      have c1 := hby.cell (i := j) (bys_at hyj.out)
      have f1 := hby.free j
      have hs := hby.set j (.int .u8 ((markB 2 j).toNat : Int))
      have hs2 : Blk (wr.setCell ⟨g, j, none⟩ (.int .u8 ((markB 2 j).toNat : Int))) g (bys (ys.set j (markB 2 j))) 5 := by
        have e : bys (ys.set j (markB 2 j)) = (bys ys).set j (.int .u8 ((markB 2 j).toNat : Int)) := by simp [bys, List.map_set]
        rw [e]; exact hs
      have ho2 : Off (fun k => k = g) w (wr.setCell ⟨g, j, none⟩ (.int .u8 ((markB 2 j).toNat : Int))) := ho.setCell (fun _ => rfl) _
      clear hs ho hby
      go_wp2_with (go_at_call 81; refine markByte_c 2 j (by omega) (by omega) _ _ ?_)
      go_roundw
      case rel => exact ⟨j + 1, _, by go_num, by omega, hs2, by rw [List.length_set]; exact HY.out, ho2⟩
      case measure => simp [intOf]; omega
    · have HF := HK.out wr ys hby HY.out ho
      clear HK
      go_wp2_with fail
      go_end0
      exact HF

set_option maxRecDepth 100000 in
set_option maxHeartbeats 400000 in
theorem copyBytes_c (a : Option Addr) (n c : Nat) (l : List UInt8) (w : World) (hn : n = l.length) (h : Sl w a (bys l)) (bd : l.length ≤ 140737488355328) (R : Ending → World → Prop)
    (k : ∀ w' g' d', w'.ownsRow 0 5 1 (.slice g' l.length d') l.length (bys l) → Off Old w w' → (∀ q, g' = some q → w.heap.size ≤ q.block) → R (.returned (.slice g' l.length d')) w') :
    Calls Try.prog 47 #[.slice a n c] w R := by
  subst hn
  obtain ⟨i0, hi, hz0, hz1, hz2⟩ := info_parts u8info
  have HK := Lib.hid k; clear k
  go_enter Try.func47, Try.ntmps47
  go_wp2_with (at_builtin; go_must (refine wpList_append_sl rfl (.tmp 4) (.tmp 5) 43 rfl 5 i0 (.int .u8 0) 1 1 Try.underlying43 hi hz0 hz1 hz2 rfl (by decide) (.slice none 0 0) 0 [] rfl (World.ownsRow_nil _ _ _ _) a l.length c (bys l) rfl (by simp) h (bys_oneCell l) (by omega) (by omega) ?_))
  intro g' d' w1 hg
  have HF := HK.out w1 g' d' (by simpa using hg.own) (hg.off.mono (fun i e _ => by cases e)) (fun q e => by
    subst e
    rcases hg.mov q.block rfl with h | h
    · cases h
    · exact h)
  clear HK hg
  go_wp2_with fail
  exact HF
end Go.Proofs.Ytfllejlooaipiaa
