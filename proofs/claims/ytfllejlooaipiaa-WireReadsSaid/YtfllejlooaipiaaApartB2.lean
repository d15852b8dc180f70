/- The verifier's kit: ApartBytes. -/
import Derived.Test.YtfllejlooaipiaaApartB
namespace Go.Proofs.Ytfllejlooaipiaa
open Go.RowKit

set_option maxRecDepth 100000 in
set_option maxHeartbeats 1000000 in
theorem apartBytes_c (a : Option Addr) (c : Nat) (rs : List CRow) (F : Nat → List Value) (w : World) (ha : Sl w a (rs.map CRow.v)) (hrow : RowsAt w 5 1 rs F) (hd : Dist rs)
    (bn : rs.length ≤ 400000) (bl : ∀ r ∈ rs, r.n ≤ 900000000) (R : Ending → World → Prop) (k : ∀ w', Off (RB rs) w w' → R (.returned (.bool true)) w') :
    Calls Try.prog 44 #[.slice a rs.length c] w R := by
  have HK := Lib.hid k; clear k
  have HB := Lib.hid bl; clear bl
  have HD := Lib.hid hd; clear hd
  have hlt0 : Hid (∀ b, RB rs b → b < w.heap.size) := fun b hb => hrow.lt hb
  have hnew : Hid (Blk (w.alloc (.cells (bagB (.slice none 0 0)).toArray 138)) w.heap.size (bagB (.slice none 0 0)) 138) := Blk.new w _ _
  have ho0 : Hid (Off Old w (w.alloc (.cells (bagB (.slice none 0 0)).toArray 138))) := (Off.refl _ _).alloc _
  go_enter Try.func44, Try.ntmps44
  go_wp2_with fail
  generalize hp : w.heap.size = p at *
  have HP := Lib.hid hp
  clear hp
  go_loopw [4] (fun i wr => ∃ (k : Nat) (g : Option Addr) (d : Nat), i = .int .i64 k ∧ k ≤ rs.length ∧ Blk wr p (bagB (.slice g k d)) 138 ∧ wr.ownsRow 0 43 1 (.slice g k d) k ((rs.take k).map CRow.v) ∧ Hid (fresh p (.slice g k d)) ∧ Off Old w wr) (fun i _ => rs.length - (intOf i).toNat)
  case atStart => exact ⟨0, none, 0, rfl, Nat.zero_le _, hnew.out, World.ownsRow_nil _ _ _ _, by intro b hb; simp [Value.ownBlock] at hb, ho0.out⟩
  case round =>
    clear hnew ho0
    obtain ⟨k, g, d, rfl, hk, hb, hown, hfr, ho⟩ := hrel
    by_cases hlt : k < rs.length
    · obtain ⟨⟨ra, rn, rc⟩, hr⟩ := at_of_lt hlt
      obtain ⟨b, o, ix, Q⟩ := (ha.old ho).ix1 Try.underlying72 sz_bs (n := rs.length) (by simp) c
      have cx := Q.out k _ (crow_at hr.out)
      dsimp only at cx
      have hkl : Hid ((rs.take k).length = k) := by show _ = _; simp; omega
      have hsn : Hid (rs.take k ++ [⟨ra, rn, rc⟩] = rs.take (k + 1)) := by show _ = _; rw [List.take_add_one, hr.out]; rfl
      go_wp2_with (go_at_call 79; go_must (refine putBytes_c p p g k d (rs.take k) ⟨ra, rn, rc⟩ _ hb hkl.out hown hfr.out (Nat.le_refl _) (by omega) _ ?_))
      intro w1 g1 d1 e1 e2 e3 e4
      have e2 : w1.ownsRow 0 43 1 (.slice g1 (k + 1) d1) (k + 1) ((rs.take (k + 1)).map CRow.v) := by
        rw [← hsn.out, List.map_append, List.map_take]; exact e2
      have e3 := Lib.hid e3
      have ho1 : Off Old w w1 := ho.step e4 (fun i hi hl => by have := HP.out; omega)
      clear e4 ho hown hb hfr cx ix Q
      go_wp2_with fail
      go_roundw
      case rel => exact ⟨k + 1, g1, d1, by go_num, by omega, e1, e2, e3, ho1⟩
      case measure => simp [intOf]; omega
    · obtain rfl : k = rs.length := by omega
      rw [List.take_length] at hown
      have hsg := (own_sl2 hown).2.2
      have hpn : Hid (¬ RB rs p) := fun h => by have := hlt0.out p h; have := HP.out; omega
      have hgn : Hid (∀ q, g = some q → rs.map CRow.v ≠ [] → ¬ RB rs q.block) := fun q hq _ h => by
        subst hq
        have h1 := hlt0.out _ h
        have h2 := hfr.out q.block rfl
        have := HP.out
        omega
      go_wp2_with (go_at_call 80; go_must (refine apartB_c p g d rs F _ hb hsg (hrow.old ho) HD.out hgn.out hpn.out bn HB.out _ ?_))
      intro w1 e1
      have HF := HK.out _ ((ho.mono (fun _ x _ => x.elim)).trans e1)
      clear HK
      go_wp2_with fail
      exact HF
end Go.Proofs.Ytfllejlooaipiaa
