/- The verifier's kit: ApartBytes. -/
import Derived.Test.YtfllejlooaipiaaFlatNil
import Derived.Test.YtfllejlooaipiaaFlatB
namespace Go.Proofs.Ytfllejlooaipiaa
open Go.RowKit

/-- a bag with rows of bytes alone. -/
def bagB (v : Value) : List Value := [.slice none 0 0, .slice none 0 0, .slice none 0 0, .slice none 0 0, .slice none 0 0, v, .slice none 0 0, .slice none 0 0, .slice none 0 0, .slice none 0 0, .slice none 0 0, .slice none 0 0, .slice none 0 0, .slice none 0 0, .slice none 0 0, .slice none 0 0, .slice none 0 0, .slice none 0 0, .slice none 0 0, .slice none 0 0, .slice none 0 0, .slice none 0 0]

set_option maxRecDepth 100000 in
set_option maxHeartbeats 1000000 in
theorem putBytes_c (p B : Nat) (g : Option Addr) (m d : Nat) (rs : List CRow) (r : CRow) (w : World) (hb : Blk w p (bagB (.slice g m d)) 138) (hm : rs.length = m) (ho : w.ownsRow 0 43 1 (.slice g m d) m (rs.map CRow.v)) (hf : fresh B (.slice g m d)) (hB : B ≤ p) (bd : m ≤ 1000000) (R : Ending → World → Prop)
    (k : ∀ w' g' d', Blk w' p (bagB (.slice g' (m + 1) d')) 138 → w'.ownsRow 0 43 1 (.slice g' (m + 1) d') (m + 1) ((rs ++ [r]).map CRow.v) → fresh B (.slice g' (m + 1) d') → Off (fun k => B ≤ k) w w' → R (.returned (.tuple #[])) w') :
    Calls Try.prog 79 #[.pointer (some ⟨p, 0, none⟩), .slice r.a r.n r.c] w R := by
  have HK := Lib.hid k; clear k
  have HM := Lib.hid hm; clear hm
  obtain ⟨i0, hi, hz0, hz1, hz2⟩ := info_parts bsinfo
  have c5 := hb.cell (i := 5) rfl
  have hlt := hb.lt
  have hgp : Hid (¬ (Value.slice g m d).ownBlock = some p) := own_blk_ne ho hb (by decide)
  go_enter Try.func79, Try.ntmps79
  go_wp2_with (at_builtin; go_must (refine wpList_append_new rfl (.tmp 8) (.tmp 10) 72 rfl 43 i0 (.slice none 0 0) 1 24 Try.underlying72 hi hz0 hz1 hz2 rfl (by decide) (.slice g m d) m (rs.map CRow.v) rfl ho 1 1 [.slice r.a r.n r.c] rfl rfl (by intro u hu; simp at hu; subst hu; rfl) (by omega) (by omega) ?_))
  intro g1 d1 w1 hg
  have hb1 := hb.off hg.off hgp.out
  have hset := hb1.set 5 (.slice g1 (m + 1) d1)
  have c51 := hb1.cell (i := 5) rfl
  have f51 := hb1.free 5
  have hown := hg.own
  have hne : Hid ((Value.slice g1 (m + 1) d1).ownBlock ≠ some p) := own_blk_ne hown hb1 (by decide)
  have hfr : Hid (fresh B (.slice g1 (m + 1) d1)) := fun b hb => by
    rcases hg.mov b hb with h | h
    · exact hf b h
    · omega
  have hown2 : Hid ((w1.setCell ⟨p, 5, none⟩ (.slice g1 (m + 1) d1)).ownsRow 0 43 1 (.slice g1 (m + 1) d1) (m + 1) ((rs ++ [r]).map CRow.v)) := by
    have h1 := own_off hown ((Off.refl (fun i => i = p) w1).setCell (p := ⟨p, 5, none⟩) (fun _ => rfl) (.slice g1 (m + 1) d1)) (fun k hk hkp => hne.out (by rw [hk, hkp]))
    rw [List.map_append]; exact h1
  have hof : Hid (Off (fun k => B ≤ k) w (w1.setCell ⟨p, 5, none⟩ (.slice g1 (m + 1) d1))) :=
    (hg.off.mono (S' := fun k => B ≤ k) (fun i hi _ => hf i hi)).setCell (p := ⟨p, 5, none⟩) (fun _ => hB) _
  have hset := Lib.hid hset
  clear hg hown hb1 ho hb
  go_wp2_with fail
  go_end0
  exact HK.out _ _ _ hset.out hown2.out hfr.out hof.out

set_option maxRecDepth 100000 in
set_option maxHeartbeats 4000000 in
theorem apartB_c (p : Nat) (g : Option Addr) (d : Nat) (rs : List CRow) (F : Nat → List Value) (w : World) (hb : Blk w p (bagB (.slice g rs.length d)) 138) (ha : Sl w g (rs.map CRow.v)) (hrow : RowsAt w 5 1 rs F) (hd : Dist rs) (hs : ∀ q, g = some q → rs.map CRow.v ≠ [] → ¬ RB rs q.block) (hp : ¬ RB rs p)
    (bn : rs.length ≤ 400000) (bl : ∀ r ∈ rs, r.n ≤ 900000000) (R : Ending → World → Prop) (k : ∀ w', Off (RB rs) w w' → R (.returned (.bool true)) w') :
    Calls Try.prog 80 #[.pointer (some ⟨p, 0, none⟩)] w R := by
  have HK := Lib.hid k; clear k
  have HB := Lib.hid bl; clear bl
  have HD := Lib.hid hd; clear hd
  have HS := Lib.hid hs; clear hs
  have HP := Lib.hid hp; clear hp
  go_enter Try.func80, Try.ntmps80
  have c0 := hb.cell (i := 0) rfl
  go_wp2_with (go_at_call 88; go_must (refine flatLimbs_nil _ _ ?_))
  intro w0 e0
  have hb := hb.off e0 (fun x => x)
  have ha := ha.old e0
  have hrow := hrow.old e0
  have ho : Off Old w w0 := e0
  clear e0
  have c1 := hb.cell (i := 1) rfl
  go_wp2_with (go_at_call 89; go_must (refine flatWords_nil _ _ ?_))
  intro w1 e1
  have hb := hb.off e1 (fun x => x)
  have ha := ha.old e1
  have hrow := hrow.old e1
  have ho : Off Old w w1 := ho.trans e1
  clear e1
  have c2 := hb.cell (i := 2) rfl
  go_wp2_with (go_at_call 90; go_must (refine flatInts_nil _ _ ?_))
  intro w2 e2
  have hb := hb.off e2 (fun x => x)
  have ha := ha.old e2
  have hrow := hrow.old e2
  have ho : Off Old w w2 := ho.trans e2
  clear e2
  have c3 := hb.cell (i := 3) rfl
  go_wp2_with (go_at_call 91; go_must (refine flatLongs_nil _ _ ?_))
  intro w3 e3
  have hb := hb.off e3 (fun x => x)
  have ha := ha.old e3
  have hrow := hrow.old e3
  have ho : Off Old w w3 := ho.trans e3
  clear e3
  have c4 := hb.cell (i := 4) rfl
  go_wp2_with (go_at_call 92; go_must (refine flatTexts_nil _ _ ?_))
  intro w4 e4
  have hb := hb.off e4 (fun x => x)
  have ha := ha.old e4
  have hrow := hrow.old e4
  have ho : Off Old w w4 := ho.trans e4
  clear e4
  have c5 := hb.cell (i := 5) rfl
  go_wp2_with (go_at_call 93; go_must (refine flatBytes_c _ _ rs F _ ha hrow HD.out HS.out bn HB.out _ ?_))
  intro w5 e5
  have hb := hb.off e5 HP.out
  have ho : Off (RB rs) w w5 := (ho.mono (fun _ x _ => x.elim)).trans e5
  clear e5
  have c6 := hb.cell (i := 6) rfl
  go_wp2_with (go_at_call 94; go_must (refine flatTruths_nil _ _ ?_))
  intro w6 e6
  have hb := hb.off e6 (fun x => x)
  have ho : Off (RB rs) w w6 := ho.step e6 (fun _ x => x.elim)
  clear e6
  have c7 := hb.cell (i := 7) rfl
  go_wp2_with (go_at_call 95; go_must (refine flatSpans_nil _ _ ?_))
  intro w7 e7
  have hb := hb.off e7 (fun x => x)
  have ho : Off (RB rs) w w7 := ho.step e7 (fun _ x => x.elim)
  clear e7
  have c8 := hb.cell (i := 8) rfl
  go_wp2_with (go_at_call 96; go_must (refine flatShareRows_nil _ _ ?_))
  intro w8 e8
  have hb := hb.off e8 (fun x => x)
  have ho : Off (RB rs) w w8 := ho.step e8 (fun _ x => x.elim)
  clear e8
  have c9 := hb.cell (i := 9) rfl
  go_wp2_with (go_at_call 97; go_must (refine flatSharesRows_nil _ _ ?_))
  intro w9 e9
  have hb := hb.off e9 (fun x => x)
  have ho : Off (RB rs) w w9 := ho.step e9 (fun _ x => x.elim)
  clear e9
  have c10 := hb.cell (i := 10) rfl
  go_wp2_with (go_at_call 98; go_must (refine flatNames_nil _ _ ?_))
  intro w10 e10
  have hb := hb.off e10 (fun x => x)
  have ho : Off (RB rs) w w10 := ho.step e10 (fun _ x => x.elim)
  clear e10
  have c11 := hb.cell (i := 11) rfl
  go_wp2_with (go_at_call 99; go_must (refine flatActs_nil _ _ ?_))
  intro w11 e11
  have hb := hb.off e11 (fun x => x)
  have ho : Off (RB rs) w w11 := ho.step e11 (fun _ x => x.elim)
  clear e11
  have c12 := hb.cell (i := 12) rfl
  go_wp2_with (go_at_call 100; go_must (refine flatReads_nil _ _ ?_))
  intro w12 e12
  have hb := hb.off e12 (fun x => x)
  have ho : Off (RB rs) w w12 := ho.step e12 (fun _ x => x.elim)
  clear e12
  have c13 := hb.cell (i := 13) rfl
  go_wp2_with (go_at_call 101; go_must (refine flatLines_nil _ _ ?_))
  intro w13 e13
  have hb := hb.off e13 (fun x => x)
  have ho : Off (RB rs) w w13 := ho.step e13 (fun _ x => x.elim)
  clear e13
  have c14 := hb.cell (i := 14) rfl
  go_wp2_with (go_at_call 102; go_must (refine flatHolds_nil _ _ ?_))
  intro w14 e14
  have hb := hb.off e14 (fun x => x)
  have ho : Off (RB rs) w w14 := ho.step e14 (fun _ x => x.elim)
  clear e14
  have c15 := hb.cell (i := 15) rfl
  go_wp2_with (go_at_call 103; go_must (refine flatConfigs_nil _ _ ?_))
  intro w15 e15
  have hb := hb.off e15 (fun x => x)
  have ho : Off (RB rs) w w15 := ho.step e15 (fun _ x => x.elim)
  clear e15
  have c16 := hb.cell (i := 16) rfl
  go_wp2_with (go_at_call 104; go_must (refine flatEntries_nil _ _ ?_))
  intro w16 e16
  have hb := hb.off e16 (fun x => x)
  have ho : Off (RB rs) w w16 := ho.step e16 (fun _ x => x.elim)
  clear e16
  have c17 := hb.cell (i := 17) rfl
  go_wp2_with (go_at_call 105; go_must (refine flatBases_nil _ _ ?_))
  intro w17 e17
  have hb := hb.off e17 (fun x => x)
  have ho : Off (RB rs) w w17 := ho.step e17 (fun _ x => x.elim)
  clear e17
  have c18 := hb.cell (i := 18) rfl
  go_wp2_with (go_at_call 106; go_must (refine flatImages_nil _ _ ?_))
  intro w18 e18
  have hb := hb.off e18 (fun x => x)
  have ho : Off (RB rs) w w18 := ho.step e18 (fun _ x => x.elim)
  clear e18
  have c19 := hb.cell (i := 19) rfl
  go_wp2_with (go_at_call 107; go_must (refine flatLetters_nil _ _ ?_))
  intro w19 e19
  have hb := hb.off e19 (fun x => x)
  have ho : Off (RB rs) w w19 := ho.step e19 (fun _ x => x.elim)
  clear e19
  have c20 := hb.cell (i := 20) rfl
  go_wp2_with (go_at_call 108; go_must (refine flatStretches_nil _ _ ?_))
  intro w20 e20
  have hb := hb.off e20 (fun x => x)
  have ho : Off (RB rs) w w20 := ho.step e20 (fun _ x => x.elim)
  clear e20
  have c21 := hb.cell (i := 21) rfl
  go_wp2_with (go_at_call 109; go_must (refine flatPeers_nil _ _ ?_))
  intro w21 e21
  have hb := hb.off e21 (fun x => x)
  have ho : Off (RB rs) w w21 := ho.step e21 (fun _ x => x.elim)
  clear e21
  have HF := HK.out _ ho
  clear HK
  go_wp2_with fail
  exact HF

end Go.Proofs.Ytfllejlooaipiaa
