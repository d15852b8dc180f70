/- RulingDecides' walk. -/
import Derived.Test.YtahpfcfecghpmaaDuoV
import Derived.Test.YtahpfcfecghpmaaOrd
import Derived.Deep.CutRange
import Derived.KernelRfl
namespace Go.Proofs.Ytahpfcfecghpmaa
open Go.RowKit
set_option linter.unusedSimpArgs false

def fitsV (w : World) (e : Ve) : Prop := Sl w e.a (rdxs e.x.reads) ∧ (∀ y ∈ e.x.reads, y.fits) ∧ e.x.reads.length ≤ 140737488355328
set_option maxRecDepth 100000 in
set_option maxHeartbeats 8000000 in
theorem rulingDecides_c (a : Option Addr) (m cap : Nat) (l : List Ve) (hm : l.length = m) (hmb : m ≤ 140737488355328) (fork : Int) (a2 : Option Addr) (m2 cap2 : Nat) (cs : List Bool) (hm2 : cs.length = m2) (hmb2 : m2 ≤ 140737488355328) (w : World) (ha : Sl w a (vcs l)) (hv : ∀ e ∈ l, fitsV w e) (hi : ∀ e ∈ l, i64V e.x) (hb : Sl w a2 (bos cs)) (R : Ending → World → Prop)
    (k : ∀ w', Off Old w w' → R (.returned (.bool true)) w') :
    Calls Try.prog 3 #[.slice a m cap, .int .i64 fork, .slice a2 m2 cap2] w R := by
  have HK := Lib.hid k; clear k
  have HM := Lib.hid hm; clear hm
  have HM2 := Lib.hid hm2; clear hm2
  have HV := Lib.hid hv; clear hv
  have HI := Lib.hid hi; clear hi
  go_enter Try.func3, Try.ntmps3
  go_wp2_with (go_at_call 6; go_must (refine great_c a m cap l HM.out hmb _ ha HV.out _ ?_ ?_))
  · intro w1 ho1
    go_wp2_with (go_at_call 7; go_must (refine awake19_c _ _ ?_))
    intro w2 ho2
    have HF := HK.out w2 (ho1.trans ho2)
    clear HK
    go_wp2_with fail
    exact HF
  · intro hm150 hr w1 ho1
    have HR := Lib.hid hr; clear hr
    by_cases h10 : 10 < m2
    · have h10' : ((10 : Int) < (m2 : Int)) := by omega
      go_wp2_with (go_at_call 7; go_must (refine awake19_c _ _ ?_))
      intro w2 ho2
      have HF := HK.out w2 (ho1.trans ho2)
      clear HK
      go_wp2_with fail
      exact HF
    · have h10' : ¬ ((10 : Int) < (m2 : Int)) := by omega
      go_wp2_with (go_at_call 8; go_must (refine new_h _ _ ?_))
      intro w2 pb hB2 ho2
      have hM3 : RbH (w2.alloc (.cells #[.slice none 0 0] 31)) w2.heap.size [] (Own.grow (fun _ => False) w2.heap.size (w2.alloc (.cells #[.slice none 0 0] 31)).heap.size) :=
        ⟨none, 0, [], ⟨Blk.new w2 _ _, World.ownsRow_nil _ _ _ _, by simp, by simp⟩, rfl, fun k hk => by
          rcases hk with rfl | hk | ⟨e, he, _⟩
          · exact ⟨.inr ⟨Nat.le_refl _, by simp⟩, by simp⟩
          · cases hk
          · cases he⟩
      have ho3 := (Off.refl Old w2).alloc (.cells #[.slice none 0 0] 31)
      have hB3 := hB2.old ho3
      go_wp2_with (go_at_call 9; go_must (refine pick_c fork (m + 1) (by omega) (by omega) _ _ ?_))
      intro kf hkf
      generalize hW3 : (w2.alloc (.cells #[.slice none 0 0] 31)) = w3 at *
      go_wp2_with (go_at_call 10; go_must (refine bkCopy_h pb [] _ _ hB3 (by simp) _ ?_))
      intro w4 pc hC4 ho4
      go_wp2_with (go_at_call 11; go_must (refine rbCopy_h _ [] _ _ (hM3.old ho4) (by simp) _ ?_))
      intro w5 pd hD5 ho5
      have HF5 := Four.start hB2 ho2 hM3 ho3 hC4 ho4 hD5 ho5
      have ha1 := ha.old ho1
      have HE : Hid (∀ e ∈ l, Vok w1 e ∧ i64V e.x) := fun e he => ⟨⟨(HV.out e he).1.old ho1, (HV.out e he).2.1, by have := HR.out e he; omega⟩, HI.out e he⟩
      obtain ⟨Ob, Om, Oc, Od, HF⟩ : ∃ Ob Om Oc Od, Four w1 w5 pb w2.heap.size pc pd [] [] [] [] Ob Om Oc Od := ⟨_, _, _, _, HF5⟩
      clear HF5 hB2 hM3 hC4 hD5 hB3 ho3 ho4 ho5 hW3 ho2 ha HV HI
      generalize w2.heap.size = pm at *
      go_wp2_with fail
      go_loopw [10, 11, 12, 13] (fun c d rt i wr => ∃ (j : Nat) (V : Bool) (X XC : List Vd) (pc pd : Nat) (Ob Om Oc Od : Own), c = .pointer (some ⟨pc, 0, none⟩) ∧ d = .pointer (some ⟨pd, 0, none⟩) ∧ rt = .bool V ∧ i = .int .i64 j ∧ j ≤ m ∧ Hid (V = (l.take j).all (fun e => e.x.ok)) ∧ Four w1 wr pb pm pc pd X X XC XC Ob Om Oc Od ∧ Hid (X.length ≤ j) ∧ Hid (XC.length ≤ j) ∧ Hid (∀ x ∈ X, x.ok = true)) (fun _ _ _ i _ => m - (intOf i).toNat)
      case atStart => exact ⟨0, true, [], [], pc, pd, Ob, Om, Oc, Od, rfl, rfl, rfl, rfl, Nat.zero_le _, rfl, HF, Nat.le_refl _, Nat.le_refl _, by intro x hx; cases hx⟩
      case round =>
        clear HF
        obtain ⟨j, V, X, XC, pc, pd, Ob, Om, Oc, Od, rfl, rfl, rfl, rfl, hj, hV, HF, hlX, hlC, hokX⟩ := hrel
        by_cases hlt : j < m
        · obtain ⟨e, he⟩ := at_of_lt (l := l) (j := j) (by have := HM.out; omega)
          obtain ⟨hve, hie⟩ := HE.out e (List.mem_of_getElem? he.out)
          obtain ⟨b, o, ix, Q, _⟩ := ha1.ix_ve cap
          rw [HM.out] at ix
          have hix := ix j hlt
          obtain ⟨x0, x1, x2, x3, x4⟩ := Q.out j e he.out
          obtain ⟨me, hme⟩ : ∃ me, Hid (e.x.reads.length = me) := ⟨_, rfl⟩
          rw [hme.out] at x4
          have hme6 : me ≤ 1300 := by rw [← hme.out]; exact HR.out e (List.mem_of_getElem? he.out)
          clear ix Q
          go_upto_if 56 with fail
          go_cut [10, 11] from 48 to 170 (fun c d wx => ∃ (pc pd : Nat) (XC : List Vd) (Oc Od : Own), c = .pointer (some ⟨pc, 0, none⟩) ∧ d = .pointer (some ⟨pd, 0, none⟩) ∧ Four w1 wx pb pm pc pd X X XC XC Ob Om Oc Od ∧ Hid (XC.length ≤ j))
          case first =>
            by_cases hjk : j = kf
            · have hb1 : ((j : Int) == (kf : Int)) = true := by simp [hjk]
              clear hjk
              have hX6 : X.length ≤ 1000000 := by have := hlX.out; omega
              go_wp2_with (go_at_call 10; go_must (refine bkCopy_h pb X _ _ HF.b hX6 _ ?_))
              intro w6 pc6 hC6 ho6
              have HF6 := HF.newC hC6 ho6
              go_wp2_with (go_at_call 11; go_must (refine rbCopy_h pm X _ _ HF6.m hX6 _ ?_))
              intro w7 pd7 hD7 ho7
              have HF7 := HF6.newD hD7 ho7
              go_wp2_with fail
              go_meet
              exact ⟨pc6, pd7, X, _, _, rfl, rfl, HF7, hlX⟩
            · have hb1 : ((j : Int) == (kf : Int)) = false := by simp; omega
              clear hjk
              go_wp2_with fail
              go_meet
              exact ⟨pc, pd, XC, Oc, Od, rfl, rfl, HF, hlC⟩
          case rest =>
            clear HF hlC
            obtain ⟨pc, pd, XC, Oc, Od, rfl, rfl, HF, hlC⟩ := hcut
            have c0 := HF.off.cell (fun x => x) x0
            have c1 := HF.off.cell (fun x => x) x1
            have c2 := HF.off.cell (fun x => x) x2
            have c3 := HF.off.cell (fun x => x) x3
            have c4 := HF.off.cell (fun x => x) x4
            have hvc := hve.old HF.off
            have hzc := HF.off.size
            have hal : Off Old wc (wc.alloc (.cells #[.int .i64 e.x.c, .int .i64 e.x.n, .bool e.x.commit, .int .i64 e.x.at_, .slice e.a me e.cap] 38)) := (Off.refl _ _).alloc _
            have hbx := Lib.hid (Blk.new wc #[.int .i64 e.x.c, .int .i64 e.x.n, .bool e.x.commit, .int .i64 e.x.at_, .slice e.a me e.cap] 38)
            have hvA := hvc.old hal
            have hFA := HF.old hal
            have hfarA := HF.far (Nat.le_refl wc.heap.size)
            have d0 := hal.cell (fun x => x) c0
            have d1 := hal.cell (fun x => x) c1
            have d2 := hal.cell (fun x => x) c2
            have d3 := hal.cell (fun x => x) c3
            have d4 := hal.cell (fun x => x) c4
            have ht14 := hbx.out.lt
            have htw : w1.heap.size ≤ wc.heap.size := hzc
            clear hvc
            go_upto_region 14 with fail
            generalize hwA : (wc.alloc (.cells #[.int .i64 e.x.c, .int .i64 e.x.n, .bool e.x.commit, .int .i64 e.x.at_, .slice e.a me e.cap] 38)) = wA at *
            clear hwA c0 c1 c2 c3 c4 hzc HF hal
            generalize wc.heap.size = t14 at *
            go_wp2_with (go_at_call 12; go_must (refine lentReads_c e.a me e.cap e.x.reads _ hme.out hvA.sl (by omega) _ ?_))
            intro w6 g hg6 ho6 hgA
            have hx6 := hbx.out.old ho6
            have y4 := hx6.cell (i := 4) rfl
            have yf := hx6.free 4
            have hF6 := hFA.old ho6
            have hb14 := Lib.hid (hx6.set 4 (.slice (some ⟨g, 0, none⟩) me (me + 12)))
            have hgn : g ≠ t14 := by omega
            have hgw : w1.heap.size ≤ g := by omega
            have hg7 := Lib.hid (hg6.far (p := ⟨t14, 4, none⟩) (by show t14 ≠ g; omega) (.slice (some ⟨g, 0, none⟩) me (me + 12)))
            have hF7 := hF6.one (g := t14) ((Off.refl (fun k => k = t14) w6).setCell (p := ⟨t14, 4, none⟩) (fun _ => rfl) (.slice (some ⟨g, 0, none⟩) me (me + 12))) htw hfarA
            have hfarg := hFA.far hgA
            clear hx6 hF6 hFA hbx
            go_upto_region 15 with fail
            generalize hw7 : (w6.setCell ⟨t14, 4, none⟩ (.slice (some ⟨g, 0, none⟩) me (me + 12))) = w7 at *
            clear hw7 y4 yf hg6 d0 d1 d2 d3 d4 hvA
            have hv7 := hve.old hF7.off
            have d0 := hF7.off.cell (fun x => x) x0
            have d1 := hF7.off.cell (fun x => x) x1
            have d2 := hF7.off.cell (fun x => x) x2
            have d3 := hF7.off.cell (fun x => x) x3
            have d4 := hF7.off.cell (fun x => x) x4
            obtain ⟨K, hK⟩ : ∃ K, Hid (e.x.ok = K) := ⟨_, rfl⟩
            have hV2 : Hid ((V && K) = (l.take (j + 1)).all (fun e => e.x.ok)) := by
              show _ = _
              rw [List.take_add_one, he.out, hV.out, ← hK.out]; simp
            go_cut [12] from 48 to 170 (fun rt wx => ∃ V2 : Bool, rt = .bool V2 ∧ Hid (V2 = (l.take (j + 1)).all (fun e => e.x.ok)) ∧ Off Old w7 wx)
            case first =>
              cases V
              · go_wp2_with fail
                go_meet
                exact ⟨false, rfl, hV2, Off.refl _ _⟩
              · go_wp2_with (go_at_call 14; go_must (refine turned_v e.x e.a me e.cap _ _ ?_))
                intro w8 ho8
                go_wp2_with (go_at_call 13; go_must (refine rRight_v e.x e.a me e.cap K hK hme _ (hv7.old ho8) _ ?_))
                intro w9 ho9
                go_wp2_with fail
                go_meet
                exact ⟨K, rfl, hV2, ho8.trans ho9⟩
            case rest =>
              obtain ⟨V2, rfl, hV3, ho8⟩ := hcut
              clear d0 d1 d2 d3 d4 hv7 hV2 hV
              have hF8 := hF7.old ho8
              have hb8 := Lib.hid (hb14.out.old ho8)
              have hg8 := Lib.hid (hg7.out.old ho8)
              have n0 := hb8.out.cell (i := 0) rfl
              have n1 := hb8.out.cell (i := 1) rfl
              have n2 := hb8.out.cell (i := 2) rfl
              have n3 := hb8.out.cell (i := 3) rfl
              have n4 := hb8.out.cell (i := 4) rfl
              have hX6 : X.length ≤ 1000000 := by have := hlX.out; omega
              obtain ⟨Y, hY⟩ : ∃ Y, Hid (decV X e.x = Y) := ⟨_, rfl⟩
              obtain ⟨E, hE⟩ : ∃ E, Hid (decE X e.x = E) := ⟨_, rfl⟩
              obtain ⟨X2, hX2⟩ : ∃ X2, Hid ((dec X e.x).2 = X2) := ⟨_, rfl⟩
              have hlX2 : Hid (X2.length ≤ j + 1) := by show _ ≤ _; have := dec_len' X e.x; rw [hX2.out] at this; have := hlX.out; omega
              have hokX2 : Hid (∀ x ∈ X2, x.ok = true) := by
                have := dec_all (x := e.x) hokX.out
                rw [hX2.out] at this; exact this
              clear hb14 hg7 hF7 ho8 hokX hlX hK
              go_wp2_with (go_at_call 15; go_must (refine bkDecide_v pb X Ob e.x (some ⟨g, 0, none⟩) me (me + 12) Y E X2 hY hE hX2 hme _ hF8.b (lent_vok hg8.out hve) hie (by rintro _ q ⟨rfl⟩; exact hfarg.1) hX6 _ ?_))
              intro w9 a15 m15 c15 hB9 hv15 hm15 ho9 hfr15
              have hF9 := hF8.toB hB9 ho9
              have hb9 := Lib.hid (hb8.out.off ho9 hfarA.1)
              have hg9 := Lib.hid (hg8.out.off ho9 hfarg.1)
              have hm8 := hF8.nm
              have hz9 := ho9.size
              have hgl8 := hg8.out.lt
              have htg : t14 < w9.heap.size ∧ g < w9.heap.size := ⟨hb9.out.lt, hg9.out.lt⟩
              have hal : Off Old w9 (w9.alloc (.cells #[.int .i64 Y.c, .int .i64 Y.n, .bool Y.commit, .int .i64 Y.at_, .slice a15 m15 c15] 38)) := (Off.refl _ _).alloc _
              have hx15 := Lib.hid (Blk.new w9 #[.int .i64 Y.c, .int .i64 Y.n, .bool Y.commit, .int .i64 Y.at_, .slice a15 m15 c15] 38)
              have hF10 := hF9.old hal
              have hfar15 := hF9.far (Nat.le_refl w9.heap.size)
              have ht15 : w1.heap.size ≤ w9.heap.size := hF9.off.size
              have hv10 := hv15.old hal
              have hb10 := Lib.hid (hb9.out.old hal)
              have hg10 := Lib.hid (hg9.out.old hal)
              clear n0 n1 n2 n3 n4 hF8 hb8 hg8 hF9 hv15 hb9 hg9 hB9
              go_upto_region 17 with fail
              generalize hwA : (w9.alloc (.cells #[.int .i64 Y.c, .int .i64 Y.n, .bool Y.commit, .int .i64 Y.at_, .slice a15 m15 c15] 38)) = w10 at *
              clear hwA hal
              have hfargb : ¬ (Ob.grow wc.heap.size w9.heap.size) g := grow_far hfarg.1 hgl8
              generalize hOb : Ob.grow wc.heap.size w9.heap.size = Ob2 at *
              generalize w9.heap.size = t15 at *
              have d0 := hF10.off.cell (fun x => x) x0
              have d1 := hF10.off.cell (fun x => x) x1
              have d2 := hF10.off.cell (fun x => x) x2
              have d3 := hF10.off.cell (fun x => x) x3
              have d4 := hF10.off.cell (fun x => x) x4
              go_wp2_with (go_at_call 14; go_must (refine turned_v e.x e.a me e.cap _ _ ?_))
              intro w11 ho11
              have hF11 := hF10.old ho11
              have hv11 := hve.old hF11.off
              go_wp2_with (go_at_call 16; go_must (refine rDecide_v pm X Om e.x e.a me e.cap Y E X2 hY hE hX2 hme _ hF11.m hv11 hie (fun hne q hq hk => by have h7 := hve.sl.lt hq (ne_rdxs hne); have h8 := (hF11.nm _ hk).1; omega) hX6 _ ?_))
              intro w12 a17 m17 c17 hM12 hv17 hm17 ho12 hfr17
              have hF12 := hF11.toM hM12 ho12
              have hv15 := vok_far (hv10.old ho11) ho12 hfr15 (fun k hk => (hm8 k hk).2)
              have hx12 := Lib.hid ((hx15.out.old ho11).off ho12 hfar15.2.1)
              have hb12 := Lib.hid ((hb10.out.old ho11).off ho12 hfarA.2.1)
              have hg12 := Lib.hid ((hg10.out.old ho11).off ho12 hfarg.2.1)
              have hz12 := ho12.size
              have hz11 := ho11.size
              have hxl := hx12.out.lt
              have hgl := hg12.out.lt
              have hxl11 : t15 < w11.heap.size := by have := (hx15.out.old ho11).lt; exact this
              have hgl11 : g < w11.heap.size := by have := (hg10.out.old ho11).lt; exact this
              have hal : Off Old w12 (w12.alloc (.cells #[.int .i64 Y.c, .int .i64 Y.n, .bool Y.commit, .int .i64 Y.at_, .slice a17 m17 c17] 41)) := (Off.refl _ _).alloc _
              have hx17 := Lib.hid (Blk.new w12 #[.int .i64 Y.c, .int .i64 Y.n, .bool Y.commit, .int .i64 Y.at_, .slice a17 m17 c17] 41)
              have hfar17 := hF12.far (Nat.le_refl w12.heap.size)
              have hF13 := hF12.old hal
              have ht17 : w1.heap.size ≤ w12.heap.size := hF12.off.size
              have hfar15' : ¬ (Om.grow w11.heap.size w12.heap.size) t15 := grow_far hfar15.2.1 hxl11
              have hfargm : ¬ (Om.grow w11.heap.size w12.heap.size) g := grow_far hfarg.2.1 hgl11
              have hv13a := hv15.old hal
              have hv13b := hv17.old hal
              have hx13 := Lib.hid (hx12.out.old hal)
              have hb13 := Lib.hid (hb12.out.old hal)
              have hg13 := Lib.hid (hg12.out.old hal)
              clear hF10 hF11 hv10 hx15 hb10 hg10 hv11 hM12 hv17 hv15 hx12 hb12 hg12 hF12 d0 d1 d2 d3 d4 hm8
              go_upto_region 18 with fail
              generalize hwA : (w12.alloc (.cells #[.int .i64 Y.c, .int .i64 Y.n, .bool Y.commit, .int .i64 Y.at_, .slice a17 m17 c17] 41)) = w13 at *
              clear hwA hal ho12 ho11 hz11
              generalize hOm : Om.grow w11.heap.size w12.heap.size = Om2 at *
              clear hOm hOb
              have htt : t15 < w12.heap.size ∧ g < w12.heap.size := ⟨hxl, hgl⟩
              generalize w12.heap.size = t17 at *
              have hv13 := hve.old hF13.off
              obtain ⟨gm, dm, hcm⟩ := hF13.m.cell
              obtain ⟨nX, hnX⟩ : ∃ nX, Hid (X2.length = nX) := ⟨_, rfl⟩
              rw [hnX.out] at hcm
              have hcl : ∀ w', Off Old w13 w' → (w'.cell? ⟨t15, 0, none⟩ = some (.int .i64 Y.c) ∧ w'.cell? ⟨t15, 1, none⟩ = some (.int .i64 Y.n) ∧ w'.cell? ⟨t15, 2, none⟩ = some (.bool Y.commit) ∧ w'.cell? ⟨t15, 3, none⟩ = some (.int .i64 Y.at_) ∧ w'.cell? ⟨t15, 4, none⟩ = some (.slice a15 m15 c15)) ∧
                  (w'.cell? ⟨t17, 0, none⟩ = some (.int .i64 Y.c) ∧ w'.cell? ⟨t17, 1, none⟩ = some (.int .i64 Y.n) ∧ w'.cell? ⟨t17, 2, none⟩ = some (.bool Y.commit) ∧ w'.cell? ⟨t17, 3, none⟩ = some (.int .i64 Y.at_) ∧ w'.cell? ⟨t17, 4, none⟩ = some (.slice a17 m17 c17)) ∧
                  (w'.cell? ⟨t14, 0, none⟩ = some (.int .i64 e.x.c) ∧ w'.cell? ⟨t14, 1, none⟩ = some (.int .i64 e.x.n) ∧ w'.cell? ⟨t14, 2, none⟩ = some (.bool e.x.commit) ∧ w'.cell? ⟨t14, 3, none⟩ = some (.int .i64 e.x.at_) ∧ w'.cell? ⟨t14, 4, none⟩ = some (.slice (some ⟨g, 0, none⟩) me (me + 12))) ∧
                  (w'.cell? ⟨b, o + j * 5, none⟩ = some (.int .i64 e.x.c) ∧ w'.cell? ⟨b, o + j * 5 + 1, none⟩ = some (.int .i64 e.x.n) ∧ w'.cell? ⟨b, o + j * 5 + 2, none⟩ = some (.bool e.x.commit) ∧ w'.cell? ⟨b, o + j * 5 + 3, none⟩ = some (.int .i64 e.x.at_) ∧ w'.cell? ⟨b, o + j * 5 + 4, none⟩ = some (.slice e.a me e.cap)) ∧
                  w'.cell? ⟨pm, 0, none⟩ = some (.slice gm nX dm) := fun w' hh => by
                have q1 := hx13.out.old hh
                have q2 := hx17.out.old hh
                have q3 := hb13.out.old hh
                have q4 := hF13.off.trans hh
                exact ⟨⟨q1.cell rfl, q1.cell rfl, q1.cell rfl, q1.cell rfl, q1.cell rfl⟩, ⟨q2.cell rfl, q2.cell rfl, q2.cell rfl, q2.cell rfl, q2.cell rfl⟩, ⟨q3.cell rfl, q3.cell rfl, q3.cell rfl, q3.cell rfl, q3.cell rfl⟩, ⟨q4.cell (fun x => x) x0, q4.cell (fun x => x) x1, q4.cell (fun x => x) x2, q4.cell (fun x => x) x3, q4.cell (fun x => x) x4⟩, hh.cell (fun x => x) hcm⟩
              clear hcm
              obtain ⟨KB, hKB⟩ : ∃ KB, Hid (e.x.ok = KB) := ⟨_, rfl⟩
              refine wp_region_E (fun w' => Off Old (w13) w') [] (by kernel_rfl) ?_ (fun hHeld => ?_)
              · (first | exact Off.refl _ _ | exact Off.alloc hHeld _ | exact Off.trans hHeld (by assumption) | assumption | exact (Off.refl _ _).drew)
              refine wpAnyE_take (i := 0) (v := ?_) rfl (by kernel_rfl) (by kernel_rfl) (by kernel_rfl) (fun _ _ _ h => h) (Or.inl ⟨by rfl, ?_⟩) ?_
              rotate_left
              · (intro w _; go_simp; try with_reducible rfl)
              try simp only [Act.put, List.getElem_toArray, List.getElem_cons_zero, List.getElem_cons_succ, List.setIfInBounds_toArray, List.set_cons_zero, List.set_cons_succ]
              refine wpAnyE_take (i := 1) (v := ?_) rfl (by kernel_rfl) (by kernel_rfl) (by kernel_rfl) (fun _ _ _ h => h) (Or.inl ⟨by rfl, ?_⟩) ?_
              rotate_left
              · (intro w _; go_simp; try with_reducible rfl)
              try simp only [Act.put, List.getElem_toArray, List.getElem_cons_zero, List.getElem_cons_succ, List.setIfInBounds_toArray, List.set_cons_zero, List.set_cons_succ]
              refine wpAnyE_take (i := 2) (v := ?_) rfl (by kernel_rfl) (by kernel_rfl) (by kernel_rfl) (fun _ _ _ h => h) (Or.inl ⟨by rfl, ?_⟩) ?_
              rotate_left
              · (intro w _; go_simp; try with_reducible rfl)
              try simp only [Act.put, List.getElem_toArray, List.getElem_cons_zero, List.getElem_cons_succ, List.setIfInBounds_toArray, List.set_cons_zero, List.set_cons_succ]
              refine wpAnyE_take (i := 3) (v := ?_) rfl (by kernel_rfl) (by kernel_rfl) (by kernel_rfl) (fun _ _ _ h => h) (Or.inl ⟨by rfl, ?_⟩) ?_
              rotate_left
              · (intro w _; go_simp; try with_reducible rfl)
              try simp only [Act.put, List.getElem_toArray, List.getElem_cons_zero, List.getElem_cons_succ, List.setIfInBounds_toArray, List.set_cons_zero, List.set_cons_succ]
              refine wpAnyE_load (tr := [[], [], [0, 1], [0, 1, 2], [0, 1, 2, 3], [0, 1, 2, 3], [0, 1, 2, 3, 4, 5], [0, 1, 2, 3, 4, 5, 6], [0, 1, 2, 3, 4, 5, 6, 7], [0, 1, 2, 3, 4, 5, 6, 7, 8], [0, 1, 2, 3, 4, 5, 6, 7, 8, 9], [0, 1, 2, 3, 4, 5, 6, 7, 8, 9, 10], [0, 1, 2, 3, 4, 5, 6, 7, 8, 9], [0, 1, 2, 3, 4, 5, 6, 7, 8, 9], [0, 1, 2, 3, 4, 5, 6, 7, 8, 9, 12, 13], [0, 1, 2, 3, 4, 5, 6, 7, 8, 9, 12, 13, 14], [0, 1, 2, 3, 4, 5, 6, 7, 8, 9, 12, 13, 14, 15], [0, 1, 2, 3, 4, 5, 6, 7, 8, 9, 10, 11, 12, 13, 14, 15, 16], [0, 1, 2, 3, 4, 5, 6, 7, 8, 9, 10, 11, 12, 13, 14, 15, 16, 17], [0, 1, 2, 3, 4, 5, 6, 7, 8, 9, 10, 11, 12, 13, 14, 15, 16, 17, 18], [0, 1, 2, 3, 4, 5, 6, 7, 8, 9, 10, 11, 12, 13, 14, 15, 16, 17, 18, 19], [0, 1, 2, 3, 4, 5, 6, 7, 8, 9, 10, 11, 12, 13, 14, 15, 16, 17, 18, 19, 20], [0, 1, 2, 3, 4, 5, 6, 7, 8, 9, 10, 11, 12, 13, 14, 15, 16, 17, 18, 19, 20, 21], [0, 1, 2, 3, 4, 5, 6, 7, 8, 9, 10, 11, 12, 13, 14, 15, 16, 17, 18, 19, 20, 21, 22], [0, 1, 2, 3, 4, 5, 6, 7, 8, 9, 10, 11, 12, 13, 14, 15, 16, 17, 18, 19, 20], [0, 1, 2, 3, 4, 5, 6, 7, 8, 9, 10, 11, 12, 13, 14, 15, 16, 17, 18, 19, 20], [0, 1, 2, 3, 4, 5, 6, 7, 8, 9, 10, 11, 12, 13, 14, 15, 16, 17, 18, 19, 20, 24, 25], [0, 1, 2, 3, 4, 5, 6, 7, 8, 9, 10, 11, 12, 13, 14, 15, 16, 17, 18, 19, 20, 24, 25, 26], [0, 1, 2, 3, 4, 5, 6, 7, 8, 9, 10, 11, 12, 13, 14, 15, 16, 17, 18, 19, 20, 21, 22, 23, 24, 25, 26, 27], [0, 1, 2, 3, 4, 5, 6, 7, 8, 9, 10, 11, 12, 13, 14, 15, 16, 17, 18, 19, 20, 21, 22, 23, 24, 25, 26, 27, 28], [0, 1, 2, 3, 4, 5, 6, 7, 8, 9, 10, 11, 12, 13, 14, 15, 16, 17, 18, 19, 20, 21, 22, 23, 24, 25, 26, 27, 28, 29], [0, 1, 2, 3, 4, 5, 6, 7, 8, 9, 10, 11, 12, 13, 14, 15, 16, 17, 18, 19, 20, 21, 22, 23, 24, 25, 26, 27, 28, 29, 30], [0, 1, 2, 3, 4, 5, 6, 7, 8, 9, 10, 11, 12, 13, 14, 15, 16, 17, 18, 19, 20, 21, 22, 23, 24, 25, 26, 27, 28, 29, 30, 31], [0, 1, 2, 3, 4, 5, 6, 7, 8, 9, 10, 11, 12, 13, 14, 15, 16, 17, 18, 19, 20, 21, 22, 23, 24, 25, 26, 27, 28, 29, 30, 31, 32], [0, 1, 2, 3, 4, 5, 6, 7, 8, 9, 10, 11, 12, 13, 14, 15, 16, 17, 18, 19, 20, 21, 22, 23, 24, 25, 26, 27, 28, 29, 30, 31, 32, 33], [0, 1, 2, 3, 4, 5, 6, 7, 8, 9, 10, 11, 12, 13, 14, 15, 16, 17, 18, 19, 20, 21, 22, 23, 24, 25, 26, 27, 28, 29, 30, 31, 32], [0, 1, 2, 3, 4, 5, 6, 7, 8, 9, 10, 11, 12, 13, 14, 15, 16, 17, 18, 19, 20, 21, 22, 23, 24, 25, 26, 27, 28, 29, 30, 31, 32, 35], [0, 1, 2, 3, 4, 5, 6, 7, 8, 9, 10, 11, 12, 13, 14, 15, 16, 17, 18, 19, 20, 21, 22, 23, 24, 25, 26, 27, 28, 29, 30, 31, 32, 35, 36], [0, 1, 2, 3, 4, 5, 6, 7, 8, 9, 10, 11, 12, 13, 14, 15, 16, 17, 18, 19, 20, 21, 22, 23, 24, 25, 26, 27, 28, 29, 30, 31, 32, 35, 36, 37], [0, 1, 2, 3, 4, 5, 6, 7, 8, 9, 10, 11, 12, 13, 14, 15, 16, 17, 18, 19, 20, 21, 22, 23, 24, 25, 26, 27, 28, 29, 30, 31, 32, 35, 36, 37, 38], [0, 1, 2, 3, 4, 5, 6, 7, 8, 9, 10, 11, 12, 13, 14, 15, 16, 17, 18, 19, 20, 21, 22, 23, 24, 25, 26, 27, 28, 29, 30, 31, 32, 33, 34, 35, 36, 37, 38, 39], [0, 1, 2, 3, 4, 5, 6, 7, 8, 9, 10, 11, 12, 13, 14, 15, 16, 17, 18, 19, 20, 21, 22, 23, 24, 25, 26, 27, 28, 29, 30, 31, 32, 33, 34, 35, 36, 37, 38, 39, 40]]) (i := 4) (v := ?_) (by kernel_rfl) rfl (by kernel_rfl) (by kernel_rfl) (by kernel_rfl) (by kernel_rfl) (by kernel_rfl) (fun _ _ _ h => h) (Or.inl ⟨by rfl, ?_⟩) hHeld ?_
              rotate_left
              · (intro w hSw; (try dsimp only at hSw); go_simp; try with_reducible rfl)
              try simp only [Act.put, List.getElem_toArray, List.getElem_cons_zero, List.getElem_cons_succ, List.setIfInBounds_toArray, List.set_cons_zero, List.set_cons_succ]
              refine wpAnyE_load (tr := [[], [], [0, 1], [0, 1, 2], [0, 1, 2, 3], [0, 1, 2, 3], [0, 1, 2, 3, 4, 5], [0, 1, 2, 3, 4, 5, 6], [0, 1, 2, 3, 4, 5, 6, 7], [0, 1, 2, 3, 4, 5, 6, 7, 8], [0, 1, 2, 3, 4, 5, 6, 7, 8, 9], [0, 1, 2, 3, 4, 5, 6, 7, 8, 9, 10], [0, 1, 2, 3, 4, 5, 6, 7, 8, 9], [0, 1, 2, 3, 4, 5, 6, 7, 8, 9], [0, 1, 2, 3, 4, 5, 6, 7, 8, 9, 12, 13], [0, 1, 2, 3, 4, 5, 6, 7, 8, 9, 12, 13, 14], [0, 1, 2, 3, 4, 5, 6, 7, 8, 9, 12, 13, 14, 15], [0, 1, 2, 3, 4, 5, 6, 7, 8, 9, 10, 11, 12, 13, 14, 15, 16], [0, 1, 2, 3, 4, 5, 6, 7, 8, 9, 10, 11, 12, 13, 14, 15, 16, 17], [0, 1, 2, 3, 4, 5, 6, 7, 8, 9, 10, 11, 12, 13, 14, 15, 16, 17, 18], [0, 1, 2, 3, 4, 5, 6, 7, 8, 9, 10, 11, 12, 13, 14, 15, 16, 17, 18, 19], [0, 1, 2, 3, 4, 5, 6, 7, 8, 9, 10, 11, 12, 13, 14, 15, 16, 17, 18, 19, 20], [0, 1, 2, 3, 4, 5, 6, 7, 8, 9, 10, 11, 12, 13, 14, 15, 16, 17, 18, 19, 20, 21], [0, 1, 2, 3, 4, 5, 6, 7, 8, 9, 10, 11, 12, 13, 14, 15, 16, 17, 18, 19, 20, 21, 22], [0, 1, 2, 3, 4, 5, 6, 7, 8, 9, 10, 11, 12, 13, 14, 15, 16, 17, 18, 19, 20], [0, 1, 2, 3, 4, 5, 6, 7, 8, 9, 10, 11, 12, 13, 14, 15, 16, 17, 18, 19, 20], [0, 1, 2, 3, 4, 5, 6, 7, 8, 9, 10, 11, 12, 13, 14, 15, 16, 17, 18, 19, 20, 24, 25], [0, 1, 2, 3, 4, 5, 6, 7, 8, 9, 10, 11, 12, 13, 14, 15, 16, 17, 18, 19, 20, 24, 25, 26], [0, 1, 2, 3, 4, 5, 6, 7, 8, 9, 10, 11, 12, 13, 14, 15, 16, 17, 18, 19, 20, 21, 22, 23, 24, 25, 26, 27], [0, 1, 2, 3, 4, 5, 6, 7, 8, 9, 10, 11, 12, 13, 14, 15, 16, 17, 18, 19, 20, 21, 22, 23, 24, 25, 26, 27, 28], [0, 1, 2, 3, 4, 5, 6, 7, 8, 9, 10, 11, 12, 13, 14, 15, 16, 17, 18, 19, 20, 21, 22, 23, 24, 25, 26, 27, 28, 29], [0, 1, 2, 3, 4, 5, 6, 7, 8, 9, 10, 11, 12, 13, 14, 15, 16, 17, 18, 19, 20, 21, 22, 23, 24, 25, 26, 27, 28, 29, 30], [0, 1, 2, 3, 4, 5, 6, 7, 8, 9, 10, 11, 12, 13, 14, 15, 16, 17, 18, 19, 20, 21, 22, 23, 24, 25, 26, 27, 28, 29, 30, 31], [0, 1, 2, 3, 4, 5, 6, 7, 8, 9, 10, 11, 12, 13, 14, 15, 16, 17, 18, 19, 20, 21, 22, 23, 24, 25, 26, 27, 28, 29, 30, 31, 32], [0, 1, 2, 3, 4, 5, 6, 7, 8, 9, 10, 11, 12, 13, 14, 15, 16, 17, 18, 19, 20, 21, 22, 23, 24, 25, 26, 27, 28, 29, 30, 31, 32, 33], [0, 1, 2, 3, 4, 5, 6, 7, 8, 9, 10, 11, 12, 13, 14, 15, 16, 17, 18, 19, 20, 21, 22, 23, 24, 25, 26, 27, 28, 29, 30, 31, 32], [0, 1, 2, 3, 4, 5, 6, 7, 8, 9, 10, 11, 12, 13, 14, 15, 16, 17, 18, 19, 20, 21, 22, 23, 24, 25, 26, 27, 28, 29, 30, 31, 32, 35], [0, 1, 2, 3, 4, 5, 6, 7, 8, 9, 10, 11, 12, 13, 14, 15, 16, 17, 18, 19, 20, 21, 22, 23, 24, 25, 26, 27, 28, 29, 30, 31, 32, 35, 36], [0, 1, 2, 3, 4, 5, 6, 7, 8, 9, 10, 11, 12, 13, 14, 15, 16, 17, 18, 19, 20, 21, 22, 23, 24, 25, 26, 27, 28, 29, 30, 31, 32, 35, 36, 37], [0, 1, 2, 3, 4, 5, 6, 7, 8, 9, 10, 11, 12, 13, 14, 15, 16, 17, 18, 19, 20, 21, 22, 23, 24, 25, 26, 27, 28, 29, 30, 31, 32, 35, 36, 37, 38], [0, 1, 2, 3, 4, 5, 6, 7, 8, 9, 10, 11, 12, 13, 14, 15, 16, 17, 18, 19, 20, 21, 22, 23, 24, 25, 26, 27, 28, 29, 30, 31, 32, 33, 34, 35, 36, 37, 38, 39], [0, 1, 2, 3, 4, 5, 6, 7, 8, 9, 10, 11, 12, 13, 14, 15, 16, 17, 18, 19, 20, 21, 22, 23, 24, 25, 26, 27, 28, 29, 30, 31, 32, 33, 34, 35, 36, 37, 38, 39, 40]]) (i := 5) (v := ?_) (by kernel_rfl) rfl (by kernel_rfl) (by kernel_rfl) (by kernel_rfl) (by kernel_rfl) (by kernel_rfl) (fun _ _ _ h => h) (Or.inl ⟨by rfl, ?_⟩) hHeld ?_
              rotate_left
              · (intro w hSw; (try dsimp only at hSw); go_simp; try with_reducible rfl)
              try simp only [Act.put, List.getElem_toArray, List.getElem_cons_zero, List.getElem_cons_succ, List.setIfInBounds_toArray, List.set_cons_zero, List.set_cons_succ]
              refine wpAnyE_ready (rs := [6]) (by kernel_rfl) (by simp) ?_
              refine AllReadyE.cons rfl (fun K hK => ?_) AllReadyE.nil
              go_simp
              (go_at_call 17; refine same19_c Y a15 a17 m15 m17 c15 c17 hm15 hm17 _ (hv13a.old (Off.refl Old w13).drew) (hv13b.old (Off.refl Old w13).drew) _ ?_; intro w14 ho14; have hoA := (Off.refl Old w13).drew.trans ho14)
              refine hK.out _ _ ?_ (fun hHeld => ?_)
              · (first | exact Off.refl _ _ | exact Off.alloc hHeld _ | exact Off.trans hHeld (by assumption) | assumption | exact (Off.refl _ _).drew)
              clear hK K
              try simp only [Act.put, List.getElem_toArray, List.getElem_cons_zero, List.getElem_cons_succ, List.setIfInBounds_toArray, List.set_cons_zero, List.set_cons_succ]
              refine wpAnyE_take (i := 7) (v := ?_) rfl (by kernel_rfl) (by kernel_rfl) (by kernel_rfl) (fun _ _ _ h => h) (Or.inl ⟨by rfl, ?_⟩) ?_
              rotate_left
              · (intro w _; go_simp; try with_reducible rfl)
              try simp only [Act.put, List.getElem_toArray, List.getElem_cons_zero, List.getElem_cons_succ, List.setIfInBounds_toArray, List.set_cons_zero, List.set_cons_succ]
              refine wpAnyE_take (i := 8) (v := ?_) rfl (by kernel_rfl) (by kernel_rfl) (by kernel_rfl) (fun _ _ _ h => h) (Or.inl ⟨by rfl, ?_⟩) ?_
              rotate_left
              · (intro w _; go_simp; try with_reducible rfl)
              try simp only [Act.put, List.getElem_toArray, List.getElem_cons_zero, List.getElem_cons_succ, List.setIfInBounds_toArray, List.set_cons_zero, List.set_cons_succ]
              refine wpAnyE_take (i := 9) (v := ?_) rfl (by kernel_rfl) (by kernel_rfl) (by kernel_rfl) (fun _ _ _ h => h) (Or.inl ⟨by rfl, ?_⟩) ?_
              rotate_left
              · (intro w _; go_simp; try with_reducible rfl)
              try simp only [Act.put, List.getElem_toArray, List.getElem_cons_zero, List.getElem_cons_succ, List.setIfInBounds_toArray, List.set_cons_zero, List.set_cons_succ]
              refine wpAnyE_take (i := 10) (v := ?_) rfl (by kernel_rfl) (by kernel_rfl) (by kernel_rfl) (fun _ _ _ h => h) (Or.inl ⟨by rfl, ?_⟩) ?_
              rotate_left
              · (intro w _; go_simp; try with_reducible rfl)
              try simp only [Act.put, List.getElem_toArray, List.getElem_cons_zero, List.getElem_cons_succ, List.setIfInBounds_toArray, List.set_cons_zero, List.set_cons_succ]
              refine wpAnyE_load (tr := [[], [], [0, 1], [0, 1, 2], [0, 1, 2, 3], [0, 1, 2, 3], [0, 1, 2, 3, 4, 5], [0, 1, 2, 3, 4, 5, 6], [0, 1, 2, 3, 4, 5, 6, 7], [0, 1, 2, 3, 4, 5, 6, 7, 8], [0, 1, 2, 3, 4, 5, 6, 7, 8, 9], [0, 1, 2, 3, 4, 5, 6, 7, 8, 9, 10], [0, 1, 2, 3, 4, 5, 6, 7, 8, 9], [0, 1, 2, 3, 4, 5, 6, 7, 8, 9], [0, 1, 2, 3, 4, 5, 6, 7, 8, 9, 12, 13], [0, 1, 2, 3, 4, 5, 6, 7, 8, 9, 12, 13, 14], [0, 1, 2, 3, 4, 5, 6, 7, 8, 9, 12, 13, 14, 15], [0, 1, 2, 3, 4, 5, 6, 7, 8, 9, 10, 11, 12, 13, 14, 15, 16], [0, 1, 2, 3, 4, 5, 6, 7, 8, 9, 10, 11, 12, 13, 14, 15, 16, 17], [0, 1, 2, 3, 4, 5, 6, 7, 8, 9, 10, 11, 12, 13, 14, 15, 16, 17, 18], [0, 1, 2, 3, 4, 5, 6, 7, 8, 9, 10, 11, 12, 13, 14, 15, 16, 17, 18, 19], [0, 1, 2, 3, 4, 5, 6, 7, 8, 9, 10, 11, 12, 13, 14, 15, 16, 17, 18, 19, 20], [0, 1, 2, 3, 4, 5, 6, 7, 8, 9, 10, 11, 12, 13, 14, 15, 16, 17, 18, 19, 20, 21], [0, 1, 2, 3, 4, 5, 6, 7, 8, 9, 10, 11, 12, 13, 14, 15, 16, 17, 18, 19, 20, 21, 22], [0, 1, 2, 3, 4, 5, 6, 7, 8, 9, 10, 11, 12, 13, 14, 15, 16, 17, 18, 19, 20], [0, 1, 2, 3, 4, 5, 6, 7, 8, 9, 10, 11, 12, 13, 14, 15, 16, 17, 18, 19, 20], [0, 1, 2, 3, 4, 5, 6, 7, 8, 9, 10, 11, 12, 13, 14, 15, 16, 17, 18, 19, 20, 24, 25], [0, 1, 2, 3, 4, 5, 6, 7, 8, 9, 10, 11, 12, 13, 14, 15, 16, 17, 18, 19, 20, 24, 25, 26], [0, 1, 2, 3, 4, 5, 6, 7, 8, 9, 10, 11, 12, 13, 14, 15, 16, 17, 18, 19, 20, 21, 22, 23, 24, 25, 26, 27], [0, 1, 2, 3, 4, 5, 6, 7, 8, 9, 10, 11, 12, 13, 14, 15, 16, 17, 18, 19, 20, 21, 22, 23, 24, 25, 26, 27, 28], [0, 1, 2, 3, 4, 5, 6, 7, 8, 9, 10, 11, 12, 13, 14, 15, 16, 17, 18, 19, 20, 21, 22, 23, 24, 25, 26, 27, 28, 29], [0, 1, 2, 3, 4, 5, 6, 7, 8, 9, 10, 11, 12, 13, 14, 15, 16, 17, 18, 19, 20, 21, 22, 23, 24, 25, 26, 27, 28, 29, 30], [0, 1, 2, 3, 4, 5, 6, 7, 8, 9, 10, 11, 12, 13, 14, 15, 16, 17, 18, 19, 20, 21, 22, 23, 24, 25, 26, 27, 28, 29, 30, 31], [0, 1, 2, 3, 4, 5, 6, 7, 8, 9, 10, 11, 12, 13, 14, 15, 16, 17, 18, 19, 20, 21, 22, 23, 24, 25, 26, 27, 28, 29, 30, 31, 32], [0, 1, 2, 3, 4, 5, 6, 7, 8, 9, 10, 11, 12, 13, 14, 15, 16, 17, 18, 19, 20, 21, 22, 23, 24, 25, 26, 27, 28, 29, 30, 31, 32, 33], [0, 1, 2, 3, 4, 5, 6, 7, 8, 9, 10, 11, 12, 13, 14, 15, 16, 17, 18, 19, 20, 21, 22, 23, 24, 25, 26, 27, 28, 29, 30, 31, 32], [0, 1, 2, 3, 4, 5, 6, 7, 8, 9, 10, 11, 12, 13, 14, 15, 16, 17, 18, 19, 20, 21, 22, 23, 24, 25, 26, 27, 28, 29, 30, 31, 32, 35], [0, 1, 2, 3, 4, 5, 6, 7, 8, 9, 10, 11, 12, 13, 14, 15, 16, 17, 18, 19, 20, 21, 22, 23, 24, 25, 26, 27, 28, 29, 30, 31, 32, 35, 36], [0, 1, 2, 3, 4, 5, 6, 7, 8, 9, 10, 11, 12, 13, 14, 15, 16, 17, 18, 19, 20, 21, 22, 23, 24, 25, 26, 27, 28, 29, 30, 31, 32, 35, 36, 37], [0, 1, 2, 3, 4, 5, 6, 7, 8, 9, 10, 11, 12, 13, 14, 15, 16, 17, 18, 19, 20, 21, 22, 23, 24, 25, 26, 27, 28, 29, 30, 31, 32, 35, 36, 37, 38], [0, 1, 2, 3, 4, 5, 6, 7, 8, 9, 10, 11, 12, 13, 14, 15, 16, 17, 18, 19, 20, 21, 22, 23, 24, 25, 26, 27, 28, 29, 30, 31, 32, 33, 34, 35, 36, 37, 38, 39], [0, 1, 2, 3, 4, 5, 6, 7, 8, 9, 10, 11, 12, 13, 14, 15, 16, 17, 18, 19, 20, 21, 22, 23, 24, 25, 26, 27, 28, 29, 30, 31, 32, 33, 34, 35, 36, 37, 38, 39, 40]]) (i := 11) (v := ?_) (by kernel_rfl) rfl (by kernel_rfl) (by kernel_rfl) (by kernel_rfl) (by kernel_rfl) (by kernel_rfl) (fun _ _ _ h => h) (Or.inl ⟨by rfl, ?_⟩) hHeld ?_
              rotate_left
              · (intro w hSw; (try dsimp only at hSw); go_simp; try with_reducible rfl)
              try simp only [Act.put, List.getElem_toArray, List.getElem_cons_zero, List.getElem_cons_succ, List.setIfInBounds_toArray, List.set_cons_zero, List.set_cons_succ]
              refine wpAnyE_take (i := 12) (v := ?_) rfl (by kernel_rfl) (by kernel_rfl) (by kernel_rfl) (fun _ _ _ h => h) (Or.inl ⟨by rfl, ?_⟩) ?_
              rotate_left
              · (intro w _; go_simp; try with_reducible rfl)
              try simp only [Act.put, List.getElem_toArray, List.getElem_cons_zero, List.getElem_cons_succ, List.setIfInBounds_toArray, List.set_cons_zero, List.set_cons_succ]
              refine wpAnyE_take (i := 13) (v := ?_) rfl (by kernel_rfl) (by kernel_rfl) (by kernel_rfl) (fun _ _ _ h => h) (Or.inl ⟨by rfl, ?_⟩) ?_
              rotate_left
              · (intro w _; go_simp; try with_reducible rfl)
              try simp only [Act.put, List.getElem_toArray, List.getElem_cons_zero, List.getElem_cons_succ, List.setIfInBounds_toArray, List.set_cons_zero, List.set_cons_succ]
              refine wpAnyE_take (i := 14) (v := ?_) rfl (by kernel_rfl) (by kernel_rfl) (by kernel_rfl) (fun _ _ _ h => h) (Or.inl ⟨by rfl, ?_⟩) ?_
              rotate_left
              · (intro w _; go_simp; try with_reducible rfl)
              try simp only [Act.put, List.getElem_toArray, List.getElem_cons_zero, List.getElem_cons_succ, List.setIfInBounds_toArray, List.set_cons_zero, List.set_cons_succ]
              refine wpAnyE_take (i := 15) (v := ?_) rfl (by kernel_rfl) (by kernel_rfl) (by kernel_rfl) (fun _ _ _ h => h) (Or.inl ⟨by rfl, ?_⟩) ?_
              rotate_left
              · (intro w _; go_simp; try with_reducible rfl)
              try simp only [Act.put, List.getElem_toArray, List.getElem_cons_zero, List.getElem_cons_succ, List.setIfInBounds_toArray, List.set_cons_zero, List.set_cons_succ]
              refine wpAnyE_load (tr := [[], [], [0, 1], [0, 1, 2], [0, 1, 2, 3], [0, 1, 2, 3], [0, 1, 2, 3, 4, 5], [0, 1, 2, 3, 4, 5, 6], [0, 1, 2, 3, 4, 5, 6, 7], [0, 1, 2, 3, 4, 5, 6, 7, 8], [0, 1, 2, 3, 4, 5, 6, 7, 8, 9], [0, 1, 2, 3, 4, 5, 6, 7, 8, 9, 10], [0, 1, 2, 3, 4, 5, 6, 7, 8, 9], [0, 1, 2, 3, 4, 5, 6, 7, 8, 9], [0, 1, 2, 3, 4, 5, 6, 7, 8, 9, 12, 13], [0, 1, 2, 3, 4, 5, 6, 7, 8, 9, 12, 13, 14], [0, 1, 2, 3, 4, 5, 6, 7, 8, 9, 12, 13, 14, 15], [0, 1, 2, 3, 4, 5, 6, 7, 8, 9, 10, 11, 12, 13, 14, 15, 16], [0, 1, 2, 3, 4, 5, 6, 7, 8, 9, 10, 11, 12, 13, 14, 15, 16, 17], [0, 1, 2, 3, 4, 5, 6, 7, 8, 9, 10, 11, 12, 13, 14, 15, 16, 17, 18], [0, 1, 2, 3, 4, 5, 6, 7, 8, 9, 10, 11, 12, 13, 14, 15, 16, 17, 18, 19], [0, 1, 2, 3, 4, 5, 6, 7, 8, 9, 10, 11, 12, 13, 14, 15, 16, 17, 18, 19, 20], [0, 1, 2, 3, 4, 5, 6, 7, 8, 9, 10, 11, 12, 13, 14, 15, 16, 17, 18, 19, 20, 21], [0, 1, 2, 3, 4, 5, 6, 7, 8, 9, 10, 11, 12, 13, 14, 15, 16, 17, 18, 19, 20, 21, 22], [0, 1, 2, 3, 4, 5, 6, 7, 8, 9, 10, 11, 12, 13, 14, 15, 16, 17, 18, 19, 20], [0, 1, 2, 3, 4, 5, 6, 7, 8, 9, 10, 11, 12, 13, 14, 15, 16, 17, 18, 19, 20], [0, 1, 2, 3, 4, 5, 6, 7, 8, 9, 10, 11, 12, 13, 14, 15, 16, 17, 18, 19, 20, 24, 25], [0, 1, 2, 3, 4, 5, 6, 7, 8, 9, 10, 11, 12, 13, 14, 15, 16, 17, 18, 19, 20, 24, 25, 26], [0, 1, 2, 3, 4, 5, 6, 7, 8, 9, 10, 11, 12, 13, 14, 15, 16, 17, 18, 19, 20, 21, 22, 23, 24, 25, 26, 27], [0, 1, 2, 3, 4, 5, 6, 7, 8, 9, 10, 11, 12, 13, 14, 15, 16, 17, 18, 19, 20, 21, 22, 23, 24, 25, 26, 27, 28], [0, 1, 2, 3, 4, 5, 6, 7, 8, 9, 10, 11, 12, 13, 14, 15, 16, 17, 18, 19, 20, 21, 22, 23, 24, 25, 26, 27, 28, 29], [0, 1, 2, 3, 4, 5, 6, 7, 8, 9, 10, 11, 12, 13, 14, 15, 16, 17, 18, 19, 20, 21, 22, 23, 24, 25, 26, 27, 28, 29, 30], [0, 1, 2, 3, 4, 5, 6, 7, 8, 9, 10, 11, 12, 13, 14, 15, 16, 17, 18, 19, 20, 21, 22, 23, 24, 25, 26, 27, 28, 29, 30, 31], [0, 1, 2, 3, 4, 5, 6, 7, 8, 9, 10, 11, 12, 13, 14, 15, 16, 17, 18, 19, 20, 21, 22, 23, 24, 25, 26, 27, 28, 29, 30, 31, 32], [0, 1, 2, 3, 4, 5, 6, 7, 8, 9, 10, 11, 12, 13, 14, 15, 16, 17, 18, 19, 20, 21, 22, 23, 24, 25, 26, 27, 28, 29, 30, 31, 32, 33], [0, 1, 2, 3, 4, 5, 6, 7, 8, 9, 10, 11, 12, 13, 14, 15, 16, 17, 18, 19, 20, 21, 22, 23, 24, 25, 26, 27, 28, 29, 30, 31, 32], [0, 1, 2, 3, 4, 5, 6, 7, 8, 9, 10, 11, 12, 13, 14, 15, 16, 17, 18, 19, 20, 21, 22, 23, 24, 25, 26, 27, 28, 29, 30, 31, 32, 35], [0, 1, 2, 3, 4, 5, 6, 7, 8, 9, 10, 11, 12, 13, 14, 15, 16, 17, 18, 19, 20, 21, 22, 23, 24, 25, 26, 27, 28, 29, 30, 31, 32, 35, 36], [0, 1, 2, 3, 4, 5, 6, 7, 8, 9, 10, 11, 12, 13, 14, 15, 16, 17, 18, 19, 20, 21, 22, 23, 24, 25, 26, 27, 28, 29, 30, 31, 32, 35, 36, 37], [0, 1, 2, 3, 4, 5, 6, 7, 8, 9, 10, 11, 12, 13, 14, 15, 16, 17, 18, 19, 20, 21, 22, 23, 24, 25, 26, 27, 28, 29, 30, 31, 32, 35, 36, 37, 38], [0, 1, 2, 3, 4, 5, 6, 7, 8, 9, 10, 11, 12, 13, 14, 15, 16, 17, 18, 19, 20, 21, 22, 23, 24, 25, 26, 27, 28, 29, 30, 31, 32, 33, 34, 35, 36, 37, 38, 39], [0, 1, 2, 3, 4, 5, 6, 7, 8, 9, 10, 11, 12, 13, 14, 15, 16, 17, 18, 19, 20, 21, 22, 23, 24, 25, 26, 27, 28, 29, 30, 31, 32, 33, 34, 35, 36, 37, 38, 39, 40]]) (i := 16) (v := ?_) (by kernel_rfl) rfl (by kernel_rfl) (by kernel_rfl) (by kernel_rfl) (by kernel_rfl) (by kernel_rfl) (fun _ _ _ h => h) (Or.inl ⟨by rfl, ?_⟩) hHeld ?_
              rotate_left
              · (intro w hSw; (try dsimp only at hSw); go_simp; try with_reducible rfl)
              try simp only [Act.put, List.getElem_toArray, List.getElem_cons_zero, List.getElem_cons_succ, List.setIfInBounds_toArray, List.set_cons_zero, List.set_cons_succ]
              refine wpAnyE_ready (rs := [17]) (by kernel_rfl) (by simp) ?_
              refine AllReadyE.cons rfl (fun K hK => ?_) AllReadyE.nil
              go_simp
              (go_at_call 18; refine keptReads_c g e.a me e.cap e.x.reads _ hme.out (by rw [rdxs_append]; exact hg13.out.old hoA) (hv13.old hoA).sl (by omega) _ ?_; intro w15 ho15; have hoB := hoA.trans ho15)
              refine hK.out _ _ ?_ (fun hHeld => ?_)
              · (first | exact Off.refl _ _ | exact Off.alloc hHeld _ | exact Off.trans hHeld (by assumption) | assumption | exact (Off.refl _ _).drew)
              clear hK K
              try simp only [Act.put, List.getElem_toArray, List.getElem_cons_zero, List.getElem_cons_succ, List.setIfInBounds_toArray, List.set_cons_zero, List.set_cons_succ]
              refine wpAnyE_take (i := 18) (v := ?_) rfl (by kernel_rfl) (by kernel_rfl) (by kernel_rfl) (fun _ _ _ h => h) (Or.inl ⟨by rfl, ?_⟩) ?_
              rotate_left
              · (intro w _; go_simp; try with_reducible rfl)
              try simp only [Act.put, List.getElem_toArray, List.getElem_cons_zero, List.getElem_cons_succ, List.setIfInBounds_toArray, List.set_cons_zero, List.set_cons_succ]
              refine wpAnyE_take (i := 19) (v := ?_) rfl (by kernel_rfl) (by kernel_rfl) (by kernel_rfl) (fun _ _ _ h => h) (Or.inl ⟨by rfl, ?_⟩) ?_
              rotate_left
              · (intro w _; go_simp; try with_reducible rfl)
              try simp only [Act.put, List.getElem_toArray, List.getElem_cons_zero, List.getElem_cons_succ, List.setIfInBounds_toArray, List.set_cons_zero, List.set_cons_succ]
              refine wpAnyE_take (i := 20) (v := ?_) rfl (by kernel_rfl) (by kernel_rfl) (by kernel_rfl) (fun _ _ _ h => h) (Or.inl ⟨by rfl, ?_⟩) ?_
              rotate_left
              · (intro w _; go_simp; try with_reducible rfl)
              try simp only [Act.put, List.getElem_toArray, List.getElem_cons_zero, List.getElem_cons_succ, List.setIfInBounds_toArray, List.set_cons_zero, List.set_cons_succ]
              refine wpAnyE_load (tr := [[], [], [0, 1], [0, 1, 2], [0, 1, 2, 3], [0, 1, 2, 3], [0, 1, 2, 3, 4, 5], [0, 1, 2, 3, 4, 5, 6], [0, 1, 2, 3, 4, 5, 6, 7], [0, 1, 2, 3, 4, 5, 6, 7, 8], [0, 1, 2, 3, 4, 5, 6, 7, 8, 9], [0, 1, 2, 3, 4, 5, 6, 7, 8, 9, 10], [0, 1, 2, 3, 4, 5, 6, 7, 8, 9], [0, 1, 2, 3, 4, 5, 6, 7, 8, 9], [0, 1, 2, 3, 4, 5, 6, 7, 8, 9, 12, 13], [0, 1, 2, 3, 4, 5, 6, 7, 8, 9, 12, 13, 14], [0, 1, 2, 3, 4, 5, 6, 7, 8, 9, 12, 13, 14, 15], [0, 1, 2, 3, 4, 5, 6, 7, 8, 9, 10, 11, 12, 13, 14, 15, 16], [0, 1, 2, 3, 4, 5, 6, 7, 8, 9, 10, 11, 12, 13, 14, 15, 16, 17], [0, 1, 2, 3, 4, 5, 6, 7, 8, 9, 10, 11, 12, 13, 14, 15, 16, 17, 18], [0, 1, 2, 3, 4, 5, 6, 7, 8, 9, 10, 11, 12, 13, 14, 15, 16, 17, 18, 19], [0, 1, 2, 3, 4, 5, 6, 7, 8, 9, 10, 11, 12, 13, 14, 15, 16, 17, 18, 19, 20], [0, 1, 2, 3, 4, 5, 6, 7, 8, 9, 10, 11, 12, 13, 14, 15, 16, 17, 18, 19, 20, 21], [0, 1, 2, 3, 4, 5, 6, 7, 8, 9, 10, 11, 12, 13, 14, 15, 16, 17, 18, 19, 20, 21, 22], [0, 1, 2, 3, 4, 5, 6, 7, 8, 9, 10, 11, 12, 13, 14, 15, 16, 17, 18, 19, 20], [0, 1, 2, 3, 4, 5, 6, 7, 8, 9, 10, 11, 12, 13, 14, 15, 16, 17, 18, 19, 20], [0, 1, 2, 3, 4, 5, 6, 7, 8, 9, 10, 11, 12, 13, 14, 15, 16, 17, 18, 19, 20, 24, 25], [0, 1, 2, 3, 4, 5, 6, 7, 8, 9, 10, 11, 12, 13, 14, 15, 16, 17, 18, 19, 20, 24, 25, 26], [0, 1, 2, 3, 4, 5, 6, 7, 8, 9, 10, 11, 12, 13, 14, 15, 16, 17, 18, 19, 20, 21, 22, 23, 24, 25, 26, 27], [0, 1, 2, 3, 4, 5, 6, 7, 8, 9, 10, 11, 12, 13, 14, 15, 16, 17, 18, 19, 20, 21, 22, 23, 24, 25, 26, 27, 28], [0, 1, 2, 3, 4, 5, 6, 7, 8, 9, 10, 11, 12, 13, 14, 15, 16, 17, 18, 19, 20, 21, 22, 23, 24, 25, 26, 27, 28, 29], [0, 1, 2, 3, 4, 5, 6, 7, 8, 9, 10, 11, 12, 13, 14, 15, 16, 17, 18, 19, 20, 21, 22, 23, 24, 25, 26, 27, 28, 29, 30], [0, 1, 2, 3, 4, 5, 6, 7, 8, 9, 10, 11, 12, 13, 14, 15, 16, 17, 18, 19, 20, 21, 22, 23, 24, 25, 26, 27, 28, 29, 30, 31], [0, 1, 2, 3, 4, 5, 6, 7, 8, 9, 10, 11, 12, 13, 14, 15, 16, 17, 18, 19, 20, 21, 22, 23, 24, 25, 26, 27, 28, 29, 30, 31, 32], [0, 1, 2, 3, 4, 5, 6, 7, 8, 9, 10, 11, 12, 13, 14, 15, 16, 17, 18, 19, 20, 21, 22, 23, 24, 25, 26, 27, 28, 29, 30, 31, 32, 33], [0, 1, 2, 3, 4, 5, 6, 7, 8, 9, 10, 11, 12, 13, 14, 15, 16, 17, 18, 19, 20, 21, 22, 23, 24, 25, 26, 27, 28, 29, 30, 31, 32], [0, 1, 2, 3, 4, 5, 6, 7, 8, 9, 10, 11, 12, 13, 14, 15, 16, 17, 18, 19, 20, 21, 22, 23, 24, 25, 26, 27, 28, 29, 30, 31, 32, 35], [0, 1, 2, 3, 4, 5, 6, 7, 8, 9, 10, 11, 12, 13, 14, 15, 16, 17, 18, 19, 20, 21, 22, 23, 24, 25, 26, 27, 28, 29, 30, 31, 32, 35, 36], [0, 1, 2, 3, 4, 5, 6, 7, 8, 9, 10, 11, 12, 13, 14, 15, 16, 17, 18, 19, 20, 21, 22, 23, 24, 25, 26, 27, 28, 29, 30, 31, 32, 35, 36, 37], [0, 1, 2, 3, 4, 5, 6, 7, 8, 9, 10, 11, 12, 13, 14, 15, 16, 17, 18, 19, 20, 21, 22, 23, 24, 25, 26, 27, 28, 29, 30, 31, 32, 35, 36, 37, 38], [0, 1, 2, 3, 4, 5, 6, 7, 8, 9, 10, 11, 12, 13, 14, 15, 16, 17, 18, 19, 20, 21, 22, 23, 24, 25, 26, 27, 28, 29, 30, 31, 32, 33, 34, 35, 36, 37, 38, 39], [0, 1, 2, 3, 4, 5, 6, 7, 8, 9, 10, 11, 12, 13, 14, 15, 16, 17, 18, 19, 20, 21, 22, 23, 24, 25, 26, 27, 28, 29, 30, 31, 32, 33, 34, 35, 36, 37, 38, 39, 40]]) (i := 21) (v := ?_) (by kernel_rfl) rfl (by kernel_rfl) (by kernel_rfl) (by kernel_rfl) (by kernel_rfl) (by kernel_rfl) (fun _ _ _ h => h) (Or.inl ⟨by rfl, ?_⟩) hHeld ?_
              rotate_left
              · (intro w hSw; (try dsimp only at hSw); go_simp; try with_reducible rfl)
              try simp only [Act.put, List.getElem_toArray, List.getElem_cons_zero, List.getElem_cons_succ, List.setIfInBounds_toArray, List.set_cons_zero, List.set_cons_succ]
              refine wpAnyE_take (i := 24) (v := ?_) rfl (by kernel_rfl) (by kernel_rfl) (by kernel_rfl) (fun _ _ _ h => h) (Or.inl ⟨by rfl, ?_⟩) ?_
              rotate_left
              · (intro w _; go_simp; try with_reducible rfl)
              try simp only [Act.put, List.getElem_toArray, List.getElem_cons_zero, List.getElem_cons_succ, List.setIfInBounds_toArray, List.set_cons_zero, List.set_cons_succ]
              refine wpAnyE_take (i := 25) (v := ?_) rfl (by kernel_rfl) (by kernel_rfl) (by kernel_rfl) (fun _ _ _ h => h) (Or.inl ⟨by rfl, ?_⟩) ?_
              rotate_left
              · (intro w _; go_simp; try with_reducible rfl)
              try simp only [Act.put, List.getElem_toArray, List.getElem_cons_zero, List.getElem_cons_succ, List.setIfInBounds_toArray, List.set_cons_zero, List.set_cons_succ]
              refine wpAnyE_take (i := 26) (v := ?_) rfl (by kernel_rfl) (by kernel_rfl) (by kernel_rfl) (fun _ _ _ h => h) (Or.inl ⟨by rfl, ?_⟩) ?_
              rotate_left
              · (intro w _; go_simp; try with_reducible rfl)
              try simp only [Act.put, List.getElem_toArray, List.getElem_cons_zero, List.getElem_cons_succ, List.setIfInBounds_toArray, List.set_cons_zero, List.set_cons_succ]
              refine wpAnyE_load (tr := [[], [], [0, 1], [0, 1, 2], [0, 1, 2, 3], [0, 1, 2, 3], [0, 1, 2, 3, 4, 5], [0, 1, 2, 3, 4, 5, 6], [0, 1, 2, 3, 4, 5, 6, 7], [0, 1, 2, 3, 4, 5, 6, 7, 8], [0, 1, 2, 3, 4, 5, 6, 7, 8, 9], [0, 1, 2, 3, 4, 5, 6, 7, 8, 9, 10], [0, 1, 2, 3, 4, 5, 6, 7, 8, 9], [0, 1, 2, 3, 4, 5, 6, 7, 8, 9], [0, 1, 2, 3, 4, 5, 6, 7, 8, 9, 12, 13], [0, 1, 2, 3, 4, 5, 6, 7, 8, 9, 12, 13, 14], [0, 1, 2, 3, 4, 5, 6, 7, 8, 9, 12, 13, 14, 15], [0, 1, 2, 3, 4, 5, 6, 7, 8, 9, 10, 11, 12, 13, 14, 15, 16], [0, 1, 2, 3, 4, 5, 6, 7, 8, 9, 10, 11, 12, 13, 14, 15, 16, 17], [0, 1, 2, 3, 4, 5, 6, 7, 8, 9, 10, 11, 12, 13, 14, 15, 16, 17, 18], [0, 1, 2, 3, 4, 5, 6, 7, 8, 9, 10, 11, 12, 13, 14, 15, 16, 17, 18, 19], [0, 1, 2, 3, 4, 5, 6, 7, 8, 9, 10, 11, 12, 13, 14, 15, 16, 17, 18, 19, 20], [0, 1, 2, 3, 4, 5, 6, 7, 8, 9, 10, 11, 12, 13, 14, 15, 16, 17, 18, 19, 20, 21], [0, 1, 2, 3, 4, 5, 6, 7, 8, 9, 10, 11, 12, 13, 14, 15, 16, 17, 18, 19, 20, 21, 22], [0, 1, 2, 3, 4, 5, 6, 7, 8, 9, 10, 11, 12, 13, 14, 15, 16, 17, 18, 19, 20], [0, 1, 2, 3, 4, 5, 6, 7, 8, 9, 10, 11, 12, 13, 14, 15, 16, 17, 18, 19, 20], [0, 1, 2, 3, 4, 5, 6, 7, 8, 9, 10, 11, 12, 13, 14, 15, 16, 17, 18, 19, 20, 24, 25], [0, 1, 2, 3, 4, 5, 6, 7, 8, 9, 10, 11, 12, 13, 14, 15, 16, 17, 18, 19, 20, 24, 25, 26], [0, 1, 2, 3, 4, 5, 6, 7, 8, 9, 10, 11, 12, 13, 14, 15, 16, 17, 18, 19, 20, 21, 22, 23, 24, 25, 26, 27], [0, 1, 2, 3, 4, 5, 6, 7, 8, 9, 10, 11, 12, 13, 14, 15, 16, 17, 18, 19, 20, 21, 22, 23, 24, 25, 26, 27, 28], [0, 1, 2, 3, 4, 5, 6, 7, 8, 9, 10, 11, 12, 13, 14, 15, 16, 17, 18, 19, 20, 21, 22, 23, 24, 25, 26, 27, 28, 29], [0, 1, 2, 3, 4, 5, 6, 7, 8, 9, 10, 11, 12, 13, 14, 15, 16, 17, 18, 19, 20, 21, 22, 23, 24, 25, 26, 27, 28, 29, 30], [0, 1, 2, 3, 4, 5, 6, 7, 8, 9, 10, 11, 12, 13, 14, 15, 16, 17, 18, 19, 20, 21, 22, 23, 24, 25, 26, 27, 28, 29, 30, 31], [0, 1, 2, 3, 4, 5, 6, 7, 8, 9, 10, 11, 12, 13, 14, 15, 16, 17, 18, 19, 20, 21, 22, 23, 24, 25, 26, 27, 28, 29, 30, 31, 32], [0, 1, 2, 3, 4, 5, 6, 7, 8, 9, 10, 11, 12, 13, 14, 15, 16, 17, 18, 19, 20, 21, 22, 23, 24, 25, 26, 27, 28, 29, 30, 31, 32, 33], [0, 1, 2, 3, 4, 5, 6, 7, 8, 9, 10, 11, 12, 13, 14, 15, 16, 17, 18, 19, 20, 21, 22, 23, 24, 25, 26, 27, 28, 29, 30, 31, 32], [0, 1, 2, 3, 4, 5, 6, 7, 8, 9, 10, 11, 12, 13, 14, 15, 16, 17, 18, 19, 20, 21, 22, 23, 24, 25, 26, 27, 28, 29, 30, 31, 32, 35], [0, 1, 2, 3, 4, 5, 6, 7, 8, 9, 10, 11, 12, 13, 14, 15, 16, 17, 18, 19, 20, 21, 22, 23, 24, 25, 26, 27, 28, 29, 30, 31, 32, 35, 36], [0, 1, 2, 3, 4, 5, 6, 7, 8, 9, 10, 11, 12, 13, 14, 15, 16, 17, 18, 19, 20, 21, 22, 23, 24, 25, 26, 27, 28, 29, 30, 31, 32, 35, 36, 37], [0, 1, 2, 3, 4, 5, 6, 7, 8, 9, 10, 11, 12, 13, 14, 15, 16, 17, 18, 19, 20, 21, 22, 23, 24, 25, 26, 27, 28, 29, 30, 31, 32, 35, 36, 37, 38], [0, 1, 2, 3, 4, 5, 6, 7, 8, 9, 10, 11, 12, 13, 14, 15, 16, 17, 18, 19, 20, 21, 22, 23, 24, 25, 26, 27, 28, 29, 30, 31, 32, 33, 34, 35, 36, 37, 38, 39], [0, 1, 2, 3, 4, 5, 6, 7, 8, 9, 10, 11, 12, 13, 14, 15, 16, 17, 18, 19, 20, 21, 22, 23, 24, 25, 26, 27, 28, 29, 30, 31, 32, 33, 34, 35, 36, 37, 38, 39, 40]]) (i := 27) (v := ?_) (by kernel_rfl) rfl (by kernel_rfl) (by kernel_rfl) (by kernel_rfl) (by kernel_rfl) (by kernel_rfl) (fun _ _ _ h => h) (Or.inl ⟨by rfl, ?_⟩) hHeld ?_
              rotate_left
              · (intro w hSw; (try dsimp only at hSw); go_simp; try with_reducible rfl)
              try simp only [Act.put, List.getElem_toArray, List.getElem_cons_zero, List.getElem_cons_succ, List.setIfInBounds_toArray, List.set_cons_zero, List.set_cons_succ]
              refine wpAnyE_ready (rs := [22]) (by kernel_rfl) (by simp) ?_
              refine AllReadyE.cons rfl (fun K hK => ?_) AllReadyE.nil
              go_simp
              refine hK.out _ _ ?_ (fun hHeld => ?_)
              · (first | exact Off.refl _ _ | exact Off.alloc hHeld _ | exact Off.trans hHeld (by assumption) | assumption | exact (Off.refl _ _).drew)
              clear hK K
              try simp only [Act.put, List.getElem_toArray, List.getElem_cons_zero, List.getElem_cons_succ, List.setIfInBounds_toArray, List.set_cons_zero, List.set_cons_succ]
              refine wpAnyE_ready (rs := [23]) (by kernel_rfl) (by simp) ?_
              refine AllReadyE.cons rfl (fun K hK => ?_) AllReadyE.nil
              go_simp
              (go_at_call 19; refine right_v e.x (some ⟨g, 0, none⟩) me (me + 12) KB hKB hme _ w15 _ rfl rfl (lent_vok (hg13.out.old hoB) hve) _ ?_; intro w16 ho16; have hoC := (hoB.alloc _).trans ho16)
              refine hK.out _ _ ?_ (fun hHeld => ?_)
              · (first | exact Off.refl _ _ | exact Off.alloc hHeld _ | exact Off.trans hHeld (by assumption) | assumption | exact (Off.refl _ _).drew)
              clear hK K
              try simp only [Act.put, List.getElem_toArray, List.getElem_cons_zero, List.getElem_cons_succ, List.setIfInBounds_toArray, List.set_cons_zero, List.set_cons_succ]
              refine wpAnyE_ready (rs := [28]) (by kernel_rfl) (by simp) ?_
              refine AllReadyE.cons rfl (fun K hK => ?_) AllReadyE.nil
              go_simp
              (go_at_call 14; refine turned_v e.x e.a me e.cap _ _ ?_; intro w17 ho17; have hoD := hoC.trans ho17)
              refine hK.out _ _ ?_ (fun hHeld => ?_)
              · (first | exact Off.refl _ _ | exact Off.alloc hHeld _ | exact Off.trans hHeld (by assumption) | assumption | exact (Off.refl _ _).drew)
              clear hK K
              try simp only [Act.put, List.getElem_toArray, List.getElem_cons_zero, List.getElem_cons_succ, List.setIfInBounds_toArray, List.set_cons_zero, List.set_cons_succ]
              refine wpAnyE_ready (rs := [29]) (by kernel_rfl) (by simp) ?_
              refine AllReadyE.cons rfl (fun K hK => ?_) AllReadyE.nil
              go_simp
              (go_at_call 13; refine rRight_v e.x e.a me e.cap KB hKB hme _ (hv13.old hoD) _ ?_; intro w18 ho18; have hoE := hoD.trans ho18)
              refine hK.out _ _ ?_ (fun hHeld => ?_)
              · (first | exact Off.refl _ _ | exact Off.alloc hHeld _ | exact Off.trans hHeld (by assumption) | assumption | exact (Off.refl _ _).drew)
              clear hK K
              try simp only [Act.put, List.getElem_toArray, List.getElem_cons_zero, List.getElem_cons_succ, List.setIfInBounds_toArray, List.set_cons_zero, List.set_cons_succ]
              refine wpAnyE_take (i := 30) (v := ?_) rfl (by kernel_rfl) (by kernel_rfl) (by kernel_rfl) (fun _ _ _ h => h) (Or.inl ⟨by rfl, ?_⟩) ?_
              rotate_left
              · (intro w _; go_simp; try with_reducible rfl)
              try simp only [Act.put, List.getElem_toArray, List.getElem_cons_zero, List.getElem_cons_succ, List.setIfInBounds_toArray, List.set_cons_zero, List.set_cons_succ]
              refine wpAnyE_take (i := 31) (v := ?_) rfl (by kernel_rfl) (by kernel_rfl) (by kernel_rfl) (fun _ _ _ h => h) (Or.inl ⟨by rfl, ?_⟩) ?_
              rotate_left
              · (intro w _; go_simp; try with_reducible rfl)
              try simp only [Act.put, List.getElem_toArray, List.getElem_cons_zero, List.getElem_cons_succ, List.setIfInBounds_toArray, List.set_cons_zero, List.set_cons_succ]
              refine wpAnyE_take (i := 32) (v := ?_) rfl (by kernel_rfl) (by kernel_rfl) (by kernel_rfl) (fun _ _ _ h => h) (Or.inl ⟨by rfl, ?_⟩) ?_
              rotate_left
              · (intro w _; go_simp; try with_reducible rfl)
              try simp only [Act.put, List.getElem_toArray, List.getElem_cons_zero, List.getElem_cons_succ, List.setIfInBounds_toArray, List.set_cons_zero, List.set_cons_succ]
              refine wpAnyE_take (i := 33) (v := ?_) rfl (by kernel_rfl) (by kernel_rfl) (by kernel_rfl) (fun _ _ _ h => h) (Or.inl ⟨by rfl, ?_⟩) ?_
              rotate_left
              · (intro w _; go_simp; try with_reducible rfl)
              try simp only [Act.put, List.getElem_toArray, List.getElem_cons_zero, List.getElem_cons_succ, List.setIfInBounds_toArray, List.set_cons_zero, List.set_cons_succ]
              refine wpAnyE_take (i := 35) (v := ?_) rfl (by kernel_rfl) (by kernel_rfl) (by kernel_rfl) (fun _ _ _ h => h) (Or.inl ⟨by rfl, ?_⟩) ?_
              rotate_left
              · (intro w _; go_simp; try with_reducible rfl)
              try simp only [Act.put, List.getElem_toArray, List.getElem_cons_zero, List.getElem_cons_succ, List.setIfInBounds_toArray, List.set_cons_zero, List.set_cons_succ]
              refine wpAnyE_take (i := 36) (v := ?_) rfl (by kernel_rfl) (by kernel_rfl) (by kernel_rfl) (fun _ _ _ h => h) (Or.inl ⟨by rfl, ?_⟩) ?_
              rotate_left
              · (intro w _; go_simp; try with_reducible rfl)
              try simp only [Act.put, List.getElem_toArray, List.getElem_cons_zero, List.getElem_cons_succ, List.setIfInBounds_toArray, List.set_cons_zero, List.set_cons_succ]
              refine wpAnyE_take (i := 37) (v := ?_) rfl (by kernel_rfl) (by kernel_rfl) (by kernel_rfl) (fun _ _ _ h => h) (Or.inl ⟨by rfl, ?_⟩) ?_
              rotate_left
              · (intro w _; go_simp; try with_reducible rfl)
              try simp only [Act.put, List.getElem_toArray, List.getElem_cons_zero, List.getElem_cons_succ, List.setIfInBounds_toArray, List.set_cons_zero, List.set_cons_succ]
              refine wpAnyE_load (tr := [[], [], [0, 1], [0, 1, 2], [0, 1, 2, 3], [0, 1, 2, 3], [0, 1, 2, 3, 4, 5], [0, 1, 2, 3, 4, 5, 6], [0, 1, 2, 3, 4, 5, 6, 7], [0, 1, 2, 3, 4, 5, 6, 7, 8], [0, 1, 2, 3, 4, 5, 6, 7, 8, 9], [0, 1, 2, 3, 4, 5, 6, 7, 8, 9, 10], [0, 1, 2, 3, 4, 5, 6, 7, 8, 9], [0, 1, 2, 3, 4, 5, 6, 7, 8, 9], [0, 1, 2, 3, 4, 5, 6, 7, 8, 9, 12, 13], [0, 1, 2, 3, 4, 5, 6, 7, 8, 9, 12, 13, 14], [0, 1, 2, 3, 4, 5, 6, 7, 8, 9, 12, 13, 14, 15], [0, 1, 2, 3, 4, 5, 6, 7, 8, 9, 10, 11, 12, 13, 14, 15, 16], [0, 1, 2, 3, 4, 5, 6, 7, 8, 9, 10, 11, 12, 13, 14, 15, 16, 17], [0, 1, 2, 3, 4, 5, 6, 7, 8, 9, 10, 11, 12, 13, 14, 15, 16, 17, 18], [0, 1, 2, 3, 4, 5, 6, 7, 8, 9, 10, 11, 12, 13, 14, 15, 16, 17, 18, 19], [0, 1, 2, 3, 4, 5, 6, 7, 8, 9, 10, 11, 12, 13, 14, 15, 16, 17, 18, 19, 20], [0, 1, 2, 3, 4, 5, 6, 7, 8, 9, 10, 11, 12, 13, 14, 15, 16, 17, 18, 19, 20, 21], [0, 1, 2, 3, 4, 5, 6, 7, 8, 9, 10, 11, 12, 13, 14, 15, 16, 17, 18, 19, 20, 21, 22], [0, 1, 2, 3, 4, 5, 6, 7, 8, 9, 10, 11, 12, 13, 14, 15, 16, 17, 18, 19, 20], [0, 1, 2, 3, 4, 5, 6, 7, 8, 9, 10, 11, 12, 13, 14, 15, 16, 17, 18, 19, 20], [0, 1, 2, 3, 4, 5, 6, 7, 8, 9, 10, 11, 12, 13, 14, 15, 16, 17, 18, 19, 20, 24, 25], [0, 1, 2, 3, 4, 5, 6, 7, 8, 9, 10, 11, 12, 13, 14, 15, 16, 17, 18, 19, 20, 24, 25, 26], [0, 1, 2, 3, 4, 5, 6, 7, 8, 9, 10, 11, 12, 13, 14, 15, 16, 17, 18, 19, 20, 21, 22, 23, 24, 25, 26, 27], [0, 1, 2, 3, 4, 5, 6, 7, 8, 9, 10, 11, 12, 13, 14, 15, 16, 17, 18, 19, 20, 21, 22, 23, 24, 25, 26, 27, 28], [0, 1, 2, 3, 4, 5, 6, 7, 8, 9, 10, 11, 12, 13, 14, 15, 16, 17, 18, 19, 20, 21, 22, 23, 24, 25, 26, 27, 28, 29], [0, 1, 2, 3, 4, 5, 6, 7, 8, 9, 10, 11, 12, 13, 14, 15, 16, 17, 18, 19, 20, 21, 22, 23, 24, 25, 26, 27, 28, 29, 30], [0, 1, 2, 3, 4, 5, 6, 7, 8, 9, 10, 11, 12, 13, 14, 15, 16, 17, 18, 19, 20, 21, 22, 23, 24, 25, 26, 27, 28, 29, 30, 31], [0, 1, 2, 3, 4, 5, 6, 7, 8, 9, 10, 11, 12, 13, 14, 15, 16, 17, 18, 19, 20, 21, 22, 23, 24, 25, 26, 27, 28, 29, 30, 31, 32], [0, 1, 2, 3, 4, 5, 6, 7, 8, 9, 10, 11, 12, 13, 14, 15, 16, 17, 18, 19, 20, 21, 22, 23, 24, 25, 26, 27, 28, 29, 30, 31, 32, 33], [0, 1, 2, 3, 4, 5, 6, 7, 8, 9, 10, 11, 12, 13, 14, 15, 16, 17, 18, 19, 20, 21, 22, 23, 24, 25, 26, 27, 28, 29, 30, 31, 32], [0, 1, 2, 3, 4, 5, 6, 7, 8, 9, 10, 11, 12, 13, 14, 15, 16, 17, 18, 19, 20, 21, 22, 23, 24, 25, 26, 27, 28, 29, 30, 31, 32, 35], [0, 1, 2, 3, 4, 5, 6, 7, 8, 9, 10, 11, 12, 13, 14, 15, 16, 17, 18, 19, 20, 21, 22, 23, 24, 25, 26, 27, 28, 29, 30, 31, 32, 35, 36], [0, 1, 2, 3, 4, 5, 6, 7, 8, 9, 10, 11, 12, 13, 14, 15, 16, 17, 18, 19, 20, 21, 22, 23, 24, 25, 26, 27, 28, 29, 30, 31, 32, 35, 36, 37], [0, 1, 2, 3, 4, 5, 6, 7, 8, 9, 10, 11, 12, 13, 14, 15, 16, 17, 18, 19, 20, 21, 22, 23, 24, 25, 26, 27, 28, 29, 30, 31, 32, 35, 36, 37, 38], [0, 1, 2, 3, 4, 5, 6, 7, 8, 9, 10, 11, 12, 13, 14, 15, 16, 17, 18, 19, 20, 21, 22, 23, 24, 25, 26, 27, 28, 29, 30, 31, 32, 33, 34, 35, 36, 37, 38, 39], [0, 1, 2, 3, 4, 5, 6, 7, 8, 9, 10, 11, 12, 13, 14, 15, 16, 17, 18, 19, 20, 21, 22, 23, 24, 25, 26, 27, 28, 29, 30, 31, 32, 33, 34, 35, 36, 37, 38, 39, 40]]) (i := 38) (v := ?_) (by kernel_rfl) rfl (by kernel_rfl) (by kernel_rfl) (by kernel_rfl) (by kernel_rfl) (by kernel_rfl) (fun _ _ _ h => h) (Or.inl ⟨by rfl, ?_⟩) hHeld ?_
              rotate_left
              · (intro w hSw; (try dsimp only at hSw); go_simp; try with_reducible rfl)
              try simp only [Act.put, List.getElem_toArray, List.getElem_cons_zero, List.getElem_cons_succ, List.setIfInBounds_toArray, List.set_cons_zero, List.set_cons_succ]
              refine wpAnyE_take (i := 39) (v := ?_) rfl (by kernel_rfl) (by kernel_rfl) (by kernel_rfl) (fun _ _ _ h => h) (Or.inl ⟨by rfl, ?_⟩) ?_
              rotate_left
              · (intro w _; go_simp; try with_reducible rfl)
              try simp only [Act.put, List.getElem_toArray, List.getElem_cons_zero, List.getElem_cons_succ, List.setIfInBounds_toArray, List.set_cons_zero, List.set_cons_succ]
              refine wpAnyE_ready (rs := [34]) (by kernel_rfl) (by simp) ?_
              refine AllReadyE.cons rfl (fun K hK => ?_) AllReadyE.nil
              go_simp
              (go_at_call 20; refine bkMany_h pb X2 Ob2 _ (hF13.b.old hoE) _ ?_; rw [hnX.out])
              refine hK.out _ _ ?_ (fun hHeld => ?_)
              · (first | exact Off.refl _ _ | exact Off.alloc hHeld _ | exact Off.trans hHeld (by assumption) | assumption | exact (Off.refl _ _).drew)
              clear hK K
              try simp only [Act.put, List.getElem_toArray, List.getElem_cons_zero, List.getElem_cons_succ, List.setIfInBounds_toArray, List.set_cons_zero, List.set_cons_succ]
              refine wpAnyE_take (i := 40) (v := ?_) rfl (by kernel_rfl) (by kernel_rfl) (by kernel_rfl) (fun _ _ _ h => h) (Or.inl ⟨by rfl, ?_⟩) ?_
              rotate_left
              · (intro w _; go_simp; try with_reducible rfl)
              try simp only [Act.put, List.getElem_toArray, List.getElem_cons_zero, List.getElem_cons_succ, List.setIfInBounds_toArray, List.set_cons_zero, List.set_cons_succ]
              refine wpAnyE_take (i := 41) (v := ?_) rfl (by kernel_rfl) (by kernel_rfl) (by kernel_rfl) (fun _ _ _ h => h) (Or.inl ⟨by rfl, ?_⟩) ?_
              rotate_left
              · (intro w _; go_simp; try with_reducible rfl)
              try simp only [Act.put, List.getElem_toArray, List.getElem_cons_zero, List.getElem_cons_succ, List.setIfInBounds_toArray, List.set_cons_zero, List.set_cons_succ]
              refine wpAnyE_done (by kernel_rfl) ?_ _
              have hF18 := hF13.old hoE
              have hb18 := hb13.out.old hoE
              have n3 := hb18.cell (i := 4) rfl
              have hx18 := Lib.hid (hx13.out.old hoE)
              have hy18 := Lib.hid (hx17.out.old hoE)
              have hg18 := Lib.hid (hg13.out.old hoE)
              have hlen : Hid ((rdxs e.x.reads ++ rdxs (marksRdx 1 12)).length = (me + 12) * 3) := by show _ = _; rw [List.length_append, rdxs_length, rdxs_length, marksRdx_len, hme.out]; omega
              clear hcl hF13 hb13 hx13 hx17 hg13 hv13 hv13a hv13b ho14 ho15 ho16 ho17 ho18 hoA hoB hoC hoD hoE hb18 hnX
              go_wp2_with (go_at_call 21; go_must (refine overReads_c g me (rdxs e.x.reads ++ rdxs (marksRdx 1 12)) _ hg18.out hlen.out (by omega) _ ?_))
              intro w19 ho19
              have hF19 := hF18.one ho19 hgw ⟨hfargb, hfargm, hfarg.2.2.1, hfarg.2.2.2⟩
              have hx19 := Lib.hid (hx18.out.off ho19 (by omega))
              have hy19 := Lib.hid (hy18.out.off ho19 (by omega))
              have d0 := hF19.off.cell (fun x => x) x0
              have d1 := hF19.off.cell (fun x => x) x1
              obtain ⟨Z, hZ⟩ : ∃ Z, Hid (hasV X2 e.x = Z) := ⟨_, rfl⟩
              obtain ⟨B, hB⟩ : ∃ B, Hid (hasB X2 e.x = B) := ⟨_, rfl⟩
              clear n3 hF18 hx18 hy18 hg18 ho19
              go_wp2_with (go_at_call 22; go_must (refine bkOf_v pb X2 Ob2 e.x Z B hZ hB _ hF19.b hie _ ?_))
              intro w20 a20 m20 c20 hv20 hm20 ho20 hfr20
              have hx20 := hx19.out.old ho20
              have hy20 := hy19.out.old ho20
              have hxl19 := hx19.out.lt
              have hyl19 := hy19.out.lt
              have p0 := hx20.cell (i := 0) rfl
              have p1 := hx20.cell (i := 1) rfl
              have p2 := hx20.cell (i := 2) rfl
              have p3 := hx20.cell (i := 3) rfl
              have p4 := hx20.cell (i := 4) rfl
              have pf := hx20.free
              have hset := Lib.hid (hx20.set5 (.int .i64 Z.c) (.int .i64 Z.n) (.bool Z.commit) (.int .i64 Z.at_) (.slice a20 m20 c20))
              have hoff := Off.set5 (S := fun k => k = t15) (b := t15) (Off.refl _ w20) (fun _ => rfl) (.int .i64 Z.c) (.int .i64 Z.n) (.bool Z.commit) (.int .i64 Z.at_) (.slice a20 m20 c20)
              have hF21 := (hF19.old ho20).one hoff ht15 ⟨hfar15.1, hfar15', hfar15.2.2.1, hfar15.2.2.2⟩
              have hy21 := Lib.hid (hy20.off hoff (by omega))
              have hv21 : Vok _ ⟨Z, a20, c20⟩ := hv20.off hoff (fun q hq _ hk => by have := hfr20 q hq; omega)
              clear hx20 hy20 hx19 hy19 hF19 hv20
              go_upto_region 22 with fail
              generalize hwA : (((((w20.setCell ⟨t15, 0, none⟩ (.int .i64 Z.c)).setCell ⟨t15, 1, none⟩ (.int .i64 Z.n)).setCell ⟨t15, 2, none⟩ (.bool Z.commit)).setCell ⟨t15, 3, none⟩ (.int .i64 Z.at_)).setCell ⟨t15, 4, none⟩ (.slice a20 m20 c20)) = w21 at *
              clear hwA p0 p1 p2 p3 p4 pf hoff d0 d1
              have hz21 := hset.out.lt
              have hzy21 := hy21.out.lt
              have d0 := hF21.off.cell (fun x => x) x0
              have d1 := hF21.off.cell (fun x => x) x1
              have hX2l : X2.length ≤ 1000000 := by have := hlX2.out; omega
              go_wp2_with (go_at_call 23; go_must (refine rOf_v pm X2 Om2 e.x Z B hZ hB _ hF21.m hX2l _ ?_))
              intro w22 a22 m22 c22 hv22 hm22 ho22 hfr22
              have hx22 := Lib.hid (hset.out.old ho22)
              have hy22 := hy21.out.old ho22
              have hva := hv21.old ho22
              have p0 := hy22.cell (i := 0) rfl
              have p1 := hy22.cell (i := 1) rfl
              have p2 := hy22.cell (i := 2) rfl
              have p3 := hy22.cell (i := 3) rfl
              have p4 := hy22.cell (i := 4) rfl
              have pf := hy22.free
              have hset2 := Lib.hid (hy22.set5 (.int .i64 Z.c) (.int .i64 Z.n) (.bool Z.commit) (.int .i64 Z.at_) (.slice a22 m22 c22))
              have hoff := Off.set5 (S := fun k => k = t17) (b := t17) (Off.refl _ w22) (fun _ => rfl) (.int .i64 Z.c) (.int .i64 Z.n) (.bool Z.commit) (.int .i64 Z.at_) (.slice a22 m22 c22)
              have hF23 := (hF21.old ho22).one hoff ht17 hfar17
              have hx23 := Lib.hid (hx22.out.off hoff (by omega))
              have hv23a : Vok _ ⟨Z, a20, c20⟩ := hva.off hoff (fun q hq _ hk => by have := hfr20 q hq; omega)
              have hv23b : Vok _ ⟨Z, a22, c22⟩ := hv22.off hoff (fun q hq _ hk => by have := hfr22 q hq; omega)
              clear hx22 hy22 hset hy21 hF21 hv22 hva hv21
              go_upto_region 23 with fail
              generalize hwA : (((((w22.setCell ⟨t17, 0, none⟩ (.int .i64 Z.c)).setCell ⟨t17, 1, none⟩ (.int .i64 Z.n)).setCell ⟨t17, 2, none⟩ (.bool Z.commit)).setCell ⟨t17, 3, none⟩ (.int .i64 Z.at_)).setCell ⟨t17, 4, none⟩ (.slice a22 m22 c22)) = w23 at *
              clear hwA p0 p1 p2 p3 p4 pf hoff d0 d1
              have q0 := hx23.out.cell (i := 0) rfl
              have q1 := hx23.out.cell (i := 1) rfl
              have q2 := hx23.out.cell (i := 2) rfl
              have q3 := hx23.out.cell (i := 3) rfl
              have q4 := hx23.out.cell (i := 4) rfl
              have r0 := hset2.out.cell (i := 0) rfl
              have r1 := hset2.out.cell (i := 1) rfl
              have r2 := hset2.out.cell (i := 2) rfl
              have r3 := hset2.out.cell (i := 3) rfl
              have r4 := hset2.out.cell (i := 4) rfl
              go_wp2_with (go_at_call 17; go_must (refine same19_c Z a20 a22 m20 m22 c20 c22 hm20 hm22 _ hv23a hv23b _ ?_))
              intro w24 ho24
              have hF24 := hF23.old ho24
              have hlC2 : Hid (XC.length ≤ j + 1) := by show _ ≤ _; have := hlC.out; omega
              clear q0 q1 q2 q3 q4 r0 r1 r2 r3 r4
              go_wp2_with fail
              go_roundw
              case rel => exact ⟨j + 1, V2, X2, XC, pc, pd, Ob2, Om2, Oc, Od, rfl, rfl, rfl, by go_num, by omega, hV3, hF24, hlX2, hlC2, hokX2⟩
              case measure => simp [intOf]; omega
        · obtain rfl : j = m := by omega
          have hVa : Hid (l.all (fun e => e.x.ok) = V) := by
            show _ = _
            rw [hV.out, List.take_of_length_le (by have := HM.out; omega)]
          clear hV
          go_wp2_with fail
          go_loopw [21] (fun i wr => ∃ (t : Nat) (v : Int) (XC : List Vd) (Oc Od : Own), i = .int .i64 v ∧ v = (t : Int) - 1 ∧ t ≤ j ∧ Four w1 wr pb pm pc pd X X XC XC Ob Om Oc Od ∧ Hid (XC.length ≤ j + (j - t))) (fun i _ => (intOf i + 1).toNat)
          case atStart => exact ⟨j, (j : Int) - 1, XC, Oc, Od, by go_num, rfl, Nat.le_refl _, HF, by show _ ≤ _; have := hlC.out; omega⟩
          case round =>
            clear HF hlC
            obtain ⟨t, v, XC, Oc, Od, rfl, hvt, ht, HF, hlC⟩ := hrel
            by_cases h0 : 0 < t
            · obtain ⟨u, rfl⟩ : ∃ u, t = u + 1 := ⟨t - 1, by omega⟩
              obtain rfl : v = (u : Int) := by omega
              clear hvt
              obtain ⟨e, he⟩ := at_of_lt (l := l) (j := u) (by have := HM.out; omega)
              obtain ⟨hve, hie⟩ := HE.out e (List.mem_of_getElem? he.out)
              obtain ⟨b, o, ix, Q, _⟩ := ha1.ix_ve cap
              rw [HM.out] at ix
              have hix := ix u (by omega)
              obtain ⟨x0, x1, x2, x3, x4⟩ := Q.out u e he.out
              obtain ⟨me, hme⟩ : ∃ me, Hid (e.x.reads.length = me) := ⟨_, rfl⟩
              rw [hme.out] at x4
              clear ix Q
              have d0 := HF.off.cell (fun x => x) x0
              have d1 := HF.off.cell (fun x => x) x1
              have d2 := HF.off.cell (fun x => x) x2
              have d3 := HF.off.cell (fun x => x) x3
              have d4 := HF.off.cell (fun x => x) x4
              have hX6 : XC.length ≤ 1000000 := by have := hlC.out; omega
              obtain ⟨Y, hY⟩ : ∃ Y, Hid (decV XC e.x = Y) := ⟨_, rfl⟩
              obtain ⟨E, hE⟩ : ∃ E, Hid (decE XC e.x = E) := ⟨_, rfl⟩
              obtain ⟨X2, hX2⟩ : ∃ X2, Hid ((dec XC e.x).2 = X2) := ⟨_, rfl⟩
              have hlX2 : Hid (X2.length ≤ j + (j - u)) := by show _ ≤ _; have := dec_len' XC e.x; rw [hX2.out] at this; have := hlC.out; omega
              have hv0 := hve.old HF.off
              go_wp2_with (go_at_call 15; go_must (refine bkDecide_v pc XC Oc e.x e.a me e.cap Y E X2 hY hE hX2 hme _ HF.c hv0 hie (fun hne q hq hk => by have h7 := hve.sl.lt hq (ne_rdxs hne); have h8 := (HF.nc _ hk).1; omega) hX6 _ ?_))
              intro w9 a15 m15 c15 hB9 hv15 hm15 ho9 hfr15
              have hF9 := HF.toC hB9 ho9
              have hd8 := HF.nd
              have hal : Off Old w9 (w9.alloc (.cells #[.int .i64 Y.c, .int .i64 Y.n, .bool Y.commit, .int .i64 Y.at_, .slice a15 m15 c15] 38)) := (Off.refl _ _).alloc _
              have hx15 := Lib.hid (Blk.new w9 #[.int .i64 Y.c, .int .i64 Y.n, .bool Y.commit, .int .i64 Y.at_, .slice a15 m15 c15] 38)
              have hfar15 := hF9.far (Nat.le_refl w9.heap.size)
              have hF10 := hF9.old hal
              have hv10 := hv15.old hal
              clear d0 d1 d2 d3 d4 HF hB9 hF9 hv15 hlC
              go_upto_region 29 with fail
              generalize hwA : (w9.alloc (.cells #[.int .i64 Y.c, .int .i64 Y.n, .bool Y.commit, .int .i64 Y.at_, .slice a15 m15 c15] 38)) = w10 at *
              clear hwA hal
              generalize hOc : Oc.grow wr.heap.size w9.heap.size = Oc2 at *
              clear hOc
              generalize w9.heap.size = t15 at *
              have d0 := hF10.off.cell (fun x => x) x0
              have d1 := hF10.off.cell (fun x => x) x1
              have d2 := hF10.off.cell (fun x => x) x2
              have d3 := hF10.off.cell (fun x => x) x3
              have d4 := hF10.off.cell (fun x => x) x4
              go_wp2_with (go_at_call 14; go_must (refine turned_v e.x e.a me e.cap _ _ ?_))
              intro w11 ho11
              have hF11 := hF10.old ho11
              have hv11 := hve.old hF11.off
              go_wp2_with (go_at_call 16; go_must (refine rDecide_v pd XC Od e.x e.a me e.cap Y E X2 hY hE hX2 hme _ hF11.d hv11 hie (fun hne q hq hk => by have h7 := hve.sl.lt hq (ne_rdxs hne); have h8 := (hF11.nd _ hk).1; omega) hX6 _ ?_))
              intro w12 a17 m17 c17 hM12 hv17 hm17 ho12 hfr17
              have hF12 := hF11.toD hM12 ho12
              have hv15 := vok_far (hv10.old ho11) ho12 hfr15 (fun k hk => (hd8 k hk).2)
              have hx12 := Lib.hid ((hx15.out.old ho11).off ho12 hfar15.2.2.2)
              have hal : Off Old w12 (w12.alloc (.cells #[.int .i64 Y.c, .int .i64 Y.n, .bool Y.commit, .int .i64 Y.at_, .slice a17 m17 c17] 41)) := (Off.refl _ _).alloc _
              have hx17 := Lib.hid (Blk.new w12 #[.int .i64 Y.c, .int .i64 Y.n, .bool Y.commit, .int .i64 Y.at_, .slice a17 m17 c17] 41)
              have hF13 := hF12.old hal
              have hv13a := hv15.old hal
              have hv13b := hv17.old hal
              have hx13 := Lib.hid (hx12.out.old hal)
              clear hF10 hF11 hv10 hx15 hv11 hM12 hv17 hv15 hx12 hF12 d0 d1 d2 d3 d4 hd8
              go_upto_region 30 with fail
              generalize hwA : (w12.alloc (.cells #[.int .i64 Y.c, .int .i64 Y.n, .bool Y.commit, .int .i64 Y.at_, .slice a17 m17 c17] 41)) = w13 at *
              clear hwA hal
              generalize hOd : Od.grow w11.heap.size w12.heap.size = Od2 at *
              clear hOd
              generalize w12.heap.size = t17 at *
              have q0 := hx13.out.cell (i := 0) rfl
              have q1 := hx13.out.cell (i := 1) rfl
              have q2 := hx13.out.cell (i := 2) rfl
              have q3 := hx13.out.cell (i := 3) rfl
              have q4 := hx13.out.cell (i := 4) rfl
              have r0 := hx17.out.cell (i := 0) rfl
              have r1 := hx17.out.cell (i := 1) rfl
              have r2 := hx17.out.cell (i := 2) rfl
              have r3 := hx17.out.cell (i := 3) rfl
              have r4 := hx17.out.cell (i := 4) rfl
              go_wp2_with (go_at_call 17; go_must (refine same19_c Y a15 a17 m15 m17 c15 c17 hm15 hm17 _ hv13a hv13b _ ?_))
              intro w24 ho24
              have hF24 := hF13.old ho24
              clear q0 q1 q2 q3 q4 r0 r1 r2 r3 r4
              go_wp2_with fail
              go_roundw
              case rel => exact ⟨u, (u : Int) - 1, X2, Oc2, Od2, by go_num, rfl, by omega, hF24, hlX2⟩
              case measure => simp [intOf]
            · obtain rfl : t = 0 := by omega
              obtain rfl : v = -1 := by omega
              clear hvt h0 ht
              have hX10 : X.length ≤ 1000 := by have := hlX.out; omega
              have hXC10 : XC.length ≤ 1000 := by have := hlC.out; omega
              have hpb : ∀ k, Ob k → k ≠ wr.heap.size := fun k hk => by have := (HF.nb k hk).2; omega
              have hfarp := HF.far (Nat.le_refl wr.heap.size)
              have hpw : w1.heap.size ≤ wr.heap.size := HF.off.size
              go_wp2_with (go_at_call 25; go_must (refine newWriter_c _ _ ?_))
              intro w30 hw30 ho30 hz30
              clear hz30
              have hF30 := HF.old ho30
              clear HF
              generalize wr.heap.size = pw at *
              go_wp2_with (go_at_call 24; go_must (refine bkWrite_h pb X Ob pw _ hF30.b hw30 hpb hokX.out hX10 _ ?_))
              intro w31 g31 d31 hw31 hs31
              have hF31 := hF30.one (hs31.off.mono (fun k hk _ => hk.elim id (fun h => by cases h))) hpw hfarp
              obtain ⟨LB, hLB⟩ : ∃ LB, Hid (encBk X = LB) := ⟨_, rfl⟩
              have hLBl := encBk_len X hokX.out hX10
              rw [hLB.out] at hw31 hLBl
              obtain ⟨nB, hnLB⟩ : ∃ nB, Hid (LB.length = nB) := ⟨_, rfl⟩
              have hnB6 : nB ≤ 1000000 := by rw [← hnLB.out]; exact hLBl
              clear hF30 hw30 hs31 hlC
              go_wp2_with (go_at_call 26; go_must (refine done_c pw false g31 d31 LB _ hw31 (by omega) _ (fun h => absurd h (by decide)) (fun _ => ?_)))
              intro w32 g32 d32 hown32 ho32 hfr32
              have hF32 := hF31.old ho32
              have hs32 := (own_sl2 hown32).2.2
              obtain ⟨gm, nm, dm, lm, hlm, hmx, hcm, hsm, hvm⟩ := hF32.m.open
              obtain ⟨gd, nd, dd, ld, hld, hdx, hcd, hsd, hvd⟩ := hF32.d.open
              replace hlm := Lib.hid hlm
              replace hmx := Lib.hid hmx
              replace hvm := Lib.hid hvm
              replace hld := Lib.hid hld
              replace hdx := Lib.hid hdx
              replace hvd := Lib.hid hvd
              have hcl : ∀ w', Off Old w32 w' → w'.cell? ⟨pm, 0, none⟩ = some (.slice gm nm dm) ∧ w'.cell? ⟨pd, 0, none⟩ = some (.slice gd nd dd) := fun w' hh => ⟨hh.cell (fun x => x) hcm, hh.cell (fun x => x) hcd⟩
              rw [hnLB.out] at hown32
              clear hcm hcd hF31 hw31 hown32 hfr32 ho32 hLBl
              go_upto_region 33 with fail
              rw [hnLB.out]
              refine wp_region_E (fun w' => Off Old (w32) w') [39, 42] (by kernel_rfl) ?_ (fun hHeld => ?_)
              · (first | exact Off.refl _ _ | exact Off.alloc hHeld _ | exact Off.trans hHeld (by assumption) | assumption | exact (Off.refl _ _).drew)
              refine wpAnyE_take (i := 0) (v := ?_) rfl (by kernel_rfl) (by kernel_rfl) (by kernel_rfl) (fun _ _ _ h => h) (Or.inl ⟨by rfl, ?_⟩) ?_
              rotate_left
              · (intro w _; go_simp; try with_reducible rfl)
              try simp only [Act.put, List.getElem_toArray, List.getElem_cons_zero, List.getElem_cons_succ, List.setIfInBounds_toArray, List.set_cons_zero, List.set_cons_succ]
              refine wpAnyE_take (i := 2) (v := ?_) rfl (by kernel_rfl) (by kernel_rfl) (by kernel_rfl) (fun _ _ _ h => h) (Or.inl ⟨by rfl, ?_⟩) ?_
              rotate_left
              · (intro w _; go_simp; try with_reducible rfl)
              try simp only [Act.put, List.getElem_toArray, List.getElem_cons_zero, List.getElem_cons_succ, List.setIfInBounds_toArray, List.set_cons_zero, List.set_cons_succ]
              refine wpAnyE_ready (rs := [1]) (by kernel_rfl) (by simp) ?_
              refine AllReadyE.cons rfl (fun K hK => ?_) AllReadyE.nil
              go_simp
              (go_at_call 19; refine right_c a j cap l HM.out _ (ha1.old (hF32.off.trans (Off.refl Old w32).drew)) (fun e he => (HE.out e he).1.old (hF32.off.trans (Off.refl Old w32).drew)) (by omega) _ ?_; rw [hVa.out]; intro w33 ho33; have hoA := (Off.refl Old w32).drew.trans ho33)
              refine hK.out _ _ ?_ (fun hHeld => ?_)
              · (first | exact Off.refl _ _ | exact Off.alloc hHeld _ | exact Off.trans hHeld (by assumption) | assumption | exact (Off.refl _ _).drew)
              clear hK K
              try simp only [Act.put, List.getElem_toArray, List.getElem_cons_zero, List.getElem_cons_succ, List.setIfInBounds_toArray, List.set_cons_zero, List.set_cons_succ]
              refine wpAnyE_take (i := 3) (v := ?_) rfl (by kernel_rfl) (by kernel_rfl) (by kernel_rfl) (fun _ _ _ h => h) (Or.inl ⟨by rfl, ?_⟩) ?_
              rotate_left
              · (intro w _; go_simp; try with_reducible rfl)
              try simp only [Act.put, List.getElem_toArray, List.getElem_cons_zero, List.getElem_cons_succ, List.setIfInBounds_toArray, List.set_cons_zero, List.set_cons_succ]
              refine wpAnyE_take (i := 4) (v := ?_) rfl (by kernel_rfl) (by kernel_rfl) (by kernel_rfl) (fun _ _ _ h => h) (Or.inl ⟨by rfl, ?_⟩) ?_
              rotate_left
              · (intro w _; go_simp; try with_reducible rfl)
              try simp only [Act.put, List.getElem_toArray, List.getElem_cons_zero, List.getElem_cons_succ, List.setIfInBounds_toArray, List.set_cons_zero, List.set_cons_succ]
              refine wpAnyE_take (i := 5) (v := ?_) rfl (by kernel_rfl) (by kernel_rfl) (by kernel_rfl) (fun _ _ _ h => h) (Or.inl ⟨by rfl, ?_⟩) ?_
              rotate_left
              · (intro w _; go_simp; try with_reducible rfl)
              try simp only [Act.put, List.getElem_toArray, List.getElem_cons_zero, List.getElem_cons_succ, List.setIfInBounds_toArray, List.set_cons_zero, List.set_cons_succ]
              refine wpAnyE_take (i := 6) (v := ?_) rfl (by kernel_rfl) (by kernel_rfl) (by kernel_rfl) (fun _ _ _ h => h) (Or.inl ⟨by rfl, ?_⟩) ?_
              rotate_left
              · (intro w _; go_simp; try with_reducible rfl)
              try simp only [Act.put, List.getElem_toArray, List.getElem_cons_zero, List.getElem_cons_succ, List.setIfInBounds_toArray, List.set_cons_zero, List.set_cons_succ]
              refine wpAnyE_take (i := 7) (v := ?_) rfl (by kernel_rfl) (by kernel_rfl) (by kernel_rfl) (fun _ _ _ h => h) (Or.inl ⟨by rfl, ?_⟩) ?_
              rotate_left
              · (intro w _; go_simp; try with_reducible rfl)
              try simp only [Act.put, List.getElem_toArray, List.getElem_cons_zero, List.getElem_cons_succ, List.setIfInBounds_toArray, List.set_cons_zero, List.set_cons_succ]
              refine wpAnyE_take (i := 8) (v := ?_) rfl (by kernel_rfl) (by kernel_rfl) (by kernel_rfl) (fun _ _ _ h => h) (Or.inl ⟨by rfl, ?_⟩) ?_
              rotate_left
              · (intro w _; go_simp; try with_reducible rfl)
              try simp only [Act.put, List.getElem_toArray, List.getElem_cons_zero, List.getElem_cons_succ, List.setIfInBounds_toArray, List.set_cons_zero, List.set_cons_succ]
              refine wpAnyE_take (i := 9) (v := ?_) rfl (by kernel_rfl) (by kernel_rfl) (by kernel_rfl) (fun _ _ _ h => h) (Or.inl ⟨by rfl, ?_⟩) ?_
              rotate_left
              · (intro w _; go_simp; try with_reducible rfl)
              try simp only [Act.put, List.getElem_toArray, List.getElem_cons_zero, List.getElem_cons_succ, List.setIfInBounds_toArray, List.set_cons_zero, List.set_cons_succ]
              refine wpAnyE_take (i := 10) (v := ?_) rfl (by kernel_rfl) (by kernel_rfl) (by kernel_rfl) (fun _ _ _ h => h) (Or.inl ⟨by rfl, ?_⟩) ?_
              rotate_left
              · (intro w _; go_simp; try with_reducible rfl)
              try simp only [Act.put, List.getElem_toArray, List.getElem_cons_zero, List.getElem_cons_succ, List.setIfInBounds_toArray, List.set_cons_zero, List.set_cons_succ]
              refine wpAnyE_ready (rs := [11]) (by kernel_rfl) (by simp) ?_
              refine AllReadyE.cons rfl (fun K hK => ?_) AllReadyE.nil
              go_simp
              (go_at_call 28; refine rbBytes_h pm X Om _ (hF32.m.old hoA) hokX.out hX10 _ ?_; rw [hLB.out]; intro w34 g34 n34 d34 hb34; have hoB := hoA.trans hb34.off; have hsB := hb34.sl; have hnB := Lib.hid hb34.len)
              refine hK.out _ _ ?_ (fun hHeld => ?_)
              · (first | exact Off.refl _ _ | exact Off.alloc hHeld _ | exact Off.trans hHeld (by assumption) | assumption | exact (Off.refl _ _).drew)
              clear hK K
              try simp only [Act.put, List.getElem_toArray, List.getElem_cons_zero, List.getElem_cons_succ, List.setIfInBounds_toArray, List.set_cons_zero, List.set_cons_succ]
              refine wpAnyE_ready (rs := [12]) (by kernel_rfl) (by simp) ?_
              refine AllReadyE.cons rfl (fun K hK => ?_) AllReadyE.nil
              go_simp
              (go_at_call 27; refine sameBytes_b true g32 g34 nB n34 d32 d34 LB LB _ (by simp) hnLB.out.symm hnB.out.symm (hs32.old hoB) hsB (by have := hnLB.out; omega) _ ?_; intro w35 hd35; have hoC := hoB.trans hd35.off)
              refine hK.out _ _ ?_ (fun hHeld => ?_)
              · (first | exact Off.refl _ _ | exact Off.alloc hHeld _ | exact Off.trans hHeld (by assumption) | assumption | exact (Off.refl _ _).drew)
              clear hK K
              try simp only [Act.put, List.getElem_toArray, List.getElem_cons_zero, List.getElem_cons_succ, List.setIfInBounds_toArray, List.set_cons_zero, List.set_cons_succ]
              refine wpAnyE_take (i := 13) (v := ?_) rfl (by kernel_rfl) (by kernel_rfl) (by kernel_rfl) (fun _ _ _ h => h) (Or.inl ⟨by rfl, ?_⟩) ?_
              rotate_left
              · (intro w _; go_simp; try with_reducible rfl)
              try simp only [Act.put, List.getElem_toArray, List.getElem_cons_zero, List.getElem_cons_succ, List.setIfInBounds_toArray, List.set_cons_zero, List.set_cons_succ]
              refine wpAnyE_take (i := 14) (v := ?_) rfl (by kernel_rfl) (by kernel_rfl) (by kernel_rfl) (fun _ _ _ h => h) (Or.inl ⟨by rfl, ?_⟩) ?_
              rotate_left
              · (intro w _; go_simp; try with_reducible rfl)
              try simp only [Act.put, List.getElem_toArray, List.getElem_cons_zero, List.getElem_cons_succ, List.setIfInBounds_toArray, List.set_cons_zero, List.set_cons_succ]
              refine wpAnyE_take (i := 15) (v := ?_) rfl (by kernel_rfl) (by kernel_rfl) (by kernel_rfl) (fun _ _ _ h => h) (Or.inl ⟨by rfl, ?_⟩) ?_
              rotate_left
              · (intro w _; go_simp; try with_reducible rfl)
              try simp only [Act.put, List.getElem_toArray, List.getElem_cons_zero, List.getElem_cons_succ, List.setIfInBounds_toArray, List.set_cons_zero, List.set_cons_succ]
              refine wpAnyE_take (i := 17) (v := ?_) rfl (by kernel_rfl) (by kernel_rfl) (by kernel_rfl) (fun _ _ _ h => h) (Or.inl ⟨by rfl, ?_⟩) ?_
              rotate_left
              · (intro w _; go_simp; try with_reducible rfl)
              try simp only [Act.put, List.getElem_toArray, List.getElem_cons_zero, List.getElem_cons_succ, List.setIfInBounds_toArray, List.set_cons_zero, List.set_cons_succ]
              refine wpAnyE_take (i := 18) (v := ?_) rfl (by kernel_rfl) (by kernel_rfl) (by kernel_rfl) (fun _ _ _ h => h) (Or.inl ⟨by rfl, ?_⟩) ?_
              rotate_left
              · (intro w _; go_simp; try with_reducible rfl)
              try simp only [Act.put, List.getElem_toArray, List.getElem_cons_zero, List.getElem_cons_succ, List.setIfInBounds_toArray, List.set_cons_zero, List.set_cons_succ]
              refine wpAnyE_take (i := 19) (v := ?_) rfl (by kernel_rfl) (by kernel_rfl) (by kernel_rfl) (fun _ _ _ h => h) (Or.inl ⟨by rfl, ?_⟩) ?_
              rotate_left
              · (intro w _; go_simp; try with_reducible rfl)
              try simp only [Act.put, List.getElem_toArray, List.getElem_cons_zero, List.getElem_cons_succ, List.setIfInBounds_toArray, List.set_cons_zero, List.set_cons_succ]
              refine wpAnyE_load (tr := [[], [0], [], [0, 1, 2], [0, 1, 2, 3], [0, 1, 2, 3, 4], [0, 1, 2, 3, 4, 5], [0, 1, 2, 3, 4, 5, 6], [0, 1, 2, 3, 4, 5, 6, 7], [0, 1, 2, 3, 4, 5, 6, 7, 8], [0, 1, 2, 3, 4, 5, 6, 7, 8], [0, 1, 2, 3, 4, 5, 6, 7, 8, 10], [0, 1, 2, 3, 4, 5, 6, 7, 8, 9, 10, 11], [0, 1, 2, 3, 4, 5, 6, 7, 8, 9, 10, 11, 12], [0, 1, 2, 3, 4, 5, 6, 7, 8, 9, 10, 11, 12, 13], [0, 1, 2, 3, 4, 5, 6, 7, 8, 9, 10, 11, 12, 13, 14], [0, 1, 2, 3, 4, 5, 6, 7, 8, 9, 10, 11, 12, 13, 14, 15], [0, 1, 2, 3, 4, 5, 6, 7, 8, 9, 10, 11, 12, 13, 14], [0, 1, 2, 3, 4, 5, 6, 7, 8, 9, 10, 11, 12, 13, 14, 17], [0, 1, 2, 3, 4, 5, 6, 7, 8, 9, 10, 11, 12, 13, 14, 17, 18], [0, 1, 2, 3, 4, 5, 6, 7, 8, 9, 10, 11, 12, 13, 14, 17, 18, 19], [0, 1, 2, 3, 4, 5, 6, 7, 8, 9, 10, 11, 12, 13, 14, 15, 16, 17, 18, 19, 20], [0, 1, 2, 3, 4, 5, 6, 7, 8, 9, 10, 11, 12, 13, 14, 15, 16, 17, 18, 19, 20, 21], [0, 1, 2, 3, 4, 5, 6, 7, 8, 9, 10, 11, 12, 13, 14, 15, 16, 17, 18, 19, 20, 21, 22], [0, 1, 2, 3, 4, 5, 6, 7, 8, 9, 10, 11, 12, 13, 14, 15, 16, 17, 18, 19, 20, 21, 22, 23], [0, 1, 2, 3, 4, 5, 6, 7, 8, 9, 10, 11, 12, 13, 14, 15, 16, 17, 18, 19, 20, 21, 22, 23], [0, 1, 2, 3, 4, 5, 6, 7, 8, 9, 10, 11, 12, 13, 14, 15, 16, 17, 18, 19, 20, 21, 22, 23, 24, 25], [0, 1, 2, 3, 4, 5, 6, 7, 8, 9, 10, 11, 12, 13, 14, 15, 16, 17, 18, 19, 20, 21, 22, 23], [0, 1, 2, 3, 4, 5, 6, 7, 8, 9, 10, 11, 12, 13, 14, 15, 16, 17, 18, 19, 20, 21, 22, 23], [0, 1, 2, 3, 4, 5, 6, 7, 8, 9, 10, 11, 12, 13, 14, 15, 16, 17, 18, 19, 20, 21, 22, 23, 24, 25, 26, 27, 28], [0, 1, 2, 3, 4, 5, 6, 7, 8, 9, 10, 11, 12, 13, 14, 15, 16, 17, 18, 19, 20, 21, 22, 23, 24, 25, 26, 27, 28, 29], [0, 1, 2, 3, 4, 5, 6, 7, 8, 9, 10, 11, 12, 13, 14, 15, 16, 17, 18, 19, 20, 21, 22, 23, 24, 25, 26, 27, 28, 29, 30], [0, 1, 2, 3, 4, 5, 6, 7, 8, 9, 10, 11, 12, 13, 14, 15, 16, 17, 18, 19, 20, 21, 22, 23, 24, 25, 26, 27, 28, 29, 30, 31], [0, 1, 2, 3, 4, 5, 6, 7, 8, 9, 10, 11, 12, 13, 14, 15, 16, 17, 18, 19, 20, 21, 22, 23, 24, 25, 26, 27, 28, 29, 30, 31, 32], [0, 1, 2, 3, 4, 5, 6, 7, 8, 9, 10, 11, 12, 13, 14, 15, 16, 17, 18, 19, 20, 21, 22, 23, 24, 25, 26, 27, 28, 29, 30, 31, 32, 33], [0, 1, 2, 3, 4, 5, 6, 7, 8, 9, 10, 11, 12, 13, 14, 15, 16, 17, 18, 19, 20, 21, 22, 23, 24, 25, 26, 27, 28, 29, 30, 31, 32], [0, 1, 2, 3, 4, 5, 6, 7, 8, 9, 10, 11, 12, 13, 14, 15, 16, 17, 18, 19, 20, 21, 22, 23, 24, 25, 26, 27, 28, 29, 30, 31, 32, 35], [0, 1, 2, 3, 4, 5, 6, 7, 8, 9, 10, 11, 12, 13, 14, 15, 16, 17, 18, 19, 20, 21, 22, 23, 24, 25, 26, 27, 28, 29, 30, 31, 32, 35, 36], [0, 1, 2, 3, 4, 5, 6, 7, 8, 9, 10, 11, 12, 13, 14, 15, 16, 17, 18, 19, 20, 21, 22, 23, 24, 25, 26, 27, 28, 29, 30, 31, 32, 35, 36, 37], [0, 1, 2, 3, 4, 5, 6, 7, 8, 9, 10, 11, 12, 13, 14, 15, 16, 17, 18, 19, 20, 21, 22, 23, 24, 25, 26, 27, 28, 29, 30, 31, 32, 33, 34, 35, 36, 37, 38], [0, 1, 2, 3, 4, 5, 6, 7, 8, 9, 10, 11, 12, 13, 14, 15, 16, 17, 18, 19, 20, 21, 22, 23, 24, 25, 26, 27, 28, 29, 30, 31, 32, 33, 34, 35, 36, 37, 38, 39], [0, 1, 2, 3, 4, 5, 6, 7, 8, 9, 10, 11, 12, 13, 14, 15, 16, 17, 18, 19, 20, 21, 22, 23, 24, 25, 26, 27, 28, 29, 30, 31, 32, 33, 34, 35, 36, 37, 38, 39, 40], [0, 1, 2, 3, 4, 5, 6, 7, 8, 9, 10, 11, 12, 13, 14, 15, 16, 17, 18, 19, 20, 21, 22, 23, 24, 25, 26, 27, 28, 29, 30, 31, 32, 33, 34, 35, 36, 37, 38, 39, 40, 41], [0, 1, 2, 3, 4, 5, 6, 7, 8, 9, 10, 11, 12, 13, 14, 15, 16, 17, 18, 19, 20, 21, 22, 23, 24, 25, 26, 27, 28, 29, 30, 31, 32, 33, 34, 35, 36, 37, 38, 39, 40, 41, 42], [0, 1, 2, 3, 4, 5, 6, 7, 8, 9, 10, 11, 12, 13, 14, 15, 16, 17, 18, 19, 20, 21, 22, 23, 24, 25, 26, 27, 28, 29, 30, 31, 32, 33, 34, 35, 36, 37, 38, 39, 40, 41, 42, 43]]) (i := 20) (v := ?_) (by kernel_rfl) rfl (by kernel_rfl) (by kernel_rfl) (by kernel_rfl) (by kernel_rfl) (by kernel_rfl) (fun _ _ _ h => h) (Or.inl ⟨by rfl, ?_⟩) hHeld ?_
              rotate_left
              · (intro w hSw; (try dsimp only at hSw); go_simp; try with_reducible rfl)
              try simp only [Act.put, List.getElem_toArray, List.getElem_cons_zero, List.getElem_cons_succ, List.setIfInBounds_toArray, List.set_cons_zero, List.set_cons_succ]
              refine wpAnyE_ready (rs := [16]) (by kernel_rfl) (by simp) ?_
              refine AllReadyE.cons rfl (fun K hK => ?_) AllReadyE.nil
              go_simp
              (go_at_call 30; refine bkAll_h pb X Ob none 0 0 [] rfl _ (hF32.b.old hoC) (Sl.nil _ _) (by omega) (by omega) _ ?_; intro w36 l36 n36 g36 d36 hn36 hs36 hv36 hx36 ho36; have hoD := hoC.trans ho36; replace hn36 := Lib.hid hn36; replace hx36 := Lib.hid hx36)
              refine hK.out _ _ ?_ (fun hHeld => ?_)
              · (first | exact Off.refl _ _ | exact Off.alloc hHeld _ | exact Off.trans hHeld (by assumption) | assumption | exact (Off.refl _ _).drew)
              clear hK K
              try simp only [Act.put, List.getElem_toArray, List.getElem_cons_zero, List.getElem_cons_succ, List.setIfInBounds_toArray, List.set_cons_zero, List.set_cons_succ]
              refine wpAnyE_ready (rs := [21]) (by kernel_rfl) (by simp) ?_
              refine AllReadyE.cons rfl (fun K hK => ?_) AllReadyE.nil
              go_simp
              (go_at_call 29; refine all19_c g36 gm n36 nm d36 dm l36 lm hn36.out hlm.out _ hs36 (hsm.old hoD) hv36 (fun e he => (hvm.out e he).old hoD) (by show _ = _; rw [hx36.out, allV_nil', hmx.out]) (by have h1 := map_len hx36.out hn36.out; rw [allV_nil'] at h1; omega) _ ?_; intro w37 ho37; have hoE := hoD.trans ho37)
              refine hK.out _ _ ?_ (fun hHeld => ?_)
              · (first | exact Off.refl _ _ | exact Off.alloc hHeld _ | exact Off.trans hHeld (by assumption) | assumption | exact (Off.refl _ _).drew)
              clear hK K
              try simp only [Act.put, List.getElem_toArray, List.getElem_cons_zero, List.getElem_cons_succ, List.setIfInBounds_toArray, List.set_cons_zero, List.set_cons_succ]
              refine wpAnyE_take (i := 22) (v := ?_) rfl (by kernel_rfl) (by kernel_rfl) (by kernel_rfl) (fun _ _ _ h => h) (Or.inl ⟨by rfl, ?_⟩) ?_
              rotate_left
              · (intro w _; go_simp; try with_reducible rfl)
              try simp only [Act.put, List.getElem_toArray, List.getElem_cons_zero, List.getElem_cons_succ, List.setIfInBounds_toArray, List.set_cons_zero, List.set_cons_succ]
              refine wpAnyE_take (i := 23) (v := ?_) rfl (by kernel_rfl) (by kernel_rfl) (by kernel_rfl) (fun _ _ _ h => h) (Or.inl ⟨by rfl, ?_⟩) ?_
              rotate_left
              · (intro w _; go_simp; try with_reducible rfl)
              try simp only [Act.put, List.getElem_toArray, List.getElem_cons_zero, List.getElem_cons_succ, List.setIfInBounds_toArray, List.set_cons_zero, List.set_cons_succ]
              refine wpAnyE_take (i := 24) (v := ?_) rfl (by kernel_rfl) (by kernel_rfl) (by kernel_rfl) (fun _ _ _ h => h) (Or.inl ⟨by rfl, ?_⟩) ?_
              rotate_left
              · (intro w _; go_simp; try with_reducible rfl)
              try simp only [Act.put, List.getElem_toArray, List.getElem_cons_zero, List.getElem_cons_succ, List.setIfInBounds_toArray, List.set_cons_zero, List.set_cons_succ]
              refine wpAnyE_take (i := 25) (v := ?_) rfl (by kernel_rfl) (by kernel_rfl) (by kernel_rfl) (fun _ _ _ h => h) (Or.inl ⟨by rfl, ?_⟩) ?_
              rotate_left
              · (intro w _; go_simp; try with_reducible rfl)
              try simp only [Act.put, List.getElem_toArray, List.getElem_cons_zero, List.getElem_cons_succ, List.setIfInBounds_toArray, List.set_cons_zero, List.set_cons_succ]
              refine wpAnyE_take (i := 27) (v := ?_) rfl (by kernel_rfl) (by kernel_rfl) (by kernel_rfl) (fun _ _ _ h => h) (Or.inl ⟨by rfl, ?_⟩) ?_
              rotate_left
              · (intro w _; go_simp; try with_reducible rfl)
              try simp only [Act.put, List.getElem_toArray, List.getElem_cons_zero, List.getElem_cons_succ, List.setIfInBounds_toArray, List.set_cons_zero, List.set_cons_succ]
              refine wpAnyE_take (i := 28) (v := ?_) rfl (by kernel_rfl) (by kernel_rfl) (by kernel_rfl) (fun _ _ _ h => h) (Or.inl ⟨by rfl, ?_⟩) ?_
              rotate_left
              · (intro w _; go_simp; try with_reducible rfl)
              try simp only [Act.put, List.getElem_toArray, List.getElem_cons_zero, List.getElem_cons_succ, List.setIfInBounds_toArray, List.set_cons_zero, List.set_cons_succ]
              refine wpAnyE_ready (rs := [26]) (by kernel_rfl) (by simp) ?_
              refine AllReadyE.cons rfl (fun K hK => ?_) AllReadyE.nil
              go_simp
              (go_at_call 30; refine bkAll_h pb X Ob a2 m2 cap2 cs HM2.out _ (hF32.b.old hoE) (hb.old ((ho1.trans hF32.off).trans hoE)) (by omega) (by omega) _ ?_; intro w38 l38 n38 g38 d38 hn38 hs38 hv38 hx38 ho38; have hoF := hoE.trans ho38; replace hn38 := Lib.hid hn38; replace hx38 := Lib.hid hx38)
              refine hK.out _ _ ?_ (fun hHeld => ?_)
              · (first | exact Off.refl _ _ | exact Off.alloc hHeld _ | exact Off.trans hHeld (by assumption) | assumption | exact (Off.refl _ _).drew)
              clear hK K
              try simp only [Act.put, List.getElem_toArray, List.getElem_cons_zero, List.getElem_cons_succ, List.setIfInBounds_toArray, List.set_cons_zero, List.set_cons_succ]
              refine wpAnyE_ready (rs := [29]) (by kernel_rfl) (by simp) ?_
              refine AllReadyE.cons rfl (fun K hK => ?_) AllReadyE.nil
              go_simp
              (go_at_call 31; refine rbAll_h pm X Om a2 m2 cap2 cs HM2.out _ (hF32.m.old hoF) (hb.old ((ho1.trans hF32.off).trans hoF)) (by omega) (by omega) _ ?_; intro w39 l39 n39 g39 d39 hn39 hs39 hv39 hx39 ho39; have hoG := hoF.trans ho39; replace hn39 := Lib.hid hn39; replace hx39 := Lib.hid hx39)
              refine hK.out _ _ ?_ (fun hHeld => ?_)
              · (first | exact Off.refl _ _ | exact Off.alloc hHeld _ | exact Off.trans hHeld (by assumption) | assumption | exact (Off.refl _ _).drew)
              clear hK K
              try simp only [Act.put, List.getElem_toArray, List.getElem_cons_zero, List.getElem_cons_succ, List.setIfInBounds_toArray, List.set_cons_zero, List.set_cons_succ]
              refine wpAnyE_ready (rs := [30]) (by kernel_rfl) (by simp) ?_
              refine AllReadyE.cons rfl (fun K hK => ?_) AllReadyE.nil
              go_simp
              (go_at_call 29; refine all19_c g38 g39 n38 n39 d38 d39 l38 l39 hn38.out hn39.out _ (hs38.old ho39) hs39 (fun e he => (hv38 e he).old ho39) hv39 (by show _ = _; rw [hx38.out, hx39.out]) (by have h1 := map_len hx38.out hn38.out; have h2 := allV_le cs X; omega) _ ?_; intro w40 ho40; have hoH := hoG.trans ho40)
              refine hK.out _ _ ?_ (fun hHeld => ?_)
              · (first | exact Off.refl _ _ | exact Off.alloc hHeld _ | exact Off.trans hHeld (by assumption) | assumption | exact (Off.refl _ _).drew)
              clear hK K
              try simp only [Act.put, List.getElem_toArray, List.getElem_cons_zero, List.getElem_cons_succ, List.setIfInBounds_toArray, List.set_cons_zero, List.set_cons_succ]
              refine wpAnyE_take (i := 31) (v := ?_) rfl (by kernel_rfl) (by kernel_rfl) (by kernel_rfl) (fun _ _ _ h => h) (Or.inl ⟨by rfl, ?_⟩) ?_
              rotate_left
              · (intro w _; go_simp; try with_reducible rfl)
              try simp only [Act.put, List.getElem_toArray, List.getElem_cons_zero, List.getElem_cons_succ, List.setIfInBounds_toArray, List.set_cons_zero, List.set_cons_succ]
              refine wpAnyE_take (i := 32) (v := ?_) rfl (by kernel_rfl) (by kernel_rfl) (by kernel_rfl) (fun _ _ _ h => h) (Or.inl ⟨by rfl, ?_⟩) ?_
              rotate_left
              · (intro w _; go_simp; try with_reducible rfl)
              try simp only [Act.put, List.getElem_toArray, List.getElem_cons_zero, List.getElem_cons_succ, List.setIfInBounds_toArray, List.set_cons_zero, List.set_cons_succ]
              refine wpAnyE_take (i := 33) (v := ?_) rfl (by kernel_rfl) (by kernel_rfl) (by kernel_rfl) (fun _ _ _ h => h) (Or.inl ⟨by rfl, ?_⟩) ?_
              rotate_left
              · (intro w _; go_simp; try with_reducible rfl)
              try simp only [Act.put, List.getElem_toArray, List.getElem_cons_zero, List.getElem_cons_succ, List.setIfInBounds_toArray, List.set_cons_zero, List.set_cons_succ]
              refine wpAnyE_take (i := 35) (v := ?_) rfl (by kernel_rfl) (by kernel_rfl) (by kernel_rfl) (fun _ _ _ h => h) (Or.inl ⟨by rfl, ?_⟩) ?_
              rotate_left
              · (intro w _; go_simp; try with_reducible rfl)
              try simp only [Act.put, List.getElem_toArray, List.getElem_cons_zero, List.getElem_cons_succ, List.setIfInBounds_toArray, List.set_cons_zero, List.set_cons_succ]
              refine wpAnyE_take (i := 36) (v := ?_) rfl (by kernel_rfl) (by kernel_rfl) (by kernel_rfl) (fun _ _ _ h => h) (Or.inl ⟨by rfl, ?_⟩) ?_
              rotate_left
              · (intro w _; go_simp; try with_reducible rfl)
              try simp only [Act.put, List.getElem_toArray, List.getElem_cons_zero, List.getElem_cons_succ, List.setIfInBounds_toArray, List.set_cons_zero, List.set_cons_succ]
              refine wpAnyE_take (i := 37) (v := ?_) rfl (by kernel_rfl) (by kernel_rfl) (by kernel_rfl) (fun _ _ _ h => h) (Or.inl ⟨by rfl, ?_⟩) ?_
              rotate_left
              · (intro w _; go_simp; try with_reducible rfl)
              try simp only [Act.put, List.getElem_toArray, List.getElem_cons_zero, List.getElem_cons_succ, List.setIfInBounds_toArray, List.set_cons_zero, List.set_cons_succ]
              refine wpAnyE_load (tr := [[], [0], [], [0, 1, 2], [0, 1, 2, 3], [0, 1, 2, 3, 4], [0, 1, 2, 3, 4, 5], [0, 1, 2, 3, 4, 5, 6], [0, 1, 2, 3, 4, 5, 6, 7], [0, 1, 2, 3, 4, 5, 6, 7, 8], [0, 1, 2, 3, 4, 5, 6, 7, 8], [0, 1, 2, 3, 4, 5, 6, 7, 8, 10], [0, 1, 2, 3, 4, 5, 6, 7, 8, 9, 10, 11], [0, 1, 2, 3, 4, 5, 6, 7, 8, 9, 10, 11, 12], [0, 1, 2, 3, 4, 5, 6, 7, 8, 9, 10, 11, 12, 13], [0, 1, 2, 3, 4, 5, 6, 7, 8, 9, 10, 11, 12, 13, 14], [0, 1, 2, 3, 4, 5, 6, 7, 8, 9, 10, 11, 12, 13, 14, 15], [0, 1, 2, 3, 4, 5, 6, 7, 8, 9, 10, 11, 12, 13, 14], [0, 1, 2, 3, 4, 5, 6, 7, 8, 9, 10, 11, 12, 13, 14, 17], [0, 1, 2, 3, 4, 5, 6, 7, 8, 9, 10, 11, 12, 13, 14, 17, 18], [0, 1, 2, 3, 4, 5, 6, 7, 8, 9, 10, 11, 12, 13, 14, 17, 18, 19], [0, 1, 2, 3, 4, 5, 6, 7, 8, 9, 10, 11, 12, 13, 14, 15, 16, 17, 18, 19, 20], [0, 1, 2, 3, 4, 5, 6, 7, 8, 9, 10, 11, 12, 13, 14, 15, 16, 17, 18, 19, 20, 21], [0, 1, 2, 3, 4, 5, 6, 7, 8, 9, 10, 11, 12, 13, 14, 15, 16, 17, 18, 19, 20, 21, 22], [0, 1, 2, 3, 4, 5, 6, 7, 8, 9, 10, 11, 12, 13, 14, 15, 16, 17, 18, 19, 20, 21, 22, 23], [0, 1, 2, 3, 4, 5, 6, 7, 8, 9, 10, 11, 12, 13, 14, 15, 16, 17, 18, 19, 20, 21, 22, 23], [0, 1, 2, 3, 4, 5, 6, 7, 8, 9, 10, 11, 12, 13, 14, 15, 16, 17, 18, 19, 20, 21, 22, 23, 24, 25], [0, 1, 2, 3, 4, 5, 6, 7, 8, 9, 10, 11, 12, 13, 14, 15, 16, 17, 18, 19, 20, 21, 22, 23], [0, 1, 2, 3, 4, 5, 6, 7, 8, 9, 10, 11, 12, 13, 14, 15, 16, 17, 18, 19, 20, 21, 22, 23], [0, 1, 2, 3, 4, 5, 6, 7, 8, 9, 10, 11, 12, 13, 14, 15, 16, 17, 18, 19, 20, 21, 22, 23, 24, 25, 26, 27, 28], [0, 1, 2, 3, 4, 5, 6, 7, 8, 9, 10, 11, 12, 13, 14, 15, 16, 17, 18, 19, 20, 21, 22, 23, 24, 25, 26, 27, 28, 29], [0, 1, 2, 3, 4, 5, 6, 7, 8, 9, 10, 11, 12, 13, 14, 15, 16, 17, 18, 19, 20, 21, 22, 23, 24, 25, 26, 27, 28, 29, 30], [0, 1, 2, 3, 4, 5, 6, 7, 8, 9, 10, 11, 12, 13, 14, 15, 16, 17, 18, 19, 20, 21, 22, 23, 24, 25, 26, 27, 28, 29, 30, 31], [0, 1, 2, 3, 4, 5, 6, 7, 8, 9, 10, 11, 12, 13, 14, 15, 16, 17, 18, 19, 20, 21, 22, 23, 24, 25, 26, 27, 28, 29, 30, 31, 32], [0, 1, 2, 3, 4, 5, 6, 7, 8, 9, 10, 11, 12, 13, 14, 15, 16, 17, 18, 19, 20, 21, 22, 23, 24, 25, 26, 27, 28, 29, 30, 31, 32, 33], [0, 1, 2, 3, 4, 5, 6, 7, 8, 9, 10, 11, 12, 13, 14, 15, 16, 17, 18, 19, 20, 21, 22, 23, 24, 25, 26, 27, 28, 29, 30, 31, 32], [0, 1, 2, 3, 4, 5, 6, 7, 8, 9, 10, 11, 12, 13, 14, 15, 16, 17, 18, 19, 20, 21, 22, 23, 24, 25, 26, 27, 28, 29, 30, 31, 32, 35], [0, 1, 2, 3, 4, 5, 6, 7, 8, 9, 10, 11, 12, 13, 14, 15, 16, 17, 18, 19, 20, 21, 22, 23, 24, 25, 26, 27, 28, 29, 30, 31, 32, 35, 36], [0, 1, 2, 3, 4, 5, 6, 7, 8, 9, 10, 11, 12, 13, 14, 15, 16, 17, 18, 19, 20, 21, 22, 23, 24, 25, 26, 27, 28, 29, 30, 31, 32, 35, 36, 37], [0, 1, 2, 3, 4, 5, 6, 7, 8, 9, 10, 11, 12, 13, 14, 15, 16, 17, 18, 19, 20, 21, 22, 23, 24, 25, 26, 27, 28, 29, 30, 31, 32, 33, 34, 35, 36, 37, 38], [0, 1, 2, 3, 4, 5, 6, 7, 8, 9, 10, 11, 12, 13, 14, 15, 16, 17, 18, 19, 20, 21, 22, 23, 24, 25, 26, 27, 28, 29, 30, 31, 32, 33, 34, 35, 36, 37, 38, 39], [0, 1, 2, 3, 4, 5, 6, 7, 8, 9, 10, 11, 12, 13, 14, 15, 16, 17, 18, 19, 20, 21, 22, 23, 24, 25, 26, 27, 28, 29, 30, 31, 32, 33, 34, 35, 36, 37, 38, 39, 40], [0, 1, 2, 3, 4, 5, 6, 7, 8, 9, 10, 11, 12, 13, 14, 15, 16, 17, 18, 19, 20, 21, 22, 23, 24, 25, 26, 27, 28, 29, 30, 31, 32, 33, 34, 35, 36, 37, 38, 39, 40, 41], [0, 1, 2, 3, 4, 5, 6, 7, 8, 9, 10, 11, 12, 13, 14, 15, 16, 17, 18, 19, 20, 21, 22, 23, 24, 25, 26, 27, 28, 29, 30, 31, 32, 33, 34, 35, 36, 37, 38, 39, 40, 41, 42], [0, 1, 2, 3, 4, 5, 6, 7, 8, 9, 10, 11, 12, 13, 14, 15, 16, 17, 18, 19, 20, 21, 22, 23, 24, 25, 26, 27, 28, 29, 30, 31, 32, 33, 34, 35, 36, 37, 38, 39, 40, 41, 42, 43]]) (i := 38) (v := ?_) (by kernel_rfl) rfl (by kernel_rfl) (by kernel_rfl) (by kernel_rfl) (by kernel_rfl) (by kernel_rfl) (fun _ _ _ h => h) (Or.inl ⟨by rfl, ?_⟩) hHeld ?_
              rotate_left
              · (intro w hSw; (try dsimp only at hSw); go_simp; try with_reducible rfl)
              try simp only [Act.put, List.getElem_toArray, List.getElem_cons_zero, List.getElem_cons_succ, List.setIfInBounds_toArray, List.set_cons_zero, List.set_cons_succ]
              refine wpAnyE_ready (rs := [34]) (by kernel_rfl) (by simp) ?_
              refine AllReadyE.cons rfl (fun K hK => ?_) AllReadyE.nil
              go_simp
              (go_at_call 30; refine bkAll_h pc XC Oc none 0 0 [] rfl _ (hF32.c.old hoH) (Sl.nil _ _) (by omega) (by omega) _ ?_; intro w41 l41 n41 g41 d41 hn41 hs41 hv41 hx41 ho41; have hoI := hoH.trans ho41; replace hn41 := Lib.hid hn41; replace hx41 := Lib.hid hx41)
              refine hK.out _ _ ?_ (fun hHeld => ?_)
              · (first | exact Off.refl _ _ | exact Off.alloc hHeld _ | exact Off.trans hHeld (by assumption) | assumption | exact (Off.refl _ _).drew)
              clear hK K
              try simp only [Act.put, List.getElem_toArray, List.getElem_cons_zero, List.getElem_cons_succ, List.setIfInBounds_toArray, List.set_cons_zero, List.set_cons_succ]
              refine wpAnyE_ready (rs := [39]) (by kernel_rfl) (by simp) ?_
              refine AllReadyE.lcons (by kernel_rfl) rfl (fun K hK => ?_) AllReadyE.nil
              go_simp
              (go_at_call 29; refine all19_c g41 gd n41 nd d41 dd l41 ld hn41.out hld.out _ hs41 (hsd.old hoI) hv41 (fun e he => (hvd.out e he).old hoI) (by show _ = _; rw [hx41.out, allV_nil', hdx.out]) (by have h1 := map_len hx41.out hn41.out; rw [allV_nil'] at h1; omega) _ ?_; intro w42 ho42; have hoJ := hoI.trans ho42)
              refine hK.out _ _ ?_
              clear hK K
              try simp only [Act.put, List.getElem_toArray, List.getElem_cons_zero, List.getElem_cons_succ, List.setIfInBounds_toArray, List.set_cons_zero, List.set_cons_succ]
              refine wpAnyE_take (i := 40) (v := ?_) rfl (by kernel_rfl) (by kernel_rfl) (by kernel_rfl) (fun _ _ _ h => h) (Or.inl ⟨by rfl, ?_⟩) ?_
              rotate_left
              · (intro w _; go_simp; try with_reducible rfl)
              try simp only [Act.put, List.getElem_toArray, List.getElem_cons_zero, List.getElem_cons_succ, List.setIfInBounds_toArray, List.set_cons_zero, List.set_cons_succ]
              refine wpAnyE_take (i := 41) (v := ?_) rfl (by kernel_rfl) (by kernel_rfl) (by kernel_rfl) (fun _ _ _ h => h) (Or.inl ⟨by rfl, ?_⟩) ?_
              rotate_left
              · (intro w _; go_simp; try with_reducible rfl)
              try simp only [Act.put, List.getElem_toArray, List.getElem_cons_zero, List.getElem_cons_succ, List.setIfInBounds_toArray, List.set_cons_zero, List.set_cons_succ]
              refine wpAnyE_ready (rs := [42]) (by kernel_rfl) (by simp) ?_
              refine AllReadyE.lcons (by kernel_rfl) rfl (fun K hK => ?_) AllReadyE.nil
              go_simp
              (go_at_call 7; refine awake19_c _ _ ?_; intro w43 ho43; have hoK := hoJ.trans ho43)
              refine hK.out _ _ ?_
              clear hK K
              try simp only [Act.put, List.getElem_toArray, List.getElem_cons_zero, List.getElem_cons_succ, List.setIfInBounds_toArray, List.set_cons_zero, List.set_cons_succ]
              refine wpAnyE_take (i := 43) (v := ?_) rfl (by kernel_rfl) (by kernel_rfl) (by kernel_rfl) (fun _ _ _ h => h) (Or.inl ⟨by rfl, ?_⟩) ?_
              rotate_left
              · (intro w _; go_simp; try with_reducible rfl)
              try simp only [Act.put, List.getElem_toArray, List.getElem_cons_zero, List.getElem_cons_succ, List.setIfInBounds_toArray, List.set_cons_zero, List.set_cons_succ]
              refine wpAnyE_take (i := 44) (v := ?_) rfl (by kernel_rfl) (by kernel_rfl) (by kernel_rfl) (fun _ _ _ h => h) (Or.inl ⟨by rfl, ?_⟩) ?_
              rotate_left
              · (intro w _; go_simp; try with_reducible rfl)
              try simp only [Act.put, List.getElem_toArray, List.getElem_cons_zero, List.getElem_cons_succ, List.setIfInBounds_toArray, List.set_cons_zero, List.set_cons_succ]
              refine wpAnyE_done (by kernel_rfl) ?_ _
              have HFin := HK.out w43 ((ho1.trans hF32.off).trans hoK)
              clear HK
              go_wp2_with fail
              exact HFin
end Go.Proofs.Ytahpfcfecghpmaa
