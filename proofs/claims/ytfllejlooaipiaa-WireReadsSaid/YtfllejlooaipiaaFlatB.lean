/- The verifier's kit: rows of bytes that lie apart are told so. -/
import Derived.Test.YtfllejlooaipiaaFlat0
import Derived.Test.YtfllejlooaipiaaKit4
import Derived.Deep.OwnRows
namespace Go.Proofs.Ytfllejlooaipiaa
open Go.RowKit

def mkB (k i : Nat) : List Value := [.int .u8 ((markB k i).toNat : Int)]
theorem mkB_len (k i : Nat) : (mkB k i).length = 1 := rfl
def nAt (rs : List CRow) (m : Nat) : Nat := ((rs[m]?).map CRow.n).getD 0
theorem nAt_of {rs : List CRow} {m : Nat} {r : CRow} (h : rs[m]? = some r) : nAt rs m = r.n := by simp [nAt, h]
def F1 (mk : Nat → Nat → List Value) (F : Nat → List Value) (rs : List CRow) (k : Nat) : Nat → List Value := fun m => if m < k then mcells (mk m) (nAt rs m) else F m
def MM (mk : Nat → Nat → List Value) (rs : List CRow) : Nat → List Value := fun m => mcells (mk m) (nAt rs m)
def C2 (mk : Nat → Nat → List Value) (rs : List CRow) : Nat → List Value := fun m => mcells (mk m) (nAt rs m + 64)
def C4 (mk : Nat → Nat → List Value) (rs : List CRow) : Nat → List Value := fun m => mcells (mk m) (nAt rs m) ++ mcells (mk (m + rs.length)) 64
theorem crow_at {rs : List CRow} {m : Nat} {r : CRow} (h : rs[m]? = some r) : (rs.map CRow.v)[m]? = some (.slice r.a r.n r.c) := by simp [h, CRow.v]
theorem F1_step (mk : Nat → Nat → List Value) (F : Nat → List Value) {rs : List CRow} {k : Nat} {r : CRow} (hr : rs[k]? = some r) {x : List Value} (hx : x = mcells (mk k) r.n) (m : Nat) : upd (F1 mk F rs k) k x m = F1 mk F rs (k + 1) m := by
  subst hx
  by_cases h : m = k
  · subst h; rw [upd_same]; simp [F1, nAt_of hr]
  · rw [upd_other _ h]
    simp only [F1]
    by_cases h2 : m < k
    · rw [if_pos h2, if_pos (by omega)]
    · rw [if_neg h2, if_neg (by omega)]
theorem F1_here (mk : Nat → Nat → List Value) (F : Nat → List Value) (rs : List CRow) (k : Nat) : F1 mk F rs k k = F k := by simp [F1]
theorem upd_at {F : Nat → List Value} {k : Nat} : upd F k (F k) = F := by
  funext m; simp only [upd]; split
  · rename_i h; rw [h]
  · rfl
theorem set_drop1 {f : Nat → Value} {xs : List Value} {j : Nat} (h : j < xs.length) : (mcells (fun i => [f i]) j ++ xs.drop j).set j (f j) = mcells (fun i => [f i]) (j + 1) ++ xs.drop (j + 1) := by
  have hl : (mcells (fun i => [f i]) j).length = j := by rw [mcells_len (s := 1) (fun _ => rfl)]; omega
  rw [List.set_append_right _ _ (by omega), hl, Nat.sub_self, List.drop_eq_getElem_cons h, List.set_cons_zero, mcells_succ, List.append_assoc]; rfl

theorem gs_set {vs rest : List Value} {k : Nat} (hv : vs.length = k) (hr : 0 < rest.length) {u : Value} : (vs ++ rest).set k u = (vs ++ [u]) ++ rest.drop 1 := by
  subst hv
  cases rest with
  | nil => simp at hr
  | cons x xs => rw [List.set_append_right _ _ (Nat.le_refl _), Nat.sub_self, List.set_cons_zero]; simp
theorem rep_set {f : Nat → Value} {z : Value} {j n : Nat} (h : j < n) : (mcells (fun i => [f i]) j ++ List.replicate (n - j) z).set j (f j) = mcells (fun i => [f i]) (j + 1) ++ List.replicate (n - (j + 1)) z := by
  have hl : (mcells (fun i => [f i]) j).length = j := by rw [mcells_len (s := 1) (fun _ => rfl)]; omega
  rw [List.set_append_right _ _ (by omega), hl, Nat.sub_self, show n - j = (n - (j + 1)) + 1 by omega, List.replicate_succ, List.set_cons_zero, mcells_succ, List.append_assoc]; rfl
theorem grow64 {e : TypeId} {s : Nat} {ws wr w' : World} {ra : Option Addr} {rn rc n : Nat} {v' : Value} {xs news : List Value} (h : Growing e s ws wr ⟨ra, rn, rc⟩ (.slice ra rn rc) 0 xs []) (hl : news.length = n * s)
    (hg : Grew wr w' e s (.slice ra rn rc) v' (rn + n) (xs ++ news)) : Growing e s ws w' ⟨ra, rn, rc⟩ v' n xs news := by
  have h2 := h.step (j := n) (N := rn + n) (news := news) (v' := v') rfl rfl hl (by rw [List.append_nil]; exact hg)
  rwa [Nat.zero_add, List.nil_append] at h2
theorem madeCells_rep (z : Value) (n : Nat) : (madeCells #[z] n).toList = List.replicate n z := by
  refine List.ext_getElem (by simp [madeCells]) fun i h1 h2 => ?_
  simp [madeCells, Nat.mod_one]
theorem bsinfo : (Try.prog.info? 43).map (fun i => (i.zero, i.size, i.bytes)) = some (some (.slice none 0 0), 1, 24) := by kernel_rfl
set_option maxRecDepth 100000 in
set_option maxHeartbeats 4000000 in
theorem flatBytes_c (a : Option Addr) (c : Nat) (rs : List CRow) (F : Nat → List Value) (w : World) (ha : Sl w a (rs.map CRow.v)) (hrow : RowsAt w 5 1 rs F) (hd : Dist rs) (hs : ∀ q, a = some q → rs.map CRow.v ≠ [] → ¬ RB rs q.block)
    (bn : rs.length ≤ 400000) (bl : ∀ r ∈ rs, r.n ≤ 900000000) (R : Ending → World → Prop) (k : ∀ w', Off (RB rs) w w' → R (.returned (.bool true)) w') :
    Calls Try.prog 93 #[.slice a rs.length c] w R := by
  have HK := Lib.hid k; clear k
  have HB := Lib.hid bl; clear bl
  have HD := Lib.hid hd; clear hd
  have HS := Lib.hid hs; clear hs
  have hlt0 : Hid (∀ b, RB rs b → b < w.heap.size) := fun b hb => hrow.lt hb
  go_enter Try.func93, Try.ntmps93
  go_wp2_with fail
  go_loopw [3] (fun i wr => ∃ k : Nat, i = .int .i64 k ∧ k ≤ rs.length ∧ Off (RB rs) w wr ∧ RowsAt wr 5 1 rs (F1 mkB F rs k)) (fun i _ => rs.length - (intOf i).toNat)
  case atStart => exact ⟨0, rfl, Nat.zero_le _, Off.refl _ _, hrow.congr (fun m _ => by simp [F1])⟩
  case round =>
    have hl0 : Hid (∀ m r, rs[m]? = some r → (F m).length = r.n) := fun m r hr => by have := (hrow m r hr).1; omega
    clear hrow
    obtain ⟨k, rfl, hk, ho, hrow⟩ := hrel
    by_cases hlt : k < rs.length
    · obtain ⟨⟨ra, rn, rc⟩, hr⟩ := at_of_lt hlt
      have hbn : rn ≤ 900000000 := HB.out _ (List.mem_of_getElem? hr.out)
      obtain ⟨b, o, ix, Q⟩ := (ha.off ho HS.out).ix1 Try.underlying72 sz_bs (n := rs.length) (by simp) c
      have cx := Q.out k _ (crow_at hr.out)
      dsimp only at cx
      have hFk : Hid ((F k).length = rn) := hl0.out k _ hr.out
      go_wp2_with fail
      clear ix cx Q
      go_loopw [4] (fun i wr2 => ∃ j : Nat, i = .int .i64 j ∧ j ≤ rn ∧ Off (RB rs) w wr2 ∧ RowsAt wr2 5 1 rs (upd (F1 mkB F rs k) k (mcells (mkB k) j ++ (F k).drop j))) (fun i _ => rn - (intOf i).toNat)
      case atStart => exact ⟨0, rfl, Nat.zero_le _, ho, by rw [mcells_zero, List.nil_append, List.drop_zero, ← F1_here mkB F rs k, upd_at]; exact hrow⟩
      case round =>
        clear ho hrow
        obtain ⟨j, rfl, hj, ho, hrow⟩ := hrel
        obtain ⟨b, o, ix, Q⟩ := (ha.off ho HS.out).ix1 Try.underlying72 sz_bs (n := rs.length) (by simp) c
        have cx := Q.out k _ (crow_at hr.out)
        dsimp only at cx
        by_cases hj2 : j < rn
        · have hown := hrow k _ hr.out
          obtain ⟨g, x, hg, hx, cg, fg⟩ := own_cell hown hj2
          have HX := Lib.hid hx; clear hx
          dsimp only at hg
          subst hg
          have hset : Hid (Off (RB rs) w (wr.setCell ⟨g, j, none⟩ (.int .u8 ((markB k j).toNat : Int))) ∧ RowsAt (wr.setCell ⟨g, j, none⟩ (.int .u8 ((markB k j).toNat : Int))) 5 1 rs (upd (F1 mkB F rs k) k (mcells (mkB k) (j + 1) ++ (F k).drop (j + 1)))) := by
            have h1 := own_set1 hown hj2 (.int .u8 ((markB k j).toNat : Int))
            have h2 : Off (fun b => (CRow.v ⟨some ⟨g, 0, none⟩, rn, rc⟩).ownBlock = some b) wr (wr.setCell ⟨g, j, none⟩ (.int .u8 ((markB k j).toNat : Int))) := (Off.refl (fun b => (CRow.v ⟨some ⟨g, 0, none⟩, rn, rc⟩).ownBlock = some b) wr).setCell (p := ⟨g, j, none⟩) (fun _ => rfl) _
            have h3 := hrow.upd HD.out hr.out h2 h1
            rw [upd_upd, upd_same] at h3
            refine ⟨ho.step h2 (fun i hi _ => ⟨k, _, hr.out, hi⟩), ?_⟩
            have h4 := set_drop1 (f := fun j => .int .u8 ((markB k j).toNat : Int)) (xs := F k) (j := j) (by rw [hFk.out]; exact hj2)
            rw [show (mcells (mkB k) j) = mcells (fun i => [Value.int .u8 ((markB k i).toNat : Int)]) j from rfl, h4] at h3
            exact h3
          clear hown ho hrow HX Q
          go_wp2_with fail
          first | (go_region_with (first | (go_at_call 81; refine markByte_c k j (by omega) (by omega) _ _ ?_))) | fail
          all_goals
            go_wp2_with fail
            go_roundw
            case rel => exact ⟨j + 1, by go_num, by omega, hset.out.1.drew, hset.out.2.old (Off.refl _ _).drew⟩
            case measure => simp [intOf]; omega
        · obtain rfl : j = rn := by omega
          have hrow2 : RowsAt wr 5 1 rs (F1 mkB F rs (k + 1)) := hrow.congr (fun m _ => F1_step mkB F hr.out (by rw [List.drop_eq_nil_of_le (by rw [hFk.out]; exact Nat.le_refl _), List.append_nil]) m)
          clear hrow
          go_wp2_with fail
          go_roundw
          case rel => exact ⟨k + 1, by go_num, by omega, ho, hrow2⟩
          case measure => simp [intOf]; omega
    · obtain rfl : k = rs.length := by omega
      have hM : RowsAt wr 5 1 rs (MM mkB rs) := hrow.congr (fun m hm => by simp [F1, MM, hm])
      clear hrow hl0
      obtain ⟨i0, hi, hz0, hz1, hz2⟩ := info_parts bsinfo
      have hmk : ∀ w, (Instr.makeSlice 72 (.int .i64 (rs.length : Int)) (.int .i64 (rs.length : Int))).run Try.prog w = .ok (.slice (some ⟨w.heap.size, 0, none⟩) rs.length rs.length) (w.alloc (.cells (madeCells #[.slice none 0 0] rs.length) 43)) := fun w =>
        Go.run_make_row' 72 43 (.slice none 0 0) 24 Try.underlying72 bsinfo rfl .i64 .i64 rs.length (by omega) (by omega) w
      have hG := Blk.new wr (madeCells #[.slice none 0 0] rs.length) 43
      rw [madeCells_rep] at hG
      have hoA : Off Old wr (wr.alloc (.cells (madeCells #[.slice none 0 0] rs.length) 43)) := (Off.refl _ _).alloc _
      have hMA := hM.old hoA
      have ho2 : Off (RB rs) w (wr.alloc (.cells (madeCells #[.slice none 0 0] rs.length) 43)) := ho.alloc _
      have hGB : Hid (w.heap.size ≤ wr.heap.size) := ho.size
      clear hM ho hoA
      go_wp2_with fail
      generalize hG0 : wr.heap.size = G at *
      clear hmk
      generalize wr.alloc (.cells (madeCells #[.slice none 0 0] rs.length) 43) = w2 at *
      clear hG0
      have hGr : Hid (∀ k, RB rs k → k ≠ G) := fun k hk => by have := hlt0.out k hk; have := hGB.out; omega
      as_aux_lemma =>
        go_loopw [6] (fun i wr => ∃ (k : Nat) (vs rest : List Value), i = .int .i64 k ∧ k ≤ rs.length ∧ Hid (vs.length = k) ∧ Hid (rest.length = rs.length - k) ∧ Off (RB rs) w wr ∧ RowsAt wr 5 1 rs (MM mkB rs) ∧ Blk wr G (vs ++ rest) 43 ∧ GsAt w.heap.size G wr rs vs (C2 mkB rs)) (fun i _ => rs.length - (intOf i).toNat)
        case atStart => exact ⟨0, [], _, rfl, Nat.zero_le _, rfl, by show _ = _; simp, ho2, hMA, hG, GsAt.nil _ _ _ _ _⟩
        case round =>
          clear hMA hG ho2
          obtain ⟨k, vs, rest, rfl, hk, hvs, hrs, ho, hM, hG, hGs⟩ := hrel
          rename World => ws
          by_cases hlt : k < rs.length
          · obtain ⟨⟨ra, rn, rc⟩, hr⟩ := at_of_lt hlt
            have hbn : rn ≤ 900000000 := HB.out _ (List.mem_of_getElem? hr.out)
            obtain ⟨b, o, ix, Q⟩ := (ha.off ho HS.out).ix1 Try.underlying72 sz_bs (n := rs.length) (by simp) c
            have cx := Q.out k _ (crow_at hr.out)
            dsimp only at cx
            have hgrow : Growing 5 1 ws ws ⟨ra, rn, rc⟩ (.slice ra rn rc) 0 (mcells (mkB k) rn) [] := Growing.start (by
              have := hM k _ hr.out
              simp only [MM, nAt_of hr.out] at this; exact this)
            go_wp2_with fail
            clear ix cx Q
            go_loopw [7, 8] (fun v i wr2 => ∃ (j : Nat) (g : Option Addr) (d : Nat) (ys : List Value), i = .int .i64 j ∧ j ≤ 64 ∧ v = .slice g (rn + j) d ∧ Growing 5 1 ws wr2 ⟨ra, rn, rc⟩ (.slice g (rn + j) d) j (mcells (mkB k) rn) ys ∧ Hid (mcells (mkB k) rn ++ ys = mcells (mkB k) (rn + j))) (fun _ i _ => 64 - (intOf i).toNat)
            case atStart => exact ⟨0, ra, rc, [], rfl, Nat.zero_le _, rfl, hgrow, by show _ = _; simp⟩
            case round =>
              clear hgrow
              obtain ⟨j, g, d, ys, rfl, hj, rfl, hgrow, hys⟩ := hrel
              have hob : Hid (Off (RB rs) w wr) := ho.step hgrow.off (fun i hi _ => ⟨k, _, hr.out, hi⟩)
              by_cases hj2 : j < 64
              · obtain ⟨b, o, ix, Q⟩ := (ha.off hob.out HS.out).ix1 Try.underlying72 sz_bs (n := rs.length) (by simp) c
                have cx := Q.out k _ (crow_at hr.out)
                dsimp only at cx
                have hown : wr.ownsRow 0 5 1 (.slice g (rn + j) d) (rn + j) (mcells (mkB k) (rn + j)) := by
                  have := hgrow.own; rw [hys.out] at this; exact this
                obtain ⟨i1, hi1, hz10, hz11, hz12⟩ := info_parts u8info
                go_wp2_with (first | (go_at_call 81; refine markByte_c k (rn + j) (by omega) (by omega) _ _ ?_) | (at_builtin; go_must (refine wpList_append_new rfl (.tmp 57) (.tmp 67) 43 rfl 5 i1 (.int .u8 0) 1 1 Try.underlying43 hi1 hz10 hz11 hz12 rfl (by decide) (.slice g (rn + j) d) (rn + j) (mcells (mkB k) (rn + j)) rfl hown 1 1 (mkB k (rn + j)) rfl rfl (bys_oneCell [markB k (rn + j)]) (by omega) (by omega) ?_)))
                intro g' d' w3 hg
                have hg2 : Growing 5 1 ws w3 ⟨ra, rn, rc⟩ (.slice g' (rn + (j + 1)) d') (j + 1) (mcells (mkB k) rn) (ys ++ mkB k (rn + j)) :=
                  hgrow.step rfl (by rw [hys.out]) rfl hg
                have hy2 : Hid (mcells (mkB k) rn ++ (ys ++ mkB k (rn + j)) = mcells (mkB k) (rn + (j + 1))) := by
                  show _ = _; rw [← List.append_assoc, hys.out, ← mcells_succ]; rfl
                clear hown hg hgrow hob
                go_wp2_with fail
                go_roundw
                case rel => exact ⟨j + 1, g', d', _, by go_num, by omega, by simp [Nat.add_assoc], hg2, hy2⟩
                case measure => simp [intOf]; omega
              · obtain rfl : j = 64 := by omega
                obtain ⟨g1, d1, hv1, hs1, hb1⟩ := hgrow.gs hGB.out hG.lt
                have hv2 : g = g1 ∧ d = d1 := by cases hv1; exact ⟨rfl, rfl⟩
                obtain ⟨rfl, rfl⟩ := hv2
                clear hv1
                have hGk : ¬ (CRow.v ⟨ra, rn, rc⟩).ownBlock = some G := fun h => hGr.out G ⟨k, _, hr.out, h⟩ rfl
                have hG2 := hG.off hgrow.off hGk
                have hkG : k < (vs ++ rest).length := by rw [List.length_append, hvs.out, hrs.out]; omega
                obtain ⟨x, hx⟩ := at_of_lt hkG
                have cG := hG2.cell hx.out
                have fG := hG2.free k
                have hM2 : RowsAt wr 5 1 rs (MM mkB rs) := by
                  have := hM.upd HD.out hr.out hgrow.off hgrow.base
                  exact this.congr (fun m hm => by
                    by_cases h : m = k
                    · subst h; rw [upd_same]; simp [MM, nAt_of hr.out]
                    · rw [upd_other _ h])
                have hset : Hid (∃ rest2, Hid ((vs ++ [Value.slice g (rn + 64) d]).length = k + 1) ∧ Hid (rest2.length = rs.length - (k + 1)) ∧ Off (RB rs) w (wr.setCell ⟨G, k, none⟩ (.slice g (rn + 64) d)) ∧ RowsAt (wr.setCell ⟨G, k, none⟩ (.slice g (rn + 64) d)) 5 1 rs (MM mkB rs) ∧
                    Blk (wr.setCell ⟨G, k, none⟩ (.slice g (rn + 64) d)) G ((vs ++ [Value.slice g (rn + 64) d]) ++ rest2) 43 ∧ GsAt w.heap.size G (wr.setCell ⟨G, k, none⟩ (.slice g (rn + 64) d)) rs (vs ++ [Value.slice g (rn + 64) d]) (C2 mkB rs)) := by
                  have hoS : Off (fun i => i = G) wr (wr.setCell ⟨G, k, none⟩ (.slice g (rn + 64) d)) := (Off.refl (fun i => i = G) wr).setCell (p := ⟨G, k, none⟩) (fun _ => rfl) _
                  refine ⟨rest.drop 1, by show _ = _; simp [hvs.out], by show _ = _; rw [List.length_drop, hrs.out]; omega, hob.out.step hoS (fun i hi h => by have := hGB.out; omega), hM2.off hoS (fun i hi h => hGr.out i hi h), ?_, ?_⟩
                  · have := hG2.set k (.slice g (rn + 64) d)
                    rw [gs_set hvs.out (by rw [hrs.out]; omega)] at this
                    exact this
                  · refine GsAt.snoc ((hGs.off hgrow.off (fun m r b hm hr1 hb1 hb2 => ?_) (fun b hb1 hb2 hb3 hb4 => ?_)).off hoS (fun m r b hm hr1 hb1 hb2 => hGr.out b ⟨m, r, hr1, hb1⟩ hb2) (fun b hb1 hb2 hb3 hb4 => hb3 hb4)) (by rw [hvs.out]; exact hr.out) rfl ?_ ?_
                    · exact HD.out m k r _ hr1 hr.out (by rw [hvs.out] at hm; omega) b hb1 hb2
                    · have := hlt0.out b ⟨k, _, hr.out, hb4⟩; omega
                    · have hs2 := hs1
                      rw [hys.out] at hs2
                      rw [show C2 mkB rs vs.length = mcells (mkB k) (rn + 64) by simp only [C2]; rw [hvs.out, nAt_of hr.out]]
                      exact hs2.off hoS (fun p hp hne hpG => by
                        subst hp
                        have := (hb1 p.block rfl).2
                        rcases this with h | h
                        · exact hGk (by rw [h, hpG])
                        · exact h.2 hpG)
                    · intro b hb
                      have := hb1 b hb
                      exact ⟨by simpa [World.setCell] using this.1, this.2⟩
                clear hM2 hs1 hb1 hG2 hG hGs hM hgrow ho hx hob hkG hGk
                go_wp2_with fail
                obtain ⟨rest2, e1, e2, e3, e4, e5, e6⟩ := hset
                go_roundw
                case rel => exact ⟨k + 1, _, rest2, by go_num, by omega, e1, e2, e3, e4, e5, e6⟩
                case measure => simp [intOf]; omega
          · obtain rfl : k = rs.length := by omega
            have hrest : rest = [] := List.eq_nil_of_length_eq_zero (by rw [hrs.out]; omega)
            subst hrest
            rw [List.append_nil] at hG
            have HVS := hvs
            clear hvs hrs
            rename World => w3
            as_aux_lemma =>
              go_wp2_with fail
              go_loopw [9] (fun i wr => ∃ k : Nat, i = .int .i64 k ∧ k ≤ rs.length ∧ Dr w3 wr) (fun i _ => rs.length - (intOf i).toNat)
              case atStart => exact ⟨0, rfl, Nat.zero_le _, Dr.refl _⟩
              case round =>
                obtain ⟨k, rfl, hk, hdr⟩ := hrel
                by_cases hlt : k < rs.length
                · obtain ⟨v, hv⟩ := at_of_lt (show k < vs.length by rw [HVS.out]; exact hlt)
                  obtain ⟨⟨ra, rn, rc⟩, g, d, hr', rfl, hsg, _⟩ := hGs k v hv.out
                  have hr := Lib.hid hr'
                  clear hr'
                  have hbn : rn ≤ 900000000 := HB.out _ (List.mem_of_getElem? hr.out)
                  have cG := (hG.off (hdr.off (S := Old)) (fun x => x)).cell hv.out
                  go_wp2_with fail
                  clear cG
                  go_loopw [10] (fun i wr => ∃ j : Nat, i = .int .i64 j ∧ j ≤ rn + 64 ∧ Dr w3 wr) (fun i _ => rn + 64 - (intOf i).toNat)
                  case atStart => exact ⟨0, rfl, Nat.zero_le _, hdr⟩
                  case round =>
                    clear hdr
                    obtain ⟨j, rfl, hj, hdr⟩ := hrel
                    have cG := (hG.off (hdr.off (S := Old)) (fun x => x)).cell hv.out
                    by_cases hj2 : j < rn + 64
                    · have hsg2 := hsg.old (hdr.off (S := Old))
                      rw [show C2 mkB rs k = mcells (mkB k) (rn + 64) by simp only [C2]; rw [nAt_of hr.out]] at hsg2
                      obtain ⟨b2, o2, ix2, Q2⟩ := hsg2.ix1 Try.underlying43 sz_u8 (n := rn + 64) (by rw [mcells_len (s := 1) (fun _ => rfl)]; omega) d
                      have c2 := Q2.out j _ (mcells_at1 (fun i => Value.int .u8 ((markB k i).toNat : Int)) hj2)
                      obtain ⟨b, o, ix, Q⟩ := (ha.off (ho.step (hdr.off (S := Old)) (fun _ x => x.elim)) HS.out).ix1 Try.underlying72 sz_bs (n := rs.length) (by simp) c
                      have cx := Q.out k _ (crow_at hr.out)
                      dsimp only at cx
                      have hbb : (((markB k j).toNat : Int) == ((markB k j).toNat : Int)) = true := by simp
                      by_cases hj3 : j < rn
                      · have hown := (hM.old (hdr.off (S := Old))) k _ hr.out
                        obtain ⟨g0, x, hg0, hx, cg0, _⟩ := own_cell hown hj3
                        dsimp only at hg0
                        subst hg0
                        have hxe : x = .int .u8 ((markB k j).toNat : Int) := by
                          rw [show MM mkB rs k = mcells (mkB k) rn by simp only [MM]; rw [nAt_of hr.out]] at hx
                          have := mcells_at1 (fun i => Value.int .u8 ((markB k i).toNat : Int)) hj3
                          exact Option.some.inj (hx.symm.trans this)
                        subst hxe
                        clear hown hx hsg2
                        go_wp2_with fail
                        go_quiet ((go_at_call 81; exact Calls.quiet_of_same (markByte_q (k : Int) (j : Int) (by omega) (by omega) (by omega) (by omega) _)))
                        go_wp2_with fail
                        go_roundw
                        case rel => exact ⟨j + 1, by go_num, by omega, hdr.drewN _⟩
                        case measure => simp [intOf]; omega
                      · have hjd : decide (j < rn) = false := by simpa using hj3
                        clear hsg2
                        go_wp2_with fail
                        go_quiet ((go_at_call 81; exact Calls.quiet_of_same (markByte_q (k : Int) (j : Int) (by omega) (by omega) (by omega) (by omega) _)))
                        go_wp2_with fail
                        go_roundw
                        case rel => exact ⟨j + 1, by go_num, by omega, hdr.drewN _⟩
                        case measure => simp [intOf]; omega
                    · obtain rfl : j = rn + 64 := by omega
                      go_wp2_with fail
                      go_roundw
                      case rel => exact ⟨k + 1, by go_num, by omega, hdr⟩
                      case measure => simp [intOf]; omega
                · obtain rfl : k = rs.length := by omega
                  have ho4 : Off (RB rs) w wr := ho.step (hdr.off (S := Old)) (fun _ x => x.elim)
                  have hM4 := hM.old (hdr.off (S := Old))
                  have hG4 := hG.off (hdr.off (S := Old)) (fun x => x)
                  clear ho hM hG hGs hdr
                  have hmk : ∀ w, (Instr.makeSlice 43 (.int .i64 64) (.int .i64 64)).run Try.prog w = .ok (.slice (some ⟨w.heap.size, 0, none⟩) 64 64) (w.alloc (.cells (madeCells #[.int .u8 0] 64) 5)) := fun w =>
                    Go.run_make_row' 43 5 (.int .u8 0) 1 Try.underlying43 u8info rfl .i64 .i64 64 (by omega) (by omega) w
                  as_aux_lemma =>
                    go_wp2_with fail
                    go_loopw [11] (fun i wr => ∃ (k : Nat) (us rest : List Value), i = .int .i64 k ∧ k ≤ rs.length ∧ Hid (us.length = k) ∧ Hid (rest.length = rs.length - k) ∧ Off (RB rs) w wr ∧ RowsAt wr 5 1 rs (MM mkB rs) ∧ Blk wr G (us ++ rest) 43 ∧ GsAt w.heap.size G wr rs us (C4 mkB rs)) (fun i _ => rs.length - (intOf i).toNat)
                    case atStart => exact ⟨0, [], vs, rfl, Nat.zero_le _, rfl, HVS, ho4, hM4, hG4, GsAt.nil _ _ _ _ _⟩
                    case round =>
                      clear hM4 hG4 ho4 HVS
                      obtain ⟨k, us, rest, rfl, hk, hvs, hrs, ho, hM, hG, hGs⟩ := hrel
                      rename World => ws
                      by_cases hlt : k < rs.length
                      · obtain ⟨⟨ra, rn, rc⟩, hr⟩ := at_of_lt hlt
                        have hbn : rn ≤ 900000000 := HB.out _ (List.mem_of_getElem? hr.out)
                        have hMn := Blk.new ws (madeCells #[.int .u8 0] 64) 5
                        rw [madeCells_rep] at hMn
                        have hMn := Lib.hid hMn
                        have hoM : Hid (Off Old ws (ws.alloc (.cells (madeCells #[.int .u8 0] 64) 5))) := (Off.refl _ _).alloc _
                        have hGlt := hG.lt
                        have hlt4 : Hid (∀ b, RB rs b → b < ws.heap.size) := fun b hb => Nat.lt_of_lt_of_le (hlt0.out b hb) ho.size
                        go_wp2_with fail
                        as_aux_lemma =>
                          go_loopw [13] (fun i wr2 => ∃ j : Nat, i = .int .i64 j ∧ j ≤ 64 ∧ Off Old ws wr2 ∧ Blk wr2 ws.heap.size (mcells (fun i => [Value.int .u8 ((markB (k + rs.length) i).toNat : Int)]) j ++ List.replicate (64 - j) (.int .u8 0)) 5) (fun i _ => 64 - (intOf i).toNat)
                          case atStart => exact ⟨0, rfl, Nat.zero_le _, hoM.out, hMn.out⟩
                          case round =>
                            clear hMn hoM
                            obtain ⟨j, rfl, hj, hoI, hMb⟩ := hrel
                            by_cases hj2 : j < 64
                            · have hl : j < (mcells (fun i => [Value.int .u8 ((markB (k + rs.length) i).toNat : Int)]) j ++ List.replicate (64 - j) (Value.int .u8 0)).length := by
                                rw [List.length_append, mcells_len (s := 1) (fun _ => rfl)]; simp; omega
                              obtain ⟨x, hx⟩ := at_of_lt hl
                              have cM := hMb.cell hx.out
                              have fM := hMb.free j
                              have hset := hMb.set j (.int .u8 ((markB (k + rs.length) j).toNat : Int))
                              rw [rep_set (f := fun i => Value.int .u8 ((markB (k + rs.length) i).toNat : Int)) hj2] at hset
                              have hset := Lib.hid hset
                              have hoJ : Hid (Off Old ws (wr.setCell ⟨ws.heap.size, j, none⟩ (.int .u8 ((markB (k + rs.length) j).toNat : Int)))) := hoI.setCell (p := ⟨ws.heap.size, j, none⟩) (fun h => absurd h (Nat.lt_irrefl _)) _
                              clear hoI hMb hx hl
                              go_wp2_with (go_at_call 81; refine markByte_c (k + rs.length) j (by omega) (by omega) _ _ ?_)
                              go_roundw
                              case rel => exact ⟨j + 1, by go_num, by omega, hoJ.out, hset.out⟩
                              case measure => simp [intOf]; omega
                            · obtain rfl : j = 64 := by omega
                              as_aux_lemma =>
                                have hgr0 : Growing 5 1 ws ws ⟨ra, rn, rc⟩ (.slice ra rn rc) 0 (mcells (mkB k) rn) [] := Growing.start (by
                                  have := hM k _ hr.out
                                  simp only [MM, nAt_of hr.out] at this; exact this)
                                have hgr1 := hgr0.old hoI
                                obtain ⟨b, o, ix, Q⟩ := (ha.off (ho.step hoI (fun _ x => x.elim)) HS.out).ix1 Try.underlying72 sz_bs (n := rs.length) (by simp) c
                                have cx := Q.out k _ (crow_at hr.out)
                                dsimp only at cx
                                rw [Nat.sub_self, List.replicate_zero, List.append_nil] at hMb
                                obtain ⟨news, hnews, hl64, hone⟩ : ∃ news, Hid (mcells (mkB (k + rs.length)) 64 = news) ∧ Hid (news.length = 64 * 1) ∧ Hid (∀ u ∈ news, u.oneCell' = true) := ⟨_, rfl, mcells_len (s := 1) (fun _ => rfl) 64, fun u hu => by
                                  simp only [mcells, List.mem_flatMap, mkB, List.mem_singleton] at hu
                                  obtain ⟨_, _, rfl⟩ := hu; rfl⟩
                                have hMb2 : Blk wr ws.heap.size news 5 := by rw [← hnews.out]; exact hMb
                                clear hMb
                                have hsM := blk_sl hMb2
                                obtain ⟨i1, hi1, hz10, hz11, hz12⟩ := info_parts u8info
                                have hown1 : wr.ownsRow 0 5 1 (.slice ra rn rc) rn (mcells (mkB k) rn) := hgr1.base
                                go_wp2_with (at_builtin; go_must (refine wpList_append_sl rfl (.tmp 148) (.tmp 149) 43 rfl 5 i1 (.int .u8 0) 1 1 Try.underlying43 hi1 hz10 hz11 hz12 rfl (by decide) (.slice ra rn rc) rn (mcells (mkB k) rn) rfl hown1 (some ⟨ws.heap.size, 0, none⟩) 64 64 news rfl hl64.out hsM hone.out (by omega) (by omega) ?_))
                                intro g d w5 hg
                                have hgrow : Growing 5 1 ws w5 ⟨ra, rn, rc⟩ (.slice g (rn + 64) d) 64 (mcells (mkB k) rn) news := grow64 hgr1 hl64.out hg
                                have hob : Hid (Off (RB rs) w w5) := ho.step hgrow.off (fun i hi _ => ⟨k, _, hr.out, hi⟩)
                                clear hgr0 hgr1 hoI hMb2 hsM hown1 hone hl64 hg ix cx Q
                                obtain ⟨g1, d1, hv1, hs1, hb1⟩ := hgrow.gs hGB.out hG.lt
                                have hv2 : g = g1 ∧ d = d1 := by cases hv1; exact ⟨rfl, rfl⟩
                                obtain ⟨rfl, rfl⟩ := hv2
                                clear hv1
                                have hGk : ¬ (CRow.v ⟨ra, rn, rc⟩).ownBlock = some G := fun h => hGr.out G ⟨k, _, hr.out, h⟩ rfl
                                have hG2 := hG.off hgrow.off hGk
                                have hkG : k < (us ++ rest).length := by rw [List.length_append, hvs.out, hrs.out]; omega
                                obtain ⟨x, hx⟩ := at_of_lt hkG
                                have cG := hG2.cell hx.out
                                have fG := hG2.free k
                                have hM2 : RowsAt w5 5 1 rs (MM mkB rs) := by
                                  have := hM.upd HD.out hr.out hgrow.off hgrow.base
                                  exact this.congr (fun m hm => by
                                    by_cases h : m = k
                                    · subst h; rw [upd_same]; simp [MM, nAt_of hr.out]
                                    · rw [upd_other _ h])
                                have hset : Hid (∃ rest2, Hid ((us ++ [Value.slice g (rn + 64) d]).length = k + 1) ∧ Hid (rest2.length = rs.length - (k + 1)) ∧ Off (RB rs) w (w5.setCell ⟨G, k, none⟩ (.slice g (rn + 64) d)) ∧ RowsAt (w5.setCell ⟨G, k, none⟩ (.slice g (rn + 64) d)) 5 1 rs (MM mkB rs) ∧
                                    Blk (w5.setCell ⟨G, k, none⟩ (.slice g (rn + 64) d)) G ((us ++ [Value.slice g (rn + 64) d]) ++ rest2) 43 ∧ GsAt w.heap.size G (w5.setCell ⟨G, k, none⟩ (.slice g (rn + 64) d)) rs (us ++ [Value.slice g (rn + 64) d]) (C4 mkB rs)) := by
                                  have hoS : Off (fun i => i = G) w5 (w5.setCell ⟨G, k, none⟩ (.slice g (rn + 64) d)) := (Off.refl (fun i => i = G) w5).setCell (p := ⟨G, k, none⟩) (fun _ => rfl) _
                                  refine ⟨rest.drop 1, by show _ = _; simp [hvs.out], by show _ = _; rw [List.length_drop, hrs.out]; omega, hob.out.step hoS (fun i hi h => by have := hGB.out; omega), hM2.off hoS (fun i hi h => hGr.out i hi h), ?_, ?_⟩
                                  · have := hG2.set k (.slice g (rn + 64) d)
                                    rw [gs_set hvs.out (by rw [hrs.out]; omega)] at this
                                    exact this
                                  · refine GsAt.snoc ((hGs.off hgrow.off (fun m r b hm hr1 hb1 hb2 => ?_) (fun b hb1 hb2 hb3 hb4 => ?_)).off hoS (fun m r b hm hr1 hb1 hb2 => hGr.out b ⟨m, r, hr1, hb1⟩ hb2) (fun b hb1 hb2 hb3 hb4 => hb3 hb4)) (by rw [hvs.out]; exact hr.out) rfl ?_ ?_
                                    · exact HD.out m k r _ hr1 hr.out (by rw [hvs.out] at hm; omega) b hb1 hb2
                                    · have := hlt0.out b ⟨k, _, hr.out, hb4⟩; omega
                                    · have hs2 := hs1
                                      rw [show C4 mkB rs us.length = mcells (mkB k) rn ++ news by simp only [C4]; rw [hvs.out, nAt_of hr.out, hnews.out]]
                                      exact hs2.off hoS (fun p hp hne hpG => by
                                        subst hp
                                        have := (hb1 p.block rfl).2
                                        rcases this with h | h
                                        · exact hGk (by rw [h, hpG])
                                        · exact h.2 hpG)
                                    · intro b hb
                                      have := hb1 b hb
                                      exact ⟨by simpa [World.setCell] using this.1, this.2⟩
                                clear hM2 hs1 hb1 hG2 hG hGs hM hgrow ho hx hob hkG hGk
                                go_wp2_with fail
                                obtain ⟨rest2, e1, e2, e3, e4, e5, e6⟩ := hset
                                go_roundw
                                case rel => exact ⟨k + 1, _, rest2, by go_num, by omega, e1, e2, e3, e4, e5, e6⟩
                                case measure => simp [intOf]; omega
                      · obtain rfl : k = rs.length := by omega
                        have hrest : rest = [] := List.eq_nil_of_length_eq_zero (by rw [hrs.out]; omega)
                        subst hrest
                        rw [List.append_nil] at hG
                        clear hmk hrs
                        as_aux_lemma =>
                          go_wp2_with fail
                          go_loopw [14] (fun i wr => ∃ k : Nat, i = .int .i64 k ∧ k ≤ rs.length ∧ Dr ws wr) (fun i _ => rs.length - (intOf i).toNat)
                          case atStart => exact ⟨0, rfl, Nat.zero_le _, Dr.refl _⟩
                          case round =>
                            obtain ⟨k, rfl, hk, hdr⟩ := hrel
                            by_cases hlt : k < rs.length
                            · obtain ⟨v, hv⟩ := at_of_lt (show k < us.length by rw [hvs.out]; exact hlt)
                              obtain ⟨⟨ra, rn, rc⟩, g, d, hr', rfl, hsg, _⟩ := hGs k v hv.out
                              have hr := Lib.hid hr'
                              clear hr'
                              have hbn : rn ≤ 900000000 := HB.out _ (List.mem_of_getElem? hr.out)
                              go_wp2_with fail
                              go_loopw [15] (fun i wr => ∃ j : Nat, i = .int .i64 j ∧ j ≤ rn ∧ Dr ws wr) (fun i _ => rn - (intOf i).toNat)
                              case atStart => exact ⟨0, rfl, Nat.zero_le _, hdr⟩
                              case round =>
                                clear hdr
                                obtain ⟨j, rfl, hj, hdr⟩ := hrel
                                obtain ⟨b, o, ix, Q⟩ := (ha.off (ho.step (hdr.off (S := Old)) (fun _ x => x.elim)) HS.out).ix1 Try.underlying72 sz_bs (n := rs.length) (by simp) c
                                have cx := Q.out k _ (crow_at hr.out)
                                dsimp only at cx
                                by_cases hj2 : j < rn
                                · have hsg2 := hsg.old (hdr.off (S := Old))
                                  have cG := (hG.off (hdr.off (S := Old)) (fun x => x)).cell hv.out
                                  rw [show C4 mkB rs k = mcells (mkB k) rn ++ mcells (mkB (k + rs.length)) 64 by simp only [C4]; rw [nAt_of hr.out]] at hsg2
                                  obtain ⟨b2, o2, ix2, Q2⟩ := hsg2.ix1 Try.underlying43 sz_u8 (n := rn + 64) (by rw [List.length_append, mcells_len (s := 1) (fun _ => rfl), mcells_len (s := 1) (fun _ => rfl)]; omega) d
                                  have c2 := Q2.out j (Value.int .u8 ((markB k j).toNat : Int)) (by
                                    rw [List.getElem?_append_left (by rw [mcells_len (s := 1) (fun _ => rfl)]; omega)]
                                    exact mcells_at1 (fun i => Value.int .u8 ((markB k i).toNat : Int)) hj2)
                                  have hbb : (((markB k j).toNat : Int) == ((markB k j).toNat : Int)) = true := by simp
                                  have hj64 : j < rn + 64 := by omega
                                  have hown := (hM.old (hdr.off (S := Old))) k _ hr.out
                                  obtain ⟨g0, x, hg0, hx, cg0, _⟩ := own_cell hown hj2
                                  dsimp only at hg0
                                  subst hg0
                                  have hxe : x = .int .u8 ((markB k j).toNat : Int) := by
                                    rw [show MM mkB rs k = mcells (mkB k) rn by simp only [MM]; rw [nAt_of hr.out]] at hx
                                    have := mcells_at1 (fun i => Value.int .u8 ((markB k i).toNat : Int)) hj2
                                    exact Option.some.inj (hx.symm.trans this)
                                  subst hxe
                                  clear hown hx hsg2
                                  go_wp2_with fail
                                  go_quiet ((go_at_call 81; exact Calls.quiet_of_same (markByte_q (k : Int) (j : Int) (by omega) (by omega) (by omega) (by omega) _)))
                                  go_wp2_with fail
                                  go_roundw
                                  case rel => exact ⟨j + 1, by go_num, by omega, hdr.drewN _⟩
                                  case measure => simp [intOf]; omega
                                · obtain rfl : j = rn := by omega
                                  go_wp2_with fail
                                  go_roundw
                                  case rel => exact ⟨k + 1, by go_num, by omega, hdr⟩
                                  case measure => simp [intOf]; omega
                            · obtain rfl : k = rs.length := by omega
                              have HF := HK.out wr (ho.step (hdr.off (S := Old)) (fun _ x => x.elim))
                              clear HK
                              go_wp2_with fail
                              exact HF
end Go.Proofs.Ytfllejlooaipiaa
