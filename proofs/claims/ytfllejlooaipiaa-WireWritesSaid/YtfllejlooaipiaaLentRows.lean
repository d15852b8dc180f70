/- The verifier's kit: rows lent, kept. -/
import Derived.Test.YtfllejlooaipiaaApartB2
import Derived.Test.YtfllejlooaipiaaRefW2
namespace Go.Proofs.Ytfllejlooaipiaa
open Go.RowKit

/-- rows lent: each in a block of its own, with its marks behind. -/
def lrow (r : BRow) (g : Nat) : BRow := ⟨some ⟨g, 0, none⟩, r.l.length + 12, r.l⟩
def lrows (rs : List BRow) (gs : List Nat) : List BRow := List.zipWith lrow rs gs
structure Lent (w : World) (B : Nat) (rs : List BRow) (gs : List Nat) : Prop where
  len : gs.length = rs.length
  blk : ∀ (i : Nat) (r : BRow) (g : Nat), rs[i]? = some r → gs[i]? = some g → B ≤ g ∧ Blk w g (bys (r.l ++ marksB 1 0 12)) 5
theorem Lent.off {S : Nat → Prop} {w w' : World} {B : Nat} {rs : List BRow} {gs : List Nat} (h : Lent w B rs gs) (ho : Off S w w') (hs : ∀ g ∈ gs, ¬ S g) : Lent w' B rs gs :=
  ⟨h.len, fun i r g hr hg => ⟨(h.blk i r g hr hg).1, (h.blk i r g hr hg).2.off ho (hs g (List.mem_of_getElem? hg))⟩⟩
theorem Lent.old {w w' : World} {B : Nat} {rs : List BRow} {gs : List Nat} (h : Lent w B rs gs) (ho : Off Old w w') : Lent w' B rs gs := h.off ho (fun _ _ x => x)
theorem Lent.at {w : World} {B : Nat} {rs : List BRow} {gs : List Nat} (h : Lent w B rs gs) {i : Nat} (hi : i < rs.length) : ∃ r g, rs[i]? = some r ∧ gs[i]? = some g ∧ B ≤ g ∧ Blk w g (bys (r.l ++ marksB 1 0 12)) 5 := by
  have hg : i < gs.length := by rw [h.len]; exact hi
  refine ⟨rs[i], gs[i], by simp [hi], by simp [hg], h.blk i _ _ (by simp [hi]) (by simp [hg])⟩
theorem Lent.mem {w : World} {B : Nat} {rs : List BRow} {gs : List Nat} (h : Lent w B rs gs) {g : Nat} (hg : g ∈ gs) : B ≤ g ∧ g < w.heap.size := by
  obtain ⟨i, hi⟩ := List.mem_iff_getElem?.1 hg
  have hl := (List.getElem?_eq_some_iff.1 hi).1
  obtain ⟨r, g', h1, h2, h3, h4⟩ := h.at (i := i) (by rw [← h.len]; exact hl)
  rw [h2] at hi; cases hi
  exact ⟨h3, h4.lt⟩
theorem lrows_len {rs : List BRow} {gs : List Nat} (h : gs.length = rs.length) : (lrows rs gs).length = rs.length := by simp [lrows, h]
theorem lrows_l {rs : List BRow} {gs : List Nat} (h : gs.length = rs.length) : (lrows rs gs).map BRow.l = rs.map BRow.l := by
  refine List.ext_getElem (by simp [lrows, h]) fun i h1 h2 => ?_
  simp [lrows, lrow]
theorem lrows_at {rs : List BRow} {gs : List Nat} {i : Nat} {r : BRow} {g : Nat} (hr : rs[i]? = some r) (hg : gs[i]? = some g) : (lrows rs gs)[i]? = some (lrow r g) := by
  simp [lrows, List.getElem?_zipWith, hr, hg]
theorem lrows_mem {rs : List BRow} {gs : List Nat} {x : BRow} (h : x ∈ lrows rs gs) : ∃ (i : Nat) (r : BRow) (g : Nat), rs[i]? = some r ∧ gs[i]? = some g ∧ x = lrow r g := by
  obtain ⟨i, hi⟩ := List.mem_iff_getElem?.1 h
  simp only [lrows, List.getElem?_zipWith] at hi
  cases hr : rs[i]? with
  | none => simp [hr] at hi
  | some r =>
    cases hg : gs[i]? with
    | none => simp [hr, hg] at hi
    | some g => simp [hr, hg] at hi; exact ⟨i, r, g, hr, hg, hi.symm⟩
theorem Lent.rows {w : World} {B : Nat} {rs : List BRow} {gs : List Nat} (h : Lent w B rs gs) : RowsOk w (lrows rs gs) := by
  intro x hx
  obtain ⟨i, r, g, hr, hg, rfl⟩ := lrows_mem hx
  have hb := (h.blk i r g hr hg).2
  have := blk_sl hb
  rw [bys_append] at this
  intro j u hu
  have hu : (bys r.l)[j]? = some u := hu
  exact this j u (by rw [List.getElem?_append_left (List.getElem?_eq_some_iff.1 hu).1]; exact hu)

set_option maxRecDepth 100000 in
set_option maxHeartbeats 1000000 in
theorem lentRows_c (a : Option Addr) (c : Nat) (rs : List BRow) (w : World) (ha : Sl w a (rs.map BRow.v)) (hrs : RowsOk w rs) (bn : rs.length ≤ 1000000) (bl : ∀ r ∈ rs, r.l.length ≤ 100000000) (R : Ending → World → Prop)
    (k : ∀ w' g d gs, w'.ownsRow 0 43 1 (.slice g rs.length d) rs.length ((lrows rs gs).map BRow.v) → Lent w' w.heap.size rs gs → Off Old w w' → fresh w.heap.size (.slice g rs.length d) → R (.returned (.slice g rs.length d)) w') :
    Calls Try.prog 38 #[.slice a rs.length c] w R := by
  have HK := Lib.hid k; clear k
  have HB := Lib.hid bl; clear bl
  obtain ⟨i0, hi, hz0, hz1, hz2⟩ := info_parts bsinfo
  go_enter Try.func38, Try.ntmps38
  go_wp2_with fail
  go_loopw [3, 4] (fun v i wr => ∃ (j : Nat) (g : Option Addr) (d : Nat) (gs : List Nat), i = .int .i64 j ∧ j ≤ rs.length ∧ v = .slice g j d ∧ wr.ownsRow 0 43 1 (.slice g j d) j ((lrows (rs.take j) gs).map BRow.v) ∧ Lent wr w.heap.size (rs.take j) gs ∧ Off Old w wr ∧ Hid (fresh w.heap.size (.slice g j d))) (fun _ i _ => rs.length - (intOf i).toNat)
  case atStart => exact ⟨0, none, 0, [], rfl, Nat.zero_le _, rfl, World.ownsRow_nil _ _ _ _, ⟨by simp, fun i r g h => by simp at h⟩, Off.refl _ _, fun b h => by simp [Value.ownBlock] at h⟩
  case round =>
    obtain ⟨j, g, d, gs, rfl, hj, rfl, hown, hL, ho, hfr⟩ := hrel
    by_cases hlt : j < rs.length
    · obtain ⟨⟨xa, xc, xl⟩, hx⟩ := at_of_lt hlt
      have hsz : xl.length ≤ 100000000 := HB.out _ (List.mem_of_getElem? hx.out)
      obtain ⟨b, o, ix, Q⟩ := (ha.old ho).ix1 Try.underlying72 sz_bs (n := rs.length) (by simp) c
      have cx : wr.cell? ⟨b, o + j, none⟩ = some (.slice xa xl.length xc) := Q.out j _ (by simp [hx.out, BRow.v])
      have hr : Sl wr xa (bys xl) := (hrs _ (List.mem_of_getElem? hx.out)).old ho
      obtain ⟨V, hV⟩ : ∃ V, Hid ((lrows (rs.take j) gs).map BRow.v = V) := ⟨_, rfl⟩
      rw [hV.out] at hown
      go_wp2_with (go_at_call 45; go_must (refine lentBytes_c xa _ xc xl _ rfl hr (by omega) _ ?_))
      intro w1 g1 hb1 ho1 hg1
      have hown1 := own_off hown ho1 (fun _ _ x => x)
      have hL1 := hL.old ho1
      have ho2 := ho.trans ho1
      clear hown hL
      go_wp2_with (at_builtin; go_must (refine wpList_append_new rfl (.tmp 11) (.tmp 17) 72 rfl 43 i0 (.slice none 0 0) 1 24 Try.underlying72 hi hz0 hz1 hz2 rfl (by decide) (.slice g j d) j V rfl hown1 1 1 [.slice (some ⟨g1, 0, none⟩) xl.length (xl.length + 12)] rfl rfl (by intro u hu; simp at hu; subst hu; rfl) (by omega) (by omega) ?_))
      intro g2 d2 w2 hg
      have hgb : Hid (∀ k, (Value.slice g j d).ownBlock = some k → k < w1.heap.size ∧ w.heap.size ≤ k) := fun k hk => ⟨own_lt hown1 hk, hfr.out k hk⟩
      have hne : ∀ b, b ∈ gs → (Value.slice g j d).ownBlock ≠ some b := fun b hb he => by
        obtain ⟨i, hi⟩ := List.mem_iff_getElem?.1 hb
        have hl := (List.getElem?_eq_some_iff.1 hi).1
        obtain ⟨r', g', e1, e2, e3, e4⟩ := hL1.at (i := i) (by rw [← hL1.len]; exact hl)
        rw [e2] at hi; cases hi
        exact own_blk_ne hown1 e4 (by decide) he
      have hne1 : (Value.slice g j d).ownBlock ≠ some g1 := own_blk_ne hown1 hb1 (by decide)
      have hown2 : w2.ownsRow 0 43 1 (.slice g2 (j + 1) d2) (j + 1) ((lrows (rs.take (j + 1)) (gs ++ [g1])).map BRow.v) := by
        have h1 : (lrows (rs.take (j + 1)) (gs ++ [g1])).map BRow.v = V ++ [.slice (some ⟨g1, 0, none⟩) xl.length (xl.length + 12)] := by
          rw [← hV.out, List.take_add_one, hx.out]
          simp only [lrows, Option.toList_some]
          rw [List.zipWith_append (by rw [hL1.len]), List.map_append]; rfl
        rw [h1]; exact hg.own
      have hL2 : Lent w2 w.heap.size (rs.take (j + 1)) (gs ++ [g1]) := by
        have hL3 := hL1.off hg.off hne
        have hb2 := hb1.off hg.off hne1
        have hlen : (rs.take j).length = j := by simp; omega
        refine ⟨by rw [List.length_append, hL3.len, hlen]; simp; omega, fun i r g' hr' hg' => ?_⟩
        by_cases hij : i < j
        · refine hL3.blk i r g' ?_ ?_
          · rw [List.getElem?_take] at hr' ⊢
            rw [if_pos (by omega)] at hr'
            rw [if_pos hij]; exact hr'
          · rwa [List.getElem?_append_left (by rw [hL3.len, hlen]; exact hij)] at hg'
        · have hl2 := (List.getElem?_eq_some_iff.1 hg').1
          have : i = j := by rw [List.length_append, hL3.len, hlen] at hl2; simp at hl2; omega
          subst this
          rw [List.getElem?_take, if_pos (Nat.lt_succ_self _), hx.out] at hr'
          cases hr'
          rw [List.getElem?_append_right (by rw [hL3.len, hlen]; exact Nat.le_refl _), hL3.len, hlen, Nat.sub_self] at hg'
          cases hg'
          exact ⟨by have := ho.size; omega, by rw [bys_append]; exact hb2⟩
      have ho3 : Off Old w w2 := ho2.step hg.off (fun i hi hl => by have := hgb.out i hi; omega)
      have hfr2 : Hid (fresh w.heap.size (.slice g2 (j + 1) d2)) := fun b hb => by
        rcases hg.mov b hb with h | h
        · exact hfr.out b h
        · have := ho2.size; omega
      clear hg hown1 hL1 ho2 ho1 hb1 ho hr hne hne1 ix cx Q
      go_wp2_with fail
      go_roundw
      case rel => exact ⟨j + 1, g2, d2, _, by go_num, by omega, by simp, hown2, hL2, ho3, hfr2⟩
      case measure => simp [intOf]; omega
    · obtain rfl : j = rs.length := by omega
      rw [List.take_length] at hown hL
      have HF := HK.out wr g d gs hown hL ho hfr.out
      clear HK
      go_wp2_with fail
      exact HF

set_option maxRecDepth 100000 in
set_option maxHeartbeats 1000000 in
theorem keptRows_c (a a2 : Option Addr) (c c2 B : Nat) (rs : List BRow) (gs : List Nat) (w : World) (ha : Sl w a ((lrows rs gs).map BRow.v)) (hL : Lent w B rs gs) (h2 : Sl w a2 (rs.map BRow.v)) (hrs : RowsOk w rs) (bn : rs.length ≤ 1000000) (bl : ∀ r ∈ rs, r.l.length ≤ 100000000) (R : Ending → World → Prop)
    (k : ∀ w', Dr w w' → R (.returned (.bool true)) w') :
    Calls Try.prog 43 #[.slice a rs.length c, .slice a2 rs.length c2] w R := by
  have HK := Lib.hid k; clear k
  have HB := Lib.hid bl; clear bl
  go_enter Try.func43, Try.ntmps43
  go_wp2_with fail
  go_loopw [5] (fun i wr => ∃ j : Nat, i = .int .i64 j ∧ j ≤ rs.length ∧ Dr w wr) (fun i _ => rs.length - (intOf i).toNat)
  case atStart => exact ⟨0, rfl, Nat.zero_le _, Dr.refl _⟩
  case round =>
    obtain ⟨j, rfl, hj, hdr⟩ := hrel
    by_cases hlt : j < rs.length
    · obtain ⟨r0, g0, hr0, hg0, _, hb0⟩ := (hL.old (hdr.off (S := Old))).at hlt
      obtain ⟨xa, xc, xl⟩ := r0
      have hx := Lib.hid hr0
      have hlr := lrows_at hr0 hg0
      clear hr0 hg0
      have hsz : xl.length ≤ 100000000 := HB.out _ (List.mem_of_getElem? hx.out)
      obtain ⟨b, o, ix, Q⟩ := (h2.old (hdr.off (S := Old))).ix1 Try.underlying72 sz_bs (n := rs.length) (by simp) c2
      have cx : wr.cell? ⟨b, o + j, none⟩ = some (.slice xa xl.length xc) := Q.out j _ (by simp [hx.out, BRow.v])
      obtain ⟨b', o', ix', Q'⟩ := (ha.old (hdr.off (S := Old))).ix1 Try.underlying72 sz_bs (n := rs.length) (by rw [List.length_map, lrows_len hL.len]) c
      have cx' : wr.cell? ⟨b', o' + j, none⟩ = some (.slice (some ⟨g0, 0, none⟩) xl.length (xl.length + 12)) := Q'.out j _ (by simp [hlr, BRow.v, lrow])
      have hr : Sl wr xa (bys xl) := (hrs _ (List.mem_of_getElem? hx.out)).old (hdr.off (S := Old))
      clear hlr
      have hdd : decide (xl = xl) = true := by simp
      have hq : Hid (∀ w0, Dr wr w0 → Calls Try.prog 78 #[.slice (some ⟨g0, 0, none⟩) xl.length (xl.length + 12), .slice xa xl.length xc] w0 fun e w' => e = .returned (.bool true) ∧ Dr w0 w') := fun w0 hd0 =>
        keptBytes_c g0 xa _ xc xl xl w0 rfl (hb0.off (hd0.off (S := Old)) (fun x => x)) (hr.old (hd0.off (S := Old))) (by omega) _ (fun w' h => by rw [hdd]; exact ⟨rfl, h⟩)
      clear hdd
      go_wp2_with fail
      first | (go_region_with (first | (go_at_call 78; go_must (refine (hq.out _ (by simp)).mono ?_); rintro e w' ⟨rfl, hd1⟩))) | fail
      all_goals
        have hd2 : Dr w w' := by
          obtain ⟨n1, rfl⟩ := hdr
          obtain ⟨n2, rfl⟩ := hd1
          exact ((Dr.refl w).drewN n1).drew.drewN n2
        go_wp2_with fail
        go_roundw
        case rel => exact ⟨j + 1, by go_num, by omega, hd2⟩
        case measure => simp [intOf]; omega
    · obtain rfl : j = rs.length := by omega
      have HF := HK.out wr hdr
      clear HK
      go_wp2_with fail
      exact HF
end Go.Proofs.Ytfllejlooaipiaa
