/- WireReads' walk. -/
import Derived.Test.YtfllejlooaipiaaRef02c
import Derived.Test.YtfllejlooaipiaaApartB2
import Derived.Test.YtfllejlooaipiaaLaw02
import Derived.Test.YtfllejlooaipiaaNames
import Derived.Deep.RegionHeld3
namespace Go.Proofs.Ytfllejlooaipiaa
open Go.RowKit

theorem sz_call (w : World) : (sizeOf 85).run Try.prog w = .ok 2 w := by kernel_rfl
theorem Sl.ixc {w : World} {a : Option Addr} {l : List Nm} (h : Sl w a (nms l)) (c : Nat) :
    ∃ b o, (∀ i : Nat, i < l.length → ∀ w : World, (Instr.indexAt 81 (.slice a l.length c) (.int .i64 (i : Int))).run Try.prog w = .ok (.pointer (some ⟨b, o + i * 2, none⟩)) w) ∧
      Hid (∀ j x, l[j]? = some x → w.cell? ⟨b, o + j * 2, none⟩ = some (.int .i64 x.c) ∧ w.cell? ⟨b, o + j * 2 + 1, none⟩ = some (.int .i64 x.n)) := by
  obtain ⟨b, o, p, q⟩ := h.base
  have hn : 0 < l.length → nms l ≠ [] := by
    intro h0 h1
    have := nms_length l
    rw [h1] at this; simp at this; omega
  refine ⟨b, o, fun i hi w => indexAt_any Try.underlying81 sz_call (fun h => p (hn h)) i hi w, fun j x hx => ?_⟩
  obtain ⟨h1, h2⟩ := nms_at hx
  exact ⟨by rw [Nat.mul_comm]; exact q _ _ h1, by rw [Nat.mul_comm, Nat.add_assoc]; exact q _ _ h2⟩
theorem and_3 (k : Int) : ∃ v : Int, Hid (bits BinOp.and IntKind.i64 k 3 = v) ∧ (v = 0 ∨ v = 1 ∨ v = 2 ∨ v = 3) := by
  have hlt : (BitVec.ofInt 64 k &&& BitVec.ofInt 64 3).toNat ≤ 3 := by
    rw [BitVec.toNat_and]
    exact Nat.le_trans Nat.and_le_right (by decide)
  have h0 : bits BinOp.and IntKind.i64 k 3 = IntKind.i64.wrap ((BitVec.ofInt 64 k &&& BitVec.ofInt 64 3).toNat : Int) := rfl
  refine ⟨_, rfl, ?_⟩
  rw [h0, IntWalk.i64_in _ (by omega)]
  omega
def NotG (g : Option Addr) : Nat → Prop := fun k => g.map Addr.block ≠ some k
/-- rows that were told so far, the row of them. -/
structure Told (W : Nat) (w : World) (rs : List CRow) (g : Option Addr) (n d : Nat) (F : Nat → List Value) : Prop where
  rows : RowsAt w 5 1 rs F
  dist : Dist rs
  own : w.ownsRow 0 43 1 (.slice g n d) n (rs.map CRow.v)
  fr : ∀ b, RB rs b → W ≤ b
  fg : fresh W (.slice g n d)
  le : ∀ r ∈ rs, r.n ≤ 20000
theorem Told.off {S : Nat → Prop} {W : Nat} {w w' : World} {rs : List CRow} {g : Option Addr} {n d : Nat} {F : Nat → List Value} (h : Told W w rs g n d F) (ho : Off S w w') (hs : ∀ b, S b → b < W) : Told W w' rs g n d F :=
  ⟨h.rows.off ho (fun k hk hS => by have := h.fr k hk; have := hs k hS; omega), h.dist, own_off h.own ho (fun k hk hS => by have := h.fg k hk; have := hs k hS; omega), h.fr, h.fg, h.le⟩
theorem Told.old {W : Nat} {w w' : World} {rs : List CRow} {g : Option Addr} {n d : Nat} {F : Nat → List Value} (h : Told W w rs g n d F) (ho : Off Old w w') : Told W w' rs g n d F := h.off ho (fun _ x => x.elim)
theorem Told.len {W : Nat} {w : World} {rs : List CRow} {g : Option Addr} {n d : Nat} {F : Nat → List Value} (h : Told W w rs g n d F) : rs.length = n := by have := h.own.1; simpa using this
/-- one more. -/
theorem Told.snoc {W : Nat} {w0 w w' : World} {rs : List CRow} {g g' xg : Option Addr} {n d d' xn xd : Nat} {F : Nat → List Value} {x : List Value} (h : Told W w0 rs g n d F) (hT : Told W w rs g n d F) (hz : w0.heap.size ≤ w.heap.size) (hx : w.ownsRow 0 5 1 (.slice xg xn xd) xn x) (hxf : fresh w0.heap.size (.slice xg xn xd)) (hW : W ≤ w0.heap.size) (hle : xn ≤ 20000)
    (hg : Grew w w' 43 1 (.slice g n d) (.slice g' (n + 1) d') (n + 1) (rs.map CRow.v ++ [.slice xg xn xd])) : Told W w' (rs ++ [⟨xg, xn, xd⟩]) g' (n + 1) d' (upd F rs.length x) := by
  have hne : ∀ b, RB rs b → (Value.slice g n d).ownBlock ≠ some b := fun b hb he => by
    obtain ⟨m, r, hr, hb⟩ := hb
    have h1 := hT.rows m r hr
    rcases h1.2 with ⟨h2, _⟩ | ⟨q, cap, cur, h2, _, h3, _⟩
    · rw [h2] at hb; simp [Value.ownBlock] at hb
    · rw [h2] at hb; simp [Value.ownBlock] at hb; subst hb
      rcases hT.own.2 with ⟨h4, _⟩ | ⟨q', cap', cur', h4, _, h5, _⟩
      · rw [h4] at he; simp [Value.ownBlock] at he
      · rw [h4] at he; simp [Value.ownBlock] at he; subst he
        rw [h3] at h5; injection h5 with h5; injection h5 with _ h6 _; exact absurd h6 (by decide)
  have hnx : ∀ b, (Value.slice xg xn xd).ownBlock = some b → (Value.slice g n d).ownBlock ≠ some b := fun b hb he => by
    have h1 := own_lt h.own he
    have h2 := hxf b hb
    omega
  refine ⟨fun m r hr => ?_, fun i j r t hr ht hij k hk => ?_, by rw [List.map_append]; exact hg.own, fun b hb => ?_, fun b hb => ?_, fun r hr => ?_⟩
  · by_cases hm : m < rs.length
    · rw [List.getElem?_append_left hm] at hr
      rw [upd_other _ (by omega)]
      exact own_off (hT.rows m r hr) hg.off (fun k hk => hne k ⟨m, r, hr, hk⟩)
    · rw [List.getElem?_append_right (by omega)] at hr
      have hl := (List.getElem?_eq_some_iff.1 hr).1
      have : m = rs.length := by simp at hl; omega
      subst this
      simp at hr; subst hr
      rw [upd_same]
      exact own_off hx hg.off (fun k hk => hnx k hk)
  · have hold : ∀ (i : Nat) (r : CRow), i < rs.length → (rs ++ [⟨xg, xn, xd⟩])[i]? = some r → rs[i]? = some r := fun i r hi h => by rwa [List.getElem?_append_left hi] at h
    have hnew : ∀ (i : Nat) (r : CRow), ¬ i < rs.length → (rs ++ [⟨xg, xn, xd⟩])[i]? = some r → i = rs.length ∧ r = ⟨xg, xn, xd⟩ := fun i r hi h => by
      rw [List.getElem?_append_right (by omega)] at h
      have hl := (List.getElem?_eq_some_iff.1 h).1
      have : i = rs.length := by simp at hl; omega
      subst this
      simp at h; exact ⟨rfl, h.symm⟩
    by_cases hi : i < rs.length
    · by_cases hj : j < rs.length
      · exact h.dist i j r t (hold i r hi hr) (hold j t hj ht) hij k hk
      · obtain ⟨_, rfl⟩ := hnew j t hj ht
        intro h2
        have h3 := h.rows.lt (RB.of (hold i r hi hr) hk)
        have h4 := hxf k h2
        omega
    · obtain ⟨e1, rfl⟩ := hnew i r hi hr
      by_cases hj : j < rs.length
      · intro h2
        have h3 := h.rows.lt (RB.of (hold j t hj ht) h2)
        have h4 := hxf k hk
        omega
      · obtain ⟨e2, _⟩ := hnew j t hj ht
        omega
  · obtain ⟨m, r, hr, hb⟩ := hb
    by_cases hm : m < rs.length
    · rw [List.getElem?_append_left hm] at hr
      exact h.fr b ⟨m, r, hr, hb⟩
    · rw [List.getElem?_append_right (by omega)] at hr
      have hl := (List.getElem?_eq_some_iff.1 hr).1
      have : m = rs.length := by simp at hl; omega
      subst this
      simp at hr; subst hr
      exact Nat.le_trans hW (hxf b hb)
  · rcases hg.mov b hb with h1 | h1
    · exact h.fg b h1
    · omega
  · rcases List.mem_append.1 hr with h1 | h1
    · exact h.le r h1
    · rw [List.mem_singleton] at h1; subst h1; exact hle
theorem rdFlag_len (s : RS) : rsLen (rdFlag s).2 ≤ rsLen s := by
  cases s with
  | none => exact Nat.le_refl _
  | some l =>
    cases l with
    | nil => exact Nat.zero_le _
    | cons x xs => simp only [rdFlag]; split <;> simp [rsLen]
theorem rdRow_both (most : Int) (s : RS) : (rdRow most s).1.length ≤ rsLen s ∧ rsLen (rdRow most s).2 ≤ rsLen s := by
  have h := rdNum_len most s
  unfold rdRow
  generalize rdNum most s = q at *
  obtain ⟨n, s'⟩ := q
  cases s' with
  | none => exact ⟨Nat.zero_le _, Nat.zero_le _⟩
  | some l =>
    simp only [rsLen] at h ⊢
    split
    · exact ⟨Nat.zero_le _, Nat.zero_le _⟩
    · simp only [List.length_take, List.length_drop]; omega
theorem left_q (p bb : Nat) (s : RS) (w : World) (h : Rd w p bb s) : Calls Try.prog 32 #[.pointer (some ⟨p, 0, none⟩)] w fun e w' => e = .returned (.int .i64 (rdLeft s)) ∧ w' = w := left_c p bb s w h _ ⟨rfl, rfl⟩
theorem end_q (p bb : Nat) (s : RS) (w : World) (h : Rd w p bb s) : Calls Try.prog 34 #[.pointer (some ⟨p, 0, none⟩)] w fun e w' => e = .returned (.int .i64 (rdEnd s)) ∧ w' = w := end_c p bb s w h _ ⟨rfl, rfl⟩
theorem rend_q (m : Nat) (S : Nat → Prop) (s : RS) (w : World) (h : RefRd w m S s) : Calls Try.prog 54 #[.pointer (some ⟨m, 0, none⟩)] w fun e w' => e = .returned (.int .i64 (rdEnd s)) ∧ w' = w := rend_c m S s w h _ ⟨rfl, rfl⟩
set_option maxRecDepth 100000 in
set_option maxHeartbeats 4000000 in
theorem wireReads_c (a0 a1 : Option Addr) (c0 c1 : Nat) (l : List UInt8) (cs : List Nm) (w : World) (s0 : Sl w a0 (bys l)) (s1 : Sl w a1 (nms cs)) (b0 : l.length ≤ 140737488351232) (b1 : cs.length ≤ 140737488351232) (R : Ending → World → Prop)
    (k : ∀ w', Off Old w w' → R (.returned (.bool true)) w') :
    Calls Try.prog 7 #[.slice a0 l.length c0, .slice a1 cs.length c1] w R := by
  have HK := Lib.hid k; clear k
  by_cases hbig : 20000 < l.length ∨ 1000 < cs.length
  · go_enter Try.func7, Try.ntmps7
    by_cases hb1 : 20000 < l.length
    · clear hbig
      go_wp2_with (go_at_call 30; refine awake02_c _ _ ?_)
      intro w1 ho
      have HF := HK.out w1 ho
      clear HK
      go_wp2_with fail
      exact HF
    · have hb2 : 1000 < cs.length := by omega
      clear hbig
      go_wp2_with (go_at_call 30; refine awake02_c _ _ ?_)
      intro w1 ho
      have HF := HK.out w1 ho
      clear HK
      go_wp2_with fail
      exact HF
  obtain ⟨hb1, hb2⟩ : l.length ≤ 20000 ∧ cs.length ≤ 1000 := by omega
  clear hbig
  go_enter Try.func7, Try.ntmps7
  go_wp2_with (go_at_call 45; go_must (refine lentBytes_c a0 _ c0 l _ rfl s0 (by omega) _ ?_))
  intro w1 g1 hbk ho1 hg1
  have hbk : Blk w1 g1 (bys (l ++ marksB 1 0 12)) 5 := by rw [bys_append]; exact hbk
  have hz1 := ho1.size
  have hsg := blk_sl hbk
  have hsl : Sl w1 (some ⟨g1, 0, none⟩) (bys l) := by
    rw [bys_append] at hsg
    intro j u hu
    exact hsg j u (by rw [List.getElem?_append_left (List.getElem?_eq_some_iff.1 hu).1]; exact hu)
  have hgl := hbk.lt
  clear hsg
  go_wp2_with (go_at_call 31; go_must (refine newReader_c _ _ _ l _ rfl hsl (by omega) _ ?_))
  intro w2 p bb hr ho2 hbb1 hbb2
  have hbk2 := hbk.off ho2 (fun x => x)
  have hz2 := ho2.size
  have hpl := hr.lt
  have hx12 : Hid ((l ++ marksB 1 0 12).length = l.length + 12) := by show _ = _; simp
  go_wp2_with (go_at_call 46; go_must (refine overBytes_c g1 l.length (l ++ marksB 1 0 12) _ hbk2 hx12.out (by omega) _ ?_))
  intro w3 ys _ _ ho3
  have hr3 := hr.off ho3 (by omega) (by omega)
  have hz3 := ho3.size
  have ho13 : Off Old w w3 := (ho1.trans ho2).step ho3 (by rintro i rfl hi; omega)
  have s03 := s0.old ho13
  clear hbk hbk2 hsl hr hx12 ho1 ho2 ho3
  go_wp2_with (go_at_call 47; go_must (refine copyBytes_c a0 _ c0 l _ rfl s03 (by omega) _ ?_))
  intro w4 gC dC hown4 ho4 hg4
  have hz4 := ho4.size
  have hr5 := hr3.old (ho4.trans ((Off.refl Old w4).alloc (.cells #[.slice gC l.length dC, .bool false] 65)))
  have ho5 := ho13.trans (ho4.trans ((Off.refl Old w4).alloc (.cells #[.slice gC l.length dC, .bool false] 65)))
  have hbm := Blk.new w4 #[.slice gC l.length dC, .bool false] 65
  have hgC : Hid (∀ k, gC.map Addr.block = some k → w3.heap.size ≤ k ∧ k < w4.heap.size) := fun k hk => by
    cases gC with
    | none => cases hk
    | some q => simp at hk; subst hk; exact ⟨hg4 q rfl, own_lt hown4 (k := q.block) rfl⟩
  have hf5 : RefRd (w4.alloc (.cells #[.slice gC l.length dC, .bool false] 65)) w4.heap.size (NotG gC) (some l) := by
    obtain ⟨e1, e2, e3⟩ := own_sl2 hown4
    refine ⟨fun h => by have := hgC.out _ h; omega, gC, dC, hbm, e3.old ((Off.refl _ _).alloc _), fun q hq _ hn => hn (by rw [hq]; rfl), e1, e2, fun hn => ?_⟩
    rcases hown4.2 with ⟨h, _⟩ | ⟨_, _, _, h, _⟩
    · injection h
    · rw [hn] at h; cases h
  have hmm : Hid (p < w4.heap.size ∧ bb < w4.heap.size ∧ NotG gC p ∧ w.heap.size ≤ p ∧ w.heap.size ≤ w4.heap.size) := ⟨by omega, by omega, fun h => by have := hgC.out p h; omega, by omega, by omega⟩
  have hsz5 : Hid ((w4.alloc (.cells #[.slice gC l.length dC, .bool false] 65)).heap.size = w4.heap.size + 1) := by show _ = _; simp
  have hS5 : Hid (∀ k, w4.heap.size ≤ k → NotG gC k) := fun k hk h => by have := hgC.out k h; omega
  go_wp2_with fail
  clear hr3 ho13 s03 hown4 ho4 hg4 hbm hz1 hz2 hz3 hz4 hgl hpl hbb1 hbb2 hg1 hgC
  generalize hw5 : w4.alloc (.cells #[.slice gC l.length dC, .bool false] 65) = w5 at *
  clear hw5
  generalize w4.heap.size = mm at *
  go_loopw [8, 9] (fun v i wr => ∃ (j : Nat) (s : RS) (rs : List CRow) (g : Option Addr) (n d : Nat) (F : Nat → List Value), i = .int .i64 j ∧ j ≤ cs.length ∧ n ≤ j ∧ v = .slice g n d ∧ Hid (rsLen s ≤ 20000) ∧ Rd wr p bb s ∧ RefRd wr mm (NotG gC) s ∧ Told (mm + 1) wr rs g n d F ∧ Off Old w wr ∧ mm < wr.heap.size) (fun _ i _ => cs.length - (intOf i).toNat)
  case atStart =>
    refine ⟨0, some l, [], none, 0, 0, fun _ => [], rfl, Nat.zero_le _, Nat.le_refl _, rfl, hb1, hr5, hf5, ⟨fun m r h => by simp at h, fun i j r t h => by simp at h, World.ownsRow_nil _ _ _ _, fun b hb => by obtain ⟨m, r, h, _⟩ := hb; simp at h, fun b hb => by simp [Value.ownBlock] at hb, fun r h => by simp at h⟩, ho5, by have := hsz5.out; omega⟩
  case round =>
    clear hr5 hf5 ho5 hsz5
    obtain ⟨j, s, rs, g, n, d, F, rfl, hj, hn, rfl, hsl, hr, hf, hT, ho, hml⟩ := hrel
    by_cases hlt : j < cs.length
    · obtain ⟨⟨xk, xm⟩, hx⟩ := at_of_lt hlt
      obtain ⟨b, o, ix, Q⟩ := (s1.old ho).ixc c1
      obtain ⟨cx1, cx2⟩ := Q.out j _ hx.out
      dsimp only at cx1 cx2
      obtain ⟨v, hv, hv4⟩ := and_3 xk
      have hv' := hv.out
      have hoA : Off Old wr (wr.alloc (.cells #[.int .i64 xk, .int .i64 xm] 85)).drew := ((Off.refl Old wr).alloc _).drew
      have hbkc := Blk.new wr #[.int .i64 xk, .int .i64 xm] 85
      have cA := hbkc.cell (i := 1) rfl
      have cA0 := hbkc.cell (i := 0) rfl
      have cD := hbkc.drew.cell (i := 1) rfl
      have hrD := hr.old hoA
      have hfD := hf.old hoA
      have hTD := hT.old hoA
      have hoD := ho.trans hoA
      have hrl := hr.lt
      have hcp : Hid (¬ wr.heap.size = p) := by show ¬ _; omega
      have hcm : Hid (¬ wr.heap.size = mm) := by show ¬ _; omega
      have hpm : Hid (¬ mm = p) := by have := hmm.out; show ¬ _; omega
      have hpm2 : Hid (¬ p = mm) := by have := hmm.out; show ¬ _; omega
      have hbm2 : Hid (¬ bb = mm) := by have := hmm.out; show ¬ _; omega
      have hSp : Hid (∀ k, k = p → NotG gC k) := by rintro k rfl; exact hmm.out.2.2.1
      have hwp : Hid (∀ i, i = p → i < w.heap.size → False) := by rintro i rfl hi; have := hmm.out; omega
      have hwm : Hid (∀ i, i = mm → i < w.heap.size → False) := by rintro i rfl hi; have := hmm.out; omega
      have htp : Hid (∀ b, b = p → b < mm + 1) := by rintro b rfl; have := hmm.out; omega
      have htm : Hid (∀ b, b = mm → b < mm + 1) := by rintro b rfl; omega
      have hmD : Hid (mm < (wr.alloc (.cells #[.int .i64 xk, .int .i64 xm] 85)).drew.heap.size) := by show _ < _; have := hoA.size; omega
      have hoA0 : Off Old wr (wr.alloc (.cells #[.int .i64 xk, .int .i64 xm] 85)) := (Off.refl Old wr).alloc _
      have hrA := hr.old hoA0
      have hfA := hf.old hoA0
      have hTA := hT.old hoA0
      have hoAA := ho.trans hoA0
      have hmA : Hid (mm + 1 ≤ (wr.alloc (.cells #[.int .i64 xk, .int .i64 xm] 85)).heap.size) := by show _ ≤ _; have := hoA0.size; omega
      clear hbkc hoA hoA0 hr hf hT ho
      rcases hv4 with rfl | rfl | rfl | rfl
      · obtain ⟨T, hT1⟩ : ∃ T, rdNum xm s = T := ⟨_, rfl⟩
        obtain ⟨v, s2⟩ := T
        have hsl2 : Hid (rsLen s2 ≤ 20000) := by
          have h1 := rdNum_len xm s; rw [hT1] at h1; have := hsl.out; show _ ≤ _; dsimp only at h1; omega
        have hT1 := Lib.hid hT1
        go_wp2_with fail
        first | (go_region_held3 (fun w' => w'.cell? ⟨wr.heap.size, 1, none⟩ = some (.int .i64 xm)) (first | exact cD | exact cA | exact hkeep1 | exact hkeep2) (first | (go_at_call 33; refine number_r p bb s xm _ hrD _ ?_; rw [hT1.out]; intro w2 e1 e2; have hkeep1 : w2.cell? ⟨wr.heap.size, 1, none⟩ = some (.int .i64 xm) := e2.cell hcp.out cD; have hf2 := hfD.off e2 hpm.out hSp.out) | (go_at_call 48; refine rnumber_c mm (NotG gC) s xm _ hf2 _ ?_; rw [hT1.out]; intro w3 f1 f2; have hkeep2 : w3.cell? ⟨wr.heap.size, 1, none⟩ = some (.int .i64 xm) := f2.cell hcm.out hkeep1))) | fail
        have hrz := e1.off f2 hpm2.out hbm2.out
        have hfz := f1
        have hoz : Off Old w w3 := (hoD.step e2 hwp.out).step f2 hwm.out
        have hTz := (hTD.off e2 htp.out).off f2 htm.out
        have hmz : mm < w3.heap.size := by have := e2.size; have := f2.size; have := hmD.out; omega
        have hn2 : n ≤ j + 1 := by omega
        clear e1 e2 f1 f2 hkeep1 hkeep2 hf2

        have hb0 : ((rdLeft s2 : Int) != (rdLeft s2 : Int)) = false := by simp
        have hb1 : (rdEnd s2 != rdEnd s2) = false := by simp
        obtain ⟨aL, cL, cl⟩ := hfz.left
        go_wp2_with fail
        go_quiet ((first | (go_at_call 32; exact Calls.quiet_of_same (left_q p bb s2 _ (hrz.old (by simp)))) | (go_at_call 34; exact Calls.quiet_of_same (end_q p bb s2 _ (hrz.old (by simp)))) | (go_at_call 54; exact Calls.quiet_of_same (rend_q mm (NotG gC) s2 _ (hfz.old (by simp))))))
        go_wp2_with fail
        go_roundw
        case rel => exact ⟨j + 1, s2, _, _, _, _, _, by go_num, by omega, hn2, rfl, hsl2, hrz.old (by simp), hfz.old (by simp), hTz.old (by simp), by simp [hoz], by simp; exact hmz⟩
        case measure => simp [intOf]; omega
      · obtain ⟨T, hT1⟩ : ∃ T, rdFlag s = T := ⟨_, rfl⟩
        obtain ⟨v, s2⟩ := T
        have hsl2 : Hid (rsLen s2 ≤ 20000) := by
          have h1 := rdFlag_len s; rw [hT1] at h1; have := hsl.out; show _ ≤ _; dsimp only at h1; omega
        have hT1 := Lib.hid hT1
        go_wp2_with (go_at_call 49; go_must (refine flag_c p bb s _ hrA _ ?_))
        try rw [hT1.out]
        intro w2 e1 e2
        have hf2 := hfA.off e2 hpm.out hSp.out
        go_wp2_with (go_at_call 50; go_must (refine rflag_c mm (NotG gC) s _ hf2 _ ?_))
        try rw [hT1.out]
        intro w3 f1 f2
        have hrz := e1.off f2 hpm2.out hbm2.out
        have hfz := f1
        have hoz : Off Old w w3 := (hoAA.step e2 hwp.out).step f2 hwm.out
        have hTz := (hTA.off e2 htp.out).off f2 htm.out
        have hmz : mm < w3.heap.size := by have := e2.size; have := f2.size; have := hmA.out; omega
        have hn2 : n ≤ j + 1 := by omega
        clear e1 e2 f1 f2 hf2
        have hb0 : ((rdLeft s2 : Int) != (rdLeft s2 : Int)) = false := by simp
        have hb1 : (rdEnd s2 != rdEnd s2) = false := by simp
        obtain ⟨aL, cL, cl⟩ := hfz.left
        go_wp2_with fail
        go_quiet ((first | (go_at_call 32; exact Calls.quiet_of_same (left_q p bb s2 _ (hrz.old (by simp)))) | (go_at_call 34; exact Calls.quiet_of_same (end_q p bb s2 _ (hrz.old (by simp)))) | (go_at_call 54; exact Calls.quiet_of_same (rend_q mm (NotG gC) s2 _ (hfz.old (by simp))))))
        go_wp2_with fail
        go_roundw
        case rel => exact ⟨j + 1, s2, _, _, _, _, _, by go_num, by omega, hn2, rfl, hsl2, hrz.old (by simp), hfz.old (by simp), hTz.old (by simp), by simp [hoz], by simp; exact hmz⟩
        case measure => simp [intOf]; omega
      · obtain ⟨T, hT1⟩ : ∃ T, rdRow xm s = T := ⟨_, rfl⟩
        obtain ⟨x, s2⟩ := T
        have hxl2 := rdRow_both xm s
        rw [hT1] at hxl2
        have hxl2 := Lib.hid hxl2
        have hsl2 : Hid (rsLen s2 ≤ 20000) := by
          have h1 := hxl2.out; have := hsl.out; show _ ≤ _; dsimp only at h1; omega
        have hT1 := Lib.hid hT1
        have hsbd : Hid (rsLen s ≤ 100000000000) := by have := hsl.out; show _ ≤ _; omega
        go_wp2_with fail
        first | (go_region_with (first | (go_at_call 51; refine text_r p bb s xm _ hrD (by have := hsbd.out; omega) _ ?_; rw [hT1.out]; intro w2 e1 e2; have hkeep1 : w2.cell? ⟨wr.heap.size, 1, none⟩ = some (.int .i64 xm) := e2.cell hcp.out cD; have hf2 := hfD.off e2 hpm.out hSp.out) | (go_at_call 52; refine rrow_c mm (NotG gC) s xm _ hf2 hsbd.out _ ?_; rw [hT1.out]; intro w3 gx nx dx e3 f1 f2 _; have hkeep2 : w3.cell? ⟨wr.heap.size, 1, none⟩ = some (.int .i64 xm) := f2.cell hcm.out hkeep1; have kc := run_string_of_sl (P := Try.prog) (src := 43) (dst := 9) (c := dx) Try.underlying43 Try.underlying5 Try.underlying9 (by have := e3.1; simp at this; exact this.symm) (own_sl2 e3).2.2))) | fail
        all_goals
          have hrz := e1.off f2 hpm2.out hbm2.out
          have hfz := f1
          have hoz : Off Old w w3 := (hoD.step e2 hwp.out).step f2 hwm.out
          have hTz := (hTD.off e2 htp.out).off f2 htm.out
          have hmz : mm < w3.heap.size := by have := e2.size; have := f2.size; have := hmD.out; omega
          have hn2 : n ≤ j + 1 := by omega
          clear e1 e2 f1 f2 hkeep1 hkeep2 hf2 e3
          have hb0 : ((rdLeft s2 : Int) != (rdLeft s2 : Int)) = false := by simp
          have hb1 : (rdEnd s2 != rdEnd s2) = false := by simp
          obtain ⟨aL, cL, cl⟩ := hfz.left
          go_wp2_with fail
          go_quiet ((first | (go_at_call 32; exact Calls.quiet_of_same (left_q p bb s2 _ (hrz.old (by simp)))) | (go_at_call 34; exact Calls.quiet_of_same (end_q p bb s2 _ (hrz.old (by simp)))) | (go_at_call 54; exact Calls.quiet_of_same (rend_q mm (NotG gC) s2 _ (hfz.old (by simp))))))
          go_wp2_with fail
          go_roundw
          case rel => exact ⟨j + 1, s2, _, _, _, _, _, by go_num, by omega, hn2, rfl, hsl2, hrz.old (by simp), hfz.old (by simp), hTz.old (by simp), by simp [hoz], by simp; exact hmz⟩
          case measure => simp [intOf]; omega
      · obtain ⟨T, hT1⟩ : ∃ T, rdRow xm s = T := ⟨_, rfl⟩
        obtain ⟨x, s2⟩ := T
        have hxl2 := rdRow_both xm s
        rw [hT1] at hxl2
        have hxl2 := Lib.hid hxl2
        have hsl2 : Hid (rsLen s2 ≤ 20000) := by
          have h1 := hxl2.out; have := hsl.out; show _ ≤ _; dsimp only at h1; omega
        have hT1 := Lib.hid hT1
        have hsbd : Hid (rsLen s ≤ 100000000000) := by have := hsl.out; show _ ≤ _; omega
        go_wp2_with (go_at_call 53; go_must (refine row_r p bb s xm _ hrA (by have := hsbd.out; omega) _ ?_))
        try rw [hT1.out]
        intro w2 gx dx hox e1 e2 hgx
        have hf2 := hfA.off e2 hpm.out hSp.out
        have hxb : Hid (∀ k, (Value.slice gx x.length dx).ownBlock = some k → (wr.alloc (.cells #[.int .i64 xk, .int .i64 xm] 85)).heap.size ≤ k) := fun k hk => by
          cases gx with
          | none => simp [Value.ownBlock] at hk
          | some q => simp [Value.ownBlock] at hk; subst hk; have := hgx q rfl; simpa using this
        have c2 : w2.cell? ⟨wr.heap.size, 1, none⟩ = some (.int .i64 xm) := e2.cell hcp.out cA
        go_wp2_with (go_at_call 52; go_must (refine rrow_c mm (NotG gC) s xm _ hf2 hsbd.out _ ?_))
        try rw [hT1.out]
        intro w3 gy ny dy hoy f1 f2 _
        have hox3 := own_off hox f2 (fun k hk hm => by have := hxb.out k hk; have := hmA.out; omega)
        have hly : Hid (ny = x.length) := by have := hoy.1; simp at this; exact this.symm
        have hsx := (own_sl2 hox3).2.2
        have hsy := (own_sl2 hoy).2.2
        have hdd : Hid (decide (x = x) = true) := by show _ = _; simp
        go_wp2_with (go_at_call 26; go_must (refine sameBytes_b true gx gy x.length ny dx dy x x _ hdd.out rfl hly.out hsx hsy (by have h1 : x.length ≤ rsLen s := hxl2.out.1; have := hsl.out; omega) _ ?_))
        intro w4 hd4
        have hox4 := own_off hox3 (hd4.off (S := Old)) (fun _ _ x => x)
        have hT4 := ((hTA.off e2 htp.out).off f2 htm.out).old (hd4.off (S := Old))
        have hTl := hT4.len
        obtain ⟨i0, hi, hz0, hz1, hz2⟩ := info_parts bsinfo
        have hz4 : (wr.alloc (.cells #[.int .i64 xk, .int .i64 xm] 85)).heap.size ≤ w4.heap.size := by have := e2.size; have := f2.size; have := (hd4.off (S := Old)).size; omega
        have hz4 := Lib.hid hz4
        have hxn : Hid (x.length ≤ 20000) := by have h1 : x.length ≤ rsLen s := hxl2.out.1; have := hsl.out; show _ ≤ _; omega
        have hv' := Lib.hid hv'
        go_wp2_with (at_builtin; go_must (refine wpList_append_new rfl (.tmp 55) (.tmp 57) 72 rfl 43 i0 (.slice none 0 0) 1 24 Try.underlying72 hi hz0 hz1 hz2 rfl (by decide) (.slice g n d) n (rs.map CRow.v) rfl hT4.own 1 1 [.slice gx x.length dx] rfl rfl (by intro u hu; simp at hu; subst hu; rfl) (by omega) (by omega) ?_))
        intro g2 d2 w5 hg
        have hTz := Told.snoc hTA hT4 hz4.out hox4 hxb.out hmA.out hxn.out hg
        have hgo : Off (fun k => mm + 1 ≤ k) w4 w5 := hg.off.mono (fun i hi _ => hT4.fg i hi)
        have hrz := ((e1.off f2 hpm2.out hbm2.out).old (hd4.off (S := Old))).off hgo (by have := hmm.out; omega) (by have := hmm.out; omega)
        have hfz := (f1.old (hd4.off (S := Old))).off hgo (by omega) (fun k hk => hS5.out k (by omega))
        have hoz : Off Old w w5 := ((((hoAA.step e2 hwp.out).step f2 hwm.out).trans (hd4.off (S := Old))).step hgo (fun i hi hl => by have := hmm.out; omega))
        have hmz : mm < w5.heap.size := by have := hgo.size; have := hz4.out; have := hmA.out; omega
        have hn2 : n + 1 ≤ j + 1 := by omega
        clear e1 e2 f1 f2 hf2 hox hox3 hox4 hoy hT4 hg hgo hd4 hsx hsy
        have hb0 : ((rdLeft s2 : Int) != (rdLeft s2 : Int)) = false := by simp
        have hb1 : (rdEnd s2 != rdEnd s2) = false := by simp
        obtain ⟨aL, cL, cl⟩ := hfz.left
        go_wp2_with fail
        go_quiet ((first | (go_at_call 32; exact Calls.quiet_of_same (left_q p bb s2 _ (hrz.old (by simp)))) | (go_at_call 34; exact Calls.quiet_of_same (end_q p bb s2 _ (hrz.old (by simp)))) | (go_at_call 54; exact Calls.quiet_of_same (rend_q mm (NotG gC) s2 _ (hfz.old (by simp))))))
        go_wp2_with fail
        go_roundw
        case rel => exact ⟨j + 1, s2, _, _, _, _, _, by go_num, by omega, hn2, rfl, hsl2, hrz.old (by simp), hfz.old (by simp), hTz.old (by simp), by simp [hoz], by simp; exact hmz⟩
        case measure => simp [intOf]; omega
    · obtain rfl : j = cs.length := by omega
      have hlen := hT.len
      subst hlen
      obtain ⟨aL, cL, cl⟩ := hf.left
      have hmR : Hid (¬ RB rs mm) := fun h => by have := hT.fr mm h; omega
      have hwR : Hid (∀ i, RB rs i → i < w.heap.size → False) := fun i h hi => by have := hT.fr i h; have := hmm.out; omega
      have hTD := hT.old (Off.refl Old wr).drew
      have hrD := hr.old (Off.refl Old wr).drew
      have hfD := hf.old (Off.refl Old wr).drew
      have hsg := (own_sl2 hTD.own).2.2
      have hble : Hid (∀ r ∈ rs, r.n ≤ 900000000) := fun r hr => by have := hT.le r hr; omega
      have hkeepd : wr.drew.cell? ⟨mm, 0, none⟩ = some (.slice aL (rdLeft s) cL) := cl
      have hdi := Lib.hid hTD.dist
      have hb0 : ((rdLeft s : Int) == (rdLeft s : Int)) = true := by simp
      have hb1 : (rdEnd s == rdEnd s) = true := by simp
      have hn9 : rs.length ≤ 400000 := by omega
      clear hT hr hf
      go_wp2_with fail
      first | (go_region_held3 (fun w' => w'.cell? ⟨mm, 0, none⟩ = some (.slice aL (rdLeft s) cL)) (first | exact hkeepd | exact cl | exact hkeep1 | exact hkeep2) (first | (go_at_call 32; refine left_c p bb s _ hrD _ ?_) | (go_at_call 34; refine end_c p bb s _ hrD _ ?_) | (go_at_call 54; refine rend_c mm (NotG gC) s _ hfD _ ?_) | (go_at_call 44; refine apartBytes_c g d rs F _ hsg hTD.rows hdi.out hn9 hble.out _ ?_; intro w2 e1; have hkeep1 : w2.cell? ⟨mm, 0, none⟩ = some (.slice aL (rdLeft s) cL) := e1.cell hmR.out hkeepd) | (go_at_call 30; refine awake02_c _ _ ?_; intro w3 e2; have hkeep2 : w3.cell? ⟨mm, 0, none⟩ = some (.slice aL (rdLeft s) cL) := e2.cell (fun x => x) hkeep1))) | fail
      have HF := HK.out _ ((ho.drew.step e1 hwR.out).trans e2)
      clear HK
      go_wp2_with fail
      exact HF
end Go.Proofs.Ytfllejlooaipiaa
