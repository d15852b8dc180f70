/- A book of verdicts, by the program: one put behind; the last one; of a name; how many. -/
import Derived.Test.YtahpfcfecghpmaaBook1
import Derived.Deep.RegionLawGrows
import Derived.Deep.RegionHeld3
import Derived.Test.YtahpfcfecghpmaaStep
import Derived.Test.YtahpfcfecghpmaaOrd
import Derived.KernelRfl
namespace Go.Proofs.Ytahpfcfecghpmaa
open Go.RowKit
set_option linter.unusedSimpArgs false

theorem vdinfo : (Try.prog.info? 38).map (fun i => (i.zero, i.size, i.bytes)) = some (some (.agg #[.int .i64 0, .int .i64 0, .bool false, .int .i64 0, .slice none 0 0]), 5, 56) := by kernel_rfl
/-- what a book's blocks are but its reads' ones. -/
def BkS (p : Nat) (g : Option Addr) (r : Nat) (k : Nat) : Prop := k = p ∨ g.map Addr.block = some k ∨ k = r
theorem Bk.snoc {w w1 w2 w3 : World} {p : Nat} {g g3 : Option Addr} {d d3 r n : Nat} {l : List Ve} {x : Vd} {a2 : Option Addr} {d2 : Nat} {es' : Array MapEntry} {clock' : Nat} (h : Bk w p g d r l) (hn : l.length = n) (ho1 : Off (fun k => k = r) w w1) (hm1 : w1.heap[r]? = some (.map es' clock'))
    (hmi1 : MapIs es' (kvs l ++ [(nmV x.c x.n, .int .i64 (n : Nat))])) (ho2 : Off Old w1 w2) (hv2 : Vok w2 ⟨x, a2, d2⟩) (hfr : ∀ q, a2 = some q → w1.heap.size ≤ q.block)
    (hg : Grew w2 w3 38 5 (.slice g n d) (.slice g3 (n + 1) d3) (n + 1) (vcs l ++ Ve.v ⟨x, a2, d2⟩)) (hb : i64B x.c ∧ i64B x.n) (hno : ∀ f ∈ l, ¬ (f.x.c = x.c ∧ f.x.n = x.n)) :
    Bk (w3.setCell ⟨p, 0, none⟩ (.slice g3 (n + 1) d3)) p g3 d3 r (l ++ [⟨x, a2, d2⟩]) ∧ Off (BkS p g r) w (w3.setCell ⟨p, 0, none⟩ (.slice g3 (n + 1) d3)) ∧ (∀ k, g3.map Addr.block = some k → g.map Addr.block = some k ∨ w.heap.size ≤ k) := by
  subst hn
  obtain ⟨hpr, hgr, har⟩ := h.ne_r
  have hgp : g.map Addr.block ≠ some p := by
    have := own_blk_ne h.own h.blk (by decide)
    rwa [own_block_eq'] at this
  have hltp := h.blk.lt
  have hz1 := ho1.size
  have hz2 := ho2.size
  have hgo : Off (fun k => g.map Addr.block = some k) w2 w3 := hg.off.mono (fun k hk _ => by rwa [own_block_eq'] at hk)
  have hz3 := hgo.size
  have hmov : ∀ k, g3.map Addr.block = some k → g.map Addr.block = some k ∨ w2.heap.size ≤ k := fun k hk => by
    have := hg.mov k (by rw [own_block_eq']; exact hk)
    rwa [own_block_eq'] at this
  have hglt : ∀ k, g.map Addr.block = some k → k < w.heap.size := fun k hk => h.lt (.inr (.inl hk))
  have hg3p : g3.map Addr.block ≠ some p := fun hk => by
    rcases hmov p hk with h1 | h1
    · exact hgp h1
    · omega
  have ho3 : Off (fun k => k = p) w3 (w3.setCell ⟨p, 0, none⟩ (.slice g3 (l.length + 1) d3)) := Off.setCell (S := fun k => k = p) (Off.refl _ _) (p := ⟨p, 0, none⟩) (fun _ => rfl) _
  have hq : ∀ f ∈ l, f.x.reads ≠ [] → ∀ q, f.a = some q → q.block < w.heap.size := fun f hf hn q hq => h.lt (.inr (.inr (.inr ⟨f, hf, hn, by rw [hq]; rfl⟩)))
  refine ⟨⟨?_, ?_, ⟨es', clock', ?_, ?_⟩, ?_, ?_, ?_, ?_⟩, ?_, ?_⟩
  · have h1 := ((((h.blk.off ho1 hpr).off ho2 (fun x => x)).off hgo hgp).set 0 (.slice g3 (l.length + 1) d3))
    simpa using h1
  · have h1 := own_off hg.own ho3 (fun k hk e => hg3p (by rw [own_block_eq'] at hk; rw [hk, e]))
    simpa [vcs] using h1
  · have hl1 := (Array.getElem?_eq_some_iff.1 hm1).1
    rw [ho3.block r (by omega) (fun e => hpr e.symm), hgo.block r (by omega) hgr, ho2.block r hl1 (fun x => x)]
    exact hm1
  · rw [kvs_snoc]; exact hmi1
  · intro f hf
    rcases List.mem_append.1 hf with hf | hf
    · exact ((((h.vok f hf).off ho1 (fun q hq hn => har f hf hn q hq)).old ho2).off hgo (fun q hq hn => (h.apart f hf hn q hq).2)).off ho3 (fun q hq hn => (h.apart f hf hn q hq).1)
    · simp only [List.mem_singleton] at hf
      subst hf
      exact (hv2.off hgo (fun q hq hn hk => by have := hfr q hq; have := hglt _ hk; omega)).off ho3 (fun q hq hn hk => by have := hfr q hq; omega)
  · intro f hf
    rcases List.mem_append.1 hf with hf | hf
    · exact h.nb f hf
    · simp only [List.mem_singleton] at hf
      subst hf; exact hb
  · intro i j e f hi hj h1 h2
    rcases Nat.lt_or_ge i l.length with hil | hil <;> rcases Nat.lt_or_ge j l.length with hjl | hjl
    · rw [List.getElem?_append_left hil] at hi
      rw [List.getElem?_append_left hjl] at hj
      exact h.inj i j e f hi hj h1 h2
    · rw [List.getElem?_append_left hil] at hi
      have hj' := (List.getElem?_eq_some_iff.1 hj).1
      simp at hj'
      obtain rfl : j = l.length := by omega
      simp at hj
      subst hj
      exact absurd ⟨h1, h2⟩ (hno e (List.mem_of_getElem? hi))
    · rw [List.getElem?_append_left hjl] at hj
      have hi' := (List.getElem?_eq_some_iff.1 hi).1
      simp at hi'
      obtain rfl : i = l.length := by omega
      simp at hi
      subst hi
      exact absurd ⟨h1.symm, h2.symm⟩ (hno f (List.mem_of_getElem? hj))
    · have hi' := (List.getElem?_eq_some_iff.1 hi).1
      have hj' := (List.getElem?_eq_some_iff.1 hj).1
      simp at hi' hj'
      omega
  · intro f hf hn q hqa
    rcases List.mem_append.1 hf with hf | hf
    · have h1 := h.apart f hf hn q hqa
      have h2 := hq f hf hn q hqa
      refine ⟨h1.1, fun hk => ?_⟩
      rcases hmov _ hk with h3 | h3
      · exact h1.2 h3
      · omega
    · simp only [List.mem_singleton] at hf
      subst hf
      have h1 := hfr q hqa
      have h2 := hv2.sl.lt hqa (ne_rdxs hn)
      refine ⟨by omega, fun hk => ?_⟩
      rcases hmov _ hk with h3 | h3
      · have := hglt _ h3; omega
      · omega
  · exact ((((ho1.mono (fun k hk _ => .inr (.inr hk))).trans (ho2.mono (fun _ x _ => x.elim))).trans (hgo.mono (fun k hk _ => .inr (.inl hk)))).trans (ho3.mono (fun k hk _ => .inl hk)))
  · intro k hk
    rcases hmov k hk with h1 | h1
    · exact .inl h1
    · exact .inr (by omega)
set_option maxRecDepth 100000 in
set_option maxHeartbeats 1000000 in
theorem bkPut_c (p : Nat) (g : Option Addr) (d r : Nat) (l : List Ve) (e : Ve) (m : Nat) (hm : Hid (e.x.reads.length = m)) (w : World) (h : Bk w p g d r l) (he : Vok w e) (hb : i64B e.x.c ∧ i64B e.x.n)
    (hno : ∀ f ∈ l, ¬ (f.x.c = e.x.c ∧ f.x.n = e.x.n)) (hln : l.length ≤ 1000000) (R : Ending → World → Prop)
    (k : ∀ w' g' d' a' c', Bk w' p g' d' r (l ++ [⟨e.x, a', c'⟩]) → Off (BkS p g r) w w' → (∀ k, g'.map Addr.block = some k → g.map Addr.block = some k ∨ w.heap.size ≤ k) → (∀ q, a' = some q → w.heap.size ≤ q.block) → R (.returned (.tuple #[])) w') :
    Calls Try.prog 38 #[.pointer (some ⟨p, 0, none⟩), .agg #[.int .i64 e.x.c, .int .i64 e.x.n, .bool e.x.commit, .int .i64 e.x.at_, .slice e.a m e.cap]] w R := by
  have HK := Lib.hid k; clear k
  obtain ⟨i0, hi, hz0, hz1, hz2⟩ := info_parts vdinfo
  obtain ⟨es, clock, hmp, hmi⟩ := h.mp
  obtain ⟨hpr, hgr, har⟩ := h.ne_r
  have hltp := h.blk.lt
  have hltr := (Array.getElem?_eq_some_iff.1 hmp).1
  have hgp : g.map Addr.block ≠ some p := by
    have := own_blk_ne h.own h.blk (by decide)
    rwa [own_block_eq'] at this
  have hbx := Blk.new w #[.int .i64 e.x.c, .int .i64 e.x.n, .bool e.x.commit, .int .i64 e.x.at_, .slice e.a m e.cap] 38
  have hoA : Off Old w (w.alloc (.cells #[.int .i64 e.x.c, .int .i64 e.x.n, .bool e.x.commit, .int .i64 e.x.at_, .slice e.a m e.cap] 38)).drew := ((Off.refl Old w).alloc _).drew
  have hA := h.old hoA
  obtain ⟨es', w1, hpu, hm1, hmi1, ho1⟩ := put_new (w := (w.alloc (.cells #[.int .i64 e.x.c, .int .i64 e.x.n, .bool e.x.commit, .int .i64 e.x.at_, .slice e.a m e.cap] 38)).drew) Try.underlying84 (by rw [hoA.block r hltr (fun x => x)]; exact hmp) hmi h.keys hb.1 hb.2 (.int .i64 (l.length : Nat)) (fun u hu => by
    obtain ⟨j, f, h3, h4, h5, _⟩ := kvs_mem hu
    exact hno f (List.mem_of_getElem? h3) ⟨h4, h5⟩)
  unfold nmV at hpu
  have hb1 := hA.blk.off ho1 (show p ≠ r from hpr)
  have hown1 := own_off hA.own ho1 (fun k hk hkr => hgr (by rw [own_block_eq'] at hk; rw [hk, hkr]))
  have hv1 : ∀ f ∈ l, Vok w1 f := fun f hf => (hA.vok f hf).off ho1 (fun q hq hn => har f hf hn q hq)
  have hx1 := (hbx.drew).off ho1 (show w.heap.size ≠ r by omega)
  have hev1 : Vok w1 e := (he.old hoA).off ho1 (fun q hq hn hqr => by
    have h1 := he.sl
    obtain ⟨b, o, s⟩ := q
    cases hr : e.x.reads with
    | nil => exact hn hr
    | cons x xs =>
      rw [hr] at h1
      obtain ⟨b', o', e', hc⟩ := h1 0 (.string x.key) rfl
      rw [hq] at e'
      cases e'
      simp only at hqr
      subst hqr
      simp only [World.cell?, hmp] at hc
      cases hc)
  have HX := Lib.hid hx1; have HEV := Lib.hid hev1; have HV1 := Lib.hid hv1; have HB1 := Lib.hid hb1; have HOWN := Lib.hid hown1; have HO1 := Lib.hid ho1; have HA := Lib.hid hA; have HOA := Lib.hid hoA
  have c0 := hA.blk.cell (i := 0) rfl
  have c1 := hA.blk.cell (i := 1) rfl
  have b0 := hbx.cell (i := 0) rfl
  have b1 := hbx.cell (i := 1) rfl
  have x0 := hx1.cell (i := 0) rfl
  have x1 := hx1.cell (i := 1) rfl
  have x2 := hx1.cell (i := 2) rfl
  have x3 := hx1.cell (i := 3) rfl
  have x4 := hx1.cell (i := 4) rfl
  have p0 := hb1.cell (i := 0) rfl
  have p1 := hb1.cell (i := 1) rfl
  have pf := hb1.free
  have HNO := Lib.hid hno; have HM1 := Lib.hid hm1; have HMI1 := Lib.hid hmi1
  clear hx1 hev1 hv1 hb1 hown1 ho1 hA hoA hbx hm1 hmp hmi hmi1 har hno
  go_enter Try.func38, Try.ntmps38
  go_wp2_with fail
  go_region_held3 (fun w' => w'.cell? ⟨p, 1, none⟩ = some (.map (some r)) ∧ w'.cell? ⟨p, 0, none⟩ = some (.slice g l.length d) ∧ w'.cell? ⟨w.heap.size, 0, none⟩ = some (.int .i64 e.x.c) ∧ w'.cell? ⟨w.heap.size, 1, none⟩ = some (.int .i64 e.x.n)) (go_keep) (fail)
  clear hpu c0 c1 b0 b1
  go_wp2_with fail
  have hgx : g.map Addr.block ≠ some w.heap.size := fun hk => by have := h.lt (.inr (.inl hk)); omega
  have hB0 : Sl w1 g (vcs l) := (own_sl2 HOWN.out).2.2
  have hcl : ∀ w', Off Old w1.drew w' → (w'.cell? ⟨p, 0, none⟩ = some (.slice g l.length d)) ∧ w'.cell? ⟨w.heap.size, 0, none⟩ = some (.int .i64 e.x.c) ∧ w'.cell? ⟨w.heap.size, 1, none⟩ = some (.int .i64 e.x.n) ∧ w'.cell? ⟨w.heap.size, 2, none⟩ = some (.bool e.x.commit) ∧ w'.cell? ⟨w.heap.size, 3, none⟩ = some (.int .i64 e.x.at_) ∧ w'.cell? ⟨w.heap.size, 4, none⟩ = some (.slice e.a m e.cap) := fun w' ho => ⟨ho.cell (fun x => x) p0, ho.cell (fun x => x) x0, ho.cell (fun x => x) x1, ho.cell (fun x => x) x2, ho.cell (fun x => x) x3, ho.cell (fun x => x) x4⟩
  refine wp_region_E (fun w' => Off Old (w1.drew) w') [8, 11] (by kernel_rfl) ?_ (fun hHeld => ?_)
  · (first | exact Off.refl _ _ | exact Off.alloc hHeld _ | exact Off.trans hHeld (by assumption) | assumption)
  refine wpAnyE_take (i := 0) (v := ?_) rfl (by kernel_rfl) (by kernel_rfl) (by kernel_rfl) (fun _ _ _ h => h) (Or.inl ⟨by rfl, ?_⟩) ?_
  rotate_left
  · (intro w _; go_simp; try with_reducible rfl)
  try simp only [Act.put, List.getElem_toArray, List.getElem_cons_zero, List.getElem_cons_succ, List.setIfInBounds_toArray, List.set_cons_zero, List.set_cons_succ]
  refine wpAnyE_take (i := 1) (v := ?_) rfl (by kernel_rfl) (by kernel_rfl) (by kernel_rfl) (fun _ _ _ h => h) (Or.inl ⟨by rfl, ?_⟩) ?_
  rotate_left
  · (intro w _; go_simp; try with_reducible rfl)
  try simp only [Act.put, List.getElem_toArray, List.getElem_cons_zero, List.getElem_cons_succ, List.setIfInBounds_toArray, List.set_cons_zero, List.set_cons_succ]
  refine wpAnyE_take (i := 2) (v := ?_) rfl (by kernel_rfl) (by kernel_rfl) (by kernel_rfl) (fun _ _ _ h => h) (Or.inl ⟨by rfl, ?_⟩) ?_
  rotate_left
  · (intro w _; go_simp; try with_reducible rfl)
  try simp only [Act.put, List.getElem_toArray, List.getElem_cons_zero, List.getElem_cons_succ, List.setIfInBounds_toArray, List.set_cons_zero, List.set_cons_succ]
  refine wpAnyE_take (i := 3) (v := ?_) rfl (by kernel_rfl) (by kernel_rfl) (by kernel_rfl) (fun _ _ _ h => h) (Or.inl ⟨by rfl, ?_⟩) ?_
  rotate_left
  · (intro w _; go_simp; try with_reducible rfl)
  try simp only [Act.put, List.getElem_toArray, List.getElem_cons_zero, List.getElem_cons_succ, List.setIfInBounds_toArray, List.set_cons_zero, List.set_cons_succ]
  refine wpAnyE_load (tr := [[], [], [1], [1, 2], [1, 2, 3], [], [5], [5, 6], [1, 2, 3, 4, 5, 6, 7], [0, 1, 2, 3, 4, 5, 6, 7, 8], [0, 1, 2, 3, 4, 5, 6, 7, 8, 9], [0, 1, 2, 3, 4, 5, 6, 7, 8, 9, 10]]) (i := 4) (v := ?_) (by kernel_rfl) rfl (by kernel_rfl) (by kernel_rfl) (by kernel_rfl) (by kernel_rfl) (by kernel_rfl) (fun _ _ _ h => h) (Or.inl ⟨by rfl, ?_⟩) hHeld ?_
  rotate_left
  · (intro w hSw; (try dsimp only at hSw); go_simp; try with_reducible rfl)
  try simp only [Act.put, List.getElem_toArray, List.getElem_cons_zero, List.getElem_cons_succ, List.setIfInBounds_toArray, List.set_cons_zero, List.set_cons_succ]
  refine wpAnyE_load (tr := [[], [], [1], [1, 2], [1, 2, 3], [], [5], [5, 6], [1, 2, 3, 4, 5, 6, 7], [0, 1, 2, 3, 4, 5, 6, 7, 8], [0, 1, 2, 3, 4, 5, 6, 7, 8, 9], [0, 1, 2, 3, 4, 5, 6, 7, 8, 9, 10]]) (i := 5) (v := ?_) (by kernel_rfl) rfl (by kernel_rfl) (by kernel_rfl) (by kernel_rfl) (by kernel_rfl) (by kernel_rfl) (fun _ _ _ h => h) (Or.inl ⟨by rfl, ?_⟩) hHeld ?_
  rotate_left
  · (intro w hSw; (try dsimp only at hSw); go_simp; try with_reducible rfl)
  try simp only [Act.put, List.getElem_toArray, List.getElem_cons_zero, List.getElem_cons_succ, List.setIfInBounds_toArray, List.set_cons_zero, List.set_cons_succ]
  refine wpAnyE_ready (rs := [6]) (by kernel_rfl) (by simp) ?_
  refine AllReadyE.cons rfl (fun K hK => ?_) AllReadyE.nil
  go_simp
  (go_at_call 44; refine copied_c e m hm _ (HEV.out.old (Off.refl Old w1).drew) _ ?_; intro w2 a2 d2 hv2 ho2 hfr2; have hown2 := own_off HOWN.out ((Off.refl Old w1).drew.trans ho2) (fun _ _ x => x))
  refine hK.out _ _ ?_ (fun hHeld => ?_)
  · (first | exact Off.refl _ _ | exact Off.alloc hHeld _ | exact Off.trans hHeld (by assumption) | assumption)
  clear hK K
  try simp only [Act.put, List.getElem_toArray, List.getElem_cons_zero, List.getElem_cons_succ, List.setIfInBounds_toArray, List.set_cons_zero, List.set_cons_succ]
  refine wpAnyE_ready (rs := [7]) (by kernel_rfl) (by simp) ?_
  refine AllReadyE.cons rfl (fun K hK => ?_) AllReadyE.nil
  go_simp
  refine hK.out _ _ ?_ (fun hHeld => ?_)
  · (first | exact Off.refl _ _ | exact Off.alloc hHeld _ | exact Off.trans hHeld (by assumption) | assumption)
  clear hK K
  try simp only [Act.put, List.getElem_toArray, List.getElem_cons_zero, List.getElem_cons_succ, List.setIfInBounds_toArray, List.set_cons_zero, List.set_cons_succ]
  refine wpAnyE_ready (rs := [8]) (by kernel_rfl) (by simp) ?_
  refine AllReadyE.lcons (by kernel_rfl) rfl (fun K hK => ?_) AllReadyE.nil
  (refine step_append_sl rfl (.tmp 19) (.tmp 22) 22 rfl 38 i0 (.agg #[.int .i64 0, .int .i64 0, .bool false, .int .i64 0, .slice none 0 0]) 5 56 Try.underlying22 hi hz0 hz1 hz2 rfl (by decide) (.slice g l.length d) l.length (vcs l) rfl (hown2.alloc _) _ 1 1 [.int .i64 e.x.c, .int .i64 e.x.n, .bool e.x.commit, .int .i64 e.x.at_, .slice a2 m d2] rfl rfl (Sl.new w2 _ _) (by intro u hu; simp at hu; rcases hu with rfl | rfl | rfl | rfl | rfl <;> rfl) (by omega) (by omega) ?_; intro g3 d3 w3 hg3; have hgo : Off (fun k => g.map Addr.block = some k) w2 w3 := hg3.of_alloc.off.mono (fun k hk _ => by rwa [own_block_eq'] at hk); have hb3 := Lib.hid ((HB1.out.old ((Off.refl Old w1).drew.trans ho2)).off hgo hgp); have hp3 := hb3.out.cell (i := 0) rfl; have hpf3 := hb3.out.free 0)
  refine hK.out _ _ ?_
  clear hK K
  try simp only [Act.put, List.getElem_toArray, List.getElem_cons_zero, List.getElem_cons_succ, List.setIfInBounds_toArray, List.set_cons_zero, List.set_cons_succ]
  refine wpAnyE_take (i := 9) (v := ?_) rfl (by kernel_rfl) (by kernel_rfl) (by kernel_rfl) (fun _ _ _ h => h) (Or.inl ⟨by rfl, ?_⟩) ?_
  rotate_left
  · (intro w _; go_simp; try with_reducible rfl)
  try simp only [Act.put, List.getElem_toArray, List.getElem_cons_zero, List.getElem_cons_succ, List.setIfInBounds_toArray, List.set_cons_zero, List.set_cons_succ]
  refine wpAnyE_take (i := 10) (v := ?_) rfl (by kernel_rfl) (by kernel_rfl) (by kernel_rfl) (fun _ _ _ h => h) (Or.inl ⟨by rfl, ?_⟩) ?_
  rotate_left
  · (intro w _; go_simp; try with_reducible rfl)
  try simp only [Act.put, List.getElem_toArray, List.getElem_cons_zero, List.getElem_cons_succ, List.setIfInBounds_toArray, List.set_cons_zero, List.set_cons_succ]
  refine wpAnyE_ready (rs := [11]) (by kernel_rfl) (by simp) ?_
  refine AllReadyE.lcons (by kernel_rfl) rfl (fun K hK => ?_) AllReadyE.nil
  go_simp
  refine hK.out _ _ ?_
  clear hK K
  try simp only [Act.put, List.getElem_toArray, List.getElem_cons_zero, List.getElem_cons_succ, List.setIfInBounds_toArray, List.set_cons_zero, List.set_cons_succ]
  refine wpAnyE_done (by kernel_rfl) ?_ _
  have hmm := hm.out
  subst hmm
  obtain ⟨hB4, hO4, hM4⟩ := h.snoc rfl ((HOA.out.mono (fun _ x _ => x.elim)).trans HO1.out) HM1.out HMI1.out ((Off.refl Old w1).drew.trans ho2) hv2 hfr2 hg3.of_alloc hb HNO.out
  have hz1 := HO1.out.size
  have hz0 := HOA.out.size
  have HF := HK.out _ g3 d3 a2 d2 hB4 hO4 hM4 (fun q hq => by have := hfr2 q hq; simp at this; omega)
  go_end0
  exact HF
/-- the index of the last one. -/
def lastAt (l : List Vd) : Int := ((l.getLast?).map Vd.at_).getD 0
set_option maxRecDepth 100000 in
theorem bkLast_c (p : Nat) (g : Option Addr) (d r : Nat) (l : List Ve) (w : World) (h : Bk w p g d r l) (hln : l.length ≤ 1000000) (R : Ending → World → Prop)
    (k : ∀ w', Off Old w w' → R (.returned (.int .i64 (lastAt (l.map Ve.x)))) w') :
    Calls Try.prog 43 #[.pointer (some ⟨p, 0, none⟩)] w R := by
  have HK := Lib.hid k; clear k
  have c0 := h.blk.cell (i := 0) rfl
  by_cases h0 : l.length = 0
  · have hl : l = [] := List.eq_nil_of_length_eq_zero h0
    subst hl
    have HF := HK.out w (Off.refl _ _)
    clear HK
    have hz : ((([] : List Ve).length : Int) == 0) = true := rfl
    go_enter Try.func43, Try.ntmps43
    go_wp2_with fail
    exact HF
  · obtain ⟨e, he⟩ : ∃ e, l[l.length - 1]? = some e := ⟨l[l.length - 1]'(by omega), by simp⟩
    have hv : lastAt (l.map Ve.x) = e.x.at_ := by
      rw [lastAt, List.getLast?_map, List.getLast?_eq_getElem?, he]; rfl
    obtain ⟨b, o, ix, Q, _⟩ := ((own_sl2 h.own).2.2).ix_ve d
    obtain ⟨_, _, _, c3, _⟩ := Q.out _ _ he
    have hix := ix (l.length - 1) (by omega)
    obtain ⟨n, hn⟩ : ∃ n, Hid (l.length = n + 1) := ⟨l.length - 1, by show _ = _; omega⟩
    rw [hn.out] at c0 c3 hix
    have hnb : n ≤ 1000000 := by have := hn.out; omega
    simp only [Nat.add_sub_cancel] at c3 hix
    rw [hv] at HK
    clear hv h0 Q ix he
    go_enter Try.func43, Try.ntmps43
    go_wp2_with fail
    go_quiet (fail)
    go_wp2_with fail
    exact HK.out _ (by simp)
end Go.Proofs.Ytahpfcfecghpmaa
