/- A book of verdicts, by the document: one decided. -/
import Derived.Test.YtahpfcfecghpmaaRefB1
import Derived.Test.YtahpfcfecghpmaaStep
import Derived.Test.YtahpfcfecghpmaaOrd
import Derived.KernelRfl
namespace Go.Proofs.Ytahpfcfecghpmaa
open Go.RowKit
set_option linter.unusedSimpArgs false

theorem RBk.snoc {w w2 w3 : World} {q : Nat} {g g3 : Option Addr} {d d3 n : Nat} {l : List Ve} {x : Vd} {a2 : Option Addr} {d2 : Nat} (h : RBk w q g d l) (hn : l.length = n) (ho2 : Off Old w w2) (hv2 : Vok w2 ⟨x, a2, d2⟩) (hfr : ∀ z, a2 = some z → w.heap.size ≤ z.block)
    (hg : Grew w2 w3 41 5 (.slice g n d) (.slice g3 (n + 1) d3) (n + 1) (vcs l ++ Ve.v ⟨x, a2, d2⟩)) :
    RBk (w3.setCell ⟨q, 0, none⟩ (.slice g3 (n + 1) d3)) q g3 d3 (l ++ [⟨x, a2, d2⟩]) ∧ Off (RbS q g) w (w3.setCell ⟨q, 0, none⟩ (.slice g3 (n + 1) d3)) ∧ MovG g g3 w.heap.size := by
  subst hn
  have hgp : g.map Addr.block ≠ some q := by
    have := own_blk_ne h.own h.blk (by decide)
    rwa [own_block_eq'] at this
  have hltp := h.blk.lt
  have hz2 := ho2.size
  have hgo : Off (fun k => g.map Addr.block = some k) w2 w3 := hg.off.mono (fun k hk _ => by rwa [own_block_eq'] at hk)
  have hz3 := hgo.size
  have hmov : ∀ k, g3.map Addr.block = some k → g.map Addr.block = some k ∨ w2.heap.size ≤ k := fun k hk => by
    have := hg.mov k (by rw [own_block_eq']; exact hk)
    rwa [own_block_eq'] at this
  have hglt : ∀ k, g.map Addr.block = some k → k < w.heap.size := fun k hk => h.lt (.inr (.inl hk))
  have hg3p : g3.map Addr.block ≠ some q := fun hk => by
    rcases hmov q hk with h1 | h1
    · exact hgp h1
    · omega
  have ho3 : Off (fun k => k = q) w3 (w3.setCell ⟨q, 0, none⟩ (.slice g3 (l.length + 1) d3)) := Off.setCell (S := fun k => k = q) (Off.refl _ _) (p := ⟨q, 0, none⟩) (fun _ => rfl) _
  have hq : ∀ f ∈ l, f.x.reads ≠ [] → ∀ z, f.a = some z → z.block < w.heap.size := fun f hf hn z hz => h.lt (.inr (.inr ⟨f, hf, hn, by rw [hz]; rfl⟩))
  refine ⟨⟨?_, ?_, ?_, ?_⟩, ?_, ?_⟩
  · have h1 := (((h.blk.old ho2).off hgo hgp).set 0 (.slice g3 (l.length + 1) d3))
    simpa using h1
  · have h1 := own_off hg.own ho3 (fun k hk e => hg3p (by rw [own_block_eq'] at hk; rw [hk, e]))
    simpa [vcs] using h1
  · intro f hf
    rcases List.mem_append.1 hf with hf | hf
    · exact (((h.vok f hf).old ho2).off hgo (fun z hz hn => (h.apart f hf hn z hz).2)).off ho3 (fun z hz hn => (h.apart f hf hn z hz).1)
    · simp only [List.mem_singleton] at hf
      subst hf
      exact (hv2.off hgo (fun z hz hn hk => by have := hfr z hz; have := hglt _ hk; omega)).off ho3 (fun z hz hn hk => by have := hfr z hz; omega)
  · intro f hf hn z hza
    rcases List.mem_append.1 hf with hf | hf
    · have h1 := h.apart f hf hn z hza
      have h2 := hq f hf hn z hza
      refine ⟨h1.1, fun hk => ?_⟩
      rcases hmov _ hk with h3 | h3
      · exact h1.2 h3
      · omega
    · simp only [List.mem_singleton] at hf
      subst hf
      have h1 := hfr z hza
      have h2 := hv2.sl.lt hza (ne_rdxs hn)
      refine ⟨by omega, fun hk => ?_⟩
      rcases hmov _ hk with h3 | h3
      · have := hglt _ h3; omega
      · omega
  · exact ((ho2.mono (fun _ x _ => x.elim)).trans (hgo.mono (fun k hk _ => .inr hk))).trans (ho3.mono (fun k hk _ => .inl hk))
  · intro k hk
    rcases hmov k hk with h1 | h1
    · exact .inl h1
    · exact .inr (by omega)
theorem lastAt_snoc (l : List Ve) (hl : l ≠ []) : ∃ e, l[l.length - 1]? = some e ∧ lastAt (l.map Ve.x) = e.x.at_ := by
  have hp : 0 < l.length := by cases l with | nil => exact absurd rfl hl | cons x xs => simp
  refine ⟨l[l.length - 1]'(by omega), by simp, ?_⟩
  rw [lastAt, List.getLast?_map, List.getLast?_eq_getElem?]
  have : l[l.length - 1]? = some (l[l.length - 1]'(by omega)) := by simp
  rw [this]; rfl
theorem ok_at {x : Vd} (h : x.ok = true) : 1 ≤ x.at_ ∧ x.at_ ≤ 1073741824 := by
  simp only [Vd.ok, Bool.and_eq_true, decide_eq_true_eq] at h
  exact h.1.1.1.2
theorem ok_nm {x : Vd} (h : x.ok = true) : nameOk x.c x.n = true := by
  simp only [Vd.ok, Bool.and_eq_true, decide_eq_true_eq] at h
  exact h.1.1.1.1
set_option maxRecDepth 100000 in
set_option maxHeartbeats 3000000 in
theorem rDecide_c (q : Nat) (g : Option Addr) (d : Nat) (l : List Ve) (e : Ve) (m : Nat) (hm : Hid (e.x.reads.length = m)) (w : World) (h : RBk w q g d l) (he : Vok w e) (hap : e.x.reads ≠ [] → ∀ z, e.a = some z → ¬ RbS q g z.block) (hat : i64B e.x.at_) (hln : l.length ≤ 1000000) (R : Ending → World → Prop)
    (k : ∀ w' g' d' l' a' m' c', RBk w' q g' d' l' → Hid (l'.map Ve.x = (dec (l.map Ve.x) e.x).2) → Vok w' ⟨decV (l.map Ve.x) e.x, a', c'⟩ → Hid ((decV (l.map Ve.x) e.x).reads.length = m') → Off (RbS q g) w w' → MovG g g' w.heap.size → (∀ z, a' = some z → w.heap.size ≤ z.block) → (∀ f ∈ l', f ∈ l ∨ ∀ z, f.a = some z → w.heap.size ≤ z.block) →
      R (.returned (.tuple #[vdV (decV (l.map Ve.x) e.x) a' m' c', .int .i64 (decE (l.map Ve.x) e.x)])) w') :
    Calls Try.prog 16 #[.pointer (some ⟨q, 0, none⟩), .agg #[.int .i64 e.x.c, .int .i64 e.x.n, .bool e.x.commit, .int .i64 e.x.at_, .slice e.a m e.cap]] w R := by
  have HK := Lib.hid k; clear k
  have HAP := Lib.hid hap; clear hap
  have hoA : Off Old w ((w.alloc (.cells #[.int .i64 e.x.c, .int .i64 e.x.n, .bool e.x.commit, .int .i64 e.x.at_, .slice e.a m e.cap] 41)).alloc (.cells #[.int .i64 0, .int .i64 0, .bool false, .int .i64 0, .slice none 0 0] 41)) := ((Off.refl Old w).alloc _).alloc _
  have heA := he.old hoA
  have hbN := ((Blk.new w #[.int .i64 e.x.c, .int .i64 e.x.n, .bool e.x.commit, .int .i64 e.x.at_, .slice e.a m e.cap] 41).alloc (.cells #[.int .i64 0, .int .i64 0, .bool false, .int .i64 0, .slice none 0 0] 41))
  have hbR := Blk.new2 w (.cells #[.int .i64 e.x.c, .int .i64 e.x.n, .bool e.x.commit, .int .i64 e.x.at_, .slice e.a m e.cap] 41) #[.int .i64 0, .int .i64 0, .bool false, .int .i64 0, .slice none 0 0] 41
  obtain ⟨V, hV⟩ : ∃ V, Hid (e.x.ok = V) := ⟨_, rfl⟩
  go_enter Try.func16, Try.ntmps16
  go_wp2_with (go_at_call 13; go_must (refine rRight_c e m hm _ heA _ ?_))
  rw [hV.out]
  intro w2 ho2
  have hoB := hoA.trans ho2
  have hB2 := hbR.old ho2
  have hN2 := hbN.old ho2
  have hbk2 := h.old hoB
  have he2 := he.old hoB
  have n0 := hN2.cell (i := 0) rfl
  have n1 := hN2.cell (i := 1) rfl
  cases V
  · have hd : dec (l.map Ve.x) e.x = (none, l.map Ve.x) := by simp [dec, hV.out]
    have r0 := hB2.cell (i := 0) rfl
    have r1 := hB2.cell (i := 1) rfl
    have r2 := hB2.cell (i := 2) rfl
    have r3 := hB2.cell (i := 3) rfl
    have r4 := hB2.cell (i := 4) rfl
    have rf := hB2.free
    have HR := Lib.hid (hB2.set5 (.int .i64 0) (.int .i64 0) (.bool false) (.int .i64 0) (.slice none 0 0))
    have hO := Lib.hid (Off.set5 (S := Old) (b := w.heap.size + 1) hoB (by intro h; omega) (.int .i64 0) (.int .i64 0) (.bool false) (.int .i64 0) (.slice none 0 0))
    clear n0 n1
    go_wp2_with fail
    have hv : decV (l.map Ve.x) e.x = zeroVd := by simp [decV, hd]
    have hee : decE (l.map Ve.x) e.x = 2 := by simp [decE, hd]
    have HF := HK.out _ g d l none 0 0 (h.old hO.out) (by show _ = _; rw [hd]) (by rw [hv]; exact zero_vok _) (by rw [hv]; rfl) (hO.out.mono (fun _ x _ => x.elim)) (fun _ h => .inl h) (by simp) (fun f hf => .inl hf)
    rw [hv, hee] at HF
    exact bodyPost_ret (v := .tuple #[vdV zeroVd none 0 0, .int .i64 2]) (by simp [results, Try.results16, go_sem, vdV, zeroVd, HR.out.cell (i := 0) rfl, HR.out.cell (i := 1) rfl, HR.out.cell (i := 2) rfl, HR.out.cell (i := 3) rfl, HR.out.cell (i := 4) rfl]) rfl HF
  · go_wp2_with (go_at_call 23; go_must (refine rOf_c q g d l e.x _ hbk2 hln _ ?_ ?_))
    · intro y hf w3 a3 m3 d3 hv3 hm3 ho3 hfr3
      unfold Found at hf
      unfold vdV
      have hd : Hid (dec (l.map Ve.x) e.x = (some y, l.map Ve.x)) := by show _ = _; simp [dec, hV.out, hf]
      have hB3 := hB2.old ho3
      have r0 := hB3.cell (i := 0) rfl
      have r1 := hB3.cell (i := 1) rfl
      have r2 := hB3.cell (i := 2) rfl
      have r3 := hB3.cell (i := 3) rfl
      have r4 := hB3.cell (i := 4) rfl
      have rf := hB3.free
      have hlt3 := hB3.lt
      have hz2 := hB2.lt
      clear n0 n1 hf
      have HR := Lib.hid ((hB3.set5 (.int .i64 y.c) (.int .i64 y.n) (.bool y.commit) (.int .i64 y.at_) (.slice a3 m3 d3)).alloc (.cells #[.int .i64 y.c, .int .i64 y.n, .bool y.commit, .int .i64 y.at_, .slice a3 m3 d3] 41))
      have hO := Lib.hid ((Off.set5 (S := Old) (b := w.heap.size + 1) (hoB.trans ho3) (by intro h; omega) (.int .i64 y.c) (.int .i64 y.n) (.bool y.commit) (.int .i64 y.at_) (.slice a3 m3 d3)).alloc (.cells #[.int .i64 y.c, .int .i64 y.n, .bool y.commit, .int .i64 y.at_, .slice a3 m3 d3] 41))
      have hS := Lib.hid ((Off.set5 (S := fun k => k = w.heap.size + 1) (b := w.heap.size + 1) (Off.refl _ w3) (fun _ => rfl) (.int .i64 y.c) (.int .i64 y.n) (.bool y.commit) (.int .i64 y.at_) (.slice a3 m3 d3)).alloc (.cells #[.int .i64 y.c, .int .i64 y.n, .bool y.commit, .int .i64 y.at_, .slice a3 m3 d3] 41))
      go_wp2_with fail
      have hv : decV (l.map Ve.x) e.x = y := by simp [decV, hd.out]
      have hee : decE (l.map Ve.x) e.x = 0 := by simp [decE, hd.out]
      have HF := HK.out _ g d l a3 m3 d3 (h.old hO.out) (by show _ = _; rw [hd.out]) (by rw [hv]; exact hv3.off hS.out (fun q hq _ hk => by have := hfr3 q hq; omega)) (by rw [hv]; exact hm3) (hO.out.mono (fun _ x _ => x.elim)) (fun _ h => .inl h) (fun q hq => by have := hfr3 q hq; omega) (fun f hf => .inl hf)
      rw [hv, hee] at HF
      exact bodyPost_ret (v := .tuple #[vdV y a3 m3 d3, .int .i64 0]) (by simp [results, Try.results16, go_sem, vdV, HR.out.cell (i := 0) rfl, HR.out.cell (i := 1) rfl, HR.out.cell (i := 2) rfl, HR.out.cell (i := 3) rfl, HR.out.cell (i := 4) rfl]) rfl HF
    · intro hf w3 ho3
      unfold Found at hf
      unfold vd0
      have hf2 := Lib.hid hf
      clear hf n0 n1
      have hB3 := (hB2.old ho3).alloc (.cells #[.int .i64 0, .int .i64 0, .bool false, .int .i64 0, .slice none 0 0] 41)
      have hN3 := (hN2.old ho3).alloc (.cells #[.int .i64 0, .int .i64 0, .bool false, .int .i64 0, .slice none 0 0] 41)
      have hO3 := (hoB.trans ho3).alloc (.cells #[.int .i64 0, .int .i64 0, .bool false, .int .i64 0, .slice none 0 0] 41)
      have hz2 := hB2.lt
      obtain ⟨h1, h2⟩ := hat
      obtain ⟨A, hA'⟩ : ∃ A, Hid (lastAt (l.map Ve.x) = A) := ⟨_, rfl⟩
      go_wp2_with fail
      generalize (w3.alloc (.cells #[.int .i64 0, .int .i64 0, .bool false, .int .i64 0, .slice none 0 0] 41)) = w4 at *
      have hbk4 := h.old hO3
      have hO4 := hO3.drew
      have c0 := hbk4.blk.cell (i := 0) rfl
      have n3 := hN3.cell (i := 3) rfl
      by_cases hl0 : l.length = 0
      · have hle : ¬ e.x.at_ ≤ lastAt (l.map Ve.x) := by
          have h3 := (ok_at hV.out).1
          have : l = [] := List.eq_nil_of_length_eq_zero hl0
          subst this
          show ¬ e.x.at_ ≤ 0
          omega
        have hd : Hid (dec (l.map Ve.x) e.x = (some e.x, l.map Ve.x ++ [e.x])) := by show _ = _; simp [dec, hV.out, hf2.out, hle]
        have hg0 : decide (0 < l.length) = false := decide_eq_false (by omega)
        clear hle
        have hl0' := Lib.hid hl0
        have c0' : w4.cell? ⟨q, 0, none⟩ = some (.slice g 0 d) := by have h0 := c0; rw [hl0] at h0; exact h0
        clear hl0 c0 hg0
        have c0 := c0'
        go_quiet (fail)
        clear c0'
        have hO5 := hO3.drewN nq
        have hq5 := (Off.refl Old w4).drewN nq
        go_wp2_with fail
        clear c0 n3
        have hbk5 := h.old hO5
        have hB5 := hB3.old hq5
        have hN5 := hN3.old hq5
        have he5 := he.old hO5
        generalize hW5 : (w4.drewN nq) = w5 at *
        clear hW5
        have hcl : ∀ w', Off Old w5 w' → w'.cell? ⟨q, 0, none⟩ = some (.slice g l.length d) ∧ w'.cell? ⟨w.heap.size, 0, none⟩ = some (.int .i64 e.x.c) ∧ w'.cell? ⟨w.heap.size, 1, none⟩ = some (.int .i64 e.x.n) ∧ w'.cell? ⟨w.heap.size, 2, none⟩ = some (.bool e.x.commit) ∧ w'.cell? ⟨w.heap.size, 3, none⟩ = some (.int .i64 e.x.at_) ∧ w'.cell? ⟨w.heap.size, 4, none⟩ = some (.slice e.a m e.cap) := fun w' ho => ⟨(hbk5.old ho).blk.cell rfl, (hN5.old ho).cell rfl, (hN5.old ho).cell rfl, (hN5.old ho).cell rfl, (hN5.old ho).cell rfl, (hN5.old ho).cell rfl⟩
        obtain ⟨i0, hi, hz0, hz1, hz2'⟩ := info_parts rvdinfo
        have hgq : g.map Addr.block ≠ some q := by
          have := own_blk_ne h.own h.blk (by decide)
          rwa [own_block_eq'] at this
        refine wp_region_E (fun w' => Off Old (w5) w') [8, 11] (by kernel_rfl) ?_ (fun hHeld => ?_)
        · (first | exact Off.refl _ _ | exact Off.alloc hHeld _ | exact Off.trans hHeld (by assumption) | assumption | exact (Off.refl _ _).drew)
        refine wpAnyE_take (i := 0) (v := ?_) rfl (by kernel_rfl) (by kernel_rfl) (by kernel_rfl) (fun _ _ _ h => h) (Or.inl ⟨by rfl, ?_⟩) ?_
        rotate_left
        · (intro w _; go_simp; try with_reducible rfl)
        try simp only [Act.put, List.getElem_toArray, List.getElem_cons_zero, List.getElem_cons_succ, List.setIfInBounds_toArray, List.set_cons_zero, List.set_cons_succ]
        refine wpAnyE_take (i := 1) (v := ?_) rfl (by kernel_rfl) (by kernel_rfl) (by kernel_rfl) (fun _ _ _ h => h) (Or.inl ⟨by rfl, ?_⟩) ?_
        rotate_left
        · (intro w _; go_simp; try with_reducible rfl)
        try simp only [Act.put, List.getElem_toArray, List.getElem_cons_zero, List.getElem_cons_succ, List.setIfInBounds_toArray, List.set_cons_zero, List.set_cons_succ]
        refine wpAnyE_take (i := 2) (v := ?_) rfl (by kernel_rfl) (by kernel_rfl) (by kernel_rfl) (fun _ _ _ h => h) (Or.inl ⟨by rfl, ?_⟩) ?_
        rotate_left
        · (intro w _; go_simp; try with_reducible rfl)
        try simp only [Act.put, List.getElem_toArray, List.getElem_cons_zero, List.getElem_cons_succ, List.setIfInBounds_toArray, List.set_cons_zero, List.set_cons_succ]
        refine wpAnyE_take (i := 3) (v := ?_) rfl (by kernel_rfl) (by kernel_rfl) (by kernel_rfl) (fun _ _ _ h => h) (Or.inl ⟨by rfl, ?_⟩) ?_
        rotate_left
        · (intro w _; go_simp; try with_reducible rfl)
        try simp only [Act.put, List.getElem_toArray, List.getElem_cons_zero, List.getElem_cons_succ, List.setIfInBounds_toArray, List.set_cons_zero, List.set_cons_succ]
        refine wpAnyE_load (tr := [[], [], [1], [1, 2], [1, 2, 3], [], [5], [5, 6], [1, 2, 3, 4, 5, 6, 7], [0, 1, 2, 3, 4, 5, 6, 7, 8], [0, 1, 2, 3, 4, 5, 6, 7, 8, 9], [0, 1, 2, 3, 4, 5, 6, 7, 8, 9, 10]]) (i := 4) (v := ?_) (by kernel_rfl) rfl (by kernel_rfl) (by kernel_rfl) (by kernel_rfl) (by kernel_rfl) (by kernel_rfl) (fun _ _ _ h => h) (Or.inl ⟨by rfl, ?_⟩) hHeld ?_
        rotate_left
        · (intro w hSw; (try dsimp only at hSw); go_simp; try with_reducible rfl)
        try simp only [Act.put, List.getElem_toArray, List.getElem_cons_zero, List.getElem_cons_succ, List.setIfInBounds_toArray, List.set_cons_zero, List.set_cons_succ]
        refine wpAnyE_load (tr := [[], [], [1], [1, 2], [1, 2, 3], [], [5], [5, 6], [1, 2, 3, 4, 5, 6, 7], [0, 1, 2, 3, 4, 5, 6, 7, 8], [0, 1, 2, 3, 4, 5, 6, 7, 8, 9], [0, 1, 2, 3, 4, 5, 6, 7, 8, 9, 10]]) (i := 5) (v := ?_) (by kernel_rfl) rfl (by kernel_rfl) (by kernel_rfl) (by kernel_rfl) (by kernel_rfl) (by kernel_rfl) (fun _ _ _ h => h) (Or.inl ⟨by rfl, ?_⟩) hHeld ?_
        rotate_left
        · (intro w hSw; (try dsimp only at hSw); go_simp; try with_reducible rfl)
        try simp only [Act.put, List.getElem_toArray, List.getElem_cons_zero, List.getElem_cons_succ, List.setIfInBounds_toArray, List.set_cons_zero, List.set_cons_succ]
        refine wpAnyE_ready (rs := [6]) (by kernel_rfl) (by simp) ?_
        refine AllReadyE.cons rfl (fun K hK => ?_) AllReadyE.nil
        go_simp
        (go_at_call 39; refine rcopied_c e m hm _ (he5.old (Off.refl Old w5).drew) _ ?_; intro w6 a6 d6 hv6 ho6 hfr6; have hown6 := own_off hbk5.own ((Off.refl Old w5).drew.trans ho6) (fun _ _ x => x))
        refine hK.out _ _ ?_ (fun hHeld => ?_)
        · (first | exact Off.refl _ _ | exact Off.alloc hHeld _ | exact Off.trans hHeld (by assumption) | assumption | exact (Off.refl _ _).drew)
        clear hK K
        try simp only [Act.put, List.getElem_toArray, List.getElem_cons_zero, List.getElem_cons_succ, List.setIfInBounds_toArray, List.set_cons_zero, List.set_cons_succ]
        refine wpAnyE_ready (rs := [7]) (by kernel_rfl) (by simp) ?_
        refine AllReadyE.cons rfl (fun K hK => ?_) AllReadyE.nil
        go_simp
        refine hK.out _ _ ?_ (fun hHeld => ?_)
        · (first | exact Off.refl _ _ | exact Off.alloc hHeld _ | exact Off.trans hHeld (by assumption) | assumption | exact (Off.refl _ _).drew)
        clear hK K
        try simp only [Act.put, List.getElem_toArray, List.getElem_cons_zero, List.getElem_cons_succ, List.setIfInBounds_toArray, List.set_cons_zero, List.set_cons_succ]
        refine wpAnyE_ready (rs := [8]) (by kernel_rfl) (by simp) ?_
        refine AllReadyE.lcons (by kernel_rfl) rfl (fun K hK => ?_) AllReadyE.nil
        (refine step_append_sl rfl (.tmp 50) (.tmp 53) 29 rfl 41 i0 (.agg #[.int .i64 0, .int .i64 0, .bool false, .int .i64 0, .slice none 0 0]) 5 56 Try.underlying29 hi hz0 hz1 hz2' rfl (by decide) (.slice g l.length d) l.length (vcs l) rfl (hown6.alloc _) _ 1 1 [.int .i64 e.x.c, .int .i64 e.x.n, .bool e.x.commit, .int .i64 e.x.at_, .slice a6 m d6] rfl rfl (Sl.new w6 _ _) (by intro u hu; simp at hu; rcases hu with rfl | rfl | rfl | rfl | rfl <;> rfl) (by omega) (by omega) ?_; intro g7 d7 w7 hg7; have hgo : Off (fun k => g.map Addr.block = some k) w6 w7 := hg7.of_alloc.off.mono (fun k hk _ => by rwa [own_block_eq'] at hk); have hb7 := Lib.hid (((hbk5.blk.old (Off.refl Old w5).drew).old ho6).off hgo hgq); have hp7 := hb7.out.cell (i := 0) rfl; have hpf7 := hb7.out.free 0)
        refine hK.out _ _ ?_
        clear hK K
        try simp only [Act.put, List.getElem_toArray, List.getElem_cons_zero, List.getElem_cons_succ, List.setIfInBounds_toArray, List.set_cons_zero, List.set_cons_succ]
        refine wpAnyE_take (i := 9) (v := ?_) rfl (by kernel_rfl) (by kernel_rfl) (by kernel_rfl) (fun _ _ _ h => h) (Or.inl ⟨by rfl, ?_⟩) ?_
        rotate_left
        · (intro w _; go_simp; try with_reducible rfl)
        try simp only [Act.put, List.getElem_toArray, List.getElem_cons_zero, List.getElem_cons_succ, List.setIfInBounds_toArray, List.set_cons_zero, List.set_cons_succ]
        refine wpAnyE_take (i := 10) (v := ?_) rfl (by kernel_rfl) (by kernel_rfl) (by kernel_rfl) (fun _ _ _ h => h) (Or.inl ⟨by rfl, ?_⟩) ?_
        rotate_left
        · (intro w _; go_simp; try with_reducible rfl)
        try simp only [Act.put, List.getElem_toArray, List.getElem_cons_zero, List.getElem_cons_succ, List.setIfInBounds_toArray, List.set_cons_zero, List.set_cons_succ]
        refine wpAnyE_ready (rs := [11]) (by kernel_rfl) (by simp) ?_
        refine AllReadyE.lcons (by kernel_rfl) rfl (fun K hK => ?_) AllReadyE.nil
        go_simp
        refine hK.out _ _ ?_
        clear hK K
        try simp only [Act.put, List.getElem_toArray, List.getElem_cons_zero, List.getElem_cons_succ, List.setIfInBounds_toArray, List.set_cons_zero, List.set_cons_succ]
        refine wpAnyE_done (by kernel_rfl) ?_ _
        have hmm := hm.out
        subst hmm
        obtain ⟨hB8, hO8, hM8⟩ := hbk5.snoc rfl ((Off.refl Old w5).drew.trans ho6) hv6 hfr6 hg7.of_alloc
        have hq8 := hO8.size
        have hq6 : w5.heap.size ≤ w6.heap.size := ho6.size
        have hq05 := hO5.size
        have hrl := hB5.lt
        have hlp : ∀ k, RbS q g k → k < w.heap.size := fun k hk => h.lt (by rcases hk with rfl | hk; exact .inl rfl; exact .inr (.inl hk))
        have hN8 := hN5.off hO8 (fun hk => by have := hlp _ hk; omega)
        have hR8 := hB5.off hO8 (fun hk => by have := hlp _ hk; omega)
        have he8 := he5.off hO8 (fun z hz hn => HAP.out hn z hz)
        have hO08 : Off (RbS q g) w (w7.setCell ⟨q, 0, none⟩ (.slice g7 (l.length + 1) d7)) := (hO5.mono (fun _ x _ => x.elim)).trans hO8
        have hqR : ¬ RbS q g w.heap.size := fun hk => by have := hlp _ hk; omega
        clear hcl hp7 hpf7
        generalize (w7.setCell ⟨q, 0, none⟩ (.slice g7 (l.length + 1) d7)) = w8 at *
        have n0 := hN8.cell (i := 0) rfl
        have n1 := hN8.cell (i := 1) rfl
        have n2 := hN8.cell (i := 2) rfl
        have n3 := hN8.cell (i := 3) rfl
        have n4 := hN8.cell (i := 4) rfl
        go_wp2_with (go_at_call 39; go_must (refine rcopied_c e _ rfl _ he8 _ ?_))
        intro w9 a9 d9 hv9 ho9 hfr9
        have hR9 := hR8.old ho9
        have r0 := hR9.cell (i := 0) rfl
        have r1 := hR9.cell (i := 1) rfl
        have r2 := hR9.cell (i := 2) rfl
        have r3 := hR9.cell (i := 3) rfl
        have r4 := hR9.cell (i := 4) rfl
        have rf := hR9.free
        have HR := Lib.hid (hR9.set5 (.int .i64 e.x.c) (.int .i64 e.x.n) (.bool e.x.commit) (.int .i64 e.x.at_) (.slice a9 e.x.reads.length d9))
        have hS := Lib.hid (Off.set5 (S := fun k => k = w.heap.size + 1) (b := w.heap.size + 1) (Off.refl _ w9) (fun _ => rfl) (.int .i64 e.x.c) (.int .i64 e.x.n) (.bool e.x.commit) (.int .i64 e.x.at_) (.slice a9 e.x.reads.length d9))
        have hO := Lib.hid (Off.set5 (S := RbS q g) (b := w.heap.size + 1) (hO08.trans (ho9.mono (fun _ x _ => x.elim))) (by intro h; omega) (.int .i64 e.x.c) (.int .i64 e.x.n) (.bool e.x.commit) (.int .i64 e.x.at_) (.slice a9 e.x.reads.length d9))
        clear n0 n1 n2 n3 n4 hR9
        go_wp2_with fail
        have hv : decV (l.map Ve.x) e.x = e.x := by simp [decV, hd.out]
        have hee : decE (l.map Ve.x) e.x = 0 := by simp [decE, hd.out]
        have hfr6' : ∀ z, a6 = some z → w5.heap.size ≤ z.block := hfr6
        have hbk9 := (hB8.old ho9).off hS.out (fun k hk hke => by
          rcases hk with rfl | hk | ⟨f, hf, hn, hk⟩
          · have := hlp _ (.inl rfl); omega
          · rcases hM8 k hk with h3 | h3
            · have := hlp _ (.inr h3); omega
            · omega
          · rcases List.mem_append.1 hf with hf | hf
            · have := h.lt (.inr (.inr ⟨f, hf, hn, hk⟩)); omega
            · simp only [List.mem_singleton] at hf
              subst hf
              obtain ⟨z, hz, rfl⟩ := Option.map_eq_some_iff.1 hk
              have := hfr6' z hz; omega)
        have HF := HK.out _ g7 d7 _ a9 _ d9 hbk9 (by show _ = _; rw [hd.out]; simp) (by rw [hv]; exact hv9.off hS.out (fun z hz _ hk => by have := hfr9 z hz; omega)) (by rw [hv]; rfl) hO.out (fun k hk => by
          rcases hM8 k hk with h3 | h3
          · exact .inl h3
          · exact .inr (by omega)) (fun z hz => by have := hfr9 z hz; omega) (fun f hf => by
          rcases List.mem_append.1 hf with hf | hf
          · exact .inl hf
          · simp only [List.mem_singleton] at hf
            subst hf
            exact .inr fun z hz => by have := hfr6' z hz; omega)
        rw [hv, hee] at HF
        exact bodyPost_ret (v := .tuple #[vdV e.x a9 e.x.reads.length d9, .int .i64 0]) (by simp [results, Try.results16, go_sem, vdV, HR.out.cell (i := 0) rfl, HR.out.cell (i := 1) rfl, HR.out.cell (i := 2) rfl, HR.out.cell (i := 3) rfl, HR.out.cell (i := 4) rfl]) rfl HF
      · obtain ⟨y, hy, hla⟩ := lastAt_snoc l (by rintro rfl; exact hl0 rfl)
        obtain ⟨b, o, ix, Q⟩ := ((own_sl2 hbk4.own).2.2).ix_rve d
        obtain ⟨_, _, _, y3, _⟩ := Q.out _ _ hy
        have hix := ix (l.length - 1) (by omega)
        obtain ⟨n, hn⟩ : ∃ n, Hid (l.length = n + 1) := ⟨l.length - 1, by show _ = _; omega⟩
        have hnb : n ≤ 1000000 := by have := hn.out; omega
        have hAy : A = y.x.at_ := by rw [← hA'.out, hla]
        subst hAy
        have hc0 := c0
        have hixn := hix
        have hy3 := y3
        rw [hn.out] at c0 y3 hix
        simp only [Nat.add_sub_cancel] at y3 hix
        have hg0 : decide (0 < n + 1) = true := by simp
        clear Q ix hla hc0 hixn hy3 hy
        by_cases hle : e.x.at_ ≤ y.x.at_
        · have hd : Hid (dec (l.map Ve.x) e.x = (none, l.map Ve.x)) := by show _ = _; simp [dec, hV.out, hf2.out, hA'.out, hle]
          go_quiet (fail)
          have hB4 := hB3.drewN nq
          have hO5 := hO3.drewN nq
          generalize (w4.drewN nq) = w5 at *
          have r0 := hB4.cell (i := 0) rfl
          have r1 := hB4.cell (i := 1) rfl
          have r2 := hB4.cell (i := 2) rfl
          have r3 := hB4.cell (i := 3) rfl
          have r4 := hB4.cell (i := 4) rfl
          have rf := hB4.free
          have HR := Lib.hid (hB4.set5 (.int .i64 0) (.int .i64 0) (.bool false) (.int .i64 0) (.slice none 0 0))
          have hO := Lib.hid (Off.set5 (S := Old) (b := w.heap.size + 1) hO5 (by intro h; omega) (.int .i64 0) (.int .i64 0) (.bool false) (.int .i64 0) (.slice none 0 0))
          clear c0 n3 y3 hB4
          go_wp2_with fail
          have hv : decV (l.map Ve.x) e.x = zeroVd := by simp [decV, hd.out]
          have hee : decE (l.map Ve.x) e.x = 2 := by simp [decE, hd.out]
          have HF := HK.out _ g d l none 0 0 (h.old hO.out) (by show _ = _; rw [hd.out]) (by rw [hv]; exact zero_vok _) (by rw [hv]; rfl) (hO.out.mono (fun _ x _ => x.elim)) (fun _ h => .inl h) (by simp) (fun f hf => .inl hf)
          rw [hv, hee] at HF
          exact bodyPost_ret (v := .tuple #[vdV zeroVd none 0 0, .int .i64 2]) (by simp [results, Try.results16, go_sem, vdV, zeroVd, HR.out.cell (i := 0) rfl, HR.out.cell (i := 1) rfl, HR.out.cell (i := 2) rfl, HR.out.cell (i := 3) rfl, HR.out.cell (i := 4) rfl]) rfl HF
        · have hd : Hid (dec (l.map Ve.x) e.x = (some e.x, l.map Ve.x ++ [e.x])) := by show _ = _; simp [dec, hV.out, hf2.out, hA'.out, hle]
          go_quiet (fail)
          have hO5 := hO3.drewN nq
          have hq5 := (Off.refl Old w4).drewN nq
          clear y3 hix
          go_wp2_with fail
          clear c0 n3
          have hbk5 := h.old hO5
          have hB5 := hB3.old hq5
          have hN5 := hN3.old hq5
          have he5 := he.old hO5
          generalize hW5 : (w4.drewN nq) = w5 at *
          clear hW5
          have hcl : ∀ w', Off Old w5 w' → w'.cell? ⟨q, 0, none⟩ = some (.slice g l.length d) ∧ w'.cell? ⟨w.heap.size, 0, none⟩ = some (.int .i64 e.x.c) ∧ w'.cell? ⟨w.heap.size, 1, none⟩ = some (.int .i64 e.x.n) ∧ w'.cell? ⟨w.heap.size, 2, none⟩ = some (.bool e.x.commit) ∧ w'.cell? ⟨w.heap.size, 3, none⟩ = some (.int .i64 e.x.at_) ∧ w'.cell? ⟨w.heap.size, 4, none⟩ = some (.slice e.a m e.cap) := fun w' ho => ⟨(hbk5.old ho).blk.cell rfl, (hN5.old ho).cell rfl, (hN5.old ho).cell rfl, (hN5.old ho).cell rfl, (hN5.old ho).cell rfl, (hN5.old ho).cell rfl⟩
          obtain ⟨i0, hi, hz0, hz1, hz2'⟩ := info_parts rvdinfo
          have hgq : g.map Addr.block ≠ some q := by
            have := own_blk_ne h.own h.blk (by decide)
            rwa [own_block_eq'] at this
          refine wp_region_E (fun w' => Off Old (w5) w') [8, 11] (by kernel_rfl) ?_ (fun hHeld => ?_)
          · (first | exact Off.refl _ _ | exact Off.alloc hHeld _ | exact Off.trans hHeld (by assumption) | assumption | exact (Off.refl _ _).drew)
          refine wpAnyE_take (i := 0) (v := ?_) rfl (by kernel_rfl) (by kernel_rfl) (by kernel_rfl) (fun _ _ _ h => h) (Or.inl ⟨by rfl, ?_⟩) ?_
          rotate_left
          · (intro w _; go_simp; try with_reducible rfl)
          try simp only [Act.put, List.getElem_toArray, List.getElem_cons_zero, List.getElem_cons_succ, List.setIfInBounds_toArray, List.set_cons_zero, List.set_cons_succ]
          refine wpAnyE_take (i := 1) (v := ?_) rfl (by kernel_rfl) (by kernel_rfl) (by kernel_rfl) (fun _ _ _ h => h) (Or.inl ⟨by rfl, ?_⟩) ?_
          rotate_left
          · (intro w _; go_simp; try with_reducible rfl)
          try simp only [Act.put, List.getElem_toArray, List.getElem_cons_zero, List.getElem_cons_succ, List.setIfInBounds_toArray, List.set_cons_zero, List.set_cons_succ]
          refine wpAnyE_take (i := 2) (v := ?_) rfl (by kernel_rfl) (by kernel_rfl) (by kernel_rfl) (fun _ _ _ h => h) (Or.inl ⟨by rfl, ?_⟩) ?_
          rotate_left
          · (intro w _; go_simp; try with_reducible rfl)
          try simp only [Act.put, List.getElem_toArray, List.getElem_cons_zero, List.getElem_cons_succ, List.setIfInBounds_toArray, List.set_cons_zero, List.set_cons_succ]
          refine wpAnyE_take (i := 3) (v := ?_) rfl (by kernel_rfl) (by kernel_rfl) (by kernel_rfl) (fun _ _ _ h => h) (Or.inl ⟨by rfl, ?_⟩) ?_
          rotate_left
          · (intro w _; go_simp; try with_reducible rfl)
          try simp only [Act.put, List.getElem_toArray, List.getElem_cons_zero, List.getElem_cons_succ, List.setIfInBounds_toArray, List.set_cons_zero, List.set_cons_succ]
          refine wpAnyE_load (tr := [[], [], [1], [1, 2], [1, 2, 3], [], [5], [5, 6], [1, 2, 3, 4, 5, 6, 7], [0, 1, 2, 3, 4, 5, 6, 7, 8], [0, 1, 2, 3, 4, 5, 6, 7, 8, 9], [0, 1, 2, 3, 4, 5, 6, 7, 8, 9, 10]]) (i := 4) (v := ?_) (by kernel_rfl) rfl (by kernel_rfl) (by kernel_rfl) (by kernel_rfl) (by kernel_rfl) (by kernel_rfl) (fun _ _ _ h => h) (Or.inl ⟨by rfl, ?_⟩) hHeld ?_
          rotate_left
          · (intro w hSw; (try dsimp only at hSw); go_simp; try with_reducible rfl)
          try simp only [Act.put, List.getElem_toArray, List.getElem_cons_zero, List.getElem_cons_succ, List.setIfInBounds_toArray, List.set_cons_zero, List.set_cons_succ]
          refine wpAnyE_load (tr := [[], [], [1], [1, 2], [1, 2, 3], [], [5], [5, 6], [1, 2, 3, 4, 5, 6, 7], [0, 1, 2, 3, 4, 5, 6, 7, 8], [0, 1, 2, 3, 4, 5, 6, 7, 8, 9], [0, 1, 2, 3, 4, 5, 6, 7, 8, 9, 10]]) (i := 5) (v := ?_) (by kernel_rfl) rfl (by kernel_rfl) (by kernel_rfl) (by kernel_rfl) (by kernel_rfl) (by kernel_rfl) (fun _ _ _ h => h) (Or.inl ⟨by rfl, ?_⟩) hHeld ?_
          rotate_left
          · (intro w hSw; (try dsimp only at hSw); go_simp; try with_reducible rfl)
          try simp only [Act.put, List.getElem_toArray, List.getElem_cons_zero, List.getElem_cons_succ, List.setIfInBounds_toArray, List.set_cons_zero, List.set_cons_succ]
          refine wpAnyE_ready (rs := [6]) (by kernel_rfl) (by simp) ?_
          refine AllReadyE.cons rfl (fun K hK => ?_) AllReadyE.nil
          go_simp
          (go_at_call 39; refine rcopied_c e m hm _ (he5.old (Off.refl Old w5).drew) _ ?_; intro w6 a6 d6 hv6 ho6 hfr6; have hown6 := own_off hbk5.own ((Off.refl Old w5).drew.trans ho6) (fun _ _ x => x))
          refine hK.out _ _ ?_ (fun hHeld => ?_)
          · (first | exact Off.refl _ _ | exact Off.alloc hHeld _ | exact Off.trans hHeld (by assumption) | assumption | exact (Off.refl _ _).drew)
          clear hK K
          try simp only [Act.put, List.getElem_toArray, List.getElem_cons_zero, List.getElem_cons_succ, List.setIfInBounds_toArray, List.set_cons_zero, List.set_cons_succ]
          refine wpAnyE_ready (rs := [7]) (by kernel_rfl) (by simp) ?_
          refine AllReadyE.cons rfl (fun K hK => ?_) AllReadyE.nil
          go_simp
          refine hK.out _ _ ?_ (fun hHeld => ?_)
          · (first | exact Off.refl _ _ | exact Off.alloc hHeld _ | exact Off.trans hHeld (by assumption) | assumption | exact (Off.refl _ _).drew)
          clear hK K
          try simp only [Act.put, List.getElem_toArray, List.getElem_cons_zero, List.getElem_cons_succ, List.setIfInBounds_toArray, List.set_cons_zero, List.set_cons_succ]
          refine wpAnyE_ready (rs := [8]) (by kernel_rfl) (by simp) ?_
          refine AllReadyE.lcons (by kernel_rfl) rfl (fun K hK => ?_) AllReadyE.nil
          (refine step_append_sl rfl (.tmp 50) (.tmp 53) 29 rfl 41 i0 (.agg #[.int .i64 0, .int .i64 0, .bool false, .int .i64 0, .slice none 0 0]) 5 56 Try.underlying29 hi hz0 hz1 hz2' rfl (by decide) (.slice g l.length d) l.length (vcs l) rfl (hown6.alloc _) _ 1 1 [.int .i64 e.x.c, .int .i64 e.x.n, .bool e.x.commit, .int .i64 e.x.at_, .slice a6 m d6] rfl rfl (Sl.new w6 _ _) (by intro u hu; simp at hu; rcases hu with rfl | rfl | rfl | rfl | rfl <;> rfl) (by omega) (by omega) ?_; intro g7 d7 w7 hg7; have hgo : Off (fun k => g.map Addr.block = some k) w6 w7 := hg7.of_alloc.off.mono (fun k hk _ => by rwa [own_block_eq'] at hk); have hb7 := Lib.hid (((hbk5.blk.old (Off.refl Old w5).drew).old ho6).off hgo hgq); have hp7 := hb7.out.cell (i := 0) rfl; have hpf7 := hb7.out.free 0)
          refine hK.out _ _ ?_
          clear hK K
          try simp only [Act.put, List.getElem_toArray, List.getElem_cons_zero, List.getElem_cons_succ, List.setIfInBounds_toArray, List.set_cons_zero, List.set_cons_succ]
          refine wpAnyE_take (i := 9) (v := ?_) rfl (by kernel_rfl) (by kernel_rfl) (by kernel_rfl) (fun _ _ _ h => h) (Or.inl ⟨by rfl, ?_⟩) ?_
          rotate_left
          · (intro w _; go_simp; try with_reducible rfl)
          try simp only [Act.put, List.getElem_toArray, List.getElem_cons_zero, List.getElem_cons_succ, List.setIfInBounds_toArray, List.set_cons_zero, List.set_cons_succ]
          refine wpAnyE_take (i := 10) (v := ?_) rfl (by kernel_rfl) (by kernel_rfl) (by kernel_rfl) (fun _ _ _ h => h) (Or.inl ⟨by rfl, ?_⟩) ?_
          rotate_left
          · (intro w _; go_simp; try with_reducible rfl)
          try simp only [Act.put, List.getElem_toArray, List.getElem_cons_zero, List.getElem_cons_succ, List.setIfInBounds_toArray, List.set_cons_zero, List.set_cons_succ]
          refine wpAnyE_ready (rs := [11]) (by kernel_rfl) (by simp) ?_
          refine AllReadyE.lcons (by kernel_rfl) rfl (fun K hK => ?_) AllReadyE.nil
          go_simp
          refine hK.out _ _ ?_
          clear hK K
          try simp only [Act.put, List.getElem_toArray, List.getElem_cons_zero, List.getElem_cons_succ, List.setIfInBounds_toArray, List.set_cons_zero, List.set_cons_succ]
          refine wpAnyE_done (by kernel_rfl) ?_ _
          have hmm := hm.out
          subst hmm
          obtain ⟨hB8, hO8, hM8⟩ := hbk5.snoc rfl ((Off.refl Old w5).drew.trans ho6) hv6 hfr6 hg7.of_alloc
          have hq8 := hO8.size
          have hq6 : w5.heap.size ≤ w6.heap.size := ho6.size
          have hq05 := hO5.size
          have hrl := hB5.lt
          have hlp : ∀ k, RbS q g k → k < w.heap.size := fun k hk => h.lt (by rcases hk with rfl | hk; exact .inl rfl; exact .inr (.inl hk))
          have hN8 := hN5.off hO8 (fun hk => by have := hlp _ hk; omega)
          have hR8 := hB5.off hO8 (fun hk => by have := hlp _ hk; omega)
          have he8 := he5.off hO8 (fun z hz hn => HAP.out hn z hz)
          have hO08 : Off (RbS q g) w (w7.setCell ⟨q, 0, none⟩ (.slice g7 (l.length + 1) d7)) := (hO5.mono (fun _ x _ => x.elim)).trans hO8
          have hqR : ¬ RbS q g w.heap.size := fun hk => by have := hlp _ hk; omega
          clear hcl hp7 hpf7
          generalize (w7.setCell ⟨q, 0, none⟩ (.slice g7 (l.length + 1) d7)) = w8 at *
          have n0 := hN8.cell (i := 0) rfl
          have n1 := hN8.cell (i := 1) rfl
          have n2 := hN8.cell (i := 2) rfl
          have n3 := hN8.cell (i := 3) rfl
          have n4 := hN8.cell (i := 4) rfl
          go_wp2_with (go_at_call 39; go_must (refine rcopied_c e _ rfl _ he8 _ ?_))
          intro w9 a9 d9 hv9 ho9 hfr9
          have hR9 := hR8.old ho9
          have r0 := hR9.cell (i := 0) rfl
          have r1 := hR9.cell (i := 1) rfl
          have r2 := hR9.cell (i := 2) rfl
          have r3 := hR9.cell (i := 3) rfl
          have r4 := hR9.cell (i := 4) rfl
          have rf := hR9.free
          have HR := Lib.hid (hR9.set5 (.int .i64 e.x.c) (.int .i64 e.x.n) (.bool e.x.commit) (.int .i64 e.x.at_) (.slice a9 e.x.reads.length d9))
          have hS := Lib.hid (Off.set5 (S := fun k => k = w.heap.size + 1) (b := w.heap.size + 1) (Off.refl _ w9) (fun _ => rfl) (.int .i64 e.x.c) (.int .i64 e.x.n) (.bool e.x.commit) (.int .i64 e.x.at_) (.slice a9 e.x.reads.length d9))
          have hO := Lib.hid (Off.set5 (S := RbS q g) (b := w.heap.size + 1) (hO08.trans (ho9.mono (fun _ x _ => x.elim))) (by intro h; omega) (.int .i64 e.x.c) (.int .i64 e.x.n) (.bool e.x.commit) (.int .i64 e.x.at_) (.slice a9 e.x.reads.length d9))
          clear n0 n1 n2 n3 n4 hR9
          go_wp2_with fail
          have hv : decV (l.map Ve.x) e.x = e.x := by simp [decV, hd.out]
          have hee : decE (l.map Ve.x) e.x = 0 := by simp [decE, hd.out]
          have hfr6' : ∀ z, a6 = some z → w5.heap.size ≤ z.block := hfr6
          have hbk9 := (hB8.old ho9).off hS.out (fun k hk hke => by
            rcases hk with rfl | hk | ⟨f, hf, hn, hk⟩
            · have := hlp _ (.inl rfl); omega
            · rcases hM8 k hk with h3 | h3
              · have := hlp _ (.inr h3); omega
              · omega
            · rcases List.mem_append.1 hf with hf | hf
              · have := h.lt (.inr (.inr ⟨f, hf, hn, hk⟩)); omega
              · simp only [List.mem_singleton] at hf
                subst hf
                obtain ⟨z, hz, rfl⟩ := Option.map_eq_some_iff.1 hk
                have := hfr6' z hz; omega)
          have HF := HK.out _ g7 d7 _ a9 _ d9 hbk9 (by show _ = _; rw [hd.out]; simp) (by rw [hv]; exact hv9.off hS.out (fun z hz _ hk => by have := hfr9 z hz; omega)) (by rw [hv]; rfl) hO.out (fun k hk => by
            rcases hM8 k hk with h3 | h3
            · exact .inl h3
            · exact .inr (by omega)) (fun z hz => by have := hfr9 z hz; omega) (fun f hf => by
            rcases List.mem_append.1 hf with hf | hf
            · exact .inl hf
            · simp only [List.mem_singleton] at hf
              subst hf
              exact .inr fun z hz => by have := hfr6' z hz; omega)
          rw [hv, hee] at HF
          exact bodyPost_ret (v := .tuple #[vdV e.x a9 e.x.reads.length d9, .int .i64 0]) (by simp [results, Try.results16, go_sem, vdV, HR.out.cell (i := 0) rfl, HR.out.cell (i := 1) rfl, HR.out.cell (i := 2) rfl, HR.out.cell (i := 3) rfl, HR.out.cell (i := 4) rfl]) rfl HF

end Go.Proofs.Ytahpfcfecghpmaa
