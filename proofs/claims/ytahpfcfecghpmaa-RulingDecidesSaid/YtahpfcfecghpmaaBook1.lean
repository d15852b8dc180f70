/- A book of verdicts, by the program: how it lies; a new one, put, the last, of a name. -/
import Derived.Test.YtahpfcfecghpmaaBook0
import Derived.KernelRfl
namespace Go.Proofs.Ytahpfcfecghpmaa
open Go.RowKit
set_option linter.unusedSimpArgs false

def kvs (l : List Ve) : List (Value × Value) := l.zipIdx.map (fun p => (nmV p.1.x.c p.1.x.n, .int .i64 (p.2 : Nat)))
/-- where a book's own cells lie. -/
def BkOwn (p : Nat) (g : Option Addr) (r : Nat) (l : List Ve) (k : Nat) : Prop := k = p ∨ g.map Addr.block = some k ∨ k = r ∨ ∃ e ∈ l, e.x.reads ≠ [] ∧ e.a.map Addr.block = some k
structure Bk (w : World) (p : Nat) (g : Option Addr) (d r : Nat) (l : List Ve) : Prop where
  blk : Blk w p [.slice g l.length d, .map (some r)] 88
  own : w.ownsRow 0 38 5 (.slice g l.length d) l.length (vcs l)
  mp : ∃ es clock, w.heap[r]? = some (.map es clock) ∧ MapIs es (kvs l)
  vok : ∀ e ∈ l, Vok w e
  nb : ∀ e ∈ l, i64B e.x.c ∧ i64B e.x.n
  inj : ∀ (i j : Nat) (e f : Ve), l[i]? = some e → l[j]? = some f → e.x.c = f.x.c → e.x.n = f.x.n → i = j
  apart : ∀ e ∈ l, e.x.reads ≠ [] → ∀ q, e.a = some q → q.block ≠ p ∧ g.map Addr.block ≠ some q.block
theorem rdxs_ne {l : List Rdx} (h : rdxs l ≠ []) : l ≠ [] := by rintro rfl; exact h rfl
theorem ne_rdxs {l : List Rdx} (h : l ≠ []) : rdxs l ≠ [] := by
  intro h2
  have h3 := rdxs_length l
  rw [h2] at h3
  exact h (List.eq_nil_of_length_eq_zero (by simp at h3; omega))
theorem Vok.off {S : Nat → Prop} {w w' : World} {e : Ve} (h : Vok w e) (ho : Off S w w') (hs : ∀ q, e.a = some q → e.x.reads ≠ [] → ¬ S q.block) : Vok w' e :=
  ⟨h.sl.off ho (fun q hq hn => hs q hq (rdxs_ne hn)), h.fits, h.len⟩
section
variable {w w' : World} {p : Nat} {g : Option Addr} {d r : Nat} {l : List Ve}
theorem Bk.off {S : Nat → Prop} (h : Bk w p g d r l) (ho : Off S w w') (hs : ∀ k, BkOwn p g r l k → ¬ S k) : Bk w' p g d r l := by
  obtain ⟨es, clock, h1, h2⟩ := h.mp
  refine ⟨h.blk.off ho (hs _ (.inl rfl)), own_off h.own ho (fun k hk => hs k (.inr (.inl (by rw [own_block_eq'] at hk; exact hk)))), ⟨es, clock, ?_, h2⟩, fun e he => (h.vok e he).off ho (fun q hq hn => hs _ (.inr (.inr (.inr ⟨e, he, hn, by rw [hq]; rfl⟩)))), h.nb, h.inj, h.apart⟩
  rw [ho.block r (Array.getElem?_eq_some_iff.1 h1).1 (hs r (.inr (.inr (.inl rfl))))]; exact h1
theorem Bk.old (h : Bk w p g d r l) (ho : Off Old w w') : Bk w' p g d r l := h.off ho (fun _ _ x => x)
theorem Bk.lt (h : Bk w p g d r l) {k : Nat} (hk : BkOwn p g r l k) : k < w.heap.size := by
  rcases hk with rfl | hk | rfl | ⟨e, he, hn, hk⟩
  · exact h.blk.lt
  · exact own_lt h.own (by rw [own_block_eq']; exact hk)
  · obtain ⟨es, clock, h1, _⟩ := h.mp
    exact (Array.getElem?_eq_some_iff.1 h1).1
  · obtain ⟨q, hq, rfl⟩ := Option.map_eq_some_iff.1 hk
    exact (h.vok e he).sl.lt hq (ne_rdxs hn)
theorem Bk.ne_r (h : Bk w p g d r l) : p ≠ r ∧ g.map Addr.block ≠ some r ∧ ∀ e ∈ l, e.x.reads ≠ [] → ∀ q, e.a = some q → q.block ≠ r := by
  obtain ⟨es, clock, h1, _⟩ := h.mp
  refine ⟨?_, ?_, ?_⟩
  · rintro rfl
    have := h.blk
    unfold Blk at this
    rw [h1] at this; cases this
  · intro hk
    rcases h.own.2 with ⟨h2, _⟩ | ⟨g', cap, cur, h2, _, h3, _⟩
    · injection h2 with h3 _ _
      rw [h3] at hk; cases hk
    · injection h2 with h4 _ _
      rw [h4] at hk
      injection hk with hk
      subst hk
      rw [h1] at h3; cases h3
  · rintro e he hn ⟨b, o, s⟩ hq rfl
    have hs := (h.vok e he).sl
    cases hr : e.x.reads with
    | nil => exact hn hr
    | cons x xs =>
      rw [hr] at hs
      obtain ⟨b', o', e', hc⟩ := hs 0 (.string x.key) rfl
      rw [hq] at e'
      cases e'
      simp only [World.cell?, h1] at hc
      cases hc
theorem kvs_mem {c n : Int} {v : Value} (h : (nmV c n, v) ∈ kvs l) : ∃ (i : Nat) (e : Ve), l[i]? = some e ∧ e.x.c = c ∧ e.x.n = n ∧ v = .int .i64 (i : Nat) := by
  obtain ⟨⟨e, i⟩, h1, h2⟩ := List.mem_map.1 h
  have h3 := List.mem_zipIdx' h1
  injection h2 with h4 h5
  obtain ⟨h6, h7⟩ := nmV_inj h4
  exact ⟨i, e, by rw [h3.2]; simp [h3.1], h6, h7, h5.symm⟩
theorem kvs_of {i : Nat} {e : Ve} (h : l[i]? = some e) : (nmV e.x.c e.x.n, Value.int .i64 (i : Nat)) ∈ kvs l := by
  refine List.mem_map.2 ⟨(e, i), ?_, rfl⟩
  exact List.mk_mem_zipIdx_iff_getElem?.2 h
theorem kvs_snoc (l : List Ve) (e : Ve) : kvs (l ++ [e]) = kvs l ++ [(nmV e.x.c e.x.n, .int .i64 (l.length : Nat))] := by
  simp [kvs, List.zipIdx_append]
theorem Bk.keys (h : Bk w p g d r l) : ∀ q ∈ kvs l, ∃ c n, q.1 = nmV c n ∧ i64B c ∧ i64B n := by
  intro q hq
  obtain ⟨⟨e, i⟩, h1, rfl⟩ := List.mem_map.1 hq
  have h3 := List.mem_zipIdx' h1
  have := h.nb e (by rw [h3.2]; exact List.getElem_mem _)
  exact ⟨_, _, rfl, this.1, this.2⟩
/-- a name that is there; one that is not. -/
theorem Bk.yes (h : Bk w p g d r l) {i : Nat} {e : Ve} (hi : l[i]? = some e) : (Instr.lookup 84 (.map (some r)) (nmV e.x.c e.x.n) true).run Try.prog w = .ok (.tuple #[.int .i64 (i : Nat), .bool true]) w := by
  obtain ⟨es, clock, h1, h2⟩ := h.mp
  have hb := h.nb e (List.mem_of_getElem? hi)
  refine look_yes Try.underlying84 h1 h2 h.keys hb.1 hb.2 (kvs_of hi) (fun u hu => ?_)
  obtain ⟨j, f, h3, h4, h5, rfl⟩ := kvs_mem hu
  rw [h.inj j i f e h3 hi h4 h5]
theorem Bk.no (h : Bk w p g d r l) {c n : Int} (hc : i64B c) (hn : i64B n) (hno : ∀ e ∈ l, ¬ (e.x.c = c ∧ e.x.n = n)) : (Instr.lookup 84 (.map (some r)) (nmV c n) true).run Try.prog w = .ok (.tuple #[.int .i64 0, .bool false]) w := by
  obtain ⟨es, clock, h1, h2⟩ := h.mp
  refine look_no Try.underlying84 (z := .int .i64 0) (fun _ => by kernel_rfl) h1 h2 h.keys hc hn (fun u hu => ?_)
  obtain ⟨j, f, h3, h4, h5, _⟩ := kvs_mem hu
  exact hno f (List.mem_of_getElem? h3) ⟨h4, h5⟩
end
theorem new_c (w : World) (R : Ending → World → Prop) (k : ∀ w' p r, Bk w' p none 0 r [] → Off Old w w' → w.heap.size ≤ p → w.heap.size ≤ r → R (.returned (.pointer (some ⟨p, 0, none⟩))) w') :
    Calls Try.prog 8 #[] w R := by
  have HK := Lib.hid k; clear k
  have hbk : Bk ((w.alloc (.map #[] 0)).alloc (.cells #[.slice none 0 0, .map (some w.heap.size)] 88)) (w.heap.size + 1) none 0 w.heap.size [] := by
    refine ⟨?_, World.ownsRow_nil _ _ _ _, ⟨#[], 0, ?_, rfl⟩, by simp, by simp, by simp, by simp⟩
    · have := Blk.new (w.alloc (.map #[] 0)) #[.slice none 0 0, .map (some w.heap.size)] 88
      rwa [World.size_alloc] at this
    · rw [Below.heap_alloc _ _ _ (by simp)]
      exact heap_alloc_new w _
  have HF := HK.out _ _ _ hbk (((Off.refl Old w).alloc _).alloc _) (by omega) (by omega)
  clear HK hbk
  have hmm := @run_makeMap Try.prog
  go_enter Try.func8, Try.ntmps8
  go_wp2_with fail
  exact HF
set_option maxRecDepth 100000 in
theorem bknown_c (p : Nat) (g : Option Addr) (d r : Nat) (l : List Ve) (w : World) (h : Bk w p g d r l) (R : Ending → World → Prop) (k : R (.returned (.bool true)) w) :
    Calls Try.prog 37 #[.pointer (some ⟨p, 0, none⟩)] w R := by
  have c1 := h.blk.cell (i := 1) rfl
  have hnm := fun (w : World) (r : Option Nat) => run_neq_map_nil (P := Try.prog) w 84 35 3 r Try.underlying84
  go_enter Try.func37, Try.ntmps37
  go_wp2_with fail
  exact k
theorem Blk.new2 (w : World) (o : Obj) (c : Array Value) (t : TypeId) : Blk ((w.alloc o).alloc (.cells c t)) (w.heap.size + 1) c.toList t := by
  have := Blk.new (w.alloc o) c t
  rwa [World.size_alloc] at this
theorem Blk.set5 {w : World} {b : Nat} {t : TypeId} {x0 x1 x2 x3 x4 : Value} (h : Blk w b [x0, x1, x2, x3, x4] t) (v0 v1 v2 v3 v4 : Value) :
    Blk (((((w.setCell ⟨b, 0, none⟩ v0).setCell ⟨b, 1, none⟩ v1).setCell ⟨b, 2, none⟩ v2).setCell ⟨b, 3, none⟩ v3).setCell ⟨b, 4, none⟩ v4) b [v0, v1, v2, v3, v4] t := ((((h.set 0 v0).set 1 v1).set 2 v2).set 3 v3).set 4 v4
theorem Off.set5 {S : Nat → Prop} {a w : World} {b : Nat} (h : Off S a w) (hb : b < a.heap.size → S b) (v0 v1 v2 v3 v4 : Value) :
    Off S a (((((w.setCell ⟨b, 0, none⟩ v0).setCell ⟨b, 1, none⟩ v1).setCell ⟨b, 2, none⟩ v2).setCell ⟨b, 3, none⟩ v3).setCell ⟨b, 4, none⟩ v4) :=
  ((((h.setCell (p := ⟨b, 0, none⟩) hb v0).setCell (p := ⟨b, 1, none⟩) hb v1).setCell (p := ⟨b, 2, none⟩) hb v2).setCell (p := ⟨b, 3, none⟩) hb v3).setCell (p := ⟨b, 4, none⟩) hb v4
set_option maxRecDepth 100000 in
/-- a verdict in memory of its own. -/
theorem copied_c (e : Ve) (m : Nat) (hm : Hid (e.x.reads.length = m)) (w : World) (h : Vok w e) (R : Ending → World → Prop)
    (k : ∀ w' a' d', Vok w' ⟨e.x, a', d'⟩ → Off Old w w' → (∀ q, a' = some q → w.heap.size ≤ q.block) → R (.returned (.agg #[.int .i64 e.x.c, .int .i64 e.x.n, .bool e.x.commit, .int .i64 e.x.at_, .slice a' m d'])) w') :
    Calls Try.prog 44 #[.agg #[.int .i64 e.x.c, .int .i64 e.x.n, .bool e.x.commit, .int .i64 e.x.at_, .slice e.a m e.cap]] w R := by
  have HK := Lib.hid k; clear k
  have hl := h.len
  rw [hm.out] at hl
  go_enter Try.func44, Try.ntmps44
  go_wp2_with (go_at_call 71; go_must (refine cloneReads_c e.a m e.cap e.x.reads _ hm.out ((h.sl.alloc _).alloc _) hl _ ?_))
  intro w1 a1 d1 hown ho1 hfr
  have hb1 := ((Blk.new w #[.int .i64 e.x.c, .int .i64 e.x.n, .bool e.x.commit, .int .i64 e.x.at_, .slice e.a m e.cap] 38).alloc (.cells #[.int .i64 0, .int .i64 0, .bool false, .int .i64 0, .slice none 0 0] 38)).old ho1
  have hb2 := (Blk.new2 w (.cells #[.int .i64 e.x.c, .int .i64 e.x.n, .bool e.x.commit, .int .i64 e.x.at_, .slice e.a m e.cap] 38) #[.int .i64 0, .int .i64 0, .bool false, .int .i64 0, .slice none 0 0] 38).old ho1
  have c10 := hb1.cell (i := 0) rfl
  have c11 := hb1.cell (i := 1) rfl
  have c12 := hb1.cell (i := 2) rfl
  have c13 := hb1.cell (i := 3) rfl
  have c14 := hb1.cell (i := 4) rfl
  have c20 := hb2.cell (i := 0) rfl
  have c21 := hb2.cell (i := 1) rfl
  have c22 := hb2.cell (i := 2) rfl
  have c23 := hb2.cell (i := 3) rfl
  have c24 := hb2.cell (i := 4) rfl
  have f1 := hb1.free
  have f2 := hb2.free
  have ho : Off Old w w1 := (((Off.refl Old w).alloc _).alloc _).trans ho1
  have HB2 := Lib.hid hb2
  have HO1 := Lib.hid ho1
  clear hb1 hb2 ho1
  have hfin := Lib.hid ((HB2.out.far (p := ⟨w.heap.size, 4, none⟩) (by simp) (.slice a1 m d1)).set5 (.int .i64 e.x.c) (.int .i64 e.x.n) (.bool e.x.commit) (.int .i64 e.x.at_) (.slice a1 m d1))
  have hoff := Lib.hid ((ho.setCell (p := ⟨w.heap.size, 4, none⟩) (by simp) (.slice a1 m d1)).set5 (b := w.heap.size + 1) (by intro h; omega) (.int .i64 e.x.c) (.int .i64 e.x.n) (.bool e.x.commit) (.int .i64 e.x.at_) (.slice a1 m d1))
  have hstep := Lib.hid (((Off.refl (fun k => k = w.heap.size ∨ k = w.heap.size + 1) w1).setCell (p := ⟨w.heap.size, 4, none⟩) (fun _ => .inl rfl) (.slice a1 m d1)).set5 (b := w.heap.size + 1) (fun _ => .inr rfl) (.int .i64 e.x.c) (.int .i64 e.x.n) (.bool e.x.commit) (.int .i64 e.x.at_) (.slice a1 m d1))
  go_wp2_with fail
  have hs2 := (own_sl2 hown).2.2.off hstep.out (fun q hq _ h => by have := hfr q hq; rcases h with h | h <;> omega)
  have HF := HK.out _ a1 d1 ⟨hs2, h.fits, h.len⟩ hoff.out (fun q hq => by have := hfr q hq; omega)
  exact bodyPost_ret (v := .agg #[.int .i64 e.x.c, .int .i64 e.x.n, .bool e.x.commit, .int .i64 e.x.at_, .slice a1 m d1]) (by simp [results, Try.results44, go_sem, hfin.out.cell (i := 0) rfl, hfin.out.cell (i := 1) rfl, hfin.out.cell (i := 2) rfl, hfin.out.cell (i := 3) rfl, hfin.out.cell (i := 4) rfl]) rfl HF
end Go.Proofs.Ytahpfcfecghpmaa
