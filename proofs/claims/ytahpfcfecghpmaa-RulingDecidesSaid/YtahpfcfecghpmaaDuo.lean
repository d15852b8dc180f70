/- Books by what they hold and by the blocks that are theirs: each call in that form. -/
import Derived.Test.YtahpfcfecghpmaaBook6
import Derived.Test.YtahpfcfecghpmaaBook7
import Derived.Test.YtahpfcfecghpmaaRefB4
import Derived.Test.YtahpfcfecghpmaaBytes19
import Derived.Test.YtahpfcfecghpmaaAwake19
import Derived.KernelRfl
namespace Go.Proofs.Ytahpfcfecghpmaa
open Go.RowKit
set_option linter.unusedSimpArgs false

abbrev Own := Nat → Prop
/-- a book of the program's at p that holds X; its blocks are O. -/
def BkH (w : World) (p : Nat) (X : List Vd) (O : Own) : Prop := ∃ g d r l, Bk w p g d r l ∧ l.map Ve.x = X ∧ ∀ k, BkOwn p g r l k → O k ∧ k < w.heap.size
def RbH (w : World) (q : Nat) (X : List Vd) (O : Own) : Prop := ∃ g d l, RBk w q g d l ∧ l.map Ve.x = X ∧ ∀ k, RbOwn q g l k → O k ∧ k < w.heap.size
/-- what is there, and new blocks. -/
def Own.grow (O : Own) (n m : Nat) : Own := fun k => O k ∨ (n ≤ k ∧ k < m)
section
variable {w w' : World} {p q : Nat} {X : List Vd} {O O' S : Own}
theorem BkH.off (h : BkH w p X O) (ho : Off S w w') (hs : ∀ k, O k → k < w.heap.size → ¬ S k) : BkH w' p X O := by
  obtain ⟨g, d, r, l, h1, h2, h3⟩ := h
  exact ⟨g, d, r, l, h1.off ho (fun k hk => hs k (h3 k hk).1 (h3 k hk).2), h2, fun k hk => ⟨(h3 k hk).1, by have := (h3 k hk).2; have := ho.size; omega⟩⟩
theorem RbH.off (h : RbH w q X O) (ho : Off S w w') (hs : ∀ k, O k → k < w.heap.size → ¬ S k) : RbH w' q X O := by
  obtain ⟨g, d, l, h1, h2, h3⟩ := h
  exact ⟨g, d, l, h1.off ho (fun k hk => hs k (h3 k hk).1 (h3 k hk).2), h2, fun k hk => ⟨(h3 k hk).1, by have := (h3 k hk).2; have := ho.size; omega⟩⟩
theorem BkH.old (h : BkH w p X O) (ho : Off Old w w') : BkH w' p X O := h.off ho (fun _ _ _ x => x)
theorem RbH.old (h : RbH w q X O) (ho : Off Old w w') : RbH w' q X O := h.off ho (fun _ _ _ x => x)
theorem RbH.cell (h : RbH w q X O) : ∃ g d, w.cell? ⟨q, 0, none⟩ = some (.slice g X.length d) := by
  obtain ⟨g, d, l, h1, rfl, _⟩ := h
  exact ⟨g, d, by have := h1.blk.cell (i := 0) rfl; simpa using this⟩
theorem BkH.self (h : BkH w p X O) : O p ∧ p < w.heap.size := by
  obtain ⟨g, d, r, l, _, _, h3⟩ := h; exact h3 p (.inl rfl)
end
theorem new_h (w : World) (R : Ending → World → Prop) (k : ∀ w' p, BkH w' p [] (Own.grow (fun _ => False) w.heap.size w'.heap.size) → Off Old w w' → R (.returned (.pointer (some ⟨p, 0, none⟩))) w') :
    Calls Try.prog 8 #[] w R :=
  new_c w R (fun w' p r h ho h1 h2 => k w' p ⟨none, 0, r, [], h, rfl, fun k hk => ⟨.inr ⟨(by
    rcases hk with rfl | hk | rfl | ⟨e, he, _⟩
    · exact h1
    · cases hk
    · exact h2
    · cases he), h.lt hk⟩, h.lt hk⟩⟩ ho)
theorem bkCopy_h (p : Nat) (X : List Vd) (O : Own) (w : World) (h : BkH w p X O) (hln : X.length ≤ 1000000) (R : Ending → World → Prop)
    (k : ∀ w' q, BkH w' q X (Own.grow (fun _ => False) w.heap.size w'.heap.size) → Off Old w w' → R (.returned (.pointer (some ⟨q, 0, none⟩))) w') :
    Calls Try.prog 10 #[.pointer (some ⟨p, 0, none⟩)] w R := by
  obtain ⟨g, d, r, l, h1, rfl, _⟩ := h
  exact bkCopy_c p g d r l w h1 (by simpa using hln) R (fun w' q g' d' r' l' h2 h3 ho h4 => k w' q ⟨g', d', r', l', h2, h3.out, fun k hk => ⟨.inr ⟨h4 k hk, h2.lt hk⟩, h2.lt hk⟩⟩ ho)
theorem rbCopy_h (p : Nat) (X : List Vd) (O : Own) (w : World) (h : RbH w p X O) (hln : X.length ≤ 1000000) (R : Ending → World → Prop)
    (k : ∀ w' q, RbH w' q X (Own.grow (fun _ => False) w.heap.size w'.heap.size) → Off Old w w' → R (.returned (.pointer (some ⟨q, 0, none⟩))) w') :
    Calls Try.prog 11 #[.pointer (some ⟨p, 0, none⟩)] w R := by
  obtain ⟨g, d, l, h1, rfl, _⟩ := h
  exact rbCopy_c p g d l w h1 (by simpa using hln) R (fun w' q g' d' l' h2 h3 ho h4 => k w' q ⟨g', d', l', h2, h3.out, fun k hk => ⟨.inr ⟨h4 k hk, h2.lt hk⟩, h2.lt hk⟩⟩ ho)
theorem bkDecide_h (p : Nat) (X : List Vd) (O : Own) (e : Ve) (m : Nat) (hm : Hid (e.x.reads.length = m)) (w : World) (h : BkH w p X O) (he : Vok w e) (hb : i64B e.x.c ∧ i64B e.x.n) (hat : i64B e.x.at_) (hap : e.x.reads ≠ [] → ∀ q, e.a = some q → ¬ O q.block) (hln : X.length ≤ 1000000) (R : Ending → World → Prop)
    (k : ∀ w' a' m' c', BkH w' p (dec X e.x).2 (O.grow w.heap.size w'.heap.size) → Vok w' ⟨decV X e.x, a', c'⟩ → Hid ((decV X e.x).reads.length = m') → Off O w w' → (∀ q, a' = some q → w.heap.size ≤ q.block) →
      R (.returned (.tuple #[vdV (decV X e.x) a' m' c', .int .i64 (decE X e.x)])) w') :
    Calls Try.prog 15 #[.pointer (some ⟨p, 0, none⟩), .agg #[.int .i64 e.x.c, .int .i64 e.x.n, .bool e.x.commit, .int .i64 e.x.at_, .slice e.a m e.cap]] w R := by
  obtain ⟨g, d, r, l, h1, rfl, h3⟩ := h
  have hsub : ∀ k, BkS p g r k → BkOwn p g r l k := fun k hk => by
    rcases hk with hk | hk | hk
    · exact .inl hk
    · exact .inr (.inl hk)
    · exact .inr (.inr (.inl hk))
  refine bkDecide_c p g d r l e m hm w h1 he hb hat (fun hne q hq hk => hap hne q hq (h3 _ (hsub _ hk)).1) (by simpa using hln) R ?_
  intro w' g' d' l' a' m' c' hB hl hv hm' ho hmg hfr hfrl
  refine k w' a' m' c' ⟨g', d', r, l', hB, hl.out, fun k hk => ⟨?_, hB.lt hk⟩⟩ hv hm' (ho.mono (fun k hk _ => (h3 k (hsub k hk)).1)) hfr
  have hlt := hB.lt hk
  rcases hk with rfl | hk | rfl | ⟨f, hf, hn, hk⟩
  · exact .inl (h3 _ (.inl rfl)).1
  · rcases hmg k hk with h4 | h4
    · exact .inl (h3 k (.inr (.inl h4))).1
    · exact .inr ⟨h4, hlt⟩
  · exact .inl (h3 _ (.inr (.inr (.inl rfl)))).1
  · rcases hfrl f hf with h4 | h4
    · exact .inl (h3 k (.inr (.inr (.inr ⟨f, h4, hn, hk⟩)))).1
    · obtain ⟨z, hz, rfl⟩ := Option.map_eq_some_iff.1 hk
      exact .inr ⟨h4 z hz, hlt⟩
theorem rDecide_h (q : Nat) (X : List Vd) (O : Own) (e : Ve) (m : Nat) (hm : Hid (e.x.reads.length = m)) (w : World) (h : RbH w q X O) (he : Vok w e) (hat : i64B e.x.at_) (hap : e.x.reads ≠ [] → ∀ q, e.a = some q → ¬ O q.block) (hln : X.length ≤ 1000000) (R : Ending → World → Prop)
    (k : ∀ w' a' m' c', RbH w' q (dec X e.x).2 (O.grow w.heap.size w'.heap.size) → Vok w' ⟨decV X e.x, a', c'⟩ → Hid ((decV X e.x).reads.length = m') → Off O w w' → (∀ q, a' = some q → w.heap.size ≤ q.block) →
      R (.returned (.tuple #[vdV (decV X e.x) a' m' c', .int .i64 (decE X e.x)])) w') :
    Calls Try.prog 16 #[.pointer (some ⟨q, 0, none⟩), .agg #[.int .i64 e.x.c, .int .i64 e.x.n, .bool e.x.commit, .int .i64 e.x.at_, .slice e.a m e.cap]] w R := by
  obtain ⟨g, d, l, h1, rfl, h3⟩ := h
  have hsub : ∀ k, RbS q g k → RbOwn q g l k := fun k hk => by
    rcases hk with hk | hk
    · exact .inl hk
    · exact .inr (.inl hk)
  refine rDecide_c q g d l e m hm w h1 he (fun hne q hq hk => hap hne q hq (h3 _ (hsub _ hk)).1) hat (by simpa using hln) R ?_
  intro w' g' d' l' a' m' c' hB hl hv hm' ho hmg hfr hfrl
  refine k w' a' m' c' ⟨g', d', l', hB, hl.out, fun k hk => ⟨?_, hB.lt hk⟩⟩ hv hm' (ho.mono (fun k hk _ => (h3 k (hsub k hk)).1)) hfr
  have hlt := hB.lt hk
  rcases hk with rfl | hk | ⟨f, hf, hn, hk⟩
  · exact .inl (h3 _ (.inl rfl)).1
  · rcases hmg k hk with h4 | h4
    · exact .inl (h3 k (.inr (.inl h4))).1
    · exact .inr ⟨h4, hlt⟩
  · rcases hfrl f hf with h4 | h4
    · exact .inl (h3 k (.inr (.inr ⟨f, h4, hn, hk⟩))).1
    · obtain ⟨z, hz, rfl⟩ := Option.map_eq_some_iff.1 hk
      exact .inr ⟨h4 z hz, hlt⟩
theorem bkMany_h (p : Nat) (X : List Vd) (O : Own) (w : World) (h : BkH w p X O) (R : Ending → World → Prop) (k : R (.returned (.int .i64 X.length)) w) :
    Calls Try.prog 20 #[.pointer (some ⟨p, 0, none⟩)] w R := by
  obtain ⟨g, d, r, l, h1, rfl, _⟩ := h
  exact bkMany_c p g d r l w h1 R (by simpa using k)
/-- what a book has of a name. -/
def hasV (X : List Vd) (x : Vd) : Vd := (X.find? (sameName x)).getD zeroVd
def hasB (X : List Vd) (x : Vd) : Bool := (X.find? (sameName x)).isSome
theorem bkOf_h (p : Nat) (X : List Vd) (O : Own) (x : Vd) (w : World) (h : BkH w p X O) (hc : i64B x.c) (hn : i64B x.n) (R : Ending → World → Prop)
    (k : ∀ w' a' m' c', Vok w' ⟨hasV X x, a', c'⟩ → Hid ((hasV X x).reads.length = m') → Off Old w w' → (∀ q, a' = some q → w.heap.size ≤ q.block) → R (.returned (.tuple #[vdV (hasV X x) a' m' c', .bool (hasB X x)])) w') :
    Calls Try.prog 22 #[.pointer (some ⟨p, 0, none⟩), .agg #[.int .i64 x.c, .int .i64 x.n]] w R := by
  obtain ⟨g, d, r, l, h1, rfl, _⟩ := h
  cases hf : (l.map Ve.x).find? (sameName x) with
  | some y =>
    obtain ⟨i, e, h2, rfl, h4, h5⟩ := find_map hf
    refine bkOf_yes p g d r l x.c x.n i e w h1 h2 h4 h5 R (fun w' a' m' c' h6 h7 ho h8 => ?_)
    have := k w' a' m' c'
    unfold hasV hasB at this
    rw [hf] at this
    exact this h6 h7 ho h8
  | none =>
    refine bkOf_no p g d r l x.c x.n w h1 hc hn (find_none hf) R (fun w' ho => ?_)
    have := k w' none 0 0
    unfold hasV hasB at this
    rw [hf] at this
    exact this (zero_vok w') rfl ho (by simp)
theorem rOf_h (q : Nat) (X : List Vd) (O : Own) (x : Vd) (w : World) (h : RbH w q X O) (hln : X.length ≤ 1000000) (R : Ending → World → Prop)
    (k : ∀ w' a' m' c', Vok w' ⟨hasV X x, a', c'⟩ → Hid ((hasV X x).reads.length = m') → Off Old w w' → (∀ q, a' = some q → w.heap.size ≤ q.block) → R (.returned (.tuple #[vdV (hasV X x) a' m' c', .bool (hasB X x)])) w') :
    Calls Try.prog 23 #[.pointer (some ⟨q, 0, none⟩), .agg #[.int .i64 x.c, .int .i64 x.n]] w R := by
  obtain ⟨g, d, l, h1, rfl, _⟩ := h
  refine rOf_c q g d l x w h1 (by simpa using hln) R (fun y hy w' a' m' c' h6 h7 ho h8 => ?_) (fun hn w' ho => ?_)
  · have := k w' a' m' c'
    unfold hasV hasB at this
    rw [show (l.map Ve.x).find? (sameName x) = some y from hy] at this
    exact this h6 h7 ho h8
  · have := k w' none 0 0
    unfold hasV hasB at this
    rw [show (l.map Ve.x).find? (sameName x) = none from hn] at this
    exact this (zero_vok w') rfl ho (by simp)
end Go.Proofs.Ytahpfcfecghpmaa
