/- Books by what they hold: calls whose outcome has a name of its own. -/
import Derived.Test.YtahpfcfecghpmaaFour
namespace Go.Proofs.Ytahpfcfecghpmaa
open Go.RowKit

def i64V (x : Vd) : Prop := i64B x.c ∧ i64B x.n ∧ i64B x.at_
theorem bkDecide_v (p : Nat) (X : List Vd) (O : Own) (x : Vd) (a : Option Addr) (m c : Nat) (Y : Vd) (E : Int) (X2 : List Vd) (hY : Hid (decV X x = Y)) (hE : Hid (decE X x = E)) (hX2 : Hid ((dec X x).2 = X2)) (hm : Hid (x.reads.length = m)) (w : World) (h : BkH w p X O) (he : Vok w ⟨x, a, c⟩) (hi : i64V x)
    (hap : x.reads ≠ [] → ∀ q, a = some q → ¬ O q.block) (hln : X.length ≤ 1000000) (R : Ending → World → Prop)
    (k : ∀ w' a' m' c', BkH w' p X2 (O.grow w.heap.size w'.heap.size) → Vok w' ⟨Y, a', c'⟩ → Hid (Y.reads.length = m') → Off O w w' → (∀ q, a' = some q → w.heap.size ≤ q.block) →
      R (.returned (.tuple #[.agg #[.int .i64 Y.c, .int .i64 Y.n, .bool Y.commit, .int .i64 Y.at_, .slice a' m' c'], .int .i64 E])) w') :
    Calls Try.prog 15 #[.pointer (some ⟨p, 0, none⟩), .agg #[.int .i64 x.c, .int .i64 x.n, .bool x.commit, .int .i64 x.at_, .slice a m c]] w R := by
  obtain rfl := hY.out; obtain rfl := hE.out; obtain rfl := hX2.out
  exact bkDecide_h p X O ⟨x, a, c⟩ m hm w h he ⟨hi.1, hi.2.1⟩ hi.2.2 hap hln R (fun w' a' m' c' h1 h2 h3 ho h4 => k w' a' m' c' h1 h2 h3 ho h4)
theorem rDecide_v (p : Nat) (X : List Vd) (O : Own) (x : Vd) (a : Option Addr) (m c : Nat) (Y : Vd) (E : Int) (X2 : List Vd) (hY : Hid (decV X x = Y)) (hE : Hid (decE X x = E)) (hX2 : Hid ((dec X x).2 = X2)) (hm : Hid (x.reads.length = m)) (w : World) (h : RbH w p X O) (he : Vok w ⟨x, a, c⟩) (hi : i64V x)
    (hap : x.reads ≠ [] → ∀ q, a = some q → ¬ O q.block) (hln : X.length ≤ 1000000) (R : Ending → World → Prop)
    (k : ∀ w' a' m' c', RbH w' p X2 (O.grow w.heap.size w'.heap.size) → Vok w' ⟨Y, a', c'⟩ → Hid (Y.reads.length = m') → Off O w w' → (∀ q, a' = some q → w.heap.size ≤ q.block) →
      R (.returned (.tuple #[.agg #[.int .i64 Y.c, .int .i64 Y.n, .bool Y.commit, .int .i64 Y.at_, .slice a' m' c'], .int .i64 E])) w') :
    Calls Try.prog 16 #[.pointer (some ⟨p, 0, none⟩), .agg #[.int .i64 x.c, .int .i64 x.n, .bool x.commit, .int .i64 x.at_, .slice a m c]] w R := by
  obtain rfl := hY.out; obtain rfl := hE.out; obtain rfl := hX2.out
  exact rDecide_h p X O ⟨x, a, c⟩ m hm w h he hi.2.2 hap hln R (fun w' a' m' c' h1 h2 h3 ho h4 => k w' a' m' c' h1 h2 h3 ho h4)
theorem bkOf_v (p : Nat) (X : List Vd) (O : Own) (x : Vd) (Y : Vd) (B : Bool) (hY : Hid (hasV X x = Y)) (hB : Hid (hasB X x = B)) (w : World) (h : BkH w p X O) (hi : i64V x) (R : Ending → World → Prop)
    (k : ∀ w' a' m' c', Vok w' ⟨Y, a', c'⟩ → Hid (Y.reads.length = m') → Off Old w w' → (∀ q, a' = some q → w.heap.size ≤ q.block) →
      R (.returned (.tuple #[.agg #[.int .i64 Y.c, .int .i64 Y.n, .bool Y.commit, .int .i64 Y.at_, .slice a' m' c'], .bool B])) w') :
    Calls Try.prog 22 #[.pointer (some ⟨p, 0, none⟩), .agg #[.int .i64 x.c, .int .i64 x.n]] w R := by
  obtain rfl := hY.out; obtain rfl := hB.out
  exact bkOf_h p X O x w h hi.1 hi.2.1 R (fun w' a' m' c' h1 h2 ho h4 => k w' a' m' c' h1 h2 ho h4)
theorem rOf_v (p : Nat) (X : List Vd) (O : Own) (x : Vd) (Y : Vd) (B : Bool) (hY : Hid (hasV X x = Y)) (hB : Hid (hasB X x = B)) (w : World) (h : RbH w p X O) (hln : X.length ≤ 1000000) (R : Ending → World → Prop)
    (k : ∀ w' a' m' c', Vok w' ⟨Y, a', c'⟩ → Hid (Y.reads.length = m') → Off Old w w' → (∀ q, a' = some q → w.heap.size ≤ q.block) →
      R (.returned (.tuple #[.agg #[.int .i64 Y.c, .int .i64 Y.n, .bool Y.commit, .int .i64 Y.at_, .slice a' m' c'], .bool B])) w') :
    Calls Try.prog 23 #[.pointer (some ⟨p, 0, none⟩), .agg #[.int .i64 x.c, .int .i64 x.n]] w R := by
  obtain rfl := hY.out; obtain rfl := hB.out
  exact rOf_h p X O x w h hln R (fun w' a' m' c' h1 h2 ho h4 => k w' a' m' c' h1 h2 ho h4)
theorem turned_v (x : Vd) (a : Option Addr) (m c : Nat) (w : World) (R : Ending → World → Prop) (k : ∀ w', Off Old w w' → R (.returned (.agg #[.int .i64 x.c, .int .i64 x.n, .bool x.commit, .int .i64 x.at_, .slice a m c])) w') :
    Calls Try.prog 14 #[.agg #[.int .i64 x.c, .int .i64 x.n, .bool x.commit, .int .i64 x.at_, .slice a m c]] w R := turned_c x a m c w R k
theorem rRight_v (x : Vd) (a : Option Addr) (m c : Nat) (V : Bool) (hV : Hid (x.ok = V)) (hm : Hid (x.reads.length = m)) (w : World) (h : Vok w ⟨x, a, c⟩) (R : Ending → World → Prop) (k : ∀ w', Off Old w w' → R (.returned (.bool V)) w') :
    Calls Try.prog 13 #[.agg #[.int .i64 x.c, .int .i64 x.n, .bool x.commit, .int .i64 x.at_, .slice a m c]] w R := by
  obtain rfl := hV.out
  exact rRight_c ⟨x, a, c⟩ m hm w h R k
theorem right_v (x : Vd) (a : Option Addr) (m c : Nat) (V : Bool) (hV : Hid (x.ok = V)) (hm : Hid (x.reads.length = m)) (w w0 : World) (n : Nat) (hz : Hid (w0.heap.size = n)) (hw : w = w0.alloc (.cells #[.int .i64 x.c, .int .i64 x.n, .bool x.commit, .int .i64 x.at_, .slice a m c] 38)) (h : Vok w0 ⟨x, a, c⟩) (R : Ending → World → Prop) (k : ∀ w', Off Old w w' → R (.returned (.bool V)) w') :
    Calls Try.prog 19 #[.slice (some ⟨n, 0, none⟩) 1 1] w R := by
  obtain rfl := hV.out
  exact right_one ⟨x, a, c⟩ m hm w w0 n hz hw h R k
/-- the lent row holds the reads. -/
theorem lent_vok {w w0 : World} {g : Nat} {x : Vd} {a : Option Addr} {c cap : Nat} (h : Blk w g (rdxs x.reads ++ rdxs (marksRdx 1 12)) 83) (h0 : Vok w0 ⟨x, a, c⟩) : Vok w ⟨x, some ⟨g, 0, none⟩, cap⟩ := by
  refine ⟨?_, h0.fits, h0.len⟩
  have h1 := (blk_sl h).take (rdxs x.reads).length
  rwa [List.take_left'] at h1
  rfl
/-- what is told of a verdict lies apart from a book. -/
theorem vok_far {w w' : World} {n : Nat} {x : Vd} {a : Option Addr} {c : Nat} {O : Own} (h : Vok w ⟨x, a, c⟩) (ho : Off O w w') (hn : ∀ q, a = some q → n ≤ q.block) (hO : ∀ k, O k → k < n) : Vok w' ⟨x, a, c⟩ :=
  h.off ho (fun q hq _ hk => by have := hn q hq; have := hO _ hk; omega)
theorem putRds_len : ∀ (l : List Rdx) (s : Bool × List UInt8), (l.foldl putRd s).2.length ≤ s.2.length + costRds l
  | [], s => by simp [costRds]
  | y :: l, s => by
    have h1 := putRds_len l (putRd s y)
    have h2 := putRd_len s y
    simp only [List.foldl_cons, costRds, List.map_cons, List.sum_cons] at h1 ⊢
    omega
theorem putVds_len : ∀ (l : List Vd) (s : Bool × List UInt8), (l.foldl putVd s).2.length ≤ s.2.length + costVds l
  | [], s => by simp [costVds]
  | y :: l, s => by
    have h1 := putVds_len l (putVd s y)
    have h2 := putRds_len y.reads (putVh s y)
    have h3 := putVh_len s y
    have h4 : putVd s y = y.reads.foldl putRd (putVh s y) := rfl
    rw [← h4] at h2
    simp only [List.foldl_cons, costVds, costVd, List.map_cons, List.sum_cons] at h1 ⊢
    omega
theorem encBk_len (l : List Vd) (h : ∀ x ∈ l, x.ok = true) (hl : l.length ≤ 1000) : (encBk l).length ≤ 1000000 := by
  have h1 := putBk_ok l h (by omega)
  have h2 := putVds_len l (putNums (false, []) [(l.length : Int)])
  have h3 := putNums_len [(l.length : Int)] (false, [])
  have h4 := cost_vds l h
  have h5 : (putBk (false, []) l).2 = encBk l := by rw [h1]
  rw [← h5]
  unfold putBk
  simp only [List.length_cons, List.length_nil] at h3
  omega
theorem allV_nil' (l : List Vd) : allV [] l = l := by
  unfold allV
  rw [List.filter_eq_self]
  intro x _
  rfl
theorem allV_le (cs : List Bool) (l : List Vd) : (allV cs l).length ≤ l.length := List.length_filter_le _ _
theorem map_len {l : List Ve} {X : List Vd} {n : Nat} (h : l.map Ve.x = X) (hn : l.length = n) : n = X.length := by subst h; simp [hn]
end Go.Proofs.Ytahpfcfecghpmaa
