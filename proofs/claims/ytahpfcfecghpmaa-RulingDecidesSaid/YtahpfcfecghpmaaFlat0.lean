/- Rows that lie apart, and are written over and grown: the words and plain facts. -/
import Derived.Test.YtahpfcfecghpmaaLib
namespace Go.Proofs.Ytahpfcfecghpmaa
open Go.RowKit

/-- a row: where it lies, its length and room. -/
structure CRow where
  a : Option Addr
  n : Nat
  c : Nat
def CRow.v (r : CRow) : Value := .slice r.a r.n r.c
/-- each row is of its own, and holds so much. -/
def RowsAt (w : World) (e : TypeId) (s : Nat) (rs : List CRow) (F : Nat → List Value) : Prop := ∀ (m : Nat) (r : CRow), rs[m]? = some r → w.ownsRow 0 e s r.v r.n (F m)
def Dist (rs : List CRow) : Prop := ∀ (i j : Nat) (r t : CRow), rs[i]? = some r → rs[j]? = some t → i ≠ j → ∀ k, r.v.ownBlock = some k → t.v.ownBlock ≠ some k
/-- the rows' blocks. -/
def RB (rs : List CRow) (k : Nat) : Prop := ∃ (m : Nat) (r : CRow), rs[m]? = some r ∧ r.v.ownBlock = some k
def upd (F : Nat → List Value) (k : Nat) (x : List Value) : Nat → List Value := fun m => if m = k then x else F m
theorem upd_same (F : Nat → List Value) (k : Nat) (x : List Value) : upd F k x k = x := by simp [upd]
theorem upd_other (F : Nat → List Value) {k m : Nat} (h : m ≠ k) (x : List Value) : upd F k x m = F m := by simp [upd, h]
theorem upd_upd (F : Nat → List Value) (k : Nat) (x y : List Value) : upd (upd F k x) k y = upd F k y := by
  funext m; simp only [upd]; split <;> rfl

section
variable {w w' : World} {e : TypeId} {s : Nat} {rs : List CRow} {F G : Nat → List Value}
theorem RowsAt.off {S : Nat → Prop} (h : RowsAt w e s rs F) (ho : Off S w w') (hs : ∀ k, RB rs k → ¬ S k) : RowsAt w' e s rs F :=
  fun m r hr => own_off (h m r hr) ho (fun k hk => hs k ⟨m, r, hr, hk⟩)
theorem RowsAt.old (h : RowsAt w e s rs F) (ho : Off Old w w') : RowsAt w' e s rs F := h.off ho (fun _ _ x => x)
theorem RowsAt.congr (h : RowsAt w e s rs F) (hf : ∀ m, m < rs.length → F m = G m) : RowsAt w e s rs G := fun m r hr => by
  rw [← hf m (List.getElem?_eq_some_iff.1 hr).1]; exact h m r hr
theorem RowsAt.upd {k : Nat} {r : CRow} {x : List Value} (h : RowsAt w e s rs F) (hd : Dist rs) (hr : rs[k]? = some r) (ho : Off (fun b => r.v.ownBlock = some b) w w') (hx : w'.ownsRow 0 e s r.v r.n x) :
    RowsAt w' e s rs (upd F k x) := fun m t ht => by
  by_cases hm : m = k
  · subst hm
    rw [hr] at ht; cases ht
    rw [upd_same]; exact hx
  · rw [upd_other _ hm]
    exact own_off (h m t ht) ho (fun b hb => fun hr' => hd k m r t hr ht (fun e => hm e.symm) b hr' hb)
theorem RB.of {k b : Nat} {r : CRow} (hr : rs[k]? = some r) (hb : r.v.ownBlock = some b) : RB rs b := ⟨k, r, hr, hb⟩
theorem RowsAt.lt (h : RowsAt w e s rs F) {b : Nat} (hb : RB rs b) : b < w.heap.size := by
  obtain ⟨m, r, hr, hb⟩ := hb
  exact own_lt (h m r hr) hb
end

section
variable {w : World} {e : TypeId} {s : Nat} {a : Option Addr} {n c : Nat} {xs : List Value}
/-- a place of an owned row of single cells. -/
theorem own_cell (h : w.ownsRow 0 e 1 (.slice a n c) n xs) {i : Nat} (hi : i < n) : ∃ g x, a = some ⟨g, 0, none⟩ ∧ xs[i]? = some x ∧ w.cell? ⟨g, i, none⟩ = some x ∧ w.frozen? ⟨g, i, none⟩ = false := by
  have hl : i < xs.length := by have := h.1; omega
  rcases h.2 with ⟨h1, h2⟩ | ⟨g, cap, cur, h1, _, h2, h3, h4, h5, h6⟩
  · omega
  · cases h1
    have hx : xs[i]? = some xs[i] := by simp [hl]
    refine ⟨g, xs[i], rfl, hx, ?_, by simp [World.frozen?, h2]⟩
    have := h.cells (g := g) rfl i _ hx
    rw [Addr.add_lit, Nat.zero_add] at this; exact this
theorem own_set1 {g : Nat} (h : w.ownsRow 0 e 1 (.slice (some ⟨g, 0, none⟩) n c) n xs) {i : Nat} (_ : i < n) (u : Value) : (w.setCell ⟨g, i, none⟩ u).ownsRow 0 e 1 (.slice (some ⟨g, 0, none⟩) n c) n (xs.set i u) := by
  rcases h.2 with ⟨h1, h2⟩ | ⟨g', cap, cur, h1, hb, h2, h3, h4, h5, h6⟩
  · cases h1
  · cases h1
    refine ⟨by rw [List.length_set]; exact h.1, .inr ⟨g, c, cur.setIfInBounds i u, rfl, hb, ?_, h3, h4, by simpa using h5, ?_⟩⟩
    · have hl := (Array.getElem?_eq_some_iff.1 h2).1
      simp only [World.setCell, Array.getElem?_modify, h2, if_true]
      simp
    · rw [Array.toList_setIfInBounds, List.take_set, h6]
theorem own_prefix {n' : Nat} (h : w.ownsRow 0 e s (.slice a n' c) n' xs) (hn : n ≤ n') : w.ownsRow 0 e s (.slice a n c) n (xs.take (n * s)) := by
  refine ⟨?_, ?_⟩
  · rw [List.length_take, h.1]; exact Nat.min_eq_left (Nat.mul_le_mul_right _ hn)
  · rcases h.2 with ⟨h1, h2⟩ | ⟨g, cap, cur, h1, hb, h2, h3, h4, h5, h6⟩
    · cases h1
      obtain rfl : n = 0 := by omega
      exact .inl ⟨rfl, rfl⟩
    · cases h1
      refine .inr ⟨g, c, cur, rfl, hb, h2, by omega, h4, h5, ?_⟩
      rw [← h6, List.take_take, Nat.min_eq_left (Nat.mul_le_mul_right _ hn)]
end

/-- the value's block is none that was there. -/
def fresh (B : Nat) (v : Value) : Prop := ∀ b, v.ownBlock = some b → B ≤ b
/-! ### a row that grows out of one of the rows -/
structure Growing (e : TypeId) (s : Nat) (ws wr : World) (r : CRow) (v : Value) (m : Nat) (xs ys : List Value) : Prop where
  off : Off (fun b => r.v.ownBlock = some b) ws wr
  base : wr.ownsRow 0 e s r.v r.n xs
  own : wr.ownsRow 0 e s v (r.n + m) (xs ++ ys)
  rel : (v = .slice r.a (r.n + m) r.c) ∨ (∀ b, v.ownBlock = some b → ws.heap.size ≤ b)
  lt : ∀ b, r.v.ownBlock = some b → b < ws.heap.size
theorem Growing.start {e : TypeId} {s : Nat} {w : World} {r : CRow} {xs : List Value} (h : w.ownsRow 0 e s r.v r.n xs) : Growing e s w w r r.v 0 xs [] :=
  ⟨Off.refl _ _, h, by simpa using h, .inl rfl, fun b hb => own_lt h hb⟩
theorem Growing.old {e : TypeId} {s : Nat} {ws wr w' : World} {r : CRow} {v : Value} {m : Nat} {xs ys : List Value} (h : Growing e s ws wr r v m xs ys) (ho : Off Old wr w') : Growing e s ws w' r v m xs ys :=
  ⟨h.off.step ho (fun _ x => x.elim), own_off h.base ho (fun _ _ x => x), own_off h.own ho (fun _ _ x => x), h.rel, h.lt⟩
theorem Growing.step {e : TypeId} {s : Nat} {ws wr w' : World} {r : CRow} {v v' : Value} {m j N : Nat} {xs ys zs news : List Value} (h : Growing e s ws wr r v m xs ys) (hN : N = r.n + m + j) (hz : zs = xs ++ ys ++ news)
    (_ : news.length = j * s) (hg : Grew wr w' e s v v' N zs) : Growing e s ws w' r v' (m + j) xs (ys ++ news) := by
  subst hN hz
  have hoff : Off (fun b => r.v.ownBlock = some b) ws w' := h.off.step hg.off (fun i hi hl => by
    rcases h.rel with e | e
    · subst e
      cases hra : r.a with
      | none => rw [hra] at hi; simp [Value.ownBlock] at hi
      | some q => rw [hra] at hi; simpa [CRow.v, hra, Value.ownBlock] using hi
    · have := e i hi; omega)
  refine ⟨hoff, ?_, by have := hg.own; rwa [← List.append_assoc, ← Nat.add_assoc], ?_, h.lt⟩
  · rcases h.rel with e | e
    · obtain ⟨n0, ys', news', e1, e2⟩ := hg.keep
      have hn0 : n0 = r.n + m := by
        rcases e2.2 with ⟨h1, h2⟩ | ⟨g, cap, cur, h1, _⟩
        · rw [e] at h1; injection h1 with _ h1 _; omega
        · rw [e] at h1; injection h1 with _ h1 _; exact h1.symm
      subst hn0
      have hx : ys' = xs ++ ys := by
        have hl1 : ys'.length = (xs ++ ys).length := by rw [e2.1, h.own.1]
        exact (List.append_inj e1.symm hl1).1
      subst hx
      subst e
      have := own_prefix e2 (Nat.le_add_right r.n m)
      rw [← h.base.1, List.take_left] at this
      exact this
    · exact own_off h.base hg.off (fun k hk hv => by have := h.lt k hk; have := e k hv; omega)
  · rcases h.rel with e | e
    · by_cases hs : v'.ownBlock = v.ownBlock
      · obtain ⟨g, n0, c, e1, e2⟩ := hg.same hs
        rw [e] at e1; cases e1
        exact .inl (by rw [e2, Nat.add_assoc])
      · refine .inr fun b hb => ?_
        rcases hg.mov b hb with h1 | h1
        · exact absurd (hb.trans h1.symm) hs
        · exact Nat.le_trans h.off.size h1
    · refine .inr fun b hb => ?_
      rcases hg.mov b hb with h1 | h1
      · exact e b h1
      · exact Nat.le_trans h.off.size h1

/-! ### the grown rows -/
def GsAt (B G : Nat) (w : World) (rs : List CRow) (vs : List Value) (C : Nat → List Value) : Prop :=
  ∀ (m : Nat) (v : Value), vs[m]? = some v → ∃ r g c, rs[m]? = some r ∧ v = .slice g (r.n + 64) c ∧ Sl w g (C m) ∧ ∀ b, v.ownBlock = some b → b < w.heap.size ∧ (r.v.ownBlock = some b ∨ (B ≤ b ∧ b ≠ G))
theorem GsAt.nil (B G : Nat) (w : World) (rs : List CRow) (C : Nat → List Value) : GsAt B G w rs [] C := by intro m v h; simp at h
theorem GsAt.off {B G : Nat} {w w' : World} {rs : List CRow} {vs : List Value} {C : Nat → List Value} {S : Nat → Prop} (h : GsAt B G w rs vs C) (ho : Off S w w')
    (hs : ∀ m r b, m < vs.length → rs[m]? = some r → r.v.ownBlock = some b → ¬ S b) (hs2 : ∀ b, b < w.heap.size → B ≤ b → b ≠ G → ¬ S b) : GsAt B G w' rs vs C := by
  intro m v hv
  obtain ⟨r, g, c, h1, h2, h3, h4⟩ := h m v hv
  refine ⟨r, g, c, h1, h2, h3.off ho (fun p hp hne => ?_), fun b hb => ?_⟩
  · subst hp
    have hb : v.ownBlock = some p.block := by subst h2; rfl
    obtain ⟨h5, h6⟩ := h4 _ hb
    rcases h6 with h6 | ⟨h6, h7⟩
    · exact hs m r _ (List.getElem?_eq_some_iff.1 hv).1 h1 h6
    · exact hs2 _ h5 h6 h7
  · obtain ⟨h5, h6⟩ := h4 b hb
    exact ⟨Nat.lt_of_lt_of_le h5 ho.size, h6⟩
theorem GsAt.snoc {B G : Nat} {w : World} {rs : List CRow} {vs : List Value} {C : Nat → List Value} {r : CRow} {v : Value} {g : Option Addr} {c : Nat} (h : GsAt B G w rs vs C) (hr : rs[vs.length]? = some r) (hv : v = .slice g (r.n + 64) c) (hs : Sl w g (C vs.length))
    (hb : ∀ b, v.ownBlock = some b → b < w.heap.size ∧ (r.v.ownBlock = some b ∨ (B ≤ b ∧ b ≠ G))) : GsAt B G w rs (vs ++ [v]) C := by
  intro m u hu
  by_cases hm : m < vs.length
  · rw [List.getElem?_append_left hm] at hu
    exact h m u hu
  · rw [List.getElem?_append_right (by omega)] at hu
    have : m = vs.length := by
      have := (List.getElem?_eq_some_iff.1 hu).1
      simp at this; omega
    subst this
    simp at hu
    subst hu
    exact ⟨r, g, c, hr, hv, hs, hb⟩
/-- what a row that has grown adds. -/
theorem Growing.gs {e : TypeId} {s : Nat} {B G : Nat} {ws wr : World} {r : CRow} {v : Value} {xs ys : List Value} (h : Growing e s ws wr r v 64 xs ys) (hB : B ≤ G) (hG : G < ws.heap.size) :
    ∃ g c, v = .slice g (r.n + 64) c ∧ Sl wr g (xs ++ ys) ∧ ∀ b, v.ownBlock = some b → b < wr.heap.size ∧ (r.v.ownBlock = some b ∨ (B ≤ b ∧ b ≠ G)) := by
  obtain ⟨g, c, hv, _, hs, _⟩ := own_sl h.own
  refine ⟨g, c, hv, hs, fun b hb => ⟨own_lt h.own hb, ?_⟩⟩
  rcases h.rel with e | e
  · left
    rw [e] at hb
    cases hra : r.a with
    | none => rw [hra] at hb; simp [Value.ownBlock] at hb
    | some q => rw [hra] at hb; simpa [CRow.v, hra, Value.ownBlock] using hb
  · have := e b hb
    exact .inr ⟨by omega, by omega⟩

/-! ### cells one behind the other -/
def mcells (mk : Nat → List Value) (m : Nat) : List Value := (List.range m).flatMap mk
theorem mcells_zero (mk : Nat → List Value) : mcells mk 0 = [] := rfl
theorem mcells_succ (mk : Nat → List Value) (m : Nat) : mcells mk (m + 1) = mcells mk m ++ mk m := by simp [mcells, List.range_succ]
theorem mcells_len {mk : Nat → List Value} {s : Nat} (h : ∀ i, (mk i).length = s) : ∀ m, (mcells mk m).length = m * s
  | 0 => by simp [mcells]
  | m + 1 => by rw [mcells_succ, List.length_append, mcells_len h m, h, Nat.succ_mul]
theorem mcells_at1 (f : Nat → Value) {m i : Nat} (h : i < m) : (mcells (fun i => [f i]) m)[i]? = some (f i) := by
  have : mcells (fun i => [f i]) m = (List.range m).map f := by
    unfold mcells; induction (List.range m) with
    | nil => rfl
    | cons x l ih => simp [ih]
  rw [this]; simp [h]
end Go.Proofs.Ytahpfcfecghpmaa
