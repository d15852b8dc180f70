/- Words of my own for these walks: what a slice holds, what a block holds, what a call leaves alone. -/
import Derived.WalkKit
import Derived.WalkSpells
import Derived.WalkLawsBesides
import Derived.StillTailTactics
import Derived.Deep.QuietTactic
import Derived.BigQuiet
import Derived.Lib.Hide
import Derived.WalkSmall
import Derived.Handy
import Derived.Outline
import Derived.Laws.CopyOwn
import Derived.Laws.AppendOwnNone
import Derived.Deep.LoopGhost
namespace Go.Proofs.Ytahpfcfecghpmaa
open Go.RowKit

theorem ne_nil_of_pos {α : Type} {l : List α} (h : 0 < l.length) : l ≠ [] := by rintro rfl; simp at h

/-! ### draws -/
/-- w' is w but for draws. -/
def Dr (w w' : World) : Prop := ∃ n, w' = w.drewN n
@[simp] theorem Dr.refl (w : World) : Dr w w := ⟨0, rfl⟩
@[simp] theorem Dr.drewN {w w' : World} (h : Dr w w') (n : Nat) : Dr w (w'.drewN n) := by
  obtain ⟨m, rfl⟩ := h; exact ⟨m + n, by simp⟩
@[simp] theorem Dr.drew {w w' : World} (h : Dr w w') : Dr w w'.drew := h.drewN 1

/-! ### what is left alone -/
/-- w' is w but for blocks in S and new ones. -/
structure Off (S : Nat → Prop) (w w' : World) : Prop where
  os : w'.os = w.os
  tape : w'.tape = w.tape
  output : w'.output = w.output
  size : w.heap.size ≤ w'.heap.size
  block : ∀ k, k < w.heap.size → ¬ S k → w'.heap[k]? = w.heap[k]?
/-- none of the old blocks. -/
abbrev Old : Nat → Prop := fun _ => False

@[simp] theorem Off.refl (S : Nat → Prop) (w : World) : Off S w w := ⟨rfl, rfl, rfl, Nat.le_refl _, fun _ _ _ => rfl⟩
theorem Off.trans {S : Nat → Prop} {a b c : World} (h : Off S a b) (k : Off S b c) : Off S a c :=
  ⟨k.os.trans h.os, k.tape.trans h.tape, k.output.trans h.output, Nat.le_trans h.size k.size,
   fun i hi hs => (k.block i (Nat.lt_of_lt_of_le hi h.size) hs).trans (h.block i hi hs)⟩
/-- what is written in the second part may be new in the first. -/
theorem Off.step {S S' : Nat → Prop} {a b c : World} (h : Off S a b) (k : Off S' b c) (hs : ∀ i, S' i → i < a.heap.size → S i) : Off S a c :=
  ⟨k.os.trans h.os, k.tape.trans h.tape, k.output.trans h.output, Nat.le_trans h.size k.size,
   fun i hi hn => (k.block i (Nat.lt_of_lt_of_le hi h.size) (fun hS => hn (hs i hS hi))).trans (h.block i hi hn)⟩
theorem Off.mono {S S' : Nat → Prop} {a b : World} (h : Off S a b) (hs : ∀ i, S i → i < a.heap.size → S' i) : Off S' a b :=
  ⟨h.os, h.tape, h.output, h.size, fun i hi hn => h.block i hi (fun hS => hn (hs i hS hi))⟩
@[simp] theorem Off.drewN {S : Nat → Prop} {a w : World} (h : Off S a w) (n : Nat) : Off S a (w.drewN n) := ⟨h.os, h.tape, h.output, h.size, h.block⟩
@[simp] theorem Off.drew {S : Nat → Prop} {a w : World} (h : Off S a w) : Off S a w.drew := ⟨h.os, h.tape, h.output, h.size, h.block⟩
@[simp] theorem Off.alloc {S : Nat → Prop} {a w : World} (h : Off S a w) (o : Obj) : Off S a (w.alloc o) :=
  h.step (S' := fun _ => False) ⟨rfl, rfl, rfl, by simp, fun k hk _ => Below.heap_alloc _ _ _ hk⟩ (by simp)
theorem Off.setCell {S : Nat → Prop} {a w : World} (h : Off S a w) {p : Addr} (hp : p.block < a.heap.size → S p.block) (u : Value) : Off S a (w.setCell p u) :=
  h.step (S' := fun k => k = p.block) ⟨rfl, rfl, rfl, by simp [World.setCell], fun k _ hk => Below.heap_setCell _ _ _ _ hk⟩ (by rintro i rfl hi; exact hp hi)
theorem Off.grown {S : Nat → Prop} {a w w' : World} {row : Option Nat} (h : Off S a w) (hg : w.grownBy w' row) (hr : ∀ k, row = some k → k < a.heap.size → S k) : Off S a w' :=
  h.step (S' := fun k => row = some k) ⟨hg.os, hg.tape, hg.output, hg.size, fun k hk hn => hg.block k hk (fun e => hn e.symm)⟩ (fun i hi hl => hr i hi hl)
theorem Off.below {w w' : World} (h : Off Old w w') : Below w.heap.size w w' := ⟨h.os, h.tape, h.output, h.size, fun k hk => h.block k hk (fun x => x)⟩
theorem Off.belowB {S : Nat → Prop} {B : Nat} {w w' : World} (h : Off S w w') (hs : ∀ k, k < B → ¬ S k) (hB : B ≤ w.heap.size) : Below B w w' :=
  ⟨h.os, h.tape, h.output, h.size, fun k hk => h.block k (by omega) (hs k hk)⟩
theorem Below.off {S : Nat → Prop} {w w' : World} (h : Below w.heap.size w w') : Off S w w' := ⟨h.os, h.tape, h.output, h.size, fun k hk _ => h.block k hk⟩
theorem Dr.off {S : Nat → Prop} {w w' : World} (h : Dr w w') : Off S w w' := by obtain ⟨n, rfl⟩ := h; simp
theorem Off.cell {S : Nat → Prop} {w w' : World} (h : Off S w w') {p : Addr} (hs : ¬ S p.block) {v : Value} (hc : w.cell? p = some v) : w'.cell? p = some v := by
  rw [World.cell?_of_block (w := w) (h.block p.block (World.block_lt_of_cell? w p hc) hs)]; exact hc

/-! ### blocks -/
/-- block b holds just these cells. -/
def Blk (w : World) (b : Nat) (cs : List Value) (t : TypeId) : Prop := w.heap[b]? = some (.cells cs.toArray t (0, 0))

section
variable {w : World} {b : Nat} {cs : List Value} {t : TypeId}
theorem Blk.lt (h : Blk w b cs t) : b < w.heap.size := (Array.getElem?_eq_some_iff.1 h).1
theorem Blk.cell (h : Blk w b cs t) {i : Nat} {v : Value} (hi : cs[i]? = some v) : w.cell? ⟨b, i, none⟩ = some v := by
  unfold Blk at h; simp only [World.cell?, h]; simpa using hi
theorem Blk.free (h : Blk w b cs t) (i : Nat) : w.frozen? ⟨b, i, none⟩ = false := by
  unfold Blk at h; simp [World.frozen?, h]
theorem Blk.set (h : Blk w b cs t) (i : Nat) (v : Value) : Blk (w.setCell ⟨b, i, none⟩ v) b (cs.set i v) t := by
  have hl := h.lt
  unfold Blk at h ⊢
  simp only [World.setCell, Array.getElem?_modify, h, if_true]
  simp
theorem Blk.far (h : Blk w b cs t) {p : Addr} (hp : p.block ≠ b) (v : Value) : Blk (w.setCell p v) b cs t := by
  unfold Blk at h ⊢; rw [Below.heap_setCell _ _ _ _ (fun e => hp e.symm)]; exact h
@[simp] theorem Blk.drewN (h : Blk w b cs t) (n : Nat) : Blk (w.drewN n) b cs t := h
@[simp] theorem Blk.drew (h : Blk w b cs t) : Blk w.drew b cs t := h
theorem Blk.alloc (h : Blk w b cs t) (o : Obj) : Blk (w.alloc o) b cs t := by
  have hl := h.lt
  unfold Blk at h ⊢; rw [Below.heap_alloc _ _ _ hl]; exact h
theorem Blk.new (w : World) (c : Array Value) (t : TypeId) : Blk (w.alloc (.cells c t)) w.heap.size c.toList t := by
  unfold Blk; simpa using heap_alloc_new w _
theorem Blk.off {S : Nat → Prop} {w' : World} (h : Blk w b cs t) (ho : Off S w w') (hs : ¬ S b) : Blk w' b cs t := by
  have hl := h.lt
  unfold Blk at h ⊢; rw [ho.block b hl hs]; exact h
theorem Blk.ne {b' : Nat} {cs' : List Value} {t' : TypeId} (h : Blk w b cs t) (h' : Blk w b' cs' t') (ht : t ≠ t') : b ≠ b' := by
  rintro rfl
  unfold Blk at h h'; rw [h] at h'
  injection h' with h'; injection h' with _ e _; exact ht e
theorem Blk.inj {cs' : List Value} {t' : TypeId} (h : Blk w b cs t) (h' : Blk w b cs' t') : cs = cs' := by
  unfold Blk at h h'; rw [h] at h'
  injection h' with h'; injection h' with e _ _
  simpa using congrArg Array.toList e
end

/-! ### slices that are read -/
/-- The cells at a slice's address. -/
def Sl (w : World) (a : Option Addr) (cs : List Value) : Prop :=
  ∀ j u, cs[j]? = some u → ∃ b o, a = some ⟨b, o, none⟩ ∧ w.cell? ⟨b, o + j, none⟩ = some u

section
variable {w : World} {a : Option Addr} {cs : List Value}
theorem Sl.nil (w : World) (a : Option Addr) : Sl w a [] := by intro j u h; simp at h
theorem Sl.base (h : Sl w a cs) :
    ∃ b o, (cs ≠ [] → a = some ⟨b, o, none⟩) ∧ ∀ j u, cs[j]? = some u → w.cell? ⟨b, o + j, none⟩ = some u := by
  cases cs with
  | nil => exact ⟨0, 0, by simp, by intro j u h; simp at h⟩
  | cons x xs =>
    obtain ⟨b, o, e, _⟩ := h 0 x rfl
    refine ⟨b, o, fun _ => e, fun j u hu => ?_⟩
    obtain ⟨b', o', e', h'⟩ := h j u hu
    rw [e] at e'
    cases e'
    exact h'
theorem Sl.mk {b o : Nat} (h : ∀ j u, cs[j]? = some u → w.cell? ⟨b, o + j, none⟩ = some u) : Sl w (some ⟨b, o, none⟩) cs :=
  fun j u hu => ⟨b, o, rfl, h j u hu⟩
/-- what is cut off ahead. -/
theorem Sl.drop {b o : Nat} (h : Sl w (some ⟨b, o, none⟩) cs) (m : Nat) : Sl w (some ⟨b, o + m, none⟩) (cs.drop m) := by
  intro j u hu
  rw [List.getElem?_drop] at hu
  obtain ⟨b', o', e, h'⟩ := h _ _ hu
  cases e
  exact ⟨b, o + m, rfl, by rw [Nat.add_assoc]; exact h'⟩
theorem Sl.take (h : Sl w a cs) (m : Nat) : Sl w a (cs.take m) := by
  intro j u hu
  rw [List.getElem?_take] at hu
  split at hu
  · exact h j u hu
  · cases hu
/-- on a later world: no block of the slice has been written. -/
theorem Sl.off {S : Nat → Prop} {w' : World} (h : Sl w a cs) (ho : Off S w w') (hs : ∀ p, a = some p → cs ≠ [] → ¬ S p.block) : Sl w' a cs := by
  intro j u hu
  obtain ⟨b, o, e, h'⟩ := h j u hu
  exact ⟨b, o, e, ho.cell (show ¬ S b from hs _ e (by rintro rfl; simp at hu)) h'⟩
theorem Sl.old {w' : World} (h : Sl w a cs) (ho : Off Old w w') : Sl w' a cs := h.off ho (fun _ _ _ x => x)
@[simp] theorem Sl.drewN (h : Sl w a cs) (n : Nat) : Sl (w.drewN n) a cs := h
@[simp] theorem Sl.drew (h : Sl w a cs) : Sl w.drew a cs := h
theorem Sl.alloc (h : Sl w a cs) (o : Obj) : Sl (w.alloc o) a cs := h.old ((Off.refl _ _).alloc o)
/-- a row that is new. -/
theorem Sl.new (w : World) (cs : List Value) (t : TypeId) : Sl (w.alloc (.cells cs.toArray t)) (some ⟨w.heap.size, 0, none⟩) cs := by
  refine Sl.mk fun j u hu => ?_
  rw [Nat.zero_add]
  exact (Blk.new w cs.toArray t).cell (by simpa using hu)
theorem Sl.new_of (w : World) (c : Array Value) (t : TypeId) (f : Nat × Nat) (cs : List Value) (hc : ∀ (j : Nat) (u : Value), cs[j]? = some u → c[j]? = some u) : Sl (w.alloc (.cells c t f)) (some ⟨w.heap.size, 0, none⟩) cs := by
  refine Sl.mk fun j u hu => ?_
  have h0 : (w.alloc (.cells c t f)).heap[w.heap.size]? = some (.cells c t f) := Go.heap_alloc_new w _
  rw [Nat.zero_add]
  simp only [World.cell?, h0]
  simpa using hc j u hu
theorem Sl.string (w : World) (s : ByteArray) (n : Nat) (t : TypeId) (f : Nat × Nat) : Sl (w.alloc (.cells (bytesRow s n) t f)) (some ⟨w.heap.size, 0, none⟩) (s.data.toList.map fun b => .int .u8 (b.toNat : Int)) := by
  refine Sl.new_of _ _ _ _ _ fun j u hu => ?_
  have hj : j < s.data.size := by
    have := (List.getElem?_eq_some_iff.1 hu).1
    simpa using this
  unfold bytesRow
  rw [Array.getElem?_append_left (by simpa using hj)]
  simpa using hu
theorem Sl.lt (h : Sl w a cs) {p : Addr} (ha : a = some p) (hc : cs ≠ []) : p.block < w.heap.size := by
  obtain ⟨b, o, hb, hcell⟩ := h.base
  have := hb hc; subst ha; cases this
  cases cs with
  | nil => exact absurd rfl hc
  | cons x xs => exact World.block_lt_of_cell? w _ (hcell 0 x rfl)
end

/-- indexing a slice of whatever address. -/
theorem indexAt_any {P : Program} {t e : TypeId} {s : Nat} (ht : P.underlying t = some (.slice e)) (hs : ∀ w, (sizeOf e).run P w = .ok s w)
    {a : Option Addr} {n c b o : Nat} (ha : 0 < n → a = some ⟨b, o, none⟩) (i : Nat) (hi : i < n) (w : World) :
    (Instr.indexAt t (.slice a n c) (.int .i64 (i : Int))).run P w = .ok (.pointer (some ⟨b, o + i * s, none⟩)) w := by
  have ha' := ha (by omega)
  subst ha'
  simp [Instr.indexAt, run_underlying ht, asIntOf, hs, Addr.add]
  by_cases h0 : i * s = 0 <;> simp [h0, hi]

theorem Sl.ix {P : Program} {t e : TypeId} {s : Nat} {w : World} {a : Option Addr} {cs : List Value} {n : Nat} (h : Sl w a cs) (ht : P.underlying t = some (.slice e)) (hs : ∀ w, (sizeOf e).run P w = .ok s w)
    (hn : 0 < n → cs ≠ []) (c : Nat) :
    ∃ b o, (∀ i : Nat, i < n → ∀ w : World, (Instr.indexAt t (.slice a n c) (.int .i64 (i : Int))).run P w = .ok (.pointer (some ⟨b, o + i * s, none⟩)) w) ∧
      Hid (∀ j u, cs[j]? = some u → w.cell? ⟨b, o + j, none⟩ = some u) := by
  obtain ⟨b, o, p, q⟩ := h.base
  exact ⟨b, o, fun i hi w => indexAt_any ht hs (fun h => p (hn h)) i hi w, q⟩
theorem Sl.ix1 {P : Program} {t e : TypeId} {w : World} {a : Option Addr} {cs : List Value} {n : Nat} (h : Sl w a cs) (ht : P.underlying t = some (.slice e)) (hs : ∀ w, (sizeOf e).run P w = .ok 1 w)
    (hn : cs.length = n) (c : Nat) :
    ∃ b o, (∀ i : Nat, i < n → ∀ w : World, (Instr.indexAt t (.slice a n c) (.int .i64 (i : Int))).run P w = .ok (.pointer (some ⟨b, o + i, none⟩)) w) ∧
      Hid (∀ j u, cs[j]? = some u → w.cell? ⟨b, o + j, none⟩ = some u) := by
  obtain ⟨b, o, p, q⟩ := h.ix ht hs (n := n) (by intro h0; subst hn; exact ne_nil_of_pos h0) c
  exact ⟨b, o, by simpa only [Nat.mul_one] using p, q⟩

/-! ### a row of the call's own that grows -/
/-- the block is the old one, or a new one. -/
def Moved (v v' : Value) (n : Nat) : Prop := ∀ k, v'.ownBlock = some k → v.ownBlock = some k ∨ n ≤ k
@[simp] theorem Moved.refl (v : Value) (n : Nat) : Moved v v n := fun _ h => .inl h
theorem Moved.trans {v v' v'' : Value} {n m : Nat} (h : Moved v v' n) (h' : Moved v' v'' m) (hm : n ≤ m) : Moved v v'' n := fun k hk => by
  rcases h' k hk with h1 | h1
  · exact h k h1
  · exact .inr (by omega)

theorem own_alloc' {w : World} {e : TypeId} {size : Nat} {v : Value} {n : Nat} {xs : List Value} (h : w.ownsRow 0 e size v n xs) (o : Obj) : (w.drew.alloc o).ownsRow 0 e size v n xs :=
  World.ownsRow.alloc (w := w.drew) h o
/-- 'append(v, x..)', v a row of one's own, x whatever holds these cells. -/
theorem run_append_sl {P : Program} (w : World) (t ty e : TypeId) (i : TypeInfo) (z : Value) (size bytes : Nat) (ht : P.underlying t = some (.slice e)) (hi : P.info? e = some i) (hz : i.zero = some z)
    (hsize : i.size = size) (hby : i.bytes = bytes) (hzs : z.cells.size = size) (hsz : 0 < size)
    (v : Value) (n : Nat) (xs : List Value) (hown : w.ownsRow 0 e size v n xs)
    (a : Option Addr) (m c : Nat) (news : List Value) (hl : news.length = m * size) (hnews : Sl w a news) (h1 : ∀ u ∈ news, u.oneCell' = true)
    (hbytes : (n + m) * bytes ≤ 140737488355328) (h63 : n + m ≤ 140737488355328) :
    ∃ v' w', (Builtin.append_ #[t, t] ty #[v, .slice a m c]).run P w = .ok v' w' ∧ w'.ownsRow 0 e size v' (n + m) (xs ++ news) ∧ w.grownBy w' v.ownBlock ∧ Moved v v' w.heap.size ∧ (n + m ≠ 0 → ∃ g cap, v' = .slice (some ⟨g, 0, none⟩) (n + m) cap ∧ n + m ≤ cap) ∧ (v'.ownBlock = none → v.ownBlock = none) ∧ (∀ g n0 cap, v = .slice (some ⟨g, 0, none⟩) n0 cap → n + m ≤ cap → v' = .slice (some ⟨g, 0, none⟩) (n + m) cap) ∧
      w'.ownsRow 0 e size v n xs ∧ (v'.ownBlock = v.ownBlock → ∃ g c, v = .slice g n c ∧ v' = .slice g (n + m) c) := by
  subst hsize
  subst hby
  by_cases hm : m = 0
  · subst hm
    have hn : news = [] := List.eq_nil_of_length_eq_zero (by simpa using hl)
    subst hn
    refine ⟨v, w, ?_, by simpa using hown, ⟨rfl, rfl, rfl, Nat.le_refl _, fun _ _ _ => rfl⟩, Moved.refl _ _, ?_, fun h => h, ?_, hown, fun _ => ?_⟩
    · have hf : ∀ w : World, (Builtin.firstCells i.size 0 (.slice a 0 c)).run P w = .ok #[] w := by
        intro w; cases a <;> simp [Builtin.firstCells, loadCells, loadCellsFrom]
      rcases hown.2 with ⟨rfl, rfl⟩ | ⟨g, cap, cur, rfl, hbg, hg, hnc, hcm, hcs, htake⟩
      · simp [Builtin.append_, run_underlying ht, sizeOf, typeInfo, hi, Builtin.lenOf, hf]
      · simp [Builtin.append_, run_underlying ht, sizeOf, typeInfo, hi, Builtin.lenOf, hf, hnc, storeCells]
    · intro hn
      rcases hown.2 with ⟨rfl, rfl⟩ | ⟨g, cap, cur, rfl, hbg, hg, hnc, hcm, hcs, htake⟩
      · exact absurd rfl hn
      · exact ⟨g, cap, rfl, by omega⟩
    · intro g n0 cap hv _
      rcases hown.2 with ⟨h1, _⟩ | ⟨g', cap', cur, h1, hbg, hg, hnc, hcm, hcs, htake⟩
      · rw [h1] at hv; cases hv
      · rw [h1] at hv; cases hv; exact h1
    · rcases hown.2 with ⟨rfl, rfl⟩ | ⟨g, cap, cur, rfl, _⟩
      · exact ⟨none, 0, rfl, rfl⟩
      · exact ⟨_, cap, rfl, rfl⟩
  · have hne : news ≠ [] := by
      rintro rfl
      simp at hl
      have : 0 < m * i.size := Nat.mul_pos (by omega) hsz
      omega
    obtain ⟨b, o, ha, hcell⟩ := hnews.base
    have ha := ha hne
    subst ha
    have hnews' : ∀ j u, news[j]? = some u → w.cell? ((⟨b, o, none⟩ : Addr).add j) = some u := fun j u hu => by rw [Addr.add_lit]; exact hcell j u hu
    have hmax : n + m ≤ maxLen := by unfold maxLen; omega
    have hlen : (xs ++ news).length = (n + m) * i.size := by rw [List.length_append, hown.1, hl, Nat.add_mul]
    have grown : ∀ (old : Nat), old < n + m → ∀ (row : Option Nat),
        (w.drew.alloc (.cells (xs.toArray ++ news.toArray ++ Builtin.zeroCells z.cells (grownCap w (n + m) old e - (n + m))) e)).ownsRow 0 e i.size
          (.slice (some ⟨w.heap.size, 0, none⟩) (n + m) (grownCap w (n + m) old e)) (n + m) (xs ++ news) ∧
        w.grownBy (w.drew.alloc (.cells (xs.toArray ++ news.toArray ++ Builtin.zeroCells z.cells (grownCap w (n + m) old e - (n + m))) e)) row := by
      intro old ho row
      have hge := grownCap_ge w (n + m) old e
      have hcm : grownCap w (n + m) old e ≤ maxLen := grownCap_le_maxLen w (n + m) old e hmax
      refine ⟨⟨hlen, .inr ⟨w.heap.size, _, _, rfl, Nat.zero_le _, Go.heap_alloc_new w.drew _, hge, hcm, ?_, ?_⟩⟩, ⟨rfl, rfl, rfl, by simp, fun k hk _ => Below.heap_alloc w.drew _ k hk⟩⟩
      · simp only [Array.size_append, List.size_toArray, size_zeroCells, hzs, hown.1, hl, ← Nat.add_mul]
        congr 1
        omega
      · simp only [Array.toList_append, List.append_assoc]
        rw [← List.append_assoc, ← hlen]
        exact List.take_left
    have hnew : ∀ v : Value, Moved v (.slice (some ⟨w.heap.size, 0, none⟩) (n + m) (grownCap w (n + m) 0 e)) w.heap.size := by
      intro v k hk; simp [Value.ownBlock] at hk; exact .inr (by omega)
    rcases hown.2 with ⟨rfl, rfl⟩ | ⟨g, cap, cur, rfl, hbg, hg, hnc, hcm, hcs, htake⟩
    · have hx : xs = [] := List.eq_nil_of_length_eq_zero (by simpa using hown.1)
      subst hx
      have hr := run_append_nil (P := P) w t ty e i z ht hi hz ⟨b, o, none⟩ m c news hl hnews' (by omega) (by omega) (by have hb := hbytes; simp only [Nat.zero_add] at hb; omega)
      have hgr := grown 0 (by omega) (Value.ownBlock (.slice none 0 0))
      simp only [Nat.zero_add, List.nil_append, Array.empty_append] at hgr ⊢
      exact ⟨_, _, hr, hgr.1, hgr.2, fun k hk => .inr (by simp [Value.ownBlock] at hk; omega), fun _ => ⟨_, _, rfl, by have := grownCap_ge w m 0 e; omega⟩, fun _ => rfl, fun g n0 cap hv => (by cases hv), World.ownsRow_nil _ _ _ _, fun h => (by simp [Value.ownBlock] at h)⟩
    · by_cases hroom : n + m ≤ cap
      · have hfit : n * i.size + news.length ≤ cur.size := by rw [hl, hcs, ← Nat.add_mul]; exact Nat.mul_le_mul_right _ hroom
        have hr := run_append_room (P := P) w t ty e i ht hi g n cap cur hg ⟨b, o, none⟩ m c news hl hnews' h1 hroom hfit
        refine ⟨_, _, hr, ⟨hlen, .inr ⟨g, cap, _, rfl, Nat.zero_le _, setRow_heap w g cur _ e _ hg, hroom, hcm, ?_, ?_⟩⟩, ⟨rfl, rfl, rfl, by simp, fun k _ hk => setRow_other w g k _ (fun e => hk (by simp [Value.ownBlock, e]))⟩, fun k hk => .inl (by simpa [Value.ownBlock] using hk), fun _ => ⟨_, _, rfl, hroom⟩, fun h => by simp [Value.ownBlock] at h, fun g' n0 cap' hv _ => (by cases hv; rfl), ⟨hown.1, .inr ⟨g, cap, _, rfl, Nat.zero_le _, setRow_heap w g cur _ e _ hg, hnc, hcm, ?_, ?_⟩⟩, fun _ => ⟨_, cap, rfl, rfl⟩⟩
        · simp only [List.size_toArray, List.length_append, List.length_take, List.length_drop, Array.length_toList]
          omega
        · rw [htake, ← hlen]
          exact List.take_left
        · simp only [List.size_toArray, List.length_append, List.length_take, List.length_drop, Array.length_toList]
          omega
        · rw [htake, ← hown.1, List.append_assoc]
          exact List.take_left
      · have holds : ∀ j u, xs[j]? = some u → w.cell? ((⟨g, 0, none⟩ : Addr).add j) = some u := hown.cells (g := g) rfl
        have hr := run_append_grow (P := P) w t ty e i z ht hi hz ⟨g, 0, none⟩ n cap xs hown.1 holds ⟨b, o, none⟩ m c news hl hnews' (by omega) (by omega) (growslice_fits (by omega) hbytes)
        have hgr := grown cap (by omega) (Value.ownBlock (.slice (some ⟨g, 0, none⟩) n cap))
        exact ⟨_, _, hr, hgr.1, hgr.2, fun k hk => .inr (by simp [Value.ownBlock] at hk; omega), fun _ => ⟨_, _, rfl, by have := grownCap_ge w (n + m) cap e; omega⟩, fun h => by simp [Value.ownBlock] at h, fun g' n0 cap' hv hr => (by cases hv; exact absurd hr hroom), own_alloc' hown _, fun h => (by
          have hlt := (Array.getElem?_eq_some_iff.1 hg).1
          simp [Value.ownBlock] at h; omega)⟩

section
variable {w : World} {e : TypeId} {size : Nat} {v : Value} {n : Nat} {xs : List Value}
theorem own_off {S : Nat → Prop} {w' : World} (h : w.ownsRow 0 e size v n xs) (ho : Off S w w') (hs : ∀ k, v.ownBlock = some k → ¬ S k) : w'.ownsRow 0 e size v n xs := by
  refine ⟨h.1, ?_⟩
  rcases h.2 with hn | ⟨g, cap, cur, rfl, hb, hgg, rest⟩
  · exact .inl hn
  · refine .inr ⟨g, cap, cur, rfl, hb, ?_, rest⟩
    rw [ho.block g (Array.getElem?_eq_some_iff.1 hgg).1 (hs g rfl)]
    exact hgg
theorem own_lt (h : w.ownsRow 0 e size v n xs) {k : Nat} (hk : v.ownBlock = some k) : k < w.heap.size := (h.lt k hk).2
/-- an owned row is a slice that can be read. -/
theorem own_sl (h : w.ownsRow 0 e size v n xs) : ∃ a c, v = .slice a n c ∧ n ≤ c ∧ Sl w a xs ∧ (∀ p, a = some p → v.ownBlock = some p.block) := by
  rcases h.2 with ⟨rfl, rfl⟩ | ⟨g, cap, cur, rfl, hb, hgg, hc, hm, hs, ht⟩
  · have : xs = [] := List.eq_nil_of_length_eq_zero (by simpa using h.1)
    subst this
    exact ⟨none, 0, rfl, Nat.le_refl _, Sl.nil _ _, by simp⟩
  · refine ⟨some ⟨g, 0, none⟩, cap, rfl, hc, ?_, by rintro p ⟨rfl⟩; rfl⟩
    refine Sl.mk fun j u hu => ?_
    have := h.cells (g := g) rfl j u hu
    rwa [Addr.add_lit] at this
theorem own_sl2 {a : Option Addr} {c : Nat} (h : w.ownsRow 0 e size (.slice a n c) n xs) : n ≤ c ∧ c ≤ 9223372036854775807 ∧ Sl w a xs := by
  obtain ⟨a', c', hv, hc, hs, _⟩ := own_sl h
  have hm : c ≤ 9223372036854775807 := by
    rcases h.2 with ⟨h1, _⟩ | ⟨g, cap, cur, h1, _, _, _, hm, _⟩
    · cases h1; omega
    · cases h1; unfold maxLen at hm; omega
  cases hv
  exact ⟨hc, hm, hs⟩
theorem own_blk_ne {b : Nat} {cs : List Value} {t : TypeId} (h : w.ownsRow 0 e size v n xs) (hb : Blk w b cs t) (ht : t ≠ e) : v.ownBlock ≠ some b := by
  intro hv
  rcases h.2 with ⟨rfl, rfl⟩ | ⟨g, cap, cur, rfl, _, hgg, _⟩
  · simp [Value.ownBlock] at hv
  · simp [Value.ownBlock] at hv; subst hv
    unfold Blk at hb; rw [hb] at hgg; injection hgg with hgg; injection hgg with _ h2 _; exact ht h2
end

structure Grew (w w' : World) (e : TypeId) (size : Nat) (v v' : Value) (n : Nat) (xs : List Value) : Prop where
  own : w'.ownsRow 0 e size v' n xs
  grown : w.grownBy w' v.ownBlock
  mov : Moved v v' w.heap.size
  shape : n ≠ 0 → ∃ g cap, v' = .slice (some ⟨g, 0, none⟩) n cap ∧ n ≤ cap
  nn : v'.ownBlock = none → v.ownBlock = none
  keep : ∃ n0 ys news, xs = ys ++ news ∧ w'.ownsRow 0 e size v n0 ys
  same : v'.ownBlock = v.ownBlock → ∃ g n0 c, v = .slice g n0 c ∧ v' = .slice g n c
theorem Grew.off {w w' : World} {e : TypeId} {size : Nat} {v v' : Value} {n : Nat} {xs : List Value} (h : Grew w w' e size v v' n xs) : Off (fun k => v.ownBlock = some k) w w' :=
  (Off.refl _ _).grown h.grown (fun _ e _ => e)

theorem wpList_append_sl {P : Program} {w : World} {ops : Array Oper} {rest : List Oper} {o : Oper} {a : Act} {Q : Exit → Act → World → Prop} (hgd : o.guard = none) (s x : Operand) (t : TypeId)
    (ho : o.op = .call { callee := .builtin .append, args := #[s, x], argTypes := #[t, t] })
    (e : TypeId) (i : TypeInfo) (z : Value) (size bytes : Nat) (ht : P.underlying t = some (.slice e)) (hi : P.info? e = some i) (hz : i.zero = some z)
    (hsize : i.size = size) (hby : i.bytes = bytes) (hzs : z.cells.size = size) (hsz : 0 < size)
    (v : Value) (n : Nat) (xs : List Value) (hs : a.eval s = v) (hown : w.ownsRow 0 e size v n xs)
    (ad : Option Addr) (m c : Nat) (news : List Value) (hx : a.eval x = .slice ad m c) (hl : news.length = m * size) (hnews : Sl w ad news) (h1 : ∀ u ∈ news, u.oneCell' = true)
    (hbytes : (n + m) * bytes ≤ 140737488355328) (h63 : n + m ≤ 140737488355328)
    (h : ∀ g' c' w', Grew w w' e size v (.slice g' (n + m) c') (n + m) (xs ++ news) → wpList P ops Q rest (a.put o.dst (.slice g' (n + m) c')) w') : wpList P ops Q (o :: rest) a w := by
  refine wpList_plain hgd fun K hK => ?_
  obtain ⟨v', w', hr, h2, h3, h4, h5, h6, _, h8, h9⟩ := run_append_sl (P := P) w t o.type e i z size bytes ht hi hz hsize hby hzs hsz v n xs hown ad m c news hl hnews h1 hbytes h63
  unfold Oper.wp execOp
  simp only [ho, resolve, invoke, builtin, Sem.run_bind, Sem.run_pure, Result.andThen_ok, List.map_toArray, List.map_cons, List.map_nil, hs, hx, hr]
  obtain ⟨g', c', rfl, _, _⟩ := own_sl h2
  exact hK _ _ (h g' c' w' ⟨h2, h3, h4, h5, h6, ⟨n, xs, news, rfl, h8⟩, fun h => (by obtain ⟨g, c, h1, h2⟩ := h9 h; exact ⟨g, n, c, h1, h2⟩)⟩)

/-- the same where there is room: the value is known. -/
theorem wpList_append_fit {P : Program} {w : World} {ops : Array Oper} {rest : List Oper} {o : Oper} {a : Act} {Q : Exit → Act → World → Prop} (hgd : o.guard = none) (s x : Operand) (t : TypeId)
    (ho : o.op = .call { callee := .builtin .append, args := #[s, x], argTypes := #[t, t] })
    (e : TypeId) (i : TypeInfo) (z : Value) (size bytes : Nat) (ht : P.underlying t = some (.slice e)) (hi : P.info? e = some i) (hz : i.zero = some z)
    (hsize : i.size = size) (hby : i.bytes = bytes) (hzs : z.cells.size = size) (hsz : 0 < size)
    (g n cap : Nat) (xs : List Value) (hs : a.eval s = .slice (some ⟨g, 0, none⟩) n cap) (hown : w.ownsRow 0 e size (.slice (some ⟨g, 0, none⟩) n cap) n xs)
    (ad : Option Addr) (m c : Nat) (news : List Value) (hx : a.eval x = .slice ad m c) (hl : news.length = m * size) (hnews : Sl w ad news) (h1 : ∀ u ∈ news, u.oneCell' = true)
    (hroom : n + m ≤ cap) (hbytes : (n + m) * bytes ≤ 140737488355328) (h63 : n + m ≤ 140737488355328)
    (h : ∀ w', w'.ownsRow 0 e size (.slice (some ⟨g, 0, none⟩) (n + m) cap) (n + m) (xs ++ news) → Off (fun k => k = g) w w' → wpList P ops Q rest (a.put o.dst (.slice (some ⟨g, 0, none⟩) (n + m) cap)) w') : wpList P ops Q (o :: rest) a w := by
  refine wpList_plain hgd fun K hK => ?_
  obtain ⟨v', w', hr, h2, h3, h4, h5, h6, h7, h8, h9⟩ := run_append_sl (P := P) w t o.type e i z size bytes ht hi hz hsize hby hzs hsz _ n xs hown ad m c news hl hnews h1 hbytes h63
  have hv := h7 g n cap rfl hroom
  subst hv
  unfold Oper.wp execOp
  simp only [ho, resolve, invoke, builtin, Sem.run_bind, Sem.run_pure, Result.andThen_ok, List.map_toArray, List.map_cons, List.map_nil, hs, hx, hr]
  exact hK _ _ (h w' h2 ((Off.refl _ _).grown h3 (fun k e _ => by simpa [Value.ownBlock] using e.symm)))
theorem wpList_make_new {P : Program} {w : World} {ops : Array Oper} {rest : List Oper} {o : Oper} {a : Act} {Q : Exit → Act → World → Prop}
    (hg : o.guard = none) (l c : Operand) (t : TypeId) (hop : o.op = Op.makeSlice t l c)
    (e : TypeId) (i : TypeInfo) (z : Value) (size bytes : Nat) (h1 : P.underlying t = some (.slice e)) (h2 : P.info? e = some i) (h3 : i.zero = some z) (h4 : i.size = size) (h5 : i.bytes = bytes)
    (kl kc : IntKind) (C : Int) (n : Nat) (hl : a.eval l = .int kl 0) (hc : a.eval c = .int kc C) (hC : C = (n : Int)) (b2 : bytes * n ≤ 281474976710656) (b3 : n ≤ 281474976710656)
    (hK : ∀ w', w'.ownsRow 0 e size (.slice (some ⟨w.heap.size, 0, none⟩) 0 n) 0 [] → Off Old w w' → wpList P ops Q rest (a.put o.dst (.slice (some ⟨w.heap.size, 0, none⟩) 0 n)) w') :
    wpList P ops Q (o :: rest) a w :=
  wpList_make_own w hg l c t hop 0 e i z size h1 h2 h3 h4 kl kc C n hl hc hC (by rw [h5]; exact b2) (by unfold maxLen; omega) (Nat.zero_le _) (fun w' ho hgr => hK w' ho ((Off.refl _ _).grown hgr (fun k e _ => by cases e)))
theorem Grew.of_alloc {w w' : World} {o : Obj} {e : TypeId} {size : Nat} {v v' : Value} {n : Nat} {xs : List Value} (h : Grew (w.alloc o) w' e size v v' n xs) : Grew w w' e size v v' n xs := by
  refine ⟨h.own, ⟨h.grown.os, h.grown.tape, h.grown.output, ?_, fun k hk hn => ?_⟩, fun k hk => ?_, h.shape, h.nn, h.keep, h.same⟩
  · have := h.grown.size; rw [World.size_alloc] at this; omega
  · exact (h.grown.block k (by rw [World.size_alloc]; omega) hn).trans (Below.heap_alloc _ _ _ hk)
  · rcases h.mov k hk with h1 | h1
    · exact .inl h1
    · rw [World.size_alloc] at h1; exact .inr (by omega)
/-- 'append(v, x, y ..)': the new ones lie in a row that was just laid. -/
theorem wpList_append_new {P : Program} {w : World} {ops : Array Oper} {rest : List Oper} {o : Oper} {a : Act} {Q : Exit → Act → World → Prop} (hgd : o.guard = none) (s x : Operand) (t : TypeId)
    (ho : o.op = .call { callee := .builtin .append, args := #[s, x], argTypes := #[t, t] })
    (e : TypeId) (i : TypeInfo) (z : Value) (size bytes : Nat) (ht : P.underlying t = some (.slice e)) (hi : P.info? e = some i) (hz : i.zero = some z)
    (hsize : i.size = size) (hby : i.bytes = bytes) (hzs : z.cells.size = size) (hsz : 0 < size)
    (v : Value) (n : Nat) (xs : List Value) (hs : a.eval s = v) (hown : w.ownsRow 0 e size v n xs)
    (m c : Nat) (news : List Value) (hx : a.eval x = .slice (some ⟨w.heap.size, 0, none⟩) m c) (hl : news.length = m * size) (h1 : ∀ u ∈ news, u.oneCell' = true)
    (hbytes : (n + m) * bytes ≤ 140737488355328) (h63 : n + m ≤ 140737488355328)
    (h : ∀ g' c' w', Grew w w' e size v (.slice g' (n + m) c') (n + m) (xs ++ news) → wpList P ops Q rest (a.put o.dst (.slice g' (n + m) c')) w') : wpList P ops Q (o :: rest) a (w.alloc (.cells news.toArray e)) :=
  wpList_append_sl hgd s x t ho e i z size bytes ht hi hz hsize hby hzs hsz v n xs hs (hown.alloc _) _ m c news hx hl (Sl.new w news e) h1 hbytes h63 (fun g' c' w' hg => h g' c' w' hg.of_alloc)

/-! ### bytes, numbers .. as cells -/
def bys (l : List UInt8) : List Value := l.map fun b => .int .u8 (b.toNat : Int)
def ins (l : List Int) : List Value := l.map fun b => .int .i64 b
def bos (l : List Bool) : List Value := l.map fun b => .bool b
def sts (l : List ByteArray) : List Value := l.map fun b => .string b
@[simp] theorem bys_length (l : List UInt8) : (bys l).length = l.length := by simp [bys]
@[simp] theorem ins_length (l : List Int) : (ins l).length = l.length := by simp [ins]
@[simp] theorem bos_length (l : List Bool) : (bos l).length = l.length := by simp [bos]
@[simp] theorem sts_length (l : List ByteArray) : (sts l).length = l.length := by simp [sts]
theorem bys_at {l : List UInt8} {j : Nat} {x : UInt8} (h : l[j]? = some x) : (bys l)[j]? = some (.int .u8 (x.toNat : Int)) := by simp [bys, h]
theorem ins_at {l : List Int} {j : Nat} {x : Int} (h : l[j]? = some x) : (ins l)[j]? = some (.int .i64 x) := by simp [ins, h]
theorem bos_at {l : List Bool} {j : Nat} {x : Bool} (h : l[j]? = some x) : (bos l)[j]? = some (.bool x) := by simp [bos, h]
theorem sts_at {l : List ByteArray} {j : Nat} {x : ByteArray} (h : l[j]? = some x) : (sts l)[j]? = some (.string x) := by simp [sts, h]
theorem bys_oneCell (l : List UInt8) : ∀ u ∈ bys l, u.oneCell' = true := by
  intro u hu; obtain ⟨_, _, rfl⟩ := List.mem_map.1 hu; rfl
theorem ins_oneCell (l : List Int) : ∀ u ∈ ins l, u.oneCell' = true := by
  intro u hu; obtain ⟨_, _, rfl⟩ := List.mem_map.1 hu; rfl
@[simp] theorem bys_append (l m : List UInt8) : bys (l ++ m) = bys l ++ bys m := by simp [bys]
@[simp] theorem bys_nil : bys [] = [] := rfl
theorem u8_lt (x : UInt8) : (x.toNat : Int) < 256 := by have := x.toNat_lt; omega
theorem u8_ge (x : UInt8) : (0 : Int) ≤ (x.toNat : Int) := by omega
theorem at_of_lt {α : Type} {l : List α} {j : Nat} (h : j < l.length) : ∃ x, Hid (l[j]? = some x) := ⟨l[j], by show l[j]? = _; simp [h]⟩

theorem Sl.ne_blk {w : World} {p : Nat} {cs us : List Value} {t : TypeId} {a : Option Addr} (hb : Blk w p cs t) (h : Sl w a us) (hd : ∀ u ∈ us, u ∉ cs) : ∀ q, a = some q → us ≠ [] → q.block ≠ p := by
  rintro q rfl hne rfl
  cases us with
  | nil => exact hne rfl
  | cons x xs =>
    obtain ⟨b, o, e, hc⟩ := h 0 x rfl
    cases e
    unfold Blk at hb
    simp only [World.cell?, hb] at hc
    have hc' : cs[o]? = some x := by simpa using hc
    exact hd x (by simp) (List.mem_of_getElem? hc')

/-- a slice with a first cell: its address and that cell. -/
theorem Sl.head {w : World} {a : Option Addr} {x : Value} {cs : List Value} (h : Sl w a (x :: cs)) : ∃ b o, a = some ⟨b, o, none⟩ ∧ w.cell? ⟨b, o, none⟩ = some x := by
  obtain ⟨b, o, e, hc⟩ := h 0 x rfl
  exact ⟨b, o, e, hc⟩

/-- 'string(b)'. -/
theorem run_string_of_sl {P : Program} {w : World} {src dst e : TypeId} {a : Option Addr} {n c : Nat} {l : List UInt8} (hs : P.underlying src = some (.slice e)) (he : P.underlying e = some (.int .u8)) (hd : P.underlying dst = some .string)
    (hn : n = l.length) (h : Sl w a (bys l)) : (convert src dst (.slice a n c)).run P w = .ok (.string ⟨l.toArray⟩) w := by
  subst hn
  cases a with
  | none =>
    have : l = [] := by
      cases l with
      | nil => rfl
      | cons x xs => obtain ⟨b, o, e, _⟩ := h 0 _ rfl; cases e
    subst this
    rw [run_convert_bytes_string w src dst e none _ _ hs he hd]
    rfl
  | some q =>
    refine run_convert_bytes_back w src dst e q c l hs he hd fun j hj => ?_
    obtain ⟨b, o, e, hc⟩ := h j _ (bys_at (x := l[j]) (by simp [hj]))
    cases e
    rw [Addr.add_lit]; exact hc

/-! ### rows of bytes -/
structure BRow where
  a : Option Addr
  c : Nat
  l : List UInt8
def BRow.v (r : BRow) : Value := .slice r.a r.l.length r.c
/-- each row reads. -/
def RowsOk (w : World) (rs : List BRow) : Prop := ∀ r ∈ rs, Sl w r.a (bys r.l)
theorem RowsOk.off {S : Nat → Prop} {w w' : World} {rs : List BRow} (h : RowsOk w rs) (ho : Off S w w') (hs : ∀ r ∈ rs, ∀ q, r.a = some q → r.l ≠ [] → ¬ S q.block) : RowsOk w' rs :=
  fun r hr => (h r hr).off ho (fun q hq hne => hs r hr q hq (by intro h; exact hne (by rw [h]; rfl)))
end Go.Proofs.Ytahpfcfecghpmaa
