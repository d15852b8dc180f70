/- A row of bytes that grows amid a drawn region: rows that calls gave lie apart from it. -/
import Derived.Test.YtahpfcfecghpmaaRefW
import Derived.Test.YtahpfcfecghpmaaStep
namespace Go.Proofs.Ytahpfcfecghpmaa
open Go.RowKit

/-- the block of a row. -/
def BS (g : Option Addr) (k : Nat) : Prop := g.map Addr.block = some k
/-- a row of bytes, and what is in it. -/
structure BRow3 where
  a : Option Addr
  n : Nat
  l : List UInt8
def ROk3 (w : World) (g : Option Addr) (r : BRow3) : Prop := Sl w r.a (bys r.l) ∧ r.l.length = r.n ∧ ∀ q, r.a = some q → q.block < w.heap.size ∧ g.map Addr.block ≠ some q.block
/-- a row that stood at g0 in wB, is (g, n, d) now and holds l; rows that lie apart from it. -/
def Bat (wB : World) (g0 : Option Addr) (g : Option Addr) (n d : Nat) (l : List UInt8) (rows : List BRow3) (w : World) : Prop :=
  w.ownsRow 0 5 1 (.slice g n d) n (bys l) ∧ Off (fun k => g0.map Addr.block = some k) wB w ∧ (∀ k, g.map Addr.block = some k → g0.map Addr.block = some k ∨ wB.heap.size ≤ k) ∧ ∀ r ∈ rows, ROk3 w g r
section
variable {wB w w' : World} {g0 g : Option Addr} {n d : Nat} {l : List UInt8} {rows : List BRow3}
theorem Bat.start (h : w.ownsRow 0 5 1 (.slice g n d) n (bys l)) : Bat w g g n d l [] w := ⟨h, Off.refl _ _, fun _ h => .inl h, by simp⟩
theorem Bat.own (h : Bat wB g0 g n d l rows w) : w.ownsRow 0 5 1 (.slice g n d) n (bys l) := h.1
theorem Bat.off (h : Bat wB g0 g n d l rows w) : Off (BS g0) wB w := h.2.1
theorem Bat.len (h : Bat wB g0 g n d l rows w) : l.length = n := by have := h.1.1; simpa using this
theorem Bat.old (h : Bat wB g0 g n d l rows w) (ho : Off Old w w') : Bat wB g0 g n d l rows w' := by
  obtain ⟨h1, h2, h3, h4⟩ := h
  refine ⟨own_off h1 ho (fun _ _ x => x), h2.trans (ho.mono (fun _ x _ => x.elim)), h3, fun r hr => ?_⟩
  obtain ⟨h5, h6, h7⟩ := h4 r hr
  refine ⟨h5.old ho, h6, fun q hq => ⟨?_, (h7 q hq).2⟩⟩
  have := (h7 q hq).1
  have := ho.size
  omega
theorem Bat.drew (h : Bat wB g0 g n d l rows w) : Bat wB g0 g n d l rows w.drew := h.old (Off.refl _ _).drew
theorem Bat.alloc (h : Bat wB g0 g n d l rows w) (o : Obj) : Bat wB g0 g n d l rows (w.alloc o) := h.old ((Off.refl _ _).alloc o)
theorem Bat.lt (h : Bat wB g0 g n d l rows w) {k : Nat} (hk : g.map Addr.block = some k) : k < w.heap.size := own_lt h.1 (by rw [own_block_eq']; exact hk)
/-- a call gave a row. -/
theorem Bat.row (h : Bat wB g0 g n d l rows w) {a : Option Addr} {m c : Nat} {l2 : List UInt8} (hb : BOut w w' a m c l2) : Bat wB g0 g n d l (⟨a, m, l2⟩ :: rows) w' := by
  have h8 := h.old hb.off
  have hlt := fun k => h.lt (k := k)
  obtain ⟨h1, h2, h3, h4⟩ := h8
  refine ⟨h1, h2, h3, fun r hr => ?_⟩
  rcases List.mem_cons.1 hr with rfl | hr
  · refine ⟨hb.sl, hb.len, fun q hq => ⟨?_, fun hk => ?_⟩⟩
    · dsimp only at hq; subst hq
      exact own_lt hb.own (by simp [Value.ownBlock])
    · dsimp only at hq; subst hq
      have h5 := hlt _ hk
      have h6 := hb.fr q.block (by simp [Value.ownBlock])
      omega
  · exact h4 r hr
/-- it grew by a row. -/
theorem Bat.app (h : Bat wB g0 g n d l rows w) {g' : Option Addr} {n' d' : Nat} {m : List UInt8} (hg : Grew w w' 5 1 (.slice g n d) (.slice g' n' d') n' (bys l ++ bys m)) : Bat wB g0 g' n' d' (l ++ m) rows w' := by
  have hmov : ∀ k, g'.map Addr.block = some k → g.map Addr.block = some k ∨ w.heap.size ≤ k := fun k hk => by
    have := hg.mov k (by rw [own_block_eq']; exact hk)
    rcases this with h1 | h1
    · rw [own_block_eq'] at h1; exact .inl h1
    · exact .inr h1
  have hgo : Off (fun k => g.map Addr.block = some k) w w' := hg.off.mono (fun k hk _ => by rwa [own_block_eq'] at hk)
  obtain ⟨h1, h2, h3, h4⟩ := h
  refine ⟨by have := hg.own; rwa [← bys_append] at this, h2.step hgo (fun i hi hl => ?_), fun k hk => ?_, fun r hr => ?_⟩
  · rcases h3 i hi with h5 | h5
    · exact h5
    · omega
  · rcases hmov k hk with h5 | h5
    · exact h3 k h5
    · have := h2.size; exact .inr (by omega)
  · obtain ⟨h5, h6, h7⟩ := h4 r hr
    refine ⟨h5.off hgo (fun q hq _ => (h7 q hq).2), h6, fun q hq => ⟨?_, fun hk => ?_⟩⟩
    · have := (h7 q hq).1; have := hgo.size; omega
    · rcases hmov _ hk with h8 | h8
      · exact (h7 q hq).2 h8
      · have := (h7 q hq).1; omega
theorem Bat.has (h : Bat wB g0 g n d l rows w) {r : BRow3} (hr : r ∈ rows) : Sl w r.a (bys r.l) ∧ (bys r.l).length = r.n * 1 := by
  obtain ⟨h5, h6, _⟩ := h.2.2.2 r hr
  exact ⟨h5, by rw [bys_length, h6]; omega⟩
theorem Bat.out (h : Bat wB g0 g n d l rows w) {w0 : World} {n0 d0 : Nat} {l0 : List UInt8} (h0 : BOut w0 wB g0 n0 d0 l0) : BOut w0 w g n d l := by
  obtain ⟨h1, h2, h3, _⟩ := h
  refine ⟨h1, h0.off.step h2 (fun i hi hl => ?_), fun b hb => ?_⟩
  · have := h0.fr i (by rw [own_block_eq']; exact hi)
    omega
  · rw [own_block_eq'] at hb
    rcases h3 b hb with h4 | h4
    · exact h0.fr b (by rw [own_block_eq']; exact h4)
    · have := h0.off.size; omega
theorem Bat.not (h : Bat wB g0 g n d l rows w) {k : Nat} (hk : ¬ BS g0 k) (hlt : k < wB.heap.size) : ¬ BS g k := fun hb => by
  rcases h.2.2.1 k hb with h4 | h4
  · exact hk h4
  · omega
end
end Go.Proofs.Ytahpfcfecghpmaa
