/- A writer amid a drawn region: rows that were laid for its calls lie apart from it. -/
import Derived.Test.YtahpfcfecghpmaaWrite
namespace Go.Proofs.Ytahpfcfecghpmaa

/-- the blocks of a writer. -/
def WS (p : Nat) (g : Option Addr) (k : Nat) : Prop := k = p ∨ g.map Addr.block = some k
def ROk (w : World) (p : Nat) (g : Option Addr) (r : Option Addr × List Value) : Prop := Sl w r.1 r.2 ∧ ∀ q, r.1 = some q → q.block < w.heap.size ∧ q.block ≠ p ∧ g.map Addr.block ≠ some q.block
/-- a writer that stood at wB over the row g0, has s now, and rows that lie apart from it. -/
def Wat (wB : World) (p : Nat) (g0 : Option Addr) (s : Bool × List UInt8) (rows : List (Option Addr × List Value)) (w : World) : Prop :=
  ∃ g d, Wr w p s.1 g d s.2 ∧ WStep wB w p g0 g ∧ ∀ r ∈ rows, ROk w p g r
section
variable {wB w w' : World} {p : Nat} {g0 : Option Addr} {s : Bool × List UInt8} {rows : List (Option Addr × List Value)}
theorem Wat.start {d : Nat} (h : Wr w p s.1 g0 d s.2) : Wat w p g0 s [] w := ⟨g0, d, h, WStep.refl _ _ _, by simp⟩
theorem Wat.off (h : Wat wB p g0 s rows w) : Off (WS p g0) wB w := by obtain ⟨g, d, _, h2, _⟩ := h; exact h2.off
theorem Wat.old (h : Wat wB p g0 s rows w) (ho : Off Old w w') : Wat wB p g0 s rows w' := by
  obtain ⟨g, d, h1, h2, h3⟩ := h
  refine ⟨g, d, h1.old ho, h2.trans (WStep.of_old ho p g), fun r hr => ?_⟩
  obtain ⟨h4, h5⟩ := h3 r hr
  refine ⟨h4.old ho, fun q hq => ?_⟩
  obtain ⟨h6, h7, h8⟩ := h5 q hq
  have := ho.size
  exact ⟨by omega, h7, h8⟩
theorem Wat.drew (h : Wat wB p g0 s rows w) : Wat wB p g0 s rows w.drew := h.old (Off.refl _ _).drew
theorem Wat.alloc (h : Wat wB p g0 s rows w) (o : Obj) : Wat wB p g0 s rows (w.alloc o) := h.old ((Off.refl _ _).alloc o)
theorem Wat.build (h : Wat wB p g0 s rows w) (cs : List Value) (t : TypeId) : Wat wB p g0 s ((some ⟨w.heap.size, 0, none⟩, cs) :: rows) (w.alloc (.cells cs.toArray t)) := by
  have h0 := h.alloc (.cells cs.toArray t)
  obtain ⟨g, d, h1, h2, h3⟩ := h
  have ho := (Off.refl Old w).alloc (.cells cs.toArray t)
  have hc := h1.clr (Nat.le_refl w.heap.size)
  refine ⟨g, d, h1.old ho, h2.trans (WStep.of_old ho p g), fun r hr => ?_⟩
  rcases List.mem_cons.1 hr with rfl | hr
  · refine ⟨Sl.new w cs t, ?_⟩
    rintro q ⟨rfl⟩
    exact ⟨by simp, hc.1, hc.2⟩
  · obtain ⟨h4, h5⟩ := h3 r hr
    refine ⟨h4.old ho, fun q hq => ?_⟩
    obtain ⟨h6, h7, h8⟩ := h5 q hq
    have := ho.size
    exact ⟨by omega, h7, h8⟩
theorem Wat.drop (h : Wat wB p g0 s rows w) : Wat wB p g0 s [] w := by
  obtain ⟨g, d, h1, h2, _⟩ := h; exact ⟨g, d, h1, h2, by simp⟩
theorem Wat.wstep {g} {s' : Bool × List UInt8} (h2 : WStep wB w p g0 g) (h3 : ∀ r ∈ rows, ROk w p g r) {g' : Option Addr} {d' : Nat} (h : Wr w' p s'.1 g' d' s'.2) (hs : WStep w w' p g g') : Wat wB p g0 s' rows w' := by
  refine ⟨g', d', h, h2.trans hs, fun r hr => ?_⟩
  obtain ⟨h4, h5⟩ := h3 r hr
  refine ⟨h4.off hs.off (fun q hq _ hk => ?_), fun q hq => ?_⟩
  · obtain ⟨_, h7, h8⟩ := h5 q hq
    rcases hk with hk | hk
    · exact h7 hk
    · exact h8 hk
  · obtain ⟨h6, h7, h8⟩ := h5 q hq
    have := hs.off.size
    refine ⟨by omega, h7, fun hk => ?_⟩
    rcases hs.mov _ hk with hk | hk
    · exact h8 hk
    · omega
end
theorem numbers_w {wB : World} {p : Nat} {g0 : Option Addr} {s : Bool × List UInt8} {rows : List (Option Addr × List Value)} (xs : List Int) {n : Nat} {a : Option Addr} {c : Nat} (hn : xs.length = n) {w : World} (h : Wat wB p g0 s rows w) (hm : (a, ins xs) ∈ rows)
    (bd : s.2.length + 9 * n ≤ 140737488355328) {R : Ending → World → Prop} (k : ∀ w', Wat wB p g0 (putNums s xs) rows w' → R (.returned (.pointer (some ⟨p, 0, none⟩))) w') :
    Calls Try.prog 51 #[.pointer (some ⟨p, 0, none⟩), .slice a n c] w R := by
  subst hn
  obtain ⟨g, d, h1, h2, h3⟩ := h
  obtain ⟨h4, h5⟩ := h3 _ hm
  exact numbers_c p s.1 g d s.2 a c xs w h1 h4 (fun q hq _ => (h5 q hq).2) bd R (fun w' g' d' h6 h7 => k w' (Wat.wstep h2 h3 h6 h7))
theorem flags_w {wB : World} {p : Nat} {g0 : Option Addr} {s : Bool × List UInt8} {rows : List (Option Addr × List Value)} (xs : List Bool) {n : Nat} {a : Option Addr} {c : Nat} (hn : xs.length = n) {w : World} (h : Wat wB p g0 s rows w) (hm : (a, bos xs) ∈ rows)
    (bd : s.2.length + n ≤ 140737488355328) {R : Ending → World → Prop} (k : ∀ w', Wat wB p g0 (putFlags s xs) rows w' → R (.returned (.pointer (some ⟨p, 0, none⟩))) w') :
    Calls Try.prog 52 #[.pointer (some ⟨p, 0, none⟩), .slice a n c] w R := by
  subst hn
  obtain ⟨g, d, h1, h2, h3⟩ := h
  obtain ⟨h4, h5⟩ := h3 _ hm
  exact flags_c p s.1 g d s.2 a c xs w h1 h4 (fun q hq _ => (h5 q hq).2) bd R (fun w' g' d' h6 h7 => k w' (Wat.wstep h2 h3 h6 h7))
/-- texts are written, as bytes. -/
def putTexts (s : Bool × List UInt8) (xs : List ByteArray) : Bool × List UInt8 := putRows s (xs.map fun s => s.data.toList)
theorem putTexts_len (s : Bool × List UInt8) (xs : List ByteArray) : (putTexts s xs).2.length ≤ s.2.length + lenOf (xs.map fun s => s.data.toList) := putRows_len _ _
theorem texts_w {wB : World} {p : Nat} {g0 : Option Addr} {s : Bool × List UInt8} {rows : List (Option Addr × List Value)} (xs : List ByteArray) {n : Nat} {a : Option Addr} {c : Nat} (hn : xs.length = n) {w : World} (h : Wat wB p g0 s rows w) (hm : (a, sts xs) ∈ rows)
    (bd : s.2.length + lenOf (xs.map fun s => s.data.toList) ≤ 140737488355328) {R : Ending → World → Prop} (k : ∀ w', Wat wB p g0 (putTexts s xs) rows w' → R (.returned (.pointer (some ⟨p, 0, none⟩))) w') :
    Calls Try.prog 53 #[.pointer (some ⟨p, 0, none⟩), .slice a n c] w R := by
  subst hn
  obtain ⟨g, d, h1, h2, h3⟩ := h
  obtain ⟨h4, h5⟩ := h3 _ hm
  exact texts_c p s.1 g d s.2 a c xs w h1 h4 (fun q hq _ => (h5 q hq).2) bd R (fun w' g' d' h6 h7 => k w' (Wat.wstep h2 h3 h6 h7))
end Go.Proofs.Ytahpfcfecghpmaa
