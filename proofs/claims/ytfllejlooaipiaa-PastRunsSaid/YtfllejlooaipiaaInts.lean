/- Numbers in rows of their own. -/
import Derived.Test.YtfllejlooaipiaaRefW
namespace Go.Proofs.Ytfllejlooaipiaa
open Go.RowKit

theorem intinfo : (Try.prog.info? 3).map (fun i => (i.zero, i.size, i.bytes)) = some (some (.int .i64 0), 1, 8) := by kernel_rfl
/-- numbers in a row of their own that is new. -/
structure IOut (w w' : World) (g : Option Addr) (n d : Nat) (xs : List Int) : Prop where
  own : w'.ownsRow 0 3 1 (.slice g n d) n (ins xs)
  off : Off Old w w'
  fr : fresh w.heap.size (.slice g n d)
theorem IOut.len {w w' : World} {g : Option Addr} {n d : Nat} {l : List Int} (h : IOut w w' g n d l) : l.length = n := by have := h.own.1; simpa using this
theorem IOut.old {w w' w2 : World} {g : Option Addr} {n d : Nat} {l : List Int} (h : IOut w w' g n d l) (ho : Off Old w' w2) : IOut w w2 g n d l :=
  ⟨own_off h.own ho (fun _ _ x => x), h.off.trans ho, h.fr⟩
theorem IOut.sl {w w' : World} {g : Option Addr} {n d : Nat} {l : List Int} (h : IOut w w' g n d l) : Sl w' g (ins l) := (own_sl2 h.own).2.2
theorem IOut.app {w w' w2 : World} {g g' : Option Addr} {n n' d d' : Nat} {l m : List Int} (h : IOut w w' g n d l) (hg : Grew w' w2 3 1 (.slice g n d) (.slice g' n' d') n' (ins l ++ ins m)) : IOut w w2 g' n' d' (l ++ m) :=
  ⟨by have := hg.own; rwa [show ins l ++ ins m = ins (l ++ m) by simp [ins]] at this, h.off.step hg.off (fun i hi hl => by have := h.fr i hi; omega), fun b hb => by
    rcases hg.mov b hb with h1 | h1
    · exact h.fr b h1
    · exact Nat.le_trans h.off.size h1⟩
end Go.Proofs.Ytfllejlooaipiaa
