/- From the row's reading of rows of names to these walks' words. -/
import Derived.Test.YtfllejlooaipiaaOpenNames
import Derived.Test.YtfllejlooaipiaaPastRuns
namespace Go.Proofs.Ytfllejlooaipiaa
open Go.RowKit

section
variable {H : Type} {enc : TypeId × Value → H} {w : World} {base : Nat} {spare : Nat → Bool} {held : Bool}
set_option maxRecDepth 100000 in
theorem open_nrows {fuel Z : Nat} {cs : List Value} {x : DataW H × List MemPlace} (h : DataW.trod enc Try.prog w base spare held fuel 22 cs = some x) (hz : ∀ m ∈ x.1.weights Try.prog 22, m ≤ Z) :
    ∃ (a : Option Addr) (cap : Nat) (rs : List NRow), cs = [.slice a rs.length cap] ∧ Sl w a (rs.map NRow.v) ∧ (∀ r ∈ rs, Sl w r.a (nms r.l)) ∧ (∀ r ∈ rs, r.l.length * 16 ≤ Z) ∧ rs.length * 24 ≤ Z := by
  obtain ⟨a, len, cap, els, rfl, rfl, h1, h2, h3, h4, h5, h6⟩ := open_cells Try.underlying22 (s := 1) (by kernel_rfl) (by omega) h hz
  obtain ⟨l, rfl⟩ := list_of_els (f := fun b : {r : NRow // Sl w r.a (nms r.l) ∧ r.l.length * 16 ≤ Z} => [b.1.v]) (fun c hc => by
    obtain ⟨_, n, y, hy, hw⟩ := h5 c hc
    obtain ⟨a', c', l', rfl, e1, e2, e3, e4, e5⟩ := open_names hy hw
    exact ⟨⟨⟨a', c', l'⟩, e4, e5⟩, rfl⟩)
  rw [show Try.prog.bytesOf 23 = 24 by kernel_rfl] at h6
  refine ⟨a, cap, l.map (·.1), by simp, ?_, ?_, ?_, by simpa using h6⟩
  · have := h4
    rw [flatten_single l (fun n => n.1.v)] at this
    simpa using this
  · intro n hn
    obtain ⟨m, _, rfl⟩ := List.mem_map.1 hn
    exact m.2.1
  · intro n hn
    obtain ⟨m, _, rfl⟩ := List.mem_map.1 hn
    exact m.2.2
end
end Go.Proofs.Ytfllejlooaipiaa
