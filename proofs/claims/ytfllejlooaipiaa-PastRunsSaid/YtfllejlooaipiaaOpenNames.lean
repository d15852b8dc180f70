/- From the row's reading of names to these walks' words. -/
import Derived.Test.YtfllejlooaipiaaOpen
import Derived.Test.YtfllejlooaipiaaNames
import Derived.ChangeSame
namespace Go.Proofs.Ytfllejlooaipiaa
open Go.RowKit

section
variable {H : Type} {enc : TypeId × Value → H} {w : World} {base : Nat} {spare : Nat → Bool} {held : Bool}
set_option maxRecDepth 100000 in
theorem open_name {fuel : Nat} {cs : List Value} {x : DataW H × List MemPlace} (h : DataW.trod enc Try.prog w base spare held fuel 53 cs = some x) : ∃ y : Nm, cs = y.v := by
  obtain ⟨y0, y1, n, _, hl, h0, h1⟩ := Go.ChangeShapes.trod_struct2 Try.underlying53 h
  have hl2 : cs.length = 2 := hl.trans (by kernel_rfl)
  clear hl
  match cs, hl2 with
  | [a, b], _ =>
    obtain ⟨m0, e0, _⟩ := DataW.trod_int Try.underlying3 h0
    obtain ⟨m1, e1, _⟩ := DataW.trod_int Try.underlying3 h1
    have e2 : Try.prog.cellsOf 3 = 1 := by kernel_rfl
    simp [e2] at e0 e1
    exact ⟨⟨m0, m1⟩, by rw [e0, e1]; rfl⟩
set_option maxRecDepth 100000 in
theorem open_names {fuel Z : Nat} {cs : List Value} {x : DataW H × List MemPlace} (h : DataW.trod enc Try.prog w base spare held fuel 23 cs = some x) (hz : ∀ m ∈ x.1.weights Try.prog 23, m ≤ Z) :
    ∃ (a : Option Addr) (cap : Nat) (l : List Nm), cs = [.slice a l.length cap] ∧ l.length ≤ cap ∧ cap ≤ 9223372036854775807 ∧ (a = none → cap = 0) ∧ Sl w a (nms l) ∧ l.length * 16 ≤ Z := by
  obtain ⟨a, len, cap, els, rfl, rfl, h1, h2, h3, h4, h5, h6⟩ := open_cells Try.underlying23 (s := 2) (by kernel_rfl) (by omega) h hz
  obtain ⟨l, rfl⟩ := list_of_els (f := Nm.v) (fun c hc => by
    obtain ⟨_, n, y, hy, hw⟩ := h5 c hc
    exact open_name hy)
  rw [show Try.prog.bytesOf 53 = 16 by kernel_rfl] at h6
  exact ⟨a, cap, l, by simp, by simpa using h1, h2, h3, by rwa [← List.flatMap_def] at h4, by simpa using h6⟩
end
end Go.Proofs.Ytfllejlooaipiaa
