/- From the row's reading of verdicts to these walks' words. -/
import Derived.Test.YtahpfcfecghpmaaOpen
import Derived.Test.YtahpfcfecghpmaaDuoV
import Derived.ChangeSame
import Derived.Deep.Strs
import Derived.Lib.SmallJoins
namespace Go.Proofs.Ytahpfcfecghpmaa
open Go.RowKit

theorem wf_i64 {n : Int} (h : (Lit.int .i64 n).wf = true) : i64B n := by
  simp [Lit.wf, IntKind.min, IntKind.max, IntKind.signed, IntKind.bits] at h; unfold i64B; omega
section
variable {H : Type} {enc : TypeId × Value → H} {w : World} {base : Nat} {spare : Nat → Bool} {held : Bool}
set_option maxRecDepth 100000 in
theorem open_read {fuel Z : Nat} {cs : List Value} {x : DataW H × List MemPlace} (h : DataW.trod enc Try.prog w base spare held fuel 83 cs = some x) (hz : ∀ m ∈ x.1.weights Try.prog 83, m ≤ Z) : ∃ y : Rdx, cs = y.v ∧ y.key.size ≤ Z ∧ y.val.size ≤ Z := by
  obtain ⟨y0, y1, y2, n, rfl, hl, h0, h1, h2⟩ := Go.Deep.trod_struct3 Try.underlying83 h
  have hl2 : cs.length = 3 := hl.trans (by kernel_rfl)
  clear hl
  have e2 : Try.prog.cellsOf 9 = 1 := by kernel_rfl
  have e3 : Try.prog.cellsOf 4 = 1 := by kernel_rfl
  match cs, hl2 with
  | [a, b, c], _ =>
    simp only [e2, e3] at h0 h1 h2
    obtain ⟨k, ek, rfl, _⟩ := DataW.trod_string Try.underlying9 h0
    obtain ⟨i, ei, _⟩ := DataW.trod_bool Try.underlying4 h1
    obtain ⟨v, ev, rfl, _⟩ := DataW.trod_string Try.underlying9 h2
    simp at ek ei ev
    subst ek; subst ei; subst ev
    refine ⟨⟨k, i, v⟩, rfl, ?_, ?_⟩
    · have := hz k.data.toList.length (by simp [DataW.weights, DataW.weightsEach, Try.underlying83])
      simpa using this
    · have := hz v.data.toList.length (by simp [DataW.weights, DataW.weightsEach, Try.underlying83])
      simpa using this
set_option maxRecDepth 100000 in
theorem open_reads {fuel Z : Nat} {cs : List Value} {x : DataW H × List MemPlace} (h : DataW.trod enc Try.prog w base spare held fuel 36 cs = some x) (hz : ∀ m ∈ x.1.weights Try.prog 36, m ≤ Z) :
    ∃ (a : Option Addr) (cap : Nat) (l : List Rdx), cs = [.slice a l.length cap] ∧ Sl w a (rdxs l) ∧ (∀ y ∈ l, y.key.size ≤ Z ∧ y.val.size ≤ Z) ∧ l.length * 40 ≤ Z := by
  obtain ⟨a, len, cap, els, rfl, rfl, h1, h2, h3, h4, h5, h6⟩ := open_cells Try.underlying36 (s := 3) (by kernel_rfl) (by omega) h hz
  obtain ⟨l, rfl⟩ := list_of_els (f := fun y : {y : Rdx // y.key.size ≤ Z ∧ y.val.size ≤ Z} => y.1.v) (fun c hc => by
    obtain ⟨_, n, y, hy, hw⟩ := h5 c hc
    obtain ⟨y, e, hb⟩ := open_read hy hw
    exact ⟨⟨y, hb⟩, e⟩)
  rw [show Try.prog.bytesOf 83 = 40 by kernel_rfl] at h6
  refine ⟨a, cap, l.map (·.1), by simp, ?_, ?_, by simpa using h6⟩
  · rw [← List.flatMap_def] at h4
    simpa [rdxs, List.flatMap_map] using h4
  · intro n hn
    obtain ⟨m, _, rfl⟩ := List.mem_map.1 hn
    exact m.2
set_option maxRecDepth 100000 in
theorem open_verdict {fuel : Nat} {cs : List Value} {x : DataW H × List MemPlace} (h : DataW.trod enc Try.prog w base spare held fuel 38 cs = some x) (hz : ∀ m ∈ x.1.weights Try.prog 38, m ≤ 140737488351232) :
    ∃ e : Ve, cs = e.v ∧ (Sl w e.a (rdxs e.x.reads) ∧ (∀ y ∈ e.x.reads, y.fits) ∧ e.x.reads.length ≤ 140737488355328) ∧ i64V e.x := by
  obtain ⟨y0, y1, y2, y3, n, rfl, hl, h0, h1, h2, h3⟩ := Go.Joins.trod_struct4 Try.underlying38 h
  have hl2 : cs.length = 5 := hl.trans (by kernel_rfl)
  clear hl
  have e0 : Try.prog.cellsOf 35 = 2 := by kernel_rfl
  have e1 : Try.prog.cellsOf 3 = 1 := by kernel_rfl
  have e3 : Try.prog.cellsOf 4 = 1 := by kernel_rfl
  have e4 : Try.prog.cellsOf 36 = 1 := by kernel_rfl
  match cs, hl2 with
  | [a, b, c, d, f], _ =>
    simp only [e0, e1, e3, e4] at h0 h1 h2 h3
    obtain ⟨z0, z1, n2, _, _, g0, g1⟩ := Go.ChangeShapes.trod_struct2 Try.underlying35 h0
    simp only [e1] at g0 g1
    obtain ⟨vc, ec, _, wc⟩ := DataW.trod_int Try.underlying3 g0
    obtain ⟨vn, en, _, wn⟩ := DataW.trod_int Try.underlying3 g1
    obtain ⟨vb, eb, _⟩ := DataW.trod_bool Try.underlying4 h1
    obtain ⟨va, ea, _, wa⟩ := DataW.trod_int Try.underlying3 h2
    obtain ⟨p, cap, l, el, s, hs, hlen⟩ := open_reads h3 (fun m hm => hz m (by
      simp only [DataW.weights, Try.underlying38]
      simp [DataW.weightsEach, hm]))
    simp at ec en eb ea el
    subst ec; subst en; subst eb; subst ea; subst el
    exact ⟨⟨⟨vc, vn, vb, va, l⟩, p, cap⟩, rfl, ⟨s, fun y hy => hs y hy, by show l.length ≤ _; omega⟩, wf_i64 wc, wf_i64 wn, wf_i64 wa⟩
set_option maxRecDepth 100000 in
theorem open_verdicts {fuel : Nat} {cs : List Value} {x : DataW H × List MemPlace} (h : DataW.trod enc Try.prog w base spare held fuel 22 cs = some x) (hz : ∀ m ∈ x.1.weights Try.prog 22, m ≤ 140737488351232) :
    ∃ (a : Option Addr) (cap : Nat) (l : List Ve), cs = [.slice a l.length cap] ∧ Sl w a (vcs l) ∧ (∀ e ∈ l, (Sl w e.a (rdxs e.x.reads) ∧ (∀ y ∈ e.x.reads, y.fits) ∧ e.x.reads.length ≤ 140737488355328) ∧ i64V e.x) ∧ l.length * 56 ≤ 140737488351232 := by
  obtain ⟨a, len, cap, els, rfl, rfl, h1, h2, h3, h4, h5, h6⟩ := open_cells Try.underlying22 (s := 5) (by kernel_rfl) (by omega) h hz
  obtain ⟨l, rfl⟩ := list_of_els (f := fun y : {e : Ve // (Sl w e.a (rdxs e.x.reads) ∧ (∀ y ∈ e.x.reads, y.fits) ∧ e.x.reads.length ≤ 140737488355328) ∧ i64V e.x} => y.1.v) (fun c hc => by
    obtain ⟨_, n, y, hy, hw⟩ := h5 c hc
    obtain ⟨y, e, hb⟩ := open_verdict hy hw
    exact ⟨⟨y, hb⟩, e⟩)
  rw [show Try.prog.bytesOf 38 = 56 by kernel_rfl] at h6
  refine ⟨a, cap, l.map (·.1), by simp, ?_, ?_, by simpa using h6⟩
  · rw [← List.flatMap_def] at h4
    simpa [vcs, List.flatMap_map] using h4
  · intro n hn
    obtain ⟨m, _, rfl⟩ := List.mem_map.1 hn
    exact m.2
end
end Go.Proofs.Ytahpfcfecghpmaa
