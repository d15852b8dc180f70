/- The map of a book's names: looked up, put. -/
import Derived.Test.YtahpfcfecghpmaaRightRow
import Derived.Maps.Keyed
import Derived.DeepKeys4
import Derived.KernelRfl
namespace Go.Proofs.Ytahpfcfecghpmaa
open Go.RowKit Go.Maps

theorem nmLaid : laidOutB Try.prog = true := by kernel_rfl
theorem nmRow : (35 : TypeId) < Try.prog.types.size := of_decide_eq_true (by kernel_rfl)
theorem nmWide : (match Try.prog.underlying 35 with | some (.array _ _) | some (.struct _) => true | _ => false) = true := by rw [Try.underlying35]
set_option maxRecDepth 100000 in
theorem nmKeyed : Keyed Try.prog 35 := Keyed.of_law (deep_law_laid nmLaid (m := 2) (by omega) nmRow (by kernel_rfl) nmWide)
def nmV (c n : Int) : Value := .agg #[.int .i64 c, .int .i64 n]
def i64B (c : Int) : Prop := -9223372036854775808 ≤ c ∧ c ≤ 9223372036854775807
theorem i64B_wf {c : Int} (h : i64B c) : (Lit.int .i64 c).wf = true := by
  obtain ⟨h1, h2⟩ := h
  simp [Lit.wf]
  exact ⟨h1, h2⟩
theorem nmV_inj {a b c d : Int} (h : nmV a b = nmV c d) : a = c ∧ b = d := by
  simp only [nmV] at h
  injection h with h
  simp at h
  exact h
theorem nmCells : Try.prog.cellsOf 35 = 2 := by kernel_rfl
theorem intCells : Try.prog.cellsOf 3 = 1 := by kernel_rfl
theorem nmLits {c n : Int} (hc : i64B c) (hn : i64B n) : ∃ ls, Try.prog.keyLits (Try.prog.types.size + 1) 35 (nmV c n).cells.toList = some ls := by
  have h1 := i64B_wf hc
  have h2 := i64B_wf hn
  obtain ⟨m, hm⟩ : ∃ m, Try.prog.types.size + 1 = m + 1 + 1 := ⟨Try.prog.types.size - 1, by have h : (35 : Nat) < Try.prog.types.size := nmRow; omega⟩
  rw [hm]
  exact ⟨[.int .i64 c, .int .i64 n], by simp [Program.keyLits, Try.underlying35, Try.underlying3, nmCells, intCells, h1, h2, nmV, Value.cells]⟩
theorem nmKey {c n : Int} (hc : i64B c) (hn : i64B n) : ∃ l, keyOf Try.prog 35 (nmV c n) = some l := by
  have hf : (nmV c n).formed Try.prog 35 = true := by simp [nmV, Value.formed, Try.underlying35, nmCells]
  have hk : Try.prog.keyType 35 = true := by kernel_rfl
  obtain ⟨ls, hl⟩ := nmLits hc hn
  unfold keyOf
  rw [Try.underlying35]
  exact ⟨.string (keyBytes ls), by simp only [hf, hk, hl, Bool.and_self, if_true, Option.map_some]⟩
/-- the entries' keys and values. -/
def MapIs (es : Array MapEntry) (kv : List (Value × Value)) : Prop := es.toList.map (fun e => (e.key, e.val)) = kv
theorem MapIs.nil : MapIs #[] [] := rfl
theorem MapIs.keys {es : Array MapEntry} {kv : List (Value × Value)} (h : MapIs es kv) (hk : ∀ p ∈ kv, ∃ c n, p.1 = nmV c n ∧ i64B c ∧ i64B n) : ∀ e ∈ es.toList, ∃ l, keyOf Try.prog 35 e.key = some l := by
  intro e he
  obtain ⟨c, n, h1, h2, h3⟩ := hk (e.key, e.val) (by rw [← h]; exact List.mem_map.2 ⟨e, he, rfl⟩)
  obtain ⟨l, hl⟩ := nmKey h2 h3
  exact ⟨l, by rw [show e.key = nmV c n from h1]; exact hl⟩
section
variable {w : World} {r clock : Nat} {es : Array MapEntry} {kv : List (Value × Value)} {t e : TypeId}
/-- a name that is there. -/
theorem look_yes (ht : Try.prog.underlying t = some (.map 35 e)) (hm : w.heap[r]? = some (.map es clock)) (h : MapIs es kv) (hk : ∀ p ∈ kv, ∃ c n, p.1 = nmV c n ∧ i64B c ∧ i64B n) {c n : Int} {v : Value} (hc : i64B c) (hn : i64B n)
    (hv : (nmV c n, v) ∈ kv) (hd : ∀ u, (nmV c n, u) ∈ kv → u = v) : (Instr.lookup t (.map (some r)) (nmV c n) true).run Try.prog w = .ok (.tuple #[v, .bool true]) w := by
  obtain ⟨l, hl⟩ := nmKey hc hn
  have hck := nmKeyed.check w es.isEmpty hl
  rcases nmKeyed.find w hl es.toList (h.keys hk) with ⟨_, h2⟩ | ⟨j, x, h1, h2, h3⟩
  · exfalso
    rw [← h] at hv
    obtain ⟨x, hx, hxe⟩ := List.mem_map.1 hv
    injection hxe with h4 _
    exact h2 x hx h4
  · have hxv : x.val = v := hd _ (by rw [← h, ← h3]; exact List.mem_map.2 ⟨x, List.mem_of_getElem? h2, rfl⟩)
    rw [hxv] at h1
    unfold Instr.lookup
    simp only [Sem.run_bind, run_underlying ht, Result.andThen_ok, MapKept.run_getObj_map hm, hck, h1, Sem.run_pure, if_true]
theorem look_no (ht : Try.prog.underlying t = some (.map 35 e)) {z : Value} (hz : ∀ w, (zeroValue e).run Try.prog w = .ok z w) (hm : w.heap[r]? = some (.map es clock)) (h : MapIs es kv) (hk : ∀ p ∈ kv, ∃ c n, p.1 = nmV c n ∧ i64B c ∧ i64B n) {c n : Int} (hc : i64B c) (hn : i64B n)
    (hv : ∀ u, (nmV c n, u) ∉ kv) : (Instr.lookup t (.map (some r)) (nmV c n) true).run Try.prog w = .ok (.tuple #[z, .bool false]) w := by
  obtain ⟨l, hl⟩ := nmKey hc hn
  have hck := nmKeyed.check w es.isEmpty hl
  rcases nmKeyed.find w hl es.toList (h.keys hk) with ⟨h1, h2⟩ | ⟨j, x, h1, h2, h3⟩
  · unfold Instr.lookup
    simp only [Sem.run_bind, run_underlying ht, Result.andThen_ok, MapKept.run_getObj_map hm, hck, h1, Sem.run_pure, if_true, hz]
  · exfalso
    refine hv x.val ?_
    rw [← h, ← h3]; exact List.mem_map.2 ⟨x, List.mem_of_getElem? h2, rfl⟩
/-- a name that is new is put behind. -/
theorem put_new (ht : Try.prog.underlying t = some (.map 35 e)) (hm : w.heap[r]? = some (.map es clock)) (h : MapIs es kv) (hk : ∀ p ∈ kv, ∃ c n, p.1 = nmV c n ∧ i64B c ∧ i64B n) {c n : Int} (hc : i64B c) (hn : i64B n) (v : Value)
    (hv : ∀ u, (nmV c n, u) ∉ kv) : ∃ es' w', (Instr.mapUpdate t (.map (some r)) (nmV c n) v).run Try.prog w = .ok () w' ∧ w'.heap[r]? = some (.map es' (clock + 1)) ∧ MapIs es' (kv ++ [(nmV c n, v)]) ∧ Off (fun k => k = r) w w' := by
  obtain ⟨l, hl⟩ := nmKey hc hn
  have hck := nmKeyed.check w false hl
  rcases nmKeyed.find w hl es.toList (h.keys hk) with ⟨h1, h2⟩ | ⟨j, x, h1, h2, h3⟩
  · have hlt := (Array.getElem?_eq_some_iff.1 hm).1
    refine ⟨es.push { key := nmV c n, val := v, born := clock }, { w with heap := w.heap.setIfInBounds r (.map (es.push { key := nmV c n, val := v, born := clock }) (clock + 1)) }, ?_, ?_, ?_, ?_⟩
    · unfold Instr.mapUpdate
      simp only [Sem.run_bind, run_underlying ht, Result.andThen_ok, MapKept.run_getObj_map hm, hck, h1, MapKept.run_setObj_map _ hm]
    · simp [hlt]
    · simp only [MapIs, Array.toList_push, List.map_append, List.map_cons, List.map_nil]
      rw [h]
    · refine ⟨rfl, rfl, rfl, by simp, fun k hk hne => ?_⟩
      simp only
      rw [Array.getElem?_setIfInBounds_ne (fun e => hne e.symm)]
  · exfalso
    refine hv x.val ?_
    rw [← h, ← h3]; exact List.mem_map.2 ⟨x, List.mem_of_getElem? h2, rfl⟩
end
end Go.Proofs.Ytahpfcfecghpmaa
