/- From the row's reading of an argument to the words of these walks. -/
import Derived.Test.YtahpfcfecghpmaaLib
import Derived.ProofKit
import Derived.OpenShut
import Derived.Deep.Slices
namespace Go.Proofs.Ytahpfcfecghpmaa
open Go.RowKit

theorem sl_of_adds {w : World} {x : Addr} {cs : List Value} (h : ∀ j u, cs[j]? = some u → w.cell? (x.add j) = some u) : Sl w (some x) cs := by
  cases cs with
  | nil => exact Sl.nil _ _
  | cons y ys =>
    have h0 := h 0 y rfl
    obtain ⟨b, o, sp⟩ := x
    have hs : sp = none := by
      cases sp with
      | none => rfl
      | some s =>
        simp [Addr.add, World.cell?] at h0
        split at h0 <;> simp at h0
    subst hs
    exact Sl.mk fun j u hu => by have := h j u hu; rwa [Addr.add_lit] at this

/-- numbers of a kind, up to a length. -/
theorem sl_of_ints {w : World} {x : Addr} {k : IntKind} {zs : List Int} {len : Nat} (hl : len ≤ zs.length) (h : ∀ i, i < zs.length → w.cell? (x.add i) = some (.int k (zs.getD i 0))) : Sl w (some x) ((zs.take len).map (Value.int k)) := by
  refine sl_of_adds fun j u hu => ?_
  have hj : j < len := by
    have := (List.getElem?_eq_some_iff.1 hu).1; simp at this; omega
  rw [h j (by omega), ← hu]
  simp [hj, List.getD, show j < zs.length by omega]
theorem wf_u8 {n : Int} (h : (Lit.int .u8 n).wf = true) : 0 ≤ n ∧ n ≤ 255 := by
  simp [Lit.wf, IntKind.min, IntKind.max, IntKind.signed, IntKind.bits] at h; omega
theorem bytes_of_ints {zs : List Int} (h : ∀ n ∈ zs, (Lit.int .u8 n).wf = true) : ∃ l : List UInt8, l.length = zs.length ∧ bys l = zs.map (Value.int .u8) := by
  refine ⟨zs.map fun n => UInt8.ofNat n.toNat, by simp, ?_⟩
  simp only [bys, List.map_map]
  refine List.map_congr_left fun n hn => ?_
  have := wf_u8 (h n hn)
  simp
  omega

/-! ### any slice -/
theorem flatten_get {s : Nat} (hs : 0 < s) : ∀ {els : List (List Value)}, (∀ c ∈ els, c.length = s) → ∀ {j : Nat} {u : Value}, els.flatten[j]? = some u → ∃ c, els[j / s]? = some c ∧ c[j % s]? = some u
  | [], _, j, u, h => by simp at h
  | c :: els, hl, j, u, h => by
    have hc := hl c (by simp)
    rw [List.flatten_cons] at h
    by_cases hj : j < s
    · rw [List.getElem?_append_left (by omega)] at h
      refine ⟨c, ?_, ?_⟩
      · rw [Nat.div_eq_of_lt hj]; rfl
      · rw [Nat.mod_eq_of_lt hj]; exact h
    · rw [List.getElem?_append_right (by omega), hc] at h
      obtain ⟨c', h1, h2⟩ := flatten_get hs (fun c h => hl c (by simp [h])) h
      have e1 : j / s = (j - s) / s + 1 := by rw [Nat.div_eq_sub_div hs (by omega)]
      have e2 : j % s = (j - s) % s := by rw [Nat.mod_eq_sub_mod (by omega)]
      exact ⟨c', by rw [e1]; simpa using h1, by rw [e2]; exact h2⟩
section
variable {H : Type} {enc : TypeId × Value → H} {P : Program} {w : World} {base : Nat} {spare : Nat → Bool} {held : Bool}
theorem weightsAll_mem {e : TypeId} : ∀ {ds : List (DataW H)} {d : DataW H}, d ∈ ds → ∀ m ∈ d.weights P e, m ∈ DataW.weightsAll P e ds
  | d0 :: ds, d, h, m, hm => by
    rw [DataW.weightsAll, List.mem_append]
    rcases List.mem_cons.1 h with rfl | h
    · exact .inl hm
    · exact .inr (weightsAll_mem h m hm)
  | [], d, h, _, _ => by cases h
/-- Z: no weight of what is read is more. -/
theorem open_cells {t e : TypeId} {s fuel Z : Nat} {cs : List Value} {x : DataW H × List MemPlace} (ht : P.underlying t = some (.slice e)) (hs : P.cellsOf e = s) (hpos : 0 < s) (h : DataW.trod enc P w base spare held fuel t cs = some x) (hz : ∀ m ∈ x.1.weights P t, m ≤ Z) :
    ∃ (a : Option Addr) (len cap : Nat) (els : List (List Value)), cs = [.slice a len cap] ∧ els.length = len ∧ len ≤ cap ∧ cap ≤ 9223372036854775807 ∧ (a = none → cap = 0) ∧ Sl w a els.flatten ∧
      (∀ c ∈ els, c.length = s ∧ ∃ n y, DataW.trod enc P w base spare held n e c = some y ∧ ∀ m ∈ y.1.weights P e, m ≤ Z) ∧ len * P.bytesOf e ≤ Z := by
  subst hs
  rcases Go.Deep.open_slice ht h with ⟨rfl, _⟩ | ⟨a, len, cap, m, n, D, Pl, rfl, hb, hl, hc, hm, rfl, hel⟩
  · exact ⟨none, 0, 0, [], rfl, rfl, Nat.le_refl _, by omega, fun _ => rfl, Sl.nil _ _, by simp, by simp⟩
  · have hlm : len ≤ m := by subst hm; split <;> omega
    have hz1 : (len + (m - len)) * P.bytesOf e ≤ Z := hz _ (by simp [DataW.weights, ht])
    have hz2 : ∀ i, i < len → ∀ q ∈ (D i).weights P e, q ≤ Z := fun i hi q hq => hz q (by
      simp only [DataW.weights, ht, List.mem_cons, List.mem_append]
      exact .inr (.inl (weightsAll_mem (List.mem_map.2 ⟨i, by simpa using hi, rfl⟩) q hq)))
    have hel' : ∀ i, i < len → ∃ cs', w.cells? base (a.add (i * P.cellsOf e)) (P.cellsOf e) = some cs' ∧ DataW.trod enc P w base spare held n e cs' = some (D i, Pl i) := fun i hi => hel i (by omega)
    obtain ⟨f, hf⟩ := Go.Deep.choose_lt hel'
    refine ⟨some a, len, cap, (List.range len).map f, rfl, by simp, hl, by unfold maxLen at hc; exact hc, by simp, ?_, ?_, Nat.le_trans (Nat.mul_le_mul_right _ (by omega)) hz1⟩
    · refine sl_of_adds fun j u hu => ?_
      obtain ⟨c, h1, h2⟩ := flatten_get hpos (els := (List.range len).map f) (by
        intro c hc
        obtain ⟨i, hi, rfl⟩ := List.mem_map.1 hc
        exact (World.cells?_some (hf i (by simpa using hi)).1).2.1) hu
      have hi : j / P.cellsOf e < len := by
        have := (List.getElem?_eq_some_iff.1 h1).1
        simpa using this
      have e1 : c = f (j / P.cellsOf e) := by simp [hi] at h1; exact h1.symm
      subst e1
      obtain ⟨_, h4, h5⟩ := World.cells?_some (hf _ hi).1
      have h6 := h5 (j % P.cellsOf e) (Nat.mod_lt _ hpos)
      rw [Go.Deep.add_add, Nat.mul_comm, Nat.div_add_mod] at h6
      rw [h6]; exact h2
    · intro c hc
      obtain ⟨i, hi, rfl⟩ := List.mem_map.1 hc
      have hi : i < len := by simpa using hi
      have h3 := World.cells?_some (hf i hi).1
      exact ⟨h3.2.1, n, _, (hf i hi).2, hz2 i hi⟩

/-- one by one: a list of things whose cells these are. -/
theorem list_of_els {α : Type} {els : List (List Value)} {f : α → List Value} (h : ∀ c ∈ els, ∃ y, c = f y) : ∃ l : List α, els = l.map f := by
  induction els with
  | nil => exact ⟨[], rfl⟩
  | cons c els ih =>
    obtain ⟨y, hy⟩ := h c (by simp)
    obtain ⟨l, hl⟩ := ih (fun c hc => h c (by simp [hc]))
    exact ⟨y :: l, by simp [hy, hl]⟩
theorem flatten_single {α : Type} (l : List α) (f : α → Value) : (l.map fun x => [f x]).flatten = l.map f := by
  induction l with
  | nil => rfl
  | cons x l ih => simp [ih]
theorem open_ints' {t e : TypeId} {k : IntKind} {fuel Z : Nat} {cs : List Value} {x : DataW H × List MemPlace} (ht : P.underlying t = some (.slice e)) (he : P.underlying e = some (.int k)) (hs : P.cellsOf e = 1) (h : DataW.trod enc P w base spare held fuel t cs = some x) (hz : ∀ m ∈ x.1.weights P t, m ≤ Z) :
    ∃ (a : Option Addr) (cap : Nat) (l : List Int), cs = [.slice a l.length cap] ∧ l.length ≤ cap ∧ cap ≤ 9223372036854775807 ∧ (a = none → cap = 0) ∧ Sl w a (l.map (Value.int k)) ∧ (∀ n ∈ l, (Lit.int k n).wf = true) ∧ l.length * P.bytesOf e ≤ Z := by
  obtain ⟨a, len, cap, els, rfl, rfl, h1, h2, h3, h4, h5, h6⟩ := open_cells ht hs (by omega) h hz
  obtain ⟨l, rfl⟩ := list_of_els (f := fun n : {n : Int // (Lit.int k n).wf = true} => [Value.int k n.1]) (fun c hc => by
    obtain ⟨_, n, y, hy, hw⟩ := h5 c hc
    obtain ⟨m, rfl, _, hw⟩ := DataW.trod_int he hy
    exact ⟨⟨m, hw⟩, rfl⟩)
  refine ⟨a, cap, l.map (·.1), by simp, by simpa using h1, h2, h3, ?_, ?_, by simpa using h6⟩
  · have := h4
    rw [flatten_single l (fun n => Value.int k n.1)] at this
    simpa using this
  · intro n hn
    obtain ⟨m, _, rfl⟩ := List.mem_map.1 hn
    exact m.2
theorem open_bytes {t e : TypeId} {fuel Z : Nat} {cs : List Value} {x : DataW H × List MemPlace} (ht : P.underlying t = some (.slice e)) (he : P.underlying e = some (.int .u8)) (hs : P.cellsOf e = 1) (h : DataW.trod enc P w base spare held fuel t cs = some x) (hz : ∀ m ∈ x.1.weights P t, m ≤ Z) :
    ∃ r : BRow, cs = [r.v] ∧ r.l.length ≤ r.c ∧ r.c ≤ 9223372036854775807 ∧ (r.a = none → r.c = 0) ∧ Sl w r.a (bys r.l) ∧ r.l.length * P.bytesOf e ≤ Z := by
  obtain ⟨a, cap, l, rfl, h1, h2, h3, h4, h5, h6⟩ := open_ints' ht he hs h hz
  obtain ⟨b, e1, e2⟩ := bytes_of_ints h5
  exact ⟨⟨a, cap, b⟩, by simp [BRow.v, e1], by simpa [e1] using h1, h2, h3, by rw [e2]; exact h4, by rw [e1]; exact h6⟩
theorem open_bools {t e : TypeId} {fuel Z : Nat} {cs : List Value} {x : DataW H × List MemPlace} (ht : P.underlying t = some (.slice e)) (he : P.underlying e = some .bool) (hs : P.cellsOf e = 1) (h : DataW.trod enc P w base spare held fuel t cs = some x) (hz : ∀ m ∈ x.1.weights P t, m ≤ Z) :
    ∃ (a : Option Addr) (cap : Nat) (l : List Bool), cs = [.slice a l.length cap] ∧ l.length ≤ cap ∧ cap ≤ 9223372036854775807 ∧ (a = none → cap = 0) ∧ Sl w a (bos l) ∧ l.length * P.bytesOf e ≤ Z := by
  obtain ⟨a, len, cap, els, rfl, rfl, h1, h2, h3, h4, h5, h6⟩ := open_cells ht hs (by omega) h hz
  obtain ⟨l, rfl⟩ := list_of_els (f := fun b : Bool => [Value.bool b]) (fun c hc => by
    obtain ⟨_, n, y, hy, hw⟩ := h5 c hc
    obtain ⟨m, rfl, _⟩ := DataW.trod_bool he hy
    exact ⟨m, rfl⟩)
  exact ⟨a, cap, l, by simp, by simpa using h1, h2, h3, by rwa [flatten_single] at h4, by simpa using h6⟩
theorem open_strs {t e : TypeId} {fuel Z : Nat} {cs : List Value} {x : DataW H × List MemPlace} (ht : P.underlying t = some (.slice e)) (he : P.underlying e = some .string) (hs : P.cellsOf e = 1) (h : DataW.trod enc P w base spare held fuel t cs = some x) (hz : ∀ m ∈ x.1.weights P t, m ≤ Z) :
    ∃ (a : Option Addr) (cap : Nat) (l : List ByteArray), cs = [.slice a l.length cap] ∧ l.length ≤ cap ∧ cap ≤ 9223372036854775807 ∧ (a = none → cap = 0) ∧ Sl w a (sts l) ∧ (∀ s ∈ l, s.size ≤ Z) ∧ l.length * P.bytesOf e ≤ Z := by
  obtain ⟨a, len, cap, els, rfl, rfl, h1, h2, h3, h4, h5, h6⟩ := open_cells ht hs (by omega) h hz
  obtain ⟨l, rfl⟩ := list_of_els (f := fun b : {s : ByteArray // s.size ≤ Z} => [Value.string b.1]) (fun c hc => by
    obtain ⟨_, n, y, hy, hw⟩ := h5 c hc
    obtain ⟨m, rfl, rfl, hm⟩ := DataW.trod_string he hy
    exact ⟨⟨m, hw _ (List.mem_singleton.2 rfl)⟩, rfl⟩)
  refine ⟨a, cap, l.map (·.1), by simp, by simpa using h1, h2, h3, ?_, ?_, by simpa using h6⟩
  · have := h4
    rw [flatten_single l (fun n => Value.string n.1)] at this
    simpa [sts] using this
  · intro n hn
    obtain ⟨m, _, rfl⟩ := List.mem_map.1 hn
    exact m.2
theorem open_rows {t e f : TypeId} {fuel Z : Nat} {cs : List Value} {x : DataW H × List MemPlace} (ht : P.underlying t = some (.slice e)) (he : P.underlying e = some (.slice f)) (hf : P.underlying f = some (.int .u8)) (hs : P.cellsOf e = 1) (hs' : P.cellsOf f = 1)
    (h : DataW.trod enc P w base spare held fuel t cs = some x) (hz : ∀ m ∈ x.1.weights P t, m ≤ Z) :
    ∃ (a : Option Addr) (cap : Nat) (rs : List BRow), cs = [.slice a rs.length cap] ∧ rs.length ≤ cap ∧ cap ≤ 9223372036854775807 ∧ (a = none → cap = 0) ∧ Sl w a (rs.map BRow.v) ∧ RowsOk w rs ∧ (∀ r ∈ rs, r.l.length ≤ r.c ∧ r.c ≤ 9223372036854775807 ∧ (r.a = none → r.c = 0) ∧ r.l.length * P.bytesOf f ≤ Z) ∧ rs.length * P.bytesOf e ≤ Z := by
  obtain ⟨a, len, cap, els, rfl, rfl, h1, h2, h3, h4, h5, h6⟩ := open_cells ht hs (by omega) h hz
  obtain ⟨l, rfl⟩ := list_of_els (f := fun b : {r : BRow // (r.l.length ≤ r.c ∧ r.c ≤ 9223372036854775807 ∧ (r.a = none → r.c = 0) ∧ r.l.length * P.bytesOf f ≤ Z) ∧ Sl w r.a (bys r.l)} => [b.1.v]) (fun c hc => by
    obtain ⟨_, n, y, hy, hw⟩ := h5 c hc
    obtain ⟨r, rfl, e1, e2, e3, e4, e5⟩ := open_bytes he hf hs' hy hw
    exact ⟨⟨r, ⟨e1, e2, e3, e5⟩, e4⟩, rfl⟩)
  refine ⟨a, cap, l.map (·.1), by simp, by simpa using h1, h2, h3, ?_, ?_, ?_, by simpa using h6⟩
  · have := h4
    rw [flatten_single l (fun n => n.1.v)] at this
    simpa using this
  · intro n hn
    obtain ⟨m, _, rfl⟩ := List.mem_map.1 hn
    exact m.2.2
  · intro n hn
    obtain ⟨m, _, rfl⟩ := List.mem_map.1 hn
    exact m.2.1
end
end Go.Proofs.Ytahpfcfecghpmaa
