/- From the row's reading of an argument to the words of these walks. -/
import Derived.Test.YtfllejlooaipiaaLib
import Derived.ProofKit
import Derived.OpenShut
namespace Go.Proofs.Ytfllejlooaipiaa
open Go.RowKit

theorem sl_of_adds {w : World} {x : Addr} {cs : List Value} (h : ∀ j u, cs[j]? = some u → w.cell? (x.add j) = some u) : Sl w (some x) cs := by
  cases cs with
  | nil => exact Sl.nil _ _
  | cons y ys =>
    have h0 := h 0 y rfl
    obtain ⟨b, o, sp⟩ := x
    have hs : sp = none := by
      cases sp with
      | none => rfl
      | some s =>
        simp [Addr.add, World.cell?] at h0
        split at h0 <;> simp at h0
    subst hs
    exact Sl.mk fun j u hu => by have := h j u hu; rwa [Addr.add_lit] at this

/-- numbers of a kind, up to a length. -/
theorem sl_of_ints {w : World} {x : Addr} {k : IntKind} {zs : List Int} {len : Nat} (hl : len ≤ zs.length) (h : ∀ i, i < zs.length → w.cell? (x.add i) = some (.int k (zs.getD i 0))) : Sl w (some x) ((zs.take len).map (Value.int k)) := by
  refine sl_of_adds fun j u hu => ?_
  have hj : j < len := by
    have := (List.getElem?_eq_some_iff.1 hu).1; simp at this; omega
  rw [h j (by omega), ← hu]
  simp [hj, List.getD, show j < zs.length by omega]
theorem wf_u8 {n : Int} (h : (Lit.int .u8 n).wf = true) : 0 ≤ n ∧ n ≤ 255 := by
  simp [Lit.wf, IntKind.min, IntKind.max, IntKind.signed, IntKind.bits] at h; omega
theorem bytes_of_ints {zs : List Int} (h : ∀ n ∈ zs, (Lit.int .u8 n).wf = true) : ∃ l : List UInt8, l.length = zs.length ∧ bys l = zs.map (Value.int .u8) := by
  refine ⟨zs.map fun n => UInt8.ofNat n.toNat, by simp, ?_⟩
  simp only [bys, List.map_map]
  refine List.map_congr_left fun n hn => ?_
  have := wf_u8 (h n hn)
  simp
  omega
end Go.Proofs.Ytfllejlooaipiaa
