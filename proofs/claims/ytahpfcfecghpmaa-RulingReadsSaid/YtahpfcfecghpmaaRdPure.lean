/- Reads, verdicts, as they are read: plain. -/
import Derived.Test.YtahpfcfecghpmaaRightRow
namespace Go.Proofs.Ytahpfcfecghpmaa

def rdRdx (s : RS) : Rdx × RS := (⟨⟨(rdRow 20 s).1.toArray⟩, (rdFlag (rdRow 20 s).2).1, ⟨(rdRow 20 (rdFlag (rdRow 20 s).2).2).1.toArray⟩⟩, (rdRow 20 (rdFlag (rdRow 20 s).2).2).2)
def rdRds : Nat → RS → List Rdx × RS
  | 0, s => ([], s)
  | n + 1, s => ((rdRdx s).1 :: (rdRds n (rdRdx s).2).1, (rdRds n (rdRdx s).2).2)
theorem rdRds_snoc : ∀ (n : Nat) (s : RS), rdRds (n + 1) s = ((rdRds n s).1 ++ [(rdRdx (rdRds n s).2).1], (rdRdx (rdRds n s).2).2)
  | 0, s => rfl
  | n + 1, s => by
    have ih := rdRds_snoc n (rdRdx s).2
    rw [rdRds, ih]
    simp [rdRds]
theorem rdRds_length : ∀ (n : Nat) (s : RS), (rdRds n s).1.length = n
  | 0, _ => rfl
  | n + 1, s => by simp [rdRds, rdRds_length n]
theorem rdRow_len (most : Int) (s : RS) : rsLen (rdRow most s).2 ≤ rsLen s := by
  have h := rdNum_len most s
  unfold rdRow
  split
  · simp [rsLen]
  · rename_i l hl
    rw [hl] at h
    split
    · simp [rsLen]
    · simp only [rsLen] at *
      simp; omega
theorem rdFlag_len (s : RS) : rsLen (rdFlag s).2 ≤ rsLen s := by
  match s with
  | none => exact Nat.le_refl _
  | some [] => exact Nat.zero_le _
  | some (b :: l) =>
    simp only [rdFlag]
    split
    · exact Nat.zero_le _
    · simp only [rsLen, List.length_cons]; omega
theorem rdRdx_len (s : RS) : rsLen (rdRdx s).2 ≤ rsLen s := by
  have h1 := rdRow_len 20 s
  have h2 := rdFlag_len (rdRow 20 s).2
  have h3 := rdRow_len 20 (rdFlag (rdRow 20 s).2).2
  unfold rdRdx; dsimp only; omega
theorem rdRds_len : ∀ (n : Nat) (s : RS), rsLen (rdRds n s).2 ≤ rsLen s
  | 0, _ => Nat.le_refl _
  | n + 1, s => Nat.le_trans (rdRds_len n _) (rdRdx_len s)
theorem rdRow_le (most : Int) (s : RS) : (rdRow most s).1.length ≤ rsLen s := by
  have h := rdNum_len most s
  unfold rdRow
  split
  · simp
  · rename_i l hl
    rw [hl] at h
    split
    · simp
    · simp only [rsLen] at *
      simp; omega
theorem rdRds_fits : ∀ (n : Nat) (s : RS), rsLen s ≤ 140737488351232 → ∀ y ∈ (rdRds n s).1, y.fits
  | 0, _, _ => by simp [rdRds]
  | n + 1, s, hs => by
    intro y hy
    simp only [rdRds, List.mem_cons] at hy
    rcases hy with rfl | hy
    · have h1 := rdRow_le 20 s
      have h2 := rdFlag_len (rdRow 20 s).2
      have h3 := rdRow_len 20 s
      have h4 := rdRow_le 20 (rdFlag (rdRow 20 s).2).2
      refine ⟨?_, ?_⟩
      · show (rdRow 20 s).1.toArray.size ≤ _
        simp; omega
      · show (rdRow 20 (rdFlag (rdRow 20 s).2).2).1.toArray.size ≤ _
        simp; omega
    · exact rdRds_fits n _ (Nat.le_trans (rdRdx_len s) hs) y hy
def rdVd (s : RS) : Vd × RS :=
  let c := rdNum 1073741824 s
  let n := rdNum 1073741824 c.2
  let t := rdNum 1073741824 n.2
  let f := rdFlag t.2
  let m := rdNum 6 f.2
  let r := rdRds m.1.toNat m.2
  (⟨c.1, n.1, f.1, t.1, r.1⟩, r.2)
theorem rdNum_ge (most : Int) (s : RS) : 0 ≤ (rdNum most s).1 ∧ ((rdNum most s).1 ≤ most ∨ (rdNum most s).1 = 0) := by
  cases s with
  | none => simp [rdNum]
  | some l =>
    simp only [rdNum]
    split
    · rename_i h; have := getN_len h; exact ⟨by simp, .inl this.2.1⟩
    · simp
end Go.Proofs.Ytahpfcfecghpmaa
