/- A book is read: plain. -/
import Derived.Test.YtahpfcfecghpmaaRdPure
import Derived.Test.YtahpfcfecghpmaaBook4
namespace Go.Proofs.Ytahpfcfecghpmaa

def rdBook : Nat → List Vd → RS → Option (List Vd) × RS
  | 0, l, s => (if s.isSome then some l else none, s)
  | n + 1, l, s =>
    if (rdVd s).2.isSome && !(l.any (sameName (rdVd s).1)) && (dec l (rdVd s).1).1.isSome then rdBook n (dec l (rdVd s).1).2 (rdVd s).2 else (none, (rdVd s).2)
def rdBk (s : RS) : Option (List Vd) × RS := rdBook (rdNum 1073741824 s).1.toNat [] (rdNum 1073741824 s).2
theorem rdNum_lt {most : Int} {s : RS} {l' : List UInt8} (h : (rdNum most s).2 = some l') : l'.length < rsLen s := by
  cases s with
  | none => simp [rdNum] at h
  | some l =>
    simp only [rdNum] at h
    split at h
    · rename_i h1; have := getN_len h1; simp at h; subst h; simp only [rsLen]; omega
    · cases h
theorem rdVd_lt (s : RS) (h : (rdVd s).2.isSome = true) : rsLen (rdVd s).2 < rsLen s := by
  have a2 := rdNum_len 1073741824 (rdNum 1073741824 s).2
  have a3 := rdNum_len 1073741824 (rdNum 1073741824 (rdNum 1073741824 s).2).2
  have a4 := rdFlag_len (rdNum 1073741824 (rdNum 1073741824 (rdNum 1073741824 s).2).2).2
  have a5 := rdNum_len 6 (rdFlag (rdNum 1073741824 (rdNum 1073741824 (rdNum 1073741824 s).2).2).2).2
  have a6 := rdRds_len (rdNum 6 (rdFlag (rdNum 1073741824 (rdNum 1073741824 (rdNum 1073741824 s).2).2).2).2).1.toNat (rdNum 6 (rdFlag (rdNum 1073741824 (rdNum 1073741824 (rdNum 1073741824 s).2).2).2).2).2
  cases hs : (rdNum 1073741824 s).2 with
  | some l' =>
    have := rdNum_lt hs
    simp only [rdVd]
    rw [hs] at a2 a3 a4 a5 a6 ⊢
    have hl : rsLen (some l') = l'.length := rfl
    omega
  | none =>
    exfalso
    have e1 : ∀ m, rdNum m none = (0, none) := fun _ => rfl
    have e2 : rdFlag none = (false, none) := rfl
    have e3 : ∀ n, (rdRds n none).2 = none := by
      intro n
      induction n with
      | zero => rfl
      | succ n ih =>
        rw [rdRds_snoc, ih]
        rfl
    simp only [rdVd, hs, e1, e2, e3] at h
    cases h
theorem rdVd_b (s : RS) : (0 ≤ (rdVd s).1.c ∧ (rdVd s).1.c ≤ 1073741824) ∧ (0 ≤ (rdVd s).1.n ∧ (rdVd s).1.n ≤ 1073741824) ∧ (0 ≤ (rdVd s).1.at_ ∧ (rdVd s).1.at_ ≤ 1073741824) := by
  have h1 := rdNum_ge 1073741824 s
  have h2 := rdNum_ge 1073741824 (rdNum 1073741824 s).2
  have h3 := rdNum_ge 1073741824 (rdNum 1073741824 (rdNum 1073741824 s).2).2
  simp only [rdVd]
  omega
theorem dec_len (l : List Vd) (x : Vd) : (dec l x).2.length ≤ l.length + 1 := by
  unfold dec
  split
  · split
    · simp
    · split <;> simp
  · simp
end Go.Proofs.Ytahpfcfecghpmaa
