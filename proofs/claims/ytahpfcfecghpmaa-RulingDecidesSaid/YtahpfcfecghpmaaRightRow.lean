/- Rows of verdicts: how they lie; whether all are right, by the program. -/
import Derived.Test.YtahpfcfecghpmaaRight19
import Derived.KernelRfl
namespace Go.Proofs.Ytahpfcfecghpmaa
open Go.RowKit

/-- a verdict in a row: its reads lie at a. -/
structure Ve where
  x : Vd
  a : Option Addr
  cap : Nat
def Ve.v (e : Ve) : List Value := [.int .i64 e.x.c, .int .i64 e.x.n, .bool e.x.commit, .int .i64 e.x.at_, .slice e.a e.x.reads.length e.cap]
def vcs (l : List Ve) : List Value := l.flatMap Ve.v
theorem sz_vd (w : World) : (sizeOf 38).run Try.prog w = .ok 5 w := by kernel_rfl
@[simp] theorem vcs_length (l : List Ve) : (vcs l).length = l.length * 5 := by
  induction l with
  | nil => rfl
  | cons x l ih => simp only [vcs, List.flatMap_cons, List.length_append] at *; rw [ih]; simp [Ve.v]; omega
@[simp] theorem vcs_append (l m : List Ve) : vcs (l ++ m) = vcs l ++ vcs m := by simp [vcs]
theorem vcs_oneCell (l : List Ve) : ∀ u ∈ vcs l, u.oneCell' = true := by
  intro u hu
  simp only [vcs, List.mem_flatMap] at hu
  obtain ⟨x, _, hx⟩ := hu
  simp only [Ve.v, List.mem_cons, List.not_mem_nil, or_false] at hx
  rcases hx with rfl | rfl | rfl | rfl | rfl <;> rfl
theorem vcs_at : ∀ {l : List Ve} {j : Nat} {x : Ve}, l[j]? = some x → (vcs l)[5 * j]? = some (.int .i64 x.x.c) ∧ (vcs l)[5 * j + 1]? = some (.int .i64 x.x.n) ∧ (vcs l)[5 * j + 2]? = some (.bool x.x.commit) ∧ (vcs l)[5 * j + 3]? = some (.int .i64 x.x.at_) ∧ (vcs l)[5 * j + 4]? = some (.slice x.a x.x.reads.length x.cap)
  | [], j, x, h => by simp at h
  | y :: l, 0, x, h => by simp at h; subst h; exact ⟨rfl, rfl, rfl, rfl, rfl⟩
  | y :: l, j + 1, x, h => by
    have := vcs_at (l := l) (j := j) (x := x) (by simpa using h)
    have e : vcs (y :: l) = .int .i64 y.x.c :: .int .i64 y.x.n :: .bool y.x.commit :: .int .i64 y.x.at_ :: .slice y.a y.x.reads.length y.cap :: vcs l := rfl
    rw [e, show 5 * (j + 1) = 5 * j + 1 + 1 + 1 + 1 + 1 by omega]
    exact this
theorem Sl.ix_ve {w : World} {a : Option Addr} {l : List Ve} (h : Sl w a (vcs l)) (c : Nat) :
    ∃ b o, (∀ i : Nat, i < l.length → ∀ w : World, (Instr.indexAt 22 (.slice a l.length c) (.int .i64 (i : Int))).run Try.prog w = .ok (.pointer (some ⟨b, o + i * 5, none⟩)) w) ∧
      Hid (∀ j x, l[j]? = some x → w.cell? ⟨b, o + j * 5, none⟩ = some (.int .i64 x.x.c) ∧ w.cell? ⟨b, o + j * 5 + 1, none⟩ = some (.int .i64 x.x.n) ∧ w.cell? ⟨b, o + j * 5 + 2, none⟩ = some (.bool x.x.commit) ∧ w.cell? ⟨b, o + j * 5 + 3, none⟩ = some (.int .i64 x.x.at_) ∧ w.cell? ⟨b, o + j * 5 + 4, none⟩ = some (.slice x.a x.x.reads.length x.cap)) ∧ Hid (0 < l.length → a = some ⟨b, o, none⟩) := by
  obtain ⟨b, o, p, q⟩ := h.base
  have hn : 0 < l.length → vcs l ≠ [] := by
    intro h0 h1
    have := vcs_length l
    rw [h1] at this; simp at this; omega
  refine ⟨b, o, fun i hi w => indexAt_any Try.underlying22 sz_vd (fun h => p (hn h)) i hi w, fun j x hx => ?_, fun h => p (hn h)⟩
  obtain ⟨h1, h2, h3, h4, h5⟩ := vcs_at hx
  exact ⟨by rw [Nat.mul_comm]; exact q _ _ h1, by rw [Nat.mul_comm, Nat.add_assoc]; exact q _ _ h2, by rw [Nat.mul_comm, Nat.add_assoc]; exact q _ _ h3, by rw [Nat.mul_comm, Nat.add_assoc]; exact q _ _ h4, by rw [Nat.mul_comm, Nat.add_assoc]; exact q _ _ h5⟩
/-- what a row of verdicts wants of the world: each one's reads lie there. -/
structure Vok (w : World) (e : Ve) : Prop where
  sl : Sl w e.a (rdxs e.x.reads)
  fits : ∀ y ∈ e.x.reads, y.fits
  len : e.x.reads.length ≤ 1000000000
theorem Vok.old {w w' : World} {e : Ve} (h : Vok w e) (ho : Off Old w w') : Vok w' e := ⟨h.sl.old ho, h.fits, h.len⟩
theorem right1_e (e : Ve) (w : World) (h : Vok w e) (R : Ending → World → Prop) (k : ∀ w', Off Old w w' → R (.returned (.bool (!e.x.ok))) w') :
    Calls Try.prog 47 #[.agg #[.int .i64 e.x.c, .int .i64 e.x.n, .bool e.x.commit, .int .i64 e.x.at_, .slice e.a e.x.reads.length e.cap]] w R :=
  right1_19 e.x e.a _ e.cap rfl w h.sl h.fits h.len R k
set_option maxHeartbeats 400000 in
theorem rightIx_c (V : Bool) (a : Option Addr) (c : Nat) (l : List Ve) (w : World) (ha : Sl w a (vcs l)) (hf : ∀ x ∈ l, Vok w x) (bn : l.length ≤ 1000000000) (R : Ending → World → Prop) (hV : Hid (l.all (fun e => e.x.ok) = V)) (k1 : V = true → ∀ w', Off Old w w' → R (.returned (.int .i64 (-1))) w')
    (k2 : V = false → ∀ w' (i : Nat), Off Old w w' → R (.returned (.int .i64 i)) w') :
    Calls Try.prog 72 #[.slice a l.length c, .func (.func 47) #[] #[]] w R := by
  have K1 := Lib.hid k1; have K2 := Lib.hid k2; clear k1 k2
  have HFI := Lib.hid hf; clear hf
  go_enter Try.func72, Try.ntmps72
  go_wp2_with fail
  go_loopw [5, 8] (fun _ i wr => ∃ j : Nat, i = .int .i64 j ∧ j ≤ l.length ∧ Off Old w wr ∧ Hid ((l.take j).all (fun e => e.x.ok) = true)) (fun _ i _ => l.length - (intOf i).toNat)
  case atStart => exact ⟨0, rfl, Nat.zero_le _, Off.refl _ _, by show _ = _; simp⟩
  case round =>
    obtain ⟨j, rfl, hj, ho, hok⟩ := hrel
    by_cases hlt : j < l.length
    · obtain ⟨x, hx⟩ := at_of_lt hlt
      obtain ⟨b, o, ix, Q, HB⟩ := Sl.ix_ve (ha.old ho) c
      obtain ⟨cx1, cx2, cx3, cx4, cx5⟩ := Q.out j x hx.out
      have hvk := Lib.hid ((HFI.out x (List.mem_of_getElem? hx.out)).old ho)
      obtain ⟨v, hv⟩ : ∃ v, Hid (x.x.ok = v) := ⟨_, rfl⟩
      cases v
      · have hbad : l.all (fun e => e.x.ok) = false := by
          rw [List.all_eq_false]; exact ⟨x, List.mem_of_getElem? hx.out, by rw [hv.out]; simp⟩
        have HK := Lib.hid (K2.out (hV.out.symm.trans hbad))
        clear K1 K2 hbad
        go_wp2_with (go_at_call 47; refine right1_e x _ (hvk.out.old (by simp)) _ ?_; rw [hv.out])
        intro w1 ho1
        have HF := HK.out w1 j (ho.trans ho1)
        clear HK
        go_wp2_with fail
        exact HF
      · have hok2 : Hid ((l.take (j + 1)).all (fun e => e.x.ok) = true) := by
          show _ = _; rw [List.take_add_one, hx.out, List.all_append, hok.out]; simp [hv.out]
        go_wp2_with (go_at_call 47; refine right1_e x _ (hvk.out.old (by simp)) _ ?_; rw [hv.out])
        intro w1 ho1
        go_wp2_with fail
        go_roundw
        case rel => exact ⟨j + 1, by go_num, by omega, ho.trans ho1, hok2⟩
        case measure => simp [intOf]; omega
    · have hall := hok.out
      rw [List.take_of_length_le (by omega)] at hall
      have HF := K1.out (hV.out.symm.trans hall) wr ho
      clear K1 K2 hall
      go_wp2_with fail
      exact HF
theorem rightAny_c (a : Option Addr) (c : Nat) (l : List Ve) (w : World) (ha : Sl w a (vcs l)) (hf : ∀ x ∈ l, Vok w x) (bn : l.length ≤ 1000000000) (R : Ending → World → Prop) (k : ∀ w', Off Old w w' → R (.returned (.bool (!l.all (fun e => e.x.ok)))) w') :
    Calls Try.prog 46 #[.slice a l.length c, .func (.func 47) #[] #[]] w R := by
  have HK := Lib.hid k; clear k
  have HFI := Lib.hid hf; clear hf
  go_enter Try.func46, Try.ntmps46
  obtain ⟨V, hV⟩ : ∃ V, Hid (l.all (fun e => e.x.ok) = V) := ⟨_, rfl⟩
  rw [hV.out] at HK
  go_wp2_with (go_at_call 72; refine rightIx_c V _ _ l _ ha HFI.out bn _ hV ?_ ?_)
  · intro hv w1 ho1
    subst hv
    have HF := HK.out w1 ho1
    clear HK
    go_wp2_with fail
    exact HF
  · intro hv w1 i ho1
    subst hv
    have HF := HK.out w1 ho1
    clear HK
    have hi : (0 : Int) ≤ i := by omega
    go_wp2_with fail
    first | exact HF | (simp only [decide_eq_true hi]; exact HF)
theorem right_c (a : Option Addr) (m c : Nat) (l : List Ve) (hm : l.length = m) (w : World) (ha : Sl w a (vcs l)) (hf : ∀ x ∈ l, Vok w x) (bn : m ≤ 1000000000) (R : Ending → World → Prop) (k : ∀ w', Off Old w w' → R (.returned (.bool (l.all (fun e => e.x.ok)))) w') :
    Calls Try.prog 19 #[.slice a m c] w R := by
  subst hm
  have HK := Lib.hid k; clear k
  have HFI := Lib.hid hf; clear hf
  obtain ⟨V, hV⟩ : ∃ V, Hid (l.all (fun e => e.x.ok) = V) := ⟨_, rfl⟩
  rw [hV.out] at HK
  go_enter Try.func19, Try.ntmps19
  go_wp2_with (go_at_call 46; refine rightAny_c _ _ l _ ha HFI.out bn _ ?_; rw [hV.out]; intro w1 ho1)
  have HF := HK.out w1 ho1
  clear HK
  cases V
  · go_wp2_with fail
    exact HF
  · go_wp2_with fail
    exact HF
end Go.Proofs.Ytahpfcfecghpmaa
