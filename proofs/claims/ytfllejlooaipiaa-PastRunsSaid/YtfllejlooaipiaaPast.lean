/- What is past: its objects, and the small functions. -/
import Derived.Test.YtfllejlooaipiaaKit4
import Derived.Deep.RegionHeld3
namespace Go.Proofs.Ytfllejlooaipiaa
open Go.RowKit

def pts (l : List Nat) : List Value := l.map fun p => .pointer (some ⟨p, 0, none⟩)
@[simp] theorem pts_length (l : List Nat) : (pts l).length = l.length := by simp [pts]
theorem pts_at {l : List Nat} {j : Nat} {x : Nat} (h : l[j]? = some x) : (pts l)[j]? = some (.pointer (some ⟨x, 0, none⟩)) := by simp [pts, h]
theorem sz_ppast (w : World) : (sizeOf 27).run Try.prog w = .ok 1 w := by kernel_rfl

/-- a past at p: its numbers. -/
structure Pst (w : World) (p : Nat) (N : List Int) : Prop where
  blk : Blk w p (ins N ++ [.bool true]) 108
  len : N.length = 8
theorem Pst.made {w : World} {p : Nat} {N : List Int} (h : Pst w p N) : w.cell? ⟨p, 8, none⟩ = some (.bool true) :=
  h.blk.cell (i := 8) (by rw [List.getElem?_append_right (by simp [h.len])]; simp [h.len])
theorem Pst.at {w : World} {p : Nat} {N : List Int} (h : Pst w p N) {i : Nat} {x : Int} (hx : N[i]? = some x) : w.cell? ⟨p, i, none⟩ = some (.int .i64 x) := by
  have hl := (List.getElem?_eq_some_iff.1 hx).1
  exact h.blk.cell (by rw [List.getElem?_append_left (by simpa using hl)]; exact ins_at hx)
theorem Pst.off {S : Nat → Prop} {w w' : World} {p : Nat} {N : List Int} (h : Pst w p N) (ho : Off S w w') (hs : ¬ S p) : Pst w' p N := ⟨h.blk.off ho hs, h.len⟩
theorem Pst.old {w w' : World} {p : Nat} {N : List Int} (h : Pst w p N) (ho : Off Old w w') : Pst w' p N := h.off ho (fun x => x)
theorem Pst.set {w : World} {p : Nat} {N : List Int} (h : Pst w p N) {i : Nat} (hi : i < 8) (x : Int) : Pst (w.setCell ⟨p, i, none⟩ (.int .i64 x)) p (N.set i x) := by
  refine ⟨?_, by simp [h.len]⟩
  have := h.blk.set i (.int .i64 x)
  rw [List.set_append_left _ _ (by simp [h.len]; omega)] at this
  simpa [ins, List.map_set] using this
def zero8 : List Int := List.replicate 8 0

theorem new_c (w : World) (R : Ending → World → Prop) (k : ∀ w', Pst w' w.heap.size zero8 → Off Old w w' → w'.heap.size = w.heap.size + 1 → R (.returned (.pointer (some ⟨w.heap.size, 0, none⟩))) w') :
    Calls Try.prog 12 #[] w R := by
  have HK := Lib.hid k; clear k
  go_enter Try.func12, Try.ntmps12
  go_wp2_with fail
  exact HK.out _ ⟨Blk.new w _ _, rfl⟩ ((Off.refl _ _).alloc _) (by simp)

theorem known1_c (p : Nat) (w : World) (h : w.cell? ⟨p, 8, none⟩ = some (.bool true)) (R : Ending → World → Prop) (k : R (.returned (.bool false)) w) :
    Calls Try.prog 87 #[.pointer (some ⟨p, 0, none⟩)] w R := by
  go_enter Try.func87, Try.ntmps87
  go_wp2_with fail
  exact k
set_option maxHeartbeats 400000 in
theorem knownIx_c (a : Option Addr) (c : Nat) (ps : List Nat) (w : World) (ha : Sl w a (pts ps)) (h : ∀ p ∈ ps, w.cell? ⟨p, 8, none⟩ = some (.bool true)) (bn : ps.length ≤ 1000000000) (R : Ending → World → Prop) (k : R (.returned (.int .i64 (-1))) w) :
    Calls Try.prog 110 #[.slice a ps.length c, .func (.func 87) #[] #[]] w R := by
  have HK := Lib.hid k; clear k
  have H := Lib.hid h; clear h
  go_enter Try.func110, Try.ntmps110
  go_wp2_with fail
  go_loop [5, 8] (fun _ i => ∃ j : Nat, i = .int .i64 j ∧ j ≤ ps.length) (fun _ i => ps.length - (intOf i).toNat)
  case atStart => exact ⟨0, rfl, Nat.zero_le _⟩
  case round =>
    obtain ⟨j, rfl, hj⟩ := hrel
    by_cases hlt : j < ps.length
    · obtain ⟨x, hx⟩ := at_of_lt hlt
      obtain ⟨b, o, ix, Q⟩ := ha.ix1 Try.underlying25 sz_ppast (n := ps.length) (by simp) c
      have cx := Q.out j _ (pts_at hx.out)
      have hm := H.out x (List.mem_of_getElem? hx.out)
      go_wp2_with (go_at_call 87; refine known1_c x _ hm _ ?_)
      go_round
      case rel => exact ⟨j + 1, by go_num, by omega⟩
      case measure => simp [intOf]; omega
    · have HF := HK.out
      clear HK
      go_wp2_with fail
      exact HF
theorem pknown_c (a : Option Addr) (c : Nat) (ps : List Nat) (w : World) (ha : Sl w a (pts ps)) (h : ∀ p ∈ ps, w.cell? ⟨p, 8, none⟩ = some (.bool true)) (bn : ps.length ≤ 1000000000) (R : Ending → World → Prop) (k : R (.returned (.bool true)) w) :
    Calls Try.prog 66 #[.slice a ps.length c] w R := by
  have H := Lib.hid h; clear h
  have hc : ∀ R : Ending → World → Prop, R (.returned (.bool false)) w → Calls Try.prog 86 #[.slice a ps.length c, .func (.func 87) #[] #[]] w R := by
    intro R k
    go_enter Try.func86, Try.ntmps86
    go_wp2_with (go_at_call 110; refine knownIx_c _ _ ps _ ha H.out bn _ ?_)
    exact k
  have HC := Lib.hid hc; clear hc
  go_enter Try.func66, Try.ntmps66
  go_wp2_with (go_at_call 86; refine HC.out _ ?_)
  exact k
/-- of one that was just laid. -/
theorem pknown_n (p : Nat) (w : World) (h : w.cell? ⟨p, 8, none⟩ = some (.bool true)) (R : Ending → World → Prop) (k : R (.returned (.bool true)) (w.alloc (.cells #[.pointer (some ⟨p, 0, none⟩)] 27))) :
    Calls Try.prog 66 #[.slice (some ⟨w.heap.size, 0, none⟩) 1 1] (w.alloc (.cells #[.pointer (some ⟨p, 0, none⟩)] 27)) R :=
  pknown_c _ 1 [p] _ (Sl.new w (pts [p]) _) (by
    intro q hq; rw [List.mem_singleton] at hq; subst hq
    exact ((Off.refl Old w).alloc _).cell (fun x => x) h) (by simp) R k

def ofN (N : List Int) (c : Int) : Int := if c < 1 ∨ 8 < c then 0 else N.getD (c.toNat - 1) 0
set_option maxHeartbeats 400000 in
theorem of_c (p : Nat) (N : List Int) (c : Int) (w : World) (h : Pst w p N) (R : Ending → World → Prop) (k : ∀ w', Off Old w w' → R (.returned (.int .i64 (ofN N c))) w') :
    Calls Try.prog 60 #[.pointer (some ⟨p, 0, none⟩), .int .i64 c] w R := by
  have hm := h.made
  have HF := k (w.alloc (.cells #[.pointer (some ⟨p, 0, none⟩)] 27)) ((Off.refl _ _).alloc _)
  clear k
  by_cases h1 : c < 1
  · rw [show ofN N c = 0 by simp [ofN, h1]] at HF
    have t1 : decide (c < 1) = true := by simpa using h1
    go_enter Try.func60, Try.ntmps60
    go_wp2_with (go_at_call 66; refine pknown_n p _ hm _ ?_)
    exact HF
  · by_cases h2 : 8 < c
    · rw [show ofN N c = 0 by simp [ofN, h2]] at HF
      have t1 : decide (c < 1) = false := by simpa using h1
      have t2 : decide (8 < c) = true := by simpa using h2
      go_enter Try.func60, Try.ntmps60
      go_wp2_with (go_at_call 66; refine pknown_n p _ hm _ ?_)
      exact HF
    · obtain ⟨m, rfl⟩ : ∃ m : Nat, c = (m : Int) + 1 := ⟨(c - 1).toNat, by omega⟩
      have hm8 : m < 8 := by omega
      obtain ⟨x, hx⟩ := at_of_lt (l := N) (j := m) (by rw [h.len]; exact hm8)
      have cx := (h.old ((Off.refl _ _).alloc (.cells #[.pointer (some ⟨p, 0, none⟩)] 27))).at hx.out
      rw [show ofN N ((m : Int) + 1) = x by simp [ofN, hx.out]; omega] at HF
      have t1 : decide ((m : Int) + 1 < 1) = false := by simp; omega
      have t2 : decide (8 < (m : Int) + 1) = false := by simp; omega
      have t3 : IntKind.i64.wrap ((m : Int) + 1 - 1) = (m : Int) := by
        rw [IntWalk.i64_in _ (by omega)]; omega
      go_enter Try.func60, Try.ntmps60
      go_wp2_with (go_at_call 66; refine pknown_n p _ hm _ ?_)
      exact HF

/-! ### names -/
structure Nm where
  c : Int
  n : Int
def Nm.v (x : Nm) : List Value := [.int .i64 x.c, .int .i64 x.n]
def nms (l : List Nm) : List Value := l.flatMap Nm.v
def Nm.ok (x : Nm) : Bool := decide (1 ≤ x.c ∧ x.c ≤ 8 ∧ 1 ≤ x.n ∧ x.n ≤ 1073741824)
set_option maxHeartbeats 400000 in
theorem one_c (x : Nm) (w : World) (R : Ending → World → Prop) (k : ∀ w', Off Old w w' → R (.returned (.bool x.ok)) w') :
    Calls Try.prog 64 #[.agg #[.int .i64 x.c, .int .i64 x.n]] w R := by
  obtain ⟨c, n⟩ := x
  have HK := k (w.alloc (.cells #[.int .i64 c, .int .i64 n] 53)) ((Off.refl _ _).alloc _)
  clear k
  dsimp only
  by_cases h1 : 1 ≤ c
  · have t1 : decide (1 ≤ c) = true := by simpa using h1
    by_cases h2 : c ≤ 8
    · have t2 : decide (c ≤ 8) = true := by simpa using h2
      by_cases h3 : 1 ≤ n
      · have t3 : decide (1 ≤ n) = true := by simpa using h3
        by_cases h4 : n ≤ 1073741824
        · have t4 : decide (n ≤ 1073741824) = true := by simpa using h4
          rw [show Nm.ok ⟨c, n⟩ = true by simp [Nm.ok]; omega] at HK
          go_enter Try.func64, Try.ntmps64
          go_wp2_with fail
          exact HK
        · have t4 : decide (n ≤ 1073741824) = false := by simpa using h4
          rw [show Nm.ok ⟨c, n⟩ = false by simp [Nm.ok]; omega] at HK
          go_enter Try.func64, Try.ntmps64
          go_wp2_with fail
          exact HK
      · have t3 : decide (1 ≤ n) = false := by simpa using h3
        rw [show Nm.ok ⟨c, n⟩ = false by simp [Nm.ok]; omega] at HK
        go_enter Try.func64, Try.ntmps64
        go_wp2_with fail
        exact HK
    · have t2 : decide (c ≤ 8) = false := by simpa using h2
      rw [show Nm.ok ⟨c, n⟩ = false by simp [Nm.ok]; omega] at HK
      go_enter Try.func64, Try.ntmps64
      go_wp2_with fail
      exact HK
  · have t1 : decide (1 ≤ c) = false := by simpa using h1
    rw [show Nm.ok ⟨c, n⟩ = false by simp [Nm.ok]; omega] at HK
    go_enter Try.func64, Try.ntmps64
    go_wp2_with fail
    exact HK
theorem right1_c (x : Nm) (w : World) (R : Ending → World → Prop) (k : ∀ w', Off Old w w' → R (.returned (.bool (!x.ok))) w') :
    Calls Try.prog 63 #[.agg #[.int .i64 x.c, .int .i64 x.n]] w R := by
  have HK := Lib.hid k; clear k
  go_enter Try.func63, Try.ntmps63
  go_wp2_with (go_at_call 64; refine one_c x _ _ ?_)
  intro w1 ho
  have HF := HK.out w1 (((Off.refl Old w).alloc _).trans ho)
  clear HK
  go_wp2_with fail
  exact HF
theorem sz_name (w : World) : (sizeOf 53).run Try.prog w = .ok 2 w := by kernel_rfl
@[simp] theorem nms_length (l : List Nm) : (nms l).length = l.length * 2 := by
  induction l with
  | nil => rfl
  | cons x l ih => simp only [nms, List.flatMap_cons, List.length_append] at *; rw [ih]; simp [Nm.v]; omega
theorem nms_at : ∀ {l : List Nm} {j : Nat} {x : Nm}, l[j]? = some x → (nms l)[2 * j]? = some (.int .i64 x.c) ∧ (nms l)[2 * j + 1]? = some (.int .i64 x.n)
  | [], j, x, h => by simp at h
  | y :: l, 0, x, h => by simp at h; subst h; exact ⟨rfl, rfl⟩
  | y :: l, j + 1, x, h => by
    have := nms_at (l := l) (j := j) (x := x) (by simpa using h)
    have e : nms (y :: l) = .int .i64 y.c :: .int .i64 y.n :: nms l := rfl
    rw [e, show 2 * (j + 1) = 2 * j + 1 + 1 by omega]
    exact this
theorem Sl.ixn {w : World} {a : Option Addr} {l : List Nm} (h : Sl w a (nms l)) (c : Nat) :
    ∃ b o, (∀ i : Nat, i < l.length → ∀ w : World, (Instr.indexAt 23 (.slice a l.length c) (.int .i64 (i : Int))).run Try.prog w = .ok (.pointer (some ⟨b, o + i * 2, none⟩)) w) ∧
      Hid (∀ j x, l[j]? = some x → w.cell? ⟨b, o + j * 2, none⟩ = some (.int .i64 x.c) ∧ w.cell? ⟨b, o + j * 2 + 1, none⟩ = some (.int .i64 x.n)) ∧ Hid (0 < l.length → a = some ⟨b, o, none⟩) := by
  obtain ⟨b, o, p, q⟩ := h.base
  have hn : 0 < l.length → nms l ≠ [] := by
    intro h0 h1
    have := nms_length l
    rw [h1] at this; simp at this; omega
  refine ⟨b, o, fun i hi w => indexAt_any Try.underlying23 sz_name (fun h => p (hn h)) i hi w, fun j x hx => ?_, fun h => p (hn h)⟩
  obtain ⟨h1, h2⟩ := nms_at hx
  exact ⟨by rw [Nat.mul_comm]; exact q _ _ h1, by rw [Nat.mul_comm, Nat.add_assoc]; exact q _ _ h2⟩
set_option maxHeartbeats 400000 in
theorem rightIx_c (a : Option Addr) (c : Nat) (l : List Nm) (w : World) (ha : Sl w a (nms l)) (bn : l.length ≤ 1000000000) (R : Ending → World → Prop) (k1 : l.all Nm.ok = true → ∀ w', Off Old w w' → R (.returned (.int .i64 (-1))) w')
    (k2 : l.all Nm.ok = false → ∀ w' (i : Nat), Off Old w w' → R (.returned (.int .i64 i)) w') :
    Calls Try.prog 85 #[.slice a l.length c, .func (.func 63) #[] #[]] w R := by
  have K1 := Lib.hid k1; have K2 := Lib.hid k2; clear k1 k2
  go_enter Try.func85, Try.ntmps85
  go_wp2_with fail
  go_loopw [5, 8] (fun _ i wr => ∃ j : Nat, i = .int .i64 j ∧ j ≤ l.length ∧ Off Old w wr ∧ Hid ((l.take j).all Nm.ok = true)) (fun _ i _ => l.length - (intOf i).toNat)
  case atStart => exact ⟨0, rfl, Nat.zero_le _, Off.refl _ _, by show _ = _; simp⟩
  case round =>
    obtain ⟨j, rfl, hj, ho, hok⟩ := hrel
    by_cases hlt : j < l.length
    · obtain ⟨x, hx⟩ := at_of_lt hlt
      obtain ⟨b, o, ix, Q, HB⟩ := Sl.ixn (ha.old ho) c
      obtain ⟨cx1, cx2⟩ := Q.out j x hx.out
      obtain ⟨v, hv⟩ : ∃ v, Hid (x.ok = v) := ⟨_, rfl⟩
      cases v
      · have hbad : l.all Nm.ok = false := by
          rw [List.all_eq_false]; exact ⟨x, List.mem_of_getElem? hx.out, by rw [hv.out]; simp⟩
        have HK := Lib.hid (K2.out hbad)
        clear K1 K2 hbad
        go_wp2_with (go_at_call 63; refine right1_c x _ _ ?_; rw [hv.out])
        intro w1 ho1
        have HF := HK.out w1 j (ho.trans ho1)
        clear HK
        go_wp2_with fail
        exact HF
      · have hok2 : Hid ((l.take (j + 1)).all Nm.ok = true) := by
          show _ = _; rw [List.take_add_one, hx.out, List.all_append, hok.out]; simp [hv.out]
        go_wp2_with (go_at_call 63; refine right1_c x _ _ ?_; rw [hv.out])
        intro w1 ho1
        go_wp2_with fail
        go_roundw
        case rel => exact ⟨j + 1, by go_num, by omega, ho.trans ho1, hok2⟩
        case measure => simp [intOf]; omega
    · have hall := hok.out
      rw [List.take_of_length_le (by omega)] at hall
      have HF := K1.out hall wr ho
      clear K1 K2 hall
      go_wp2_with fail
      exact HF
theorem right_c (v : Bool) (a : Option Addr) (c : Nat) (l : List Nm) (w : World) (hv : l.all Nm.ok = v) (ha : Sl w a (nms l)) (bn : l.length ≤ 1000000000) (R : Ending → World → Prop) (k : ∀ w', Off Old w w' → R (.returned (.bool v)) w') :
    Calls Try.prog 14 #[.slice a l.length c] w R := by
  have HV := Lib.hid hv; clear hv
  have hc : ∀ R : Ending → World → Prop, (∀ w', Off Old w w' → R (.returned (.bool (!v))) w') → Calls Try.prog 62 #[.slice a l.length c, .func (.func 63) #[] #[]] w R := by
    intro R k
    have HK := Lib.hid k; clear k
    go_enter Try.func62, Try.ntmps62
    cases v
    · go_wp2_with (go_at_call 85; refine rightIx_c _ _ l _ ha bn _ (fun h => by rw [HV.out] at h; cases h) (fun _ w' i ho => ?_))
      have HF := HK.out _ ho
      clear HK
      have t1 : decide (0 ≤ (i : Int)) = true := by simp
      go_wp2_with fail
      exact HF
    · go_wp2_with (go_at_call 85; refine rightIx_c _ _ l _ ha bn _ (fun _ w' ho => ?_) (fun h => by rw [HV.out] at h; cases h))
      have HF := HK.out _ ho
      clear HK
      go_wp2_with fail
      exact HF
  have HC := Lib.hid hc; clear hc
  have HK := Lib.hid k; clear k
  go_enter Try.func14, Try.ntmps14
  go_wp2_with (go_at_call 62; refine HC.out _ ?_)
  intro w1 ho
  have HF := HK.out _ ho
  clear HK
  cases v
  · go_wp2_with fail
    exact HF
  · go_wp2_with fail
    exact HF
end Go.Proofs.Ytfllejlooaipiaa
