/- What is written of numbers, flags, texts, rows: by the program, by the document. -/
import Derived.Test.YtahpfcfecghpmaaRefW2
namespace Go.Proofs.Ytahpfcfecghpmaa
open Go.RowKit

theorem le_sum {l : List Nat} {x : Nat} (h : x ∈ l) : x ≤ l.sum := by
  induction l with
  | nil => simp at h
  | cons y l ih =>
    rcases List.mem_cons.1 h with rfl | h
    · simp
    · have := ih h; simp; omega
theorem putFlags_ok : ∀ (l : List Bool) (s : Bool × List UInt8), putFlags s l = (s.1, s.2 ++ l.map flagB)
  | [], s => by simp [putFlags]
  | x :: l, s => by
    have := putFlags_ok l (putFlag s x)
    simp only [putFlags, List.foldl_cons] at this ⊢
    rw [this]; simp [putFlag]
theorem putRows_ok : ∀ (l : List (List UInt8)) (s : Bool × List UInt8), (∀ r ∈ l, (r.length : Int) ≤ 4611686018427387903) → putRows s l = (s.1, s.2 ++ l.flatMap rowEnc)
  | [], s, _ => by simp [putRows]
  | x :: l, s, h => by
    have hx := h x (by simp)
    have h0 : numOk (x.length : Int) = true := by simp [numOk, hx]
    have := putRows_ok l (putRow s x) (fun y hy => h y (by simp [hy]))
    simp only [putRows, List.foldl_cons] at this ⊢
    rw [this]; simp [putRow, putNum, h0, rowEnc]
theorem putNum_sp (s : Bool × List UInt8) (x : Int) (h : s.1 = true) : (putNum s x).1 = true := by unfold putNum; split <;> simp [h]
theorem putNums_sp : ∀ (l : List Int) (s : Bool × List UInt8), s.1 = true → (putNums s l).1 = true
  | [], _, h => h
  | x :: l, s, h => putNums_sp l (putNum s x) (putNum_sp s x h)
theorem putNums_bad : ∀ (l : List Int) (s : Bool × List UInt8), l.all numOk = false → (putNums s l).1 = true
  | [], _, h => by simp at h
  | x :: l, s, h => by
    cases hx : numOk x with
    | true => simp only [List.all_cons, hx, Bool.true_and] at h; exact putNums_bad l _ h
    | false => exact putNums_sp l (putNum s x) (by simp [putNum, hx])
/-- what the writer makes of numbers, flags, texts, rows. -/
def put4 (ns : List Int) (fs : List Bool) (ts rs : List (List UInt8)) : Bool × List UInt8 := putRows (putRows (putFlags (putNums (false, []) ns) fs) ts) rs
theorem put4_ok {ns : List Int} {fs : List Bool} {ts rs : List (List UInt8)} (h : ns.all numOk = true) (ht : ∀ r ∈ ts, (r.length : Int) ≤ 4611686018427387903) (hr : ∀ r ∈ rs, (r.length : Int) ≤ 4611686018427387903) : put4 ns fs ts rs = (false, wrB ns fs ts rs) := by
  unfold put4
  rw [putNums_ok ns _ (List.all_eq_true.1 h), putFlags_ok, putRows_ok _ _ ht, putRows_ok _ _ hr]
  simp [wrB]
theorem put4_bad {ns : List Int} {fs : List Bool} {ts rs : List (List UInt8)} (h : ns.all numOk = false) (ht : ∀ r ∈ ts, (r.length : Int) ≤ 4611686018427387903) (hr : ∀ r ∈ rs, (r.length : Int) ≤ 4611686018427387903) : (put4 ns fs ts rs).1 = true := by
  unfold put4
  rw [putRows_ok _ _ hr, putRows_ok _ _ ht, putFlags_ok]
  exact putNums_bad ns _ h

/-- what is told of it: the bytes, the error. -/
def outOf (s : Bool × List UInt8) : List UInt8 × Int := if s.1 then ([], 2) else (s.2, 0)
theorem done_a (p : Nat) (s : Bool × List UInt8) (g : Option Addr) (d : Nat) (w : World) (hw : Wr w p s.1 g d s.2) (bd : s.2.length ≤ 140737488355328) (R : Ending → World → Prop)
    (k : ∀ w' g' n' d', BOut w w' g' n' d' (outOf s).1 → R (.returned (.tuple #[.slice g' n' d', .int .i64 (outOf s).2])) w') :
    Calls Try.prog 26 #[.pointer (some ⟨p, 0, none⟩)] w R := by
  obtain ⟨sp, l⟩ := s
  cases sp with
  | true => exact done_c p true g d l w hw bd R (fun _ => k w none 0 0 (BOut.nil w)) (fun h => by cases h)
  | false => exact done_c p false g d l w hw bd R (fun h => by cases h) (fun _ w' g' d' h1 h2 h3 => k w' g' l.length d' ⟨h1, h2, fun b hb => by
      cases g' with
      | none => simp [Value.ownBlock] at hb
      | some q => simp [Value.ownBlock] at hb; subst hb; exact h3 q rfl⟩)
theorem refWrite_a (a0 a1 a2 a3 : Option Addr) (c0 c1 c2 c3 : Nat) (ns : List Int) (fs : List Bool) (ts : List ByteArray) (rs : List BRow) (w : World) (s0 : Sl w a0 (ins ns)) (s1 : Sl w a1 (bos fs)) (s2 : Sl w a2 (sts ts)) (s3 : Sl w a3 (rs.map BRow.v)) (hrs : RowsOk w rs)
    (bd : 9 * ns.length + fs.length + lenOf (ts.map fun s => s.data.toList) + lenOf (rs.map BRow.l) ≤ 1000000000) (R : Ending → World → Prop)
    (k : ∀ w' g n d, BOut w w' g n d (outOf (put4 ns fs (ts.map fun s => s.data.toList) (rs.map BRow.l))).1 → R (.returned (.tuple #[.slice g n d, .int .i64 (outOf (put4 ns fs (ts.map fun s => s.data.toList) (rs.map BRow.l))).2])) w') :
    Calls Try.prog 78 #[.slice a0 ns.length c0, .slice a1 fs.length c1, .slice a2 ts.length c2, .slice a3 rs.length c3] w R := by
  have hlen : ∀ (l : List (List UInt8)) (r : List UInt8), r ∈ l → r.length ≤ lenOf l := fun l r h => by
    have := le_sum (List.mem_map.2 ⟨r, h, rfl⟩ : r.length + 9 ∈ l.map (fun r => r.length + 9))
    unfold lenOf; omega
  have ht : ∀ r ∈ (ts.map fun s => s.data.toList), (r.length : Int) ≤ 4611686018427387903 := fun r h => by have := hlen _ r h; omega
  have hr : ∀ r ∈ (rs.map BRow.l), (r.length : Int) ≤ 4611686018427387903 := fun r h => by have := hlen _ r h; omega
  refine refWrite_c a0 a1 a2 a3 c0 c1 c2 c3 ns fs ts rs w s0 s1 s2 s3 hrs bd R (fun h w' g n d hB => ?_) (fun h w' ho => ?_)
  · have := k w' g n d
    rw [put4_ok h ht hr] at this
    exact this hB
  · have := k w' none 0 0
    have e : outOf (put4 ns fs (ts.map fun s => s.data.toList) (rs.map BRow.l)) = ([], 2) := by simp [outOf, put4_bad h ht hr]
    rw [e] at this
    exact this ⟨World.ownsRow_nil _ _ _ _, ho, fun b hb => by simp [Value.ownBlock] at hb⟩
theorem refWrite_n (a0 a1 a2 a3 : Option Addr) (n0 n1 n2 n3 c0 c1 c2 c3 : Nat) (ns : List Int) (fs : List Bool) (ts : List ByteArray) (rs : List BRow) (w : World) (e0 : ns.length = n0) (e1 : fs.length = n1) (e2 : ts.length = n2) (e3 : rs.length = n3) (s0 : Sl w a0 (ins ns)) (s1 : Sl w a1 (bos fs)) (s2 : Sl w a2 (sts ts)) (s3 : Sl w a3 (rs.map BRow.v)) (hrs : RowsOk w rs)
    (bd : 9 * ns.length + fs.length + lenOf (ts.map fun s => s.data.toList) + lenOf (rs.map BRow.l) ≤ 1000000000) (R : Ending → World → Prop)
    (k : ∀ w' g n d, BOut w w' g n d (outOf (put4 ns fs (ts.map fun s => s.data.toList) (rs.map BRow.l))).1 → R (.returned (.tuple #[.slice g n d, .int .i64 (outOf (put4 ns fs (ts.map fun s => s.data.toList) (rs.map BRow.l))).2])) w') :
    Calls Try.prog 78 #[.slice a0 n0 c0, .slice a1 n1 c1, .slice a2 n2 c2, .slice a3 n3 c3] w R := by
  subst e0; subst e1; subst e2; subst e3
  exact refWrite_a a0 a1 a2 a3 c0 c1 c2 c3 ns fs ts rs w s0 s1 s2 s3 hrs bd R k
theorem rows_l (p : Nat) (sp : Bool) (g : Option Addr) (d : Nat) (l : List UInt8) (a : Option Addr) (n c : Nat) (rs : List BRow) (w : World) (hn : rs.length = n) (hw : Wr w p sp g d l) (ha : Sl w a (rs.map BRow.v)) (hs : ∀ q, a = some q → rs ≠ [] → q.block ≠ p ∧ g.map Addr.block ≠ some q.block) (hr : RowsOk w rs)
    (hrs : ∀ r ∈ rs, ∀ q, r.a = some q → r.l ≠ [] → q.block ≠ p ∧ g.map Addr.block ≠ some q.block) (bd : l.length + lenOf (rs.map BRow.l) ≤ 140737488355328) (R : Ending → World → Prop)
    (k : ∀ w' g' d', Wr w' p (putRows (sp, l) (rs.map BRow.l)).1 g' d' (putRows (sp, l) (rs.map BRow.l)).2 → WStep w w' p g g' → R (.returned (.pointer (some ⟨p, 0, none⟩))) w') :
    Calls Try.prog 77 #[.pointer (some ⟨p, 0, none⟩), .slice a n c] w R := by
  subst hn; exact rows_c p sp g d l a c rs w hw ha hs hr hrs bd R k
theorem rowsAt2 {w : World} {e : TypeId} {s : Nat} {r1 r2 : CRow} {x y : List Value} (h1 : w.ownsRow 0 e s r1.v r1.n x) (h2 : w.ownsRow 0 e s r2.v r2.n y) : RowsAt w e s [r1, r2] (fun m => if m = 0 then x else y) := by
  intro m r hr
  match m, hr with
  | 0, hr => cases hr; exact h1
  | 1, hr => cases hr; exact h2
theorem dist2 {r1 r2 : CRow} (h : ∀ k, r1.v.ownBlock = some k → r2.v.ownBlock ≠ some k) : Dist [r1, r2] := by
  intro i j r t hr ht hij k hk
  match i, j, hr, ht with
  | 0, 0, _, _ => exact absurd rfl hij
  | 0, 1, hr, ht => cases hr; cases ht; exact h k hk
  | 1, 0, hr, ht => cases hr; cases ht; exact fun h2 => h k h2 hk
  | 1, 1, _, _ => exact absurd rfl hij
theorem rb2 {r1 r2 : CRow} {k : Nat} (h : RB [r1, r2] k) : r1.v.ownBlock = some k ∨ r2.v.ownBlock = some k := by
  obtain ⟨m, r, hr, hk⟩ := h
  match m, hr with
  | 0, hr => cases hr; exact .inl hk
  | 1, hr => cases hr; exact .inr hk
theorem lenOf_le {l : List (List UInt8)} {m : Nat} (h : ∀ r ∈ l, r.length ≤ m) : lenOf l ≤ (m + 9) * l.length := by
  induction l with
  | nil => simp [lenOf]
  | cons x l ih =>
    have h1 := ih (fun r hr => h r (by simp [hr]))
    have h2 := h x (by simp)
    simp only [lenOf, List.map_cons, List.sum_cons, List.length_cons, Nat.mul_succ] at *
    omega
end Go.Proofs.Ytahpfcfecghpmaa
