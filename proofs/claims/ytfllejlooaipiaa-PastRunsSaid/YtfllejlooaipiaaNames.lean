/- Rows of names that grow; an append within a drawn region. -/
import Derived.Test.YtfllejlooaipiaaPastPure
import Derived.Deep.RegionLawGrows
namespace Go.Proofs.Ytfllejlooaipiaa
open Go.RowKit

theorem step_append_sl {P : Program} {ops : Array Oper} {o : Oper} {a : Act} {w : World} {K : Act → World → Prop} {Q : Exit → Act → World → Prop} {E : Prop}
    (hg : o.guard = none) (s x : Operand) (t : TypeId) (hop : o.op = Op.call { callee := Callee.builtin Builtin.append, args := #[s, x], argTypes := #[t, t] })
    (e : TypeId) (i : TypeInfo) (z : Value) (size bytes : Nat) (ht : P.underlying t = some (.slice e)) (hi : P.info? e = some i) (hz : i.zero = some z)
    (hsize : i.size = size) (hby : i.bytes = bytes) (hzs : z.cells.size = size) (hsz : 0 < size)
    (v : Value) (n : Nat) (xs : List Value) (hs : a.eval s = v) (hown : w.ownsRow 0 e size v n xs)
    (ad : Option Addr) (m c : Nat) (news : List Value) (hx : a.eval x = .slice ad m c) (hl : news.length = m * size) (hnews : Sl w ad news) (h1 : ∀ u ∈ news, u.oneCell' = true)
    (hbytes : (n + m) * bytes ≤ 140737488355328) (h63 : n + m ≤ 140737488355328)
    (h : ∀ g' c' w', Grew w w' e size v (.slice g' (n + m) c') (n + m) (xs ++ news) → K (a.put o.dst (.slice g' (n + m) c')) w') :
    if Region.wanted o (yielded ops a.tmps) = true then Oper.wp P o a w K Q else E := by
  have hw : Region.wanted o (yielded ops a.tmps) = true := by simp [Region.wanted, hg]
  rw [if_pos hw]
  obtain ⟨v', w', hr, h2, h3, h4, h5, h6, h7, h8, h9⟩ := run_append_sl (P := P) w t o.type e i z size bytes ht hi hz hsize hby hzs hsz v n xs hown ad m c news hl hnews h1 hbytes h63
  obtain ⟨g', c', rfl, _, _⟩ := own_sl h2
  unfold Oper.wp execOp
  simp only [hop, resolve, invoke, builtin, Sem.run_bind, Sem.run_pure, Result.andThen_ok, List.map_toArray, List.map_cons, List.map_nil, hs, hx, hr]
  exact h g' c' w' ⟨h2, h3, h4, h5, h6, ⟨n, xs, news, rfl, h8⟩, fun h => (by obtain ⟨g, c, h1, h2⟩ := h9 h; exact ⟨g, n, c, h1, h2⟩)⟩

theorem nminfo : (Try.prog.info? 53).map (fun i => (i.zero, i.size, i.bytes)) = some (some (.agg #[.int .i64 0, .int .i64 0]), 2, 16) := by kernel_rfl
theorem nms_oneCell (l : List Nm) : ∀ u ∈ nms l, u.oneCell' = true := by
  intro u hu
  simp only [nms, List.mem_flatMap] at hu
  obtain ⟨x, _, hx⟩ := hu
  simp only [Nm.v, List.mem_cons, List.not_mem_nil, or_false] at hx
  rcases hx with rfl | rfl <;> rfl
@[simp] theorem nms_append (l m : List Nm) : nms (l ++ m) = nms l ++ nms m := by simp [nms]
theorem nms_ne {l : List Nm} (h : l ≠ []) : nms l ≠ [] := by
  intro h2
  have h3 := nms_length l
  rw [h2] at h3
  exact h (List.eq_nil_of_length_eq_zero (by simp at h3; omega))
theorem nms_take (l : List Nm) (k : Nat) : (nms l).take (k * 2) = nms (l.take k) := by
  induction l generalizing k with
  | nil => simp [nms]
  | cons x l ih =>
    cases k with
    | zero => simp [nms]
    | succ k =>
      have e : nms (x :: l) = .int .i64 x.c :: .int .i64 x.n :: nms l := rfl
      rw [List.take_succ_cons, e, show (k + 1) * 2 = k * 2 + 1 + 1 by omega, List.take_succ_cons, List.take_succ_cons, ih]; rfl
theorem nms_drop (l : List Nm) (k : Nat) : (nms l).drop (k * 2) = nms (l.drop k) := by
  induction l generalizing k with
  | nil => simp [nms]
  | cons x l ih =>
    cases k with
    | zero => simp
    | succ k =>
      have e : nms (x :: l) = .int .i64 x.c :: .int .i64 x.n :: nms l := rfl
      rw [List.drop_succ_cons, e, show (k + 1) * 2 = k * 2 + 1 + 1 by omega, List.drop_succ_cons, List.drop_succ_cons, ih]
theorem Grew.fresh {w0 w w' : World} {e : TypeId} {size : Nat} {v v' : Value} {n : Nat} {xs : List Value} (h : Grew w w' e size v v' n xs) (ho : Off Old w0 w) (hv : ∀ k, v.ownBlock = some k → w0.heap.size ≤ k) :
    Off Old w0 w' ∧ ∀ k, v'.ownBlock = some k → w0.heap.size ≤ k :=
  ⟨ho.step h.off (fun i hi hl => by have := hv i hi; omega), fun k hk => by
    rcases h.mov k hk with h1 | h1
    · exact hv k h1
    · exact Nat.le_trans ho.size h1⟩
theorem raise_bad_l (p : Nat) (N : List Int) (a : Option Addr) (n c : Nat) (l : List Nm) (w : World) (hn : l.length = n) (hv : l.all Nm.ok = false) (h : Pst w p N) (ha : Sl w a (nms l)) (hs : ∀ q, a = some q → l ≠ [] → q.block ≠ p) (bn : n ≤ 1000000000) (R : Ending → World → Prop)
    (k2 : ∀ w', Off Old w w' → R (.returned (.int .i64 2)) w') :
    Calls Try.prog 16 #[.pointer (some ⟨p, 0, none⟩), .slice a n c] w R := by
  subst hn; exact raise_bad p N a c l w hv h ha hs bn R k2
theorem raise_ok_l (p : Nat) (N : List Int) (a : Option Addr) (n c : Nat) (l : List Nm) (w : World) (hn : l.length = n) (hv : l.all Nm.ok = true) (h : Pst w p N) (ha : Sl w a (nms l)) (hs : ∀ q, a = some q → l ≠ [] → q.block ≠ p) (bn : n ≤ 1000000000) (R : Ending → World → Prop)
    (k1 : ∀ w', Pst w' p (raiseAll N l) → Off (fun k => k = p) w w' → R (.returned (.int .i64 0)) w') :
    Calls Try.prog 16 #[.pointer (some ⟨p, 0, none⟩), .slice a n c] w R := by
  subst hn; exact raise_ok p N a c l w hv h ha hs bn R k1
/-- merged with pasts that were just laid in a row. -/
theorem merge_n2 (p q : Nat) (N M : List Int) (w : World) (h : Pst w p N) (hq : Pst w q M) (hne : q ≠ p) (R : Ending → World → Prop)
    (k : ∀ w', Pst w' p (mergeN (mergeN N M) M) → Off (fun k => k = p) w w' → R (.returned (.int .i64 0)) w') :
    Calls Try.prog 21 #[.pointer (some ⟨p, 0, none⟩), .slice (some ⟨w.heap.size, 0, none⟩) 2 2] (w.alloc (.cells #[.pointer (some ⟨q, 0, none⟩), .pointer (some ⟨q, 0, none⟩)] 27)) R := by
  have ho : Off Old w (w.alloc (.cells #[.pointer (some ⟨q, 0, none⟩), .pointer (some ⟨q, 0, none⟩)] 27)) := (Off.refl _ _).alloc _
  have hl := h.blk.lt
  refine merge_c p N _ 2 [q, q] [M, M] _ (h.old ho) (Sl.new w (pts [q, q]) _) (by rintro x ⟨rfl⟩ _; simp only; omega) rfl ?_ (by simp) R (fun w' h1 h2 => k w' (by simpa only [mergeAll, List.foldl_cons, List.foldl_nil] using h1) ((ho.mono (fun _ x _ => x.elim)).trans h2))
  intro i x y hx hy
  have hi := (List.getElem?_eq_some_iff.1 hx).1
  have : i = 0 ∨ i = 1 := by simp at hi; omega
  rcases this with rfl | rfl <;> (cases hx; cases hy; exact ⟨hne, hq.old ho⟩)
theorem merge_n1 (p q : Nat) (N M : List Int) (w : World) (h : Pst w p N) (hq : Pst w q M) (hne : q ≠ p) (R : Ending → World → Prop)
    (k : ∀ w', Pst w' p (mergeN N M) → Off (fun k => k = p) w w' → R (.returned (.int .i64 0)) w') :
    Calls Try.prog 21 #[.pointer (some ⟨p, 0, none⟩), .slice (some ⟨w.heap.size, 0, none⟩) 1 1] (w.alloc (.cells #[.pointer (some ⟨q, 0, none⟩)] 27)) R := by
  have ho : Off Old w (w.alloc (.cells #[.pointer (some ⟨q, 0, none⟩)] 27)) := (Off.refl _ _).alloc _
  have hl := h.blk.lt
  refine merge_c p N _ 1 [q] [M] _ (h.old ho) (Sl.new w (pts [q]) _) (by rintro x ⟨rfl⟩ _; simp only; omega) rfl ?_ (by simp) R (fun w' h1 h2 => k w' (by simpa only [mergeAll, List.foldl_cons, List.foldl_nil] using h1) ((ho.mono (fun _ x _ => x.elim)).trans h2))
  intro i x y hx hy
  have hi := (List.getElem?_eq_some_iff.1 hx).1
  have : i = 0 := by simp at hi; omega
  subst this
  cases hx; cases hy; exact ⟨hne, hq.old ho⟩
end Go.Proofs.Ytfllejlooaipiaa
