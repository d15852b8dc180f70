/- Books by what they hold: all of them, what is written of them. -/
import Derived.Test.YtahpfcfecghpmaaDuo
import Derived.Test.YtahpfcfecghpmaaGreat19
namespace Go.Proofs.Ytahpfcfecghpmaa
open Go.RowKit
set_option linter.unusedSimpArgs false

/-! ### plain -/
def decs (X : List Vd) (l : List Vd) : List Vd := l.foldl (fun X x => (dec X x).2) X
theorem dec_len' (X : List Vd) (x : Vd) : (dec X x).2.length ≤ X.length + 1 := by
  unfold dec
  split
  · split
    · simp
    · split <;> simp
  · simp
theorem dec_all {X : List Vd} {x : Vd} (h : ∀ y ∈ X, y.ok = true) : ∀ y ∈ (dec X x).2, y.ok = true := by
  unfold dec
  split
  · rename_i hx
    split
    · exact h
    · split
      · exact h
      · intro y hy
        rcases List.mem_append.1 hy with hy | hy
        · exact h y hy
        · simp only [List.mem_singleton] at hy; subst hy; exact hx
  · exact h
theorem ok_parts {x : Vd} (h : x.ok = true) : numsOk x ∧ x.reads.length ≤ 6 ∧ ∀ y ∈ x.reads, y.key.size ≤ 20 ∧ y.val.size ≤ 20 := by
  simp only [Vd.ok, nameOk, Bool.and_eq_true, decide_eq_true_eq, List.all_eq_true] at h
  obtain ⟨⟨⟨⟨h1, h2⟩, h3⟩, _⟩, h5⟩ := h
  refine ⟨⟨?_, ?_, ?_⟩, h3, fun y hy => ?_⟩
  · simp only [numOk, decide_eq_true_eq]; omega
  · simp only [numOk, decide_eq_true_eq]; omega
  · simp only [numOk, decide_eq_true_eq]; omega
  · have := h5 y hy
    simp only [Rdx.ok, readOk, keyOk, Bool.and_eq_true, decide_eq_true_eq] at this
    omega
theorem cost_rds : ∀ (l : List Rdx), (∀ y ∈ l, y.key.size ≤ 20 ∧ y.val.size ≤ 20) → costRds l ≤ 59 * l.length
  | [], _ => by simp [costRds]
  | y :: l, h => by
    have h1 := cost_rds l (fun z hz => h z (by simp [hz]))
    have h2 := h y (by simp)
    simp only [costRds, costRd, lenOf, List.map_cons, List.map_nil, List.sum_cons, List.sum_nil, List.length_cons, ByteArray.size_data, Array.length_toList] at h1 ⊢
    omega
theorem cost_vds : ∀ (l : List Vd), (∀ x ∈ l, x.ok = true) → costVds l ≤ 400 * l.length
  | [], _ => by simp [costVds]
  | x :: l, h => by
    have h1 := cost_vds l (fun z hz => h z (by simp [hz]))
    obtain ⟨_, h2, h3⟩ := ok_parts (h x (by simp))
    have h4 := cost_rds x.reads h3
    simp only [costVds, costVd, List.map_cons, List.sum_cons, List.length_cons] at h1 ⊢
    omega
theorem putRd_ok (b : List UInt8) (r : Rdx) (h : r.key.size ≤ 20 ∧ r.val.size ≤ 20) : putRd (false, b) r = (false, b ++ encRd r) := by
  unfold putRd putTexts
  rw [putRows_ok _ _ (by simp; omega), putFlags_ok, putRows_ok _ _ (by simp; omega)]
  simp [encRd]
theorem putRds_ok : ∀ (l : List Rdx) (b : List UInt8), (∀ y ∈ l, y.key.size ≤ 20 ∧ y.val.size ≤ 20) → l.foldl putRd (false, b) = (false, b ++ l.flatMap encRd)
  | [], b, _ => by simp
  | y :: l, b, h => by
    rw [List.foldl_cons, putRd_ok b y (h y (by simp)), putRds_ok l _ (fun z hz => h z (by simp [hz]))]
    simp [List.append_assoc]
theorem putVd_ok (b : List UInt8) (x : Vd) (h : x.ok = true) : putVd (false, b) x = (false, b ++ encVd x) := by
  obtain ⟨⟨h1, h2, h3⟩, h4, h5⟩ := ok_parts h
  unfold putVd putVh
  have q1 : ∀ n ∈ [x.c, x.n, x.at_], numOk n = true := by
    intro n hn
    simp only [List.mem_cons, List.not_mem_nil, or_false] at hn
    rcases hn with rfl | rfl | rfl <;> assumption
  have q2 : ∀ n ∈ [(x.reads.length : Int)], numOk n = true := by
    intro n hn
    simp only [List.mem_singleton] at hn
    subst hn
    exact numOk_nat (by omega)
  rw [putNums_ok _ _ q1, putFlags_ok, putNums_ok _ _ q2, putRds_ok _ _ h5]
  simp [encVd, List.append_assoc]
theorem putVds_ok : ∀ (l : List Vd) (b : List UInt8), (∀ x ∈ l, x.ok = true) → l.foldl putVd (false, b) = (false, b ++ l.flatMap encVd)
  | [], b, _ => by simp
  | x :: l, b, h => by
    rw [List.foldl_cons, putVd_ok b x (h x (by simp)), putVds_ok l _ (fun z hz => h z (by simp [hz]))]
    simp [List.append_assoc]
theorem putBk_ok (l : List Vd) (h : ∀ x ∈ l, x.ok = true) (hl : l.length ≤ 1000000) : putBk (false, []) l = (false, encBk l) := by
  unfold putBk
  have q2 : ∀ n ∈ [(l.length : Int)], numOk n = true := by
    intro n hn
    simp only [List.mem_singleton] at hn
    subst hn
    exact numOk_nat (by omega)
  rw [putNums_ok _ _ q2, putVds_ok _ _ h]
  simp [encBk]
/-! ### calls -/
theorem bkAll_h (p : Nat) (X : List Vd) (O : Own) (a : Option Addr) (m c : Nat) (cs : List Bool) (hm : cs.length = m) (w : World) (h : BkH w p X O) (ha : Sl w a (bos cs)) (bn : m ≤ 1000000) (hln : X.length ≤ 1000000) (R : Ending → World → Prop)
    (k : ∀ w' l' n' g' d', l'.length = n' → Sl w' g' (vcs l') → (∀ f ∈ l', Vok w' f) → l'.map Ve.x = allV cs X → Off Old w w' → R (.returned (.slice g' n' d')) w') :
    Calls Try.prog 30 #[.pointer (some ⟨p, 0, none⟩), .slice a m c] w R := by
  obtain ⟨g, d, r, l, h1, rfl, _⟩ := h
  exact bkAll_c p g d r l a m c cs hm w h1 ha bn (by simpa using hln) R (fun w' l' n' g' d' h2 h3 h4 h5 ho => k w' l' n' g' d' h2.out (own_sl2 h3).2.2 h4 h5.out ho)
theorem rbAll_h (p : Nat) (X : List Vd) (O : Own) (a : Option Addr) (m c : Nat) (cs : List Bool) (hm : cs.length = m) (w : World) (h : RbH w p X O) (ha : Sl w a (bos cs)) (bn : m ≤ 1000000) (hln : X.length ≤ 1000000) (R : Ending → World → Prop)
    (k : ∀ w' l' n' g' d', l'.length = n' → Sl w' g' (vcs l') → (∀ f ∈ l', Vok w' f) → l'.map Ve.x = allV cs X → Off Old w w' → R (.returned (.slice g' n' d')) w') :
    Calls Try.prog 31 #[.pointer (some ⟨p, 0, none⟩), .slice a m c] w R := by
  obtain ⟨g, d, l, h1, rfl, _⟩ := h
  exact rbAll_c p g d l a m c cs hm w h1 ha bn (by simpa using hln) R (fun w' l' n' g' d' h2 h3 h4 h5 ho => k w' l' n' g' d' h2.out (own_sl2 h3).2.2 h4 h5.out ho)
theorem RbH.open {w : World} {q : Nat} {X : List Vd} {O : Own} (h : RbH w q X O) : ∃ g n d l, l.length = n ∧ l.map Ve.x = X ∧ w.cell? ⟨q, 0, none⟩ = some (.slice g n d) ∧ Sl w g (vcs l) ∧ ∀ e ∈ l, Vok w e := by
  obtain ⟨g, d, l, h1, h2, _⟩ := h
  exact ⟨g, l.length, d, l, rfl, h2, h1.blk.cell (i := 0) rfl, (own_sl2 h1.own).2.2, h1.vok⟩
theorem bkWrite_h (q : Nat) (X : List Vd) (O : Own) (p : Nat) (w : World) (h : BkH w q X O) (hw : Wr w p false none 0 []) (hap : ∀ k, O k → k ≠ p) (hok : ∀ x ∈ X, x.ok = true) (hln : X.length ≤ 1000) (R : Ending → World → Prop)
    (k : ∀ w' g' d', Wr w' p false g' d' (encBk X) → WStep w w' p none g' → R (.returned (.pointer (some ⟨p, 0, none⟩))) w') :
    Calls Try.prog 24 #[.pointer (some ⟨q, 0, none⟩), .pointer (some ⟨p, 0, none⟩)] w R := by
  obtain ⟨g, d, r, l, h1, rfl, h3⟩ := h
  have hl : l.length ≤ 1000 := by simpa using hln
  refine bkWrite_c q g d r l p (false, []) none 0 w h1 hw (fun k hk hs => ?_) ?_ (by omega) R (fun w' g' d' h4 h5 => ?_)
  · rcases hs with hs | hs
    · exact hap k (h3 k hk).1 hs
    · cases hs
  · have := cost_vds _ hok
    simp only [List.length_map, List.length_nil] at this ⊢
    omega
  · rw [putBk_ok _ hok (by simp; omega)] at h4
    exact k w' g' d' h4 h5
theorem rbBytes_h (q : Nat) (X : List Vd) (O : Own) (w : World) (h : RbH w q X O) (hok : ∀ x ∈ X, x.ok = true) (hln : X.length ≤ 1000) (R : Ending → World → Prop)
    (k : ∀ w' g' n' d', BOut w w' g' n' d' (encBk X) → R (.returned (.slice g' n' d')) w') :
    Calls Try.prog 28 #[.pointer (some ⟨q, 0, none⟩)] w R := by
  obtain ⟨g, d, l, h1, rfl, h3⟩ := h
  have hl : l.length ≤ 1000 := by simpa using hln
  refine rbBytes_c q g d l w h1 (fun e he => (ok_parts (hok e.x (List.mem_map.2 ⟨e, he, rfl⟩))).1) ?_ (by omega) R k
  have := cost_vds _ hok
  simp only [List.length_map] at this ⊢
  omega
end Go.Proofs.Ytahpfcfecghpmaa
