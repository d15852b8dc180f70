/- Two books and their copies: what they hold, that they lie apart. -/
import Derived.Test.YtahpfcfecghpmaaDuo2
import Derived.Test.YtahpfcfecghpmaaOver19
import Derived.Test.YtahpfcfecghpmaaLaw19a
namespace Go.Proofs.Ytahpfcfecghpmaa
open Go.RowKit

structure Four (w wr : World) (pb pm pc pd : Nat) (XB XM XC XD : List Vd) (Ob Om Oc Od : Own) : Prop where
  b : BkH wr pb XB Ob
  m : RbH wr pm XM Om
  c : BkH wr pc XC Oc
  d : RbH wr pd XD Od
  nb : ∀ k, Ob k → w.heap.size ≤ k ∧ k < wr.heap.size
  nm : ∀ k, Om k → w.heap.size ≤ k ∧ k < wr.heap.size
  nc : ∀ k, Oc k → w.heap.size ≤ k ∧ k < wr.heap.size
  nd : ∀ k, Od k → w.heap.size ≤ k ∧ k < wr.heap.size
  bm : ∀ k, Ob k → ¬ Om k
  bc : ∀ k, Ob k → ¬ Oc k
  bd : ∀ k, Ob k → ¬ Od k
  mc : ∀ k, Om k → ¬ Oc k
  md : ∀ k, Om k → ¬ Od k
  cd : ∀ k, Oc k → ¬ Od k
  off : Off Old w wr
section
variable {w wr w' : World} {pb pm pc pd : Nat} {XB XM XC XD : List Vd} {Ob Om Oc Od : Own}
theorem Four.step (h : Four w wr pb pm pc pd XB XM XC XD Ob Om Oc Od) {S : Own} (ho : Off S wr w') (hs : ∀ k, S k → k < wr.heap.size → w.heap.size ≤ k ∧ ¬ Ob k ∧ ¬ Om k ∧ ¬ Oc k ∧ ¬ Od k) : Four w w' pb pm pc pd XB XM XC XD Ob Om Oc Od := by
  have hz := ho.size
  exact ⟨h.b.off ho (fun k h1 h2 h3 => (hs k h3 h2).2.1 h1), h.m.off ho (fun k h1 h2 h3 => (hs k h3 h2).2.2.1 h1), h.c.off ho (fun k h1 h2 h3 => (hs k h3 h2).2.2.2.1 h1), h.d.off ho (fun k h1 h2 h3 => (hs k h3 h2).2.2.2.2 h1),
    fun k hk => by have := h.nb k hk; omega, fun k hk => by have := h.nm k hk; omega, fun k hk => by have := h.nc k hk; omega, fun k hk => by have := h.nd k hk; omega, h.bm, h.bc, h.bd, h.mc, h.md, h.cd,
    h.off.step ho (fun i hi hl => by
      by_cases hlt : i < wr.heap.size
      · have := (hs i hi hlt).1; omega
      · have := h.off.size; omega)⟩
theorem Four.old (h : Four w wr pb pm pc pd XB XM XC XD Ob Om Oc Od) (ho : Off Old wr w') : Four w w' pb pm pc pd XB XM XC XD Ob Om Oc Od := h.step ho (fun _ hk _ => hk.elim)
theorem Four.one (h : Four w wr pb pm pc pd XB XM XC XD Ob Om Oc Od) {g : Nat} (ho : Off (fun k => k = g) wr w') (hg : w.heap.size ≤ g) (hn : ¬ Ob g ∧ ¬ Om g ∧ ¬ Oc g ∧ ¬ Od g) : Four w w' pb pm pc pd XB XM XC XD Ob Om Oc Od :=
  h.step ho (fun k hk _ => by obtain rfl : k = g := hk; exact ⟨hg, hn⟩)
theorem Four.far (h : Four w wr pb pm pc pd XB XM XC XD Ob Om Oc Od) {g : Nat} (hg : wr.heap.size ≤ g) : ¬ Ob g ∧ ¬ Om g ∧ ¬ Oc g ∧ ¬ Od g :=
  ⟨fun hk => by have := h.nb g hk; omega, fun hk => by have := h.nm g hk; omega, fun hk => by have := h.nc g hk; omega, fun hk => by have := h.nd g hk; omega⟩
theorem grow_far {O : Own} {n m g : Nat} (h : ¬ O g) (hg : g < n) : ¬ (O.grow n m) g := by
  rintro (hk | hk)
  · exact h hk
  · omega
theorem Four.toB (h : Four w wr pb pm pc pd XB XM XC XD Ob Om Oc Od) {X : List Vd} (hb : BkH w' pb X (Ob.grow wr.heap.size w'.heap.size)) (ho : Off Ob wr w') : Four w w' pb pm pc pd X XM XC XD (Ob.grow wr.heap.size w'.heap.size) Om Oc Od := by
  have hz := ho.size
  have hw := h.off.size
  exact ⟨hb, h.m.off ho (fun k h1 _ h3 => h.bm k h3 h1), h.c.off ho (fun k h1 _ h3 => h.bc k h3 h1), h.d.off ho (fun k h1 _ h3 => h.bd k h3 h1),
    fun k hk => by rcases hk with hk | hk; have := h.nb k hk; omega; omega,
    fun k hk => by have := h.nm k hk; omega, fun k hk => by have := h.nc k hk; omega, fun k hk => by have := h.nd k hk; omega,
    fun k hk h2 => by rcases hk with hk | hk; exact h.bm k hk h2; have := h.nm k h2; omega,
    fun k hk h2 => by rcases hk with hk | hk; exact h.bc k hk h2; have := h.nc k h2; omega,
    fun k hk h2 => by rcases hk with hk | hk; exact h.bd k hk h2; have := h.nd k h2; omega,
    h.mc, h.md, h.cd, h.off.step ho (fun i hi hl => by have := h.nb i hi; omega)⟩
theorem Four.toM (h : Four w wr pb pm pc pd XB XM XC XD Ob Om Oc Od) {X : List Vd} (hb : RbH w' pm X (Om.grow wr.heap.size w'.heap.size)) (ho : Off Om wr w') : Four w w' pb pm pc pd XB X XC XD Ob (Om.grow wr.heap.size w'.heap.size) Oc Od := by
  have hz := ho.size
  have hw := h.off.size
  exact ⟨h.b.off ho (fun k h1 _ h3 => h.bm k h1 h3), hb, h.c.off ho (fun k h1 _ h3 => h.mc k h3 h1), h.d.off ho (fun k h1 _ h3 => h.md k h3 h1),
    fun k hk => by have := h.nb k hk; omega,
    fun k hk => by rcases hk with hk | hk; have := h.nm k hk; omega; omega,
    fun k hk => by have := h.nc k hk; omega, fun k hk => by have := h.nd k hk; omega,
    fun k h2 hk => by rcases hk with hk | hk; exact h.bm k h2 hk; have := h.nb k h2; omega,
    h.bc, h.bd,
    fun k hk h2 => by rcases hk with hk | hk; exact h.mc k hk h2; have := h.nc k h2; omega,
    fun k hk h2 => by rcases hk with hk | hk; exact h.md k hk h2; have := h.nd k h2; omega,
    h.cd, h.off.step ho (fun i hi hl => by have := h.nm i hi; omega)⟩
theorem Four.toC (h : Four w wr pb pm pc pd XB XM XC XD Ob Om Oc Od) {X : List Vd} (hb : BkH w' pc X (Oc.grow wr.heap.size w'.heap.size)) (ho : Off Oc wr w') : Four w w' pb pm pc pd XB XM X XD Ob Om (Oc.grow wr.heap.size w'.heap.size) Od := by
  have hz := ho.size
  have hw := h.off.size
  exact ⟨h.b.off ho (fun k h1 _ h3 => h.bc k h1 h3), h.m.off ho (fun k h1 _ h3 => h.mc k h1 h3), hb, h.d.off ho (fun k h1 _ h3 => h.cd k h3 h1),
    fun k hk => by have := h.nb k hk; omega, fun k hk => by have := h.nm k hk; omega,
    fun k hk => by rcases hk with hk | hk; have := h.nc k hk; omega; omega,
    fun k hk => by have := h.nd k hk; omega,
    h.bm, fun k h2 hk => by rcases hk with hk | hk; exact h.bc k h2 hk; have := h.nb k h2; omega,
    h.bd, fun k h2 hk => by rcases hk with hk | hk; exact h.mc k h2 hk; have := h.nm k h2; omega,
    h.md, fun k hk h2 => by rcases hk with hk | hk; exact h.cd k hk h2; have := h.nd k h2; omega,
    h.off.step ho (fun i hi hl => by have := h.nc i hi; omega)⟩
theorem Four.toD (h : Four w wr pb pm pc pd XB XM XC XD Ob Om Oc Od) {X : List Vd} (hb : RbH w' pd X (Od.grow wr.heap.size w'.heap.size)) (ho : Off Od wr w') : Four w w' pb pm pc pd XB XM XC X Ob Om Oc (Od.grow wr.heap.size w'.heap.size) := by
  have hz := ho.size
  have hw := h.off.size
  exact ⟨h.b.off ho (fun k h1 _ h3 => h.bd k h1 h3), h.m.off ho (fun k h1 _ h3 => h.md k h1 h3), h.c.off ho (fun k h1 _ h3 => h.cd k h1 h3), hb,
    fun k hk => by have := h.nb k hk; omega, fun k hk => by have := h.nm k hk; omega, fun k hk => by have := h.nc k hk; omega,
    fun k hk => by rcases hk with hk | hk; have := h.nd k hk; omega; omega,
    h.bm, h.bc, fun k h2 hk => by rcases hk with hk | hk; exact h.bd k h2 hk; have := h.nb k h2; omega,
    h.mc, fun k h2 hk => by rcases hk with hk | hk; exact h.md k h2 hk; have := h.nm k h2; omega,
    fun k h2 hk => by rcases hk with hk | hk; exact h.cd k h2 hk; have := h.nc k h2; omega,
    h.off.step ho (fun i hi hl => by have := h.nd i hi; omega)⟩
theorem Four.newC (h : Four w wr pb pm pc pd XB XM XC XD Ob Om Oc Od) {X : List Vd} {q : Nat} (hb : BkH w' q X (Own.grow (fun _ => False) wr.heap.size w'.heap.size)) (ho : Off Old wr w') : Four w w' pb pm q pd XB XM X XD Ob Om (Own.grow (fun _ => False) wr.heap.size w'.heap.size) Od := by
  have hz := ho.size
  have hw := h.off.size
  have h0 := h.old ho
  exact ⟨h0.b, h0.m, hb, h0.d, h0.nb, h0.nm, fun k hk => by rcases hk with hk | hk; exact hk.elim; omega, h0.nd, h.bm,
    fun k h2 hk => by rcases hk with hk | hk; exact hk; have := h.nb k h2; omega,
    h.bd, fun k h2 hk => by rcases hk with hk | hk; exact hk; have := h.nm k h2; omega,
    h.md, fun k hk h2 => by rcases hk with hk | hk; exact hk; have := h.nd k h2; omega, h0.off⟩
theorem Four.newD (h : Four w wr pb pm pc pd XB XM XC XD Ob Om Oc Od) {X : List Vd} {q : Nat} (hb : RbH w' q X (Own.grow (fun _ => False) wr.heap.size w'.heap.size)) (ho : Off Old wr w') : Four w w' pb pm pc q XB XM XC X Ob Om Oc (Own.grow (fun _ => False) wr.heap.size w'.heap.size) := by
  have hz := ho.size
  have hw := h.off.size
  have h0 := h.old ho
  exact ⟨h0.b, h0.m, h0.c, hb, h0.nb, h0.nm, h0.nc, fun k hk => by rcases hk with hk | hk; exact hk.elim; omega, h.bm, h.bc,
    fun k h2 hk => by rcases hk with hk | hk; exact hk; have := h.nb k h2; omega,
    h.mc, fun k h2 hk => by rcases hk with hk | hk; exact hk; have := h.nm k h2; omega,
    fun k h2 hk => by rcases hk with hk | hk; exact hk; have := h.nc k h2; omega, h0.off⟩
end
/-- two empty books and their copies. -/
theorem Four.start {w w1 w2 w3 w4 : World} {pb pm pc pd : Nat} (h1 : BkH w1 pb [] (Own.grow (fun _ => False) w.heap.size w1.heap.size)) (o1 : Off Old w w1) (h2 : RbH w2 pm [] (Own.grow (fun _ => False) w1.heap.size w2.heap.size)) (o2 : Off Old w1 w2)
    (h3 : BkH w3 pc [] (Own.grow (fun _ => False) w2.heap.size w3.heap.size)) (o3 : Off Old w2 w3) (h4 : RbH w4 pd [] (Own.grow (fun _ => False) w3.heap.size w4.heap.size)) (o4 : Off Old w3 w4) :
    Four w w4 pb pm pc pd [] [] [] [] (Own.grow (fun _ => False) w.heap.size w1.heap.size) (Own.grow (fun _ => False) w1.heap.size w2.heap.size) (Own.grow (fun _ => False) w2.heap.size w3.heap.size) (Own.grow (fun _ => False) w3.heap.size w4.heap.size) := by
  have z1 := o1.size; have z2 := o2.size; have z3 := o3.size; have z4 := o4.size
  have G : ∀ {n m k : Nat}, Own.grow (fun _ => False) n m k → n ≤ k ∧ k < m := fun h => h.elim (fun x => x.elim) (fun x => x)
  refine ⟨((h1.old o2).old o3).old o4, (h2.old o3).old o4, h3.old o4, h4, ?_, ?_, ?_, ?_, ?_, ?_, ?_, ?_, ?_, ?_, ((o1.trans o2).trans o3).trans o4⟩
  all_goals first | (intro k hk; have := G hk; omega) | (intro k hk h2; have := G hk; have := G h2; omega)
end Go.Proofs.Ytahpfcfecghpmaa
