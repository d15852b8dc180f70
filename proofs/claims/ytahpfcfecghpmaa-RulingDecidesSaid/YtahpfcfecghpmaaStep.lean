/- An append within a drawn region. -/
import Derived.Test.YtahpfcfecghpmaaLib
import Derived.Deep.RegionLawGrows
namespace Go.Proofs.Ytahpfcfecghpmaa
open Go.RowKit

theorem step_append_sl {P : Program} {ops : Array Oper} {o : Oper} {a : Act} {w : World} {K : Act → World → Prop} {Q : Exit → Act → World → Prop} {E : Prop}
    (hg : o.guard = none) (s x : Operand) (t : TypeId) (hop : o.op = Op.call { callee := Callee.builtin Builtin.append, args := #[s, x], argTypes := #[t, t] })
    (e : TypeId) (i : TypeInfo) (z : Value) (size bytes : Nat) (ht : P.underlying t = some (.slice e)) (hi : P.info? e = some i) (hz : i.zero = some z)
    (hsize : i.size = size) (hby : i.bytes = bytes) (hzs : z.cells.size = size) (hsz : 0 < size)
    (v : Value) (n : Nat) (xs : List Value) (hs : a.eval s = v) (hown : w.ownsRow 0 e size v n xs)
    (ad : Option Addr) (m c : Nat) (news : List Value) (hx : a.eval x = .slice ad m c) (hl : news.length = m * size) (hnews : Sl w ad news) (h1 : ∀ u ∈ news, u.oneCell' = true)
    (hbytes : (n + m) * bytes ≤ 140737488355328) (h63 : n + m ≤ 140737488355328)
    (h : ∀ g' c' w', Grew w w' e size v (.slice g' (n + m) c') (n + m) (xs ++ news) → K (a.put o.dst (.slice g' (n + m) c')) w') :
    if Region.wanted o (yielded ops a.tmps) = true then Oper.wp P o a w K Q else E := by
  have hw : Region.wanted o (yielded ops a.tmps) = true := by simp [Region.wanted, hg]
  rw [if_pos hw]
  obtain ⟨v', w', hr, h2, h3, h4, h5, h6, h7, h8, h9⟩ := run_append_sl (P := P) w t o.type e i z size bytes ht hi hz hsize hby hzs hsz v n xs hown ad m c news hl hnews h1 hbytes h63
  obtain ⟨g', c', rfl, _, _⟩ := own_sl h2
  unfold Oper.wp execOp
  simp only [hop, resolve, invoke, builtin, Sem.run_bind, Sem.run_pure, Result.andThen_ok, List.map_toArray, List.map_cons, List.map_nil, hs, hx, hr]
  exact h g' c' w' ⟨h2, h3, h4, h5, h6, ⟨n, xs, news, rfl, h8⟩, fun h => (by obtain ⟨g, c, h1, h2⟩ := h9 h; exact ⟨g, n, c, h1, h2⟩)⟩

theorem Grew.fresh {w0 w w' : World} {e : TypeId} {size : Nat} {v v' : Value} {n : Nat} {xs : List Value} (h : Grew w w' e size v v' n xs) (ho : Off Old w0 w) (hv : ∀ k, v.ownBlock = some k → w0.heap.size ≤ k) :
    Off Old w0 w' ∧ ∀ k, v'.ownBlock = some k → w0.heap.size ≤ k :=
  ⟨ho.step h.off (fun i hi hl => by have := hv i hi; omega), fun k hk => by
    rcases h.mov k hk with h1 | h1
    · exact hv k h1
    · exact Nat.le_trans ho.size h1⟩
end Go.Proofs.Ytahpfcfecghpmaa
