/- Words of my own, more of them. -/
import Derived.Test.YtahpfcfecghpmaaLib
namespace Go.Proofs.Ytahpfcfecghpmaa
open Go.RowKit

theorem wpList_append_fit_new {P : Program} {w : World} {ops : Array Oper} {rest : List Oper} {o : Oper} {a : Act} {Q : Exit → Act → World → Prop} (hgd : o.guard = none) (s x : Operand) (t : TypeId)
    (ho : o.op = .call { callee := .builtin .append, args := #[s, x], argTypes := #[t, t] })
    (e : TypeId) (i : TypeInfo) (z : Value) (size bytes : Nat) (ht : P.underlying t = some (.slice e)) (hi : P.info? e = some i) (hz : i.zero = some z)
    (hsize : i.size = size) (hby : i.bytes = bytes) (hzs : z.cells.size = size) (hsz : 0 < size)
    (g n cap : Nat) (xs : List Value) (hs : a.eval s = .slice (some ⟨g, 0, none⟩) n cap) (hown : w.ownsRow 0 e size (.slice (some ⟨g, 0, none⟩) n cap) n xs)
    (m c : Nat) (news : List Value) (hx : a.eval x = .slice (some ⟨w.heap.size, 0, none⟩) m c) (hl : news.length = m * size) (h1 : ∀ u ∈ news, u.oneCell' = true)
    (hroom : n + m ≤ cap) (hbytes : (n + m) * bytes ≤ 140737488355328) (h63 : n + m ≤ 140737488355328)
    (h : ∀ w', w'.ownsRow 0 e size (.slice (some ⟨g, 0, none⟩) (n + m) cap) (n + m) (xs ++ news) → Off (fun k => k = g) w w' → wpList P ops Q rest (a.put o.dst (.slice (some ⟨g, 0, none⟩) (n + m) cap)) w') : wpList P ops Q (o :: rest) a (w.alloc (.cells news.toArray e)) :=
  wpList_append_fit hgd s x t ho e i z size bytes ht hi hz hsize hby hzs hsz g n cap xs hs (hown.alloc _) _ m c news hx hl (Sl.new w news e) h1 hroom hbytes h63 (fun w' h1 h2 => h w' h1 (((Off.refl (fun k => k = g) w).alloc (.cells news.toArray e)).trans h2))

/-- a row whose room is just filled is a whole block. -/
theorem own_full {w : World} {e : TypeId} {g : Nat} {n : Nat} {xs : List Value} (h : w.ownsRow 0 e 1 (.slice (some ⟨g, 0, none⟩) n n) n xs) : Blk w g xs e := by
  rcases h.2 with ⟨h1, _⟩ | ⟨g', cap, cur, h1, _, h2, _, _, h3, h4⟩
  · cases h1
  · cases h1
    unfold Blk
    rw [h2]
    have : cur.toList.take (n * 1) = cur.toList := List.take_of_length_le (by simp; omega)
    rw [this] at h4
    rw [← h4]
theorem blk_own {w : World} {e : TypeId} {g : Nat} {xs : List Value} {n : Nat} (h : Blk w g xs e) (hn : n = xs.length) (hm : n ≤ 140737488355328) : w.ownsRow 0 e 1 (.slice (some ⟨g, 0, none⟩) n n) n xs := by
  subst hn
  refine ⟨by simp, .inr ⟨g, xs.length, xs.toArray, rfl, Nat.zero_le _, h, Nat.le_refl _, by unfold maxLen; omega, by simp, by simp⟩⟩

theorem blk_sl {w : World} {g : Nat} {cs : List Value} {t : TypeId} (h : Blk w g cs t) : Sl w (some ⟨g, 0, none⟩) cs :=
  Sl.mk fun j u hu => by rw [Nat.zero_add]; exact h.cell hu

theorem Sl.ix2 {P : Program} {t e : TypeId} {w : World} {a : Option Addr} {cs : List Value} {n : Nat} (h : Sl w a cs) (ht : P.underlying t = some (.slice e)) (hs : ∀ w, (sizeOf e).run P w = .ok 1 w)
    (hn : cs.length = n) (c : Nat) :
    ∃ b o, (∀ i : Nat, i < n → ∀ w : World, (Instr.indexAt t (.slice a n c) (.int .i64 (i : Int))).run P w = .ok (.pointer (some ⟨b, o + i, none⟩)) w) ∧
      Hid (∀ j u, cs[j]? = some u → w.cell? ⟨b, o + j, none⟩ = some u) ∧ Hid (0 < n → a = some ⟨b, o, none⟩) := by
  obtain ⟨b, o, p, q⟩ := h.base
  have p' : 0 < n → a = some ⟨b, o, none⟩ := fun h0 => p (ne_nil_of_pos (by omega))
  exact ⟨b, o, fun i hi w => by simpa only [Nat.mul_one] using indexAt_any ht hs (c := c) p' i hi w, q, p'⟩

end Go.Proofs.Ytahpfcfecghpmaa
