/- The reader's walks, on: Row, Text, NewReader. -/
import Derived.Test.YtahpfcfecghpmaaRead
namespace Go.Proofs.Ytahpfcfecghpmaa
open Go.RowKit

/-- a reader that begins with these bytes goes on with at most as many. -/
theorem getN_len {most : Int} : ∀ {k i n : Nat} {l l' : List UInt8} {m : Nat}, getN most k i n l = some (m, l') → l'.length < l.length ∧ (m : Int) ≤ most ∧ (m : Int) ≤ 4611686018427387903
  | 0, _, _, _, _, _, h => by simp [getN] at h
  | _ + 1, _, _, [], _, _, h => by simp [getN] at h
  | k + 1, i, n, b :: l, l', m, h => by
    rw [getN] at h
    split at h
    · split at h
      · cases h
      · rename_i hn
        simp only [Option.some.injEq, Prod.mk.injEq] at h
        obtain ⟨rfl, rfl⟩ := h
        rw [not_or, not_or] at hn
        exact ⟨by simp, by omega, by omega⟩
    · have := getN_len h; simp; omega
def rsLen : RS → Nat
  | none => 0
  | some l => l.length
theorem rdNum_len (most : Int) (s : RS) : rsLen (rdNum most s).2 ≤ rsLen s := by
  cases s with
  | none => simp [rdNum, rsLen]
  | some l =>
    simp only [rdNum]
    split
    · rename_i h; have := getN_len h; simp [rsLen]; omega
    · simp [rsLen]

set_option maxRecDepth 100000 in
set_option maxHeartbeats 1000000 in
theorem row_r (p bb : Nat) (s : RS) (most : Int) (w : World) (h : Rd w p bb s) (bd : rsLen s ≤ 140737488355328) (R : Ending → World → Prop)
    (k : ∀ w' g' d', w'.ownsRow 0 5 1 (.slice g' (rdRow most s).1.length d') (rdRow most s).1.length (bys (rdRow most s).1) → Rd w' p bb (rdRow most s).2 → Off (fun k => k = p) w w' → (∀ q, g' = some q → w.heap.size ≤ q.block) → R (.returned (.slice g' (rdRow most s).1.length d')) w') :
    Calls Try.prog 88 #[.pointer (some ⟨p, 0, none⟩), .int .i64 most] w R := by
  have hb := rdNum_len most s
  have hn0 : 0 ≤ (rdNum most s).1 := by
    cases s with
    | none => simp [rdNum]
    | some l => simp only [rdNum]; split <;> simp
  have HK := Lib.hid k; clear k
  go_enter Try.func88, Try.ntmps88
  go_wp2_with (go_at_call 62; refine number_r _ _ _ _ _ h _ ?_)
  unfold rdRow at HK
  generalize rdNum most s = q at *
  obtain ⟨n, s'⟩ := q
  simp only at hb hn0
  obtain ⟨n, rfl⟩ := Int.eq_ofNat_of_zero_le hn0
  intro w1 h1 ho
  cases s' with
  | none =>
    have HF := HK.out w1 none 0 (World.ownsRow_nil _ _ _ _) h1 ho (by simp)
    clear HK
    go_wp2_with (go_at_call 67; refine on_c _ _ _ _ h1 _ ?_)
    exact HF
  | some l =>
    by_cases hl : l.length < n
    · simp only [Int.toNat_natCast, hl, if_true] at HK
      go_wp2_with (first | (go_at_call 67; refine on_c _ _ _ _ h1 _ ?_) | (go_at_call 81; refine take_f _ _ _ _ _ h1 hl _ ?_))
      intro w2 h2 ho2
      go_wp2_with (go_at_call 55; refine clone_c none 0 0 [] _ rfl (Sl.nil _ _) (by simp) _ ?_)
      intro w3 g3 d3 e1 e2 e3 e4
      have HF := HK.out w3 g3 d3 e1 (h2.old e2) ((ho.trans ho2).step e2 (fun _ x => x.elim)) (fun q hq => by have := e3 q hq; have := ho.size; have := ho2.size; omega)
      clear HK
      go_wp2_with fail
      exact HF
    · have hk : (if l.length < (n : Int).toNat then (([] : List UInt8), (none : RS)) else (l.take (n : Int).toNat, some (l.drop (n : Int).toNat))) = (l.take n, some (l.drop n)) := by simp [hl]
      simp only [hk] at HK
      have hlen : n = (l.take n).length := by simp; omega
      have hlb : (l.take n).length ≤ 140737488355328 := by
        have : rsLen (some l) = l.length := rfl
        simp only [List.length_take]; omega
      have HL := Lib.hid hlen; clear hlen hk
      go_wp2_with (first | (go_at_call 67; refine on_c _ _ _ _ h1 _ ?_) | (go_at_call 81; refine take_c _ _ _ _ _ h1 (by omega) _ ?_))
      intro w2 a2 hs h2 ho2
      generalize hL : l.take n = L at hs HK hlb HL
      clear hL
      go_wp2_with (go_at_call 55; refine clone_c _ _ _ L _ HL.out hs hlb _ ?_)
      intro w3 g3 d3 e1 e2 e3 e4
      have HF := HK.out w3 g3 d3 e1 (h2.old e2) ((ho.trans ho2).step e2 (fun _ x => x.elim)) (fun q hq => by have := e3 q hq; have := ho.size; have := ho2.size; omega)
      clear HK
      go_wp2_with fail
      exact HF

set_option maxRecDepth 100000 in
set_option maxHeartbeats 1000000 in
theorem text_r (p bb : Nat) (s : RS) (most : Int) (w : World) (h : Rd w p bb s) (bd : rsLen s ≤ 140737488355328) (R : Ending → World → Prop)
    (k : ∀ w', Rd w' p bb (rdRow most s).2 → Off (fun k => k = p) w w' → R (.returned (.string ⟨(rdRow most s).1.toArray⟩)) w') :
    Calls Try.prog 84 #[.pointer (some ⟨p, 0, none⟩), .int .i64 most] w R := by
  have HK := Lib.hid k; clear k
  go_enter Try.func84, Try.ntmps84
  go_wp2_with (go_at_call 88; refine row_r _ _ _ _ _ h bd _ ?_)
  intro w1 g1 d1 e1 e2 e3 e4
  obtain ⟨_, _, hsl⟩ := own_sl2 e1
  have HF := HK.out w1 e2 e3
  clear HK
  generalize (rdRow most s).1 = l at *
  have kc := run_string_of_sl (P := Try.prog) (src := 57) (dst := 9) (c := d1) Try.underlying57 Try.underlying5 Try.underlying9 rfl hsl
  go_wp2_with fail
  exact HF

set_option maxRecDepth 100000 in
set_option maxHeartbeats 400000 in
theorem newReader_c (a : Option Addr) (n c : Nat) (l : List UInt8) (w : World) (hn : n = l.length) (h : Sl w a (bys l)) (bd : l.length ≤ 140737488355328) (R : Ending → World → Prop)
    (k : ∀ w' p bb, Rd w' p bb (some l) → Off Old w w' → w.heap.size ≤ bb → bb ≤ p → R (.returned (.pointer (some ⟨p, 0, none⟩))) w') :
    Calls Try.prog 32 #[.slice a n c] w R := by
  subst hn
  have HK := Lib.hid k; clear k
  go_enter Try.func32, Try.ntmps32
  go_wp2_with (go_at_call 55; refine clone_c _ _ _ l _ rfl h bd _ ?_)
  intro w1 g1 d1 e1 e2 e3 e4
  obtain ⟨hc, hmax, hsl⟩ := own_sl2 e1
  have hz := e2.size
  obtain ⟨bb, hb1, hb2, hb3⟩ : ∃ bb, w.heap.size ≤ bb ∧ bb ≤ w1.heap.size ∧ ∀ q, g1 = some q → l ≠ [] → q.block = bb := by
    cases g1 with
    | none => exact ⟨w1.heap.size, hz, Nat.le_refl _, by simp⟩
    | some q =>
      by_cases hl : l = []
      · exact ⟨w1.heap.size, hz, Nat.le_refl _, fun _ _ h => absurd hl h⟩
      · have := hsl.lt rfl (by intro h; exact hl (by simpa [bys] using h))
        exact ⟨q.block, e3 q rfl, by omega, by rintro q' ⟨rfl⟩ _; rfl⟩
  have hrd : Rd (w1.alloc (.cells #[.bool true, .bool false, .slice g1 l.length d1] 114)) w1.heap.size bb (some l) := ⟨g1, d1, Blk.new w1 #[.bool true, .bool false, .slice g1 l.length d1] _, hsl.alloc _, hc, hmax, hb3⟩
  have HF := HK.out _ w1.heap.size bb hrd (e2.alloc _) hb1 hb2
  clear HK e1 hz hb1 hb2 hb3
  go_wp2_with fail
  exact HF
end Go.Proofs.Ytahpfcfecghpmaa
