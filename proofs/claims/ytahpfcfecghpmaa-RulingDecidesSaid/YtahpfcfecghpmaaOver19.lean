/- The verifier's kit: reads written over; a verdict turned into the document's. -/
import Derived.Test.YtahpfcfecghpmaaRefB1
import Derived.KernelRfl
namespace Go.Proofs.Ytahpfcfecghpmaa
open Go.RowKit
set_option linter.unusedSimpArgs false

theorem Blk.set3 {w : World} {b i : Nat} {t : TypeId} {cs : List Value} (h : Blk w b cs t) (v0 v1 v2 : Value) :
    Blk (((w.setCell ⟨b, i, none⟩ v0).setCell ⟨b, i + 1, none⟩ v1).setCell ⟨b, i + 2, none⟩ v2) b (((cs.set i v0).set (i + 1) v1).set (i + 2) v2) t := ((h.set i v0).set (i + 1) v1).set (i + 2) v2
theorem Off.set3 {S : Nat → Prop} {a w : World} {b i : Nat} (h : Off S a w) (hb : b < a.heap.size → S b) (v0 v1 v2 : Value) :
    Off S a (((w.setCell ⟨b, i, none⟩ v0).setCell ⟨b, i + 1, none⟩ v1).setCell ⟨b, i + 2, none⟩ v2) :=
  ((h.setCell (p := ⟨b, i, none⟩) hb v0).setCell (p := ⟨b, i + 1, none⟩) hb v1).setCell (p := ⟨b, i + 2, none⟩) hb v2
set_option maxRecDepth 100000 in
set_option maxHeartbeats 1000000 in
theorem overReads_c (g n : Nat) (cs : List Value) (w : World) (hb : Blk w g cs 83) (hx : cs.length = (n + 12) * 3) (bd : n ≤ 900000000) (R : Ending → World → Prop)
    (k : ∀ w', Off (fun k => k = g) w w' → R (.returned (.tuple #[])) w') :
    Calls Try.prog 21 #[.slice (some ⟨g, 0, none⟩) n (n + 12)] w R := by
  have HK := Lib.hid k; clear k
  have HX := Lib.hid hx; clear hx
  have hgl := hb.lt
  go_enter Try.func21, Try.ntmps21
  go_wp2_with fail
  go_loopw [3] (fun i wr => ∃ (j : Nat) (ys : List Value), i = .int .i64 j ∧ j ≤ n + 12 ∧ Blk wr g ys 83 ∧ Hid (ys.length = (n + 12) * 3) ∧ Off (fun k => k = g) w wr) (fun i _ => n + 12 - (intOf i).toNat)
  case atStart => exact ⟨0, cs, rfl, by omega, hb, HX, Off.refl _ _⟩
  case round =>
    obtain ⟨j, ys, rfl, hj, hby, HY, ho⟩ := hrel
    by_cases hlt : j < n + 12
    · go_wp2_with (go_at_call 40; refine markRead_c 2 j (by omega) (by omega) _ _ ?_)
      intro w2 ho2
      have hb2 := hby.old ho2
      have e0 : ys[j * 3]? = some (ys[j * 3]'(by have := HY.out; omega)) := by simp
      have e1 : ys[j * 3 + 1]? = some (ys[j * 3 + 1]'(by have := HY.out; omega)) := by simp
      have e2 : ys[j * 3 + 2]? = some (ys[j * 3 + 2]'(by have := HY.out; omega)) := by simp
      have c0 := hb2.cell e0
      have c1 := hb2.cell e1
      have c2 := hb2.cell e2
      have hf := hb2.free
      have hb3 := hb2.set3 (i := j * 3) (.string (markT 2 j)) (.bool false) (.string ⟨#[]⟩)
      have ho3 := Off.set3 (b := g) (i := j * 3) (ho.trans (ho2.mono (S' := fun k => k = g) (fun _ x _ => x.elim))) (fun _ => rfl) (.string (markT 2 j)) (.bool false) (.string ⟨#[]⟩)
      clear e0 e1 e2 hby hb2 ho2
      generalize ys[j * 3]'(by have := HY.out; omega) = y0 at c0
      generalize ys[j * 3 + 1]'(by have := HY.out; omega) = y1 at c1
      generalize ys[j * 3 + 2]'(by have := HY.out; omega) = y2 at c2
      go_wp2_with fail
      go_roundw
      case rel => exact ⟨j + 1, _, by go_num, by omega, hb3, by show _ = _; simp only [List.length_set]; exact HY.out, ho3⟩
      case measure => simp [intOf]; omega
    · have HF := HK.out wr ho
      clear HK
      go_wp2_with fail
      go_end0
      exact HF
set_option maxRecDepth 100000 in
theorem turned_c (x : Vd) (a : Option Addr) (m c : Nat) (w : World) (R : Ending → World → Prop) (k : ∀ w', Off Old w w' → R (.returned (.agg #[.int .i64 x.c, .int .i64 x.n, .bool x.commit, .int .i64 x.at_, .slice a m c])) w') :
    Calls Try.prog 14 #[.agg #[.int .i64 x.c, .int .i64 x.n, .bool x.commit, .int .i64 x.at_, .slice a m c]] w R := by
  have HK := Lib.hid k; clear k
  have HF := HK.out ((w.alloc (.cells #[.int .i64 x.c, .int .i64 x.n, .bool x.commit, .int .i64 x.at_, .slice a m c] 38)).alloc (.cells #[.int .i64 x.c, .int .i64 x.n, .bool x.commit, .int .i64 x.at_, .slice a m c] 41)) (((Off.refl _ _).alloc _).alloc _)
  have hb := Blk.new2 w (.cells #[.int .i64 x.c, .int .i64 x.n, .bool x.commit, .int .i64 x.at_, .slice a m c] 38) #[.int .i64 x.c, .int .i64 x.n, .bool x.commit, .int .i64 x.at_, .slice a m c] 41
  have HB := Lib.hid hb
  clear HK hb
  go_enter Try.func14, Try.ntmps14
  go_wp2_with fail
  exact bodyPost_ret (v := .agg #[.int .i64 x.c, .int .i64 x.n, .bool x.commit, .int .i64 x.at_, .slice a m c]) (by simp [results, Try.results14, go_sem, HB.out.cell (i := 0) rfl, HB.out.cell (i := 1) rfl, HB.out.cell (i := 2) rfl, HB.out.cell (i := 3) rfl, HB.out.cell (i := 4) rfl]) rfl HF
end Go.Proofs.Ytahpfcfecghpmaa
