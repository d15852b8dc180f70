/- The verifier's kit over rows of api.Read. (Printed by mkkit.py.) -/
import Derived.Test.YtahpfcfecghpmaaText
import Derived.KernelRfl
import Derived.Laws.StructEq
import Derived.Deep.RegionHeld3
namespace Go.Proofs.Ytahpfcfecghpmaa
open Go.RowKit
set_option linter.unusedSimpArgs false

@[ext] structure Rdx where
  key : ByteArray
  is : Bool
  val : ByteArray
def Rdx.v (x : Rdx) : List Value := [.string x.key, .bool x.is, .string x.val]
def rdxs (l : List Rdx) : List Value := l.flatMap Rdx.v
theorem sz_rdx (w : World) : (sizeOf 83).run Try.prog w = .ok 3 w := by kernel_rfl
theorem rdxinfo : (Try.prog.info? 83).map (fun i => (i.zero, i.size, i.bytes)) = some (some (.agg #[.string ⟨#[]⟩, .bool false, .string ⟨#[]⟩]), 3, 40) := by kernel_rfl
@[simp] theorem rdxs_length (l : List Rdx) : (rdxs l).length = l.length * 3 := by
  induction l with
  | nil => rfl
  | cons x l ih => simp only [rdxs, List.flatMap_cons, List.length_append] at *; rw [ih]; simp [Rdx.v]; omega
@[simp] theorem rdxs_append (l m : List Rdx) : rdxs (l ++ m) = rdxs l ++ rdxs m := by simp [rdxs]
theorem rdxs_oneCell (l : List Rdx) : ∀ u ∈ rdxs l, u.oneCell' = true := by
  intro u hu
  simp only [rdxs, List.mem_flatMap] at hu
  obtain ⟨x, _, hx⟩ := hu
  simp only [Rdx.v, List.mem_cons, List.not_mem_nil, or_false] at hx
  rcases hx with rfl | rfl | rfl <;> rfl
theorem rdxs_at : ∀ {l : List Rdx} {j : Nat} {x : Rdx}, l[j]? = some x → (rdxs l)[3 * j]? = some (.string x.key) ∧ (rdxs l)[3 * j + 1]? = some (.bool x.is) ∧ (rdxs l)[3 * j + 2]? = some (.string x.val)
  | [], j, x, h => by simp at h
  | y :: l, 0, x, h => by simp at h; subst h; exact ⟨rfl, rfl, rfl⟩
  | y :: l, j + 1, x, h => by
    have := rdxs_at (l := l) (j := j) (x := x) (by simpa using h)
    have e : rdxs (y :: l) = .string y.key :: .bool y.is :: .string y.val :: rdxs l := rfl
    rw [e, show 3 * (j + 1) = 3 * j + 1 + 1 + 1 by omega]
    exact this
theorem Sl.ix_rdx {w : World} {a : Option Addr} {l : List Rdx} (h : Sl w a (rdxs l)) (c : Nat) :
    ∃ b o, (∀ i : Nat, i < l.length → ∀ w : World, (Instr.indexAt 36 (.slice a l.length c) (.int .i64 (i : Int))).run Try.prog w = .ok (.pointer (some ⟨b, o + i * 3, none⟩)) w) ∧
      Hid (∀ j x, l[j]? = some x → w.cell? ⟨b, o + j * 3, none⟩ = some (.string x.key) ∧ w.cell? ⟨b, o + j * 3 + 1, none⟩ = some (.bool x.is) ∧ w.cell? ⟨b, o + j * 3 + 2, none⟩ = some (.string x.val)) ∧ Hid (0 < l.length → a = some ⟨b, o, none⟩) := by
  obtain ⟨b, o, p, q⟩ := h.base
  have hn : 0 < l.length → rdxs l ≠ [] := by
    intro h0 h1
    have := rdxs_length l
    rw [h1] at this; simp at this; omega
  refine ⟨b, o, fun i hi w => indexAt_any Try.underlying36 sz_rdx (fun h => p (hn h)) i hi w, fun j x hx => ?_, fun h => p (hn h)⟩
  obtain ⟨h0, h1, h2⟩ := rdxs_at hx
  exact ⟨by rw [Nat.mul_comm]; exact q _ _ h0, by rw [Nat.mul_comm, Nat.add_assoc]; exact q _ _ h1, by rw [Nat.mul_comm, Nat.add_assoc]; exact q _ _ h2⟩
def markRdx (k i : Nat) : Rdx := ⟨markT k i, false, ⟨#[]⟩⟩
def marksRdx (k m : Nat) : List Rdx := (List.range m).map (markRdx k)
@[simp] theorem marksRdx_len (k m : Nat) : (marksRdx k m).length = m := by simp [marksRdx]
theorem marksRdx_succ (k m : Nat) : marksRdx k (m + 1) = marksRdx k m ++ [markRdx k m] := by simp [marksRdx, List.range_succ]
theorem marksRdx_at {k m i : Nat} (h : i < m) : (marksRdx k m)[i]? = some (markRdx k i) := by simp [marksRdx, h]
set_option maxRecDepth 100000 in
theorem markRead_c (k i : Nat) (hk : k ≤ 1000000) (hi : i ≤ 1000000000) (w : World) (R : Ending → World → Prop) (K : ∀ w', Off Old w w' → R (.returned (.agg #[.string (markT k i), .bool false, .string ⟨#[]⟩])) w') :
    Calls Try.prog 40 #[.int .i64 k, .int .i64 i] w R := by
  have HK := Lib.hid K; clear K
  go_enter Try.func40, Try.ntmps40
  go_wp2_with (go_at_call 69; go_must (refine markText_c k i hk hi _ _ ?_))
  intro w1 ho1
  have hb := (Blk.new w #[.string ⟨#[]⟩, .bool false, .string ⟨#[]⟩] 83).old ho1
  have c0 := hb.cell (i := 0) rfl
  have c1 := hb.cell (i := 1) rfl
  have c2 := hb.cell (i := 2) rfl
  have hf := hb.free
  have hz := ho1.size
  have ho2 : Off Old w w1 := ((Off.refl Old w).alloc _).trans ho1
  have hB := Lib.hid hb; clear hb
  go_wp2_with fail
  have hb3 := (((hB.out.set 0 (.string (markT k i))).set 1 (.bool false)).set 2 (.string ⟨#[]⟩))
  have HF := HK.out _ ((Off.setCell ((Off.setCell ((Off.setCell (ho2) (p := ⟨w.heap.size, 0, none⟩) (by simp) (.string (markT k i)))) (p := ⟨w.heap.size, 1, none⟩) (by simp) (.bool false))) (p := ⟨w.heap.size, 2, none⟩) (by simp) (.string ⟨#[]⟩)))
  exact bodyPost_ret (v := .agg #[.string (markT k i), .bool false, .string ⟨#[]⟩]) (by simp [results, Try.results40, go_sem, hb3.cell (i := 0) rfl, hb3.cell (i := 1) rfl, hb3.cell (i := 2) rfl]) rfl HF
set_option maxRecDepth 100000 in
set_option maxHeartbeats 1000000 in
theorem lentReads_c (a : Option Addr) (n c : Nat) (l : List Rdx) (w : World) (hn : l.length = n) (h : Sl w a (rdxs l)) (bd : n ≤ 1000000000) (R : Ending → World → Prop)
    (k : ∀ w' g, Blk w' g (rdxs (l ++ marksRdx 1 12)) 83 → Off Old w w' → w.heap.size ≤ g → R (.returned (.slice (some ⟨g, 0, none⟩) n (n + 12))) w') :
    Calls Try.prog 12 #[.slice a n c] w R := by
  have HN := Lib.hid hn; clear hn
  obtain ⟨i0, hi, hz0, hz1, hz2⟩ := info_parts rdxinfo
  have HK := Lib.hid k; clear k
  have hln : Hid ((rdxs l).length = n * 3) := by show _ = _; rw [rdxs_length, HN.out]
  go_enter Try.func12, Try.ntmps12
  go_wp2_with (at_make; go_must (refine wpList_make_new rfl _ _ 36 rfl 83 i0 (.agg #[.string ⟨#[]⟩, .bool false, .string ⟨#[]⟩]) 3 40 Try.underlying36 hi hz0 hz1 hz2 _ _ _ (n + 12) rfl rfl (by omega) (by omega) (by omega) ?_))
  intro w1 hown ho1
  have h1 := h.old ho1
  go_wp2_with (at_builtin; go_must (refine wpList_append_fit rfl (.tmp 9) (.tmp 10) 36 rfl 83 i0 (.agg #[.string ⟨#[]⟩, .bool false, .string ⟨#[]⟩]) 3 40 Try.underlying36 hi hz0 hz1 hz2 rfl (by decide) w.heap.size 0 (n + 12) [] rfl hown a n c (rdxs l) rfl hln.out h1 (rdxs_oneCell _) (by omega) (by omega) (by omega) ?_))
  intro w2 hown2 ho2
  have ho3 : Off Old w w2 := ho1.step ho2 (by intro i e hl; omega)
  clear ho2 ho1 h1 hown h
  go_wp2_with fail
  go_loopw [3, 4] (fun v i wr => ∃ j : Nat, i = .int .i64 j ∧ j ≤ 12 ∧ v = .slice (some ⟨w.heap.size, 0, none⟩) (n + j) (n + 12) ∧ wr.ownsRow 0 83 3 (.slice (some ⟨w.heap.size, 0, none⟩) (n + j) (n + 12)) (n + j) (rdxs (l ++ marksRdx 1 j)) ∧ Off Old w wr) (fun _ i _ => 12 - (intOf i).toNat)
  case atStart => exact ⟨0, rfl, by omega, rfl, by simpa [marksRdx] using hown2, ho3⟩
  case round =>
    obtain ⟨j, rfl, hj, rfl, hown, ho⟩ := hrel
    by_cases hlt : j < 12
    · obtain ⟨V, hV⟩ : ∃ V, Hid (rdxs (l ++ marksRdx 1 j) = V) := ⟨_, rfl⟩
      rw [hV.out] at hown
      go_wp2_with (go_at_call 40; go_must (refine markRead_c 1 j (by omega) (by omega) _ _ ?_))
      intro w3 ho4
      have hown3 := own_off hown ho4 (fun _ _ x => x)
      have hz3 := ho4.size
      go_wp2_with (at_builtin; go_must (refine wpList_append_fit_new rfl (.tmp 16) (.tmp 19) 36 rfl 83 i0 (.agg #[.string ⟨#[]⟩, .bool false, .string ⟨#[]⟩]) 3 40 Try.underlying36 hi hz0 hz1 hz2 rfl (by decide) w.heap.size (n + j) (n + 12) V rfl hown3 1 1 (rdxs [markRdx 1 j]) rfl rfl (rdxs_oneCell _) (by omega) (by omega) (by omega) ?_))
      intro w4 hown4 ho5
      have hown5 : w4.ownsRow 0 83 3 (.slice (some ⟨w.heap.size, 0, none⟩) (n + (j + 1)) (n + 12)) (n + (j + 1)) (rdxs (l ++ marksRdx 1 (j + 1))) := by
        have := hown4
        rw [marksRdx_succ, ← List.append_assoc, rdxs_append, hV.out]
        simpa [Nat.add_assoc] using this
      have ho6 : Off Old w w4 := (ho.trans ho4).step ho5 (by intro i e hl; omega)
      clear hown hown3 hown4 ho ho4 ho5
      go_wp2_with fail
      go_roundw
      case rel => exact ⟨j + 1, by go_num, by omega, by simp [Nat.add_assoc], hown5, ho6⟩
      case measure => simp [intOf]; omega
    · obtain rfl : j = 12 := by omega
      have HF := HK.out wr w.heap.size (own_full_s hown) ho (Nat.le_refl _)
      clear HK
      go_wp2_with fail
      exact HF
set_option maxRecDepth 100000 in
set_option maxHeartbeats 400000 in
theorem copyReads_c (a : Option Addr) (n c : Nat) (l : List Rdx) (w : World) (hn : l.length = n) (h : Sl w a (rdxs l)) (bd : n ≤ 1000000000) (R : Ending → World → Prop)
    (k : ∀ w' g' d', w'.ownsRow 0 83 3 (.slice g' n d') n (rdxs l) → Off Old w w' → (∀ q, g' = some q → w.heap.size ≤ q.block) → R (.returned (.slice g' n d')) w') :
    Calls Try.prog 68 #[.slice a n c] w R := by
  obtain ⟨i0, hi, hz0, hz1, hz2⟩ := info_parts rdxinfo
  have HK := Lib.hid k; clear k
  have hln : Hid ((rdxs l).length = n * 3) := by show _ = _; rw [rdxs_length, hn]
  clear hn
  go_enter Try.func68, Try.ntmps68
  go_wp2_with (at_builtin; go_must (refine wpList_append_sl rfl (.tmp 4) (.tmp 5) 36 rfl 83 i0 (.agg #[.string ⟨#[]⟩, .bool false, .string ⟨#[]⟩]) 3 40 Try.underlying36 hi hz0 hz1 hz2 rfl (by decide) (.slice none 0 0) 0 [] rfl (World.ownsRow_nil _ _ _ _) a n c (rdxs l) rfl hln.out h (rdxs_oneCell l) (by omega) (by omega) ?_))
  intro g' d' w1 hg
  have HF := HK.out w1 g' d' (by simpa using hg.own) (hg.off.mono (fun i e _ => by cases e)) (fun q e => by
    subst e
    rcases hg.mov q.block rfl with h | h
    · cases h
    · exact h)
  clear HK hg
  go_wp2_with fail
  simpa using HF
set_option maxHeartbeats 400000 in
theorem cloneReads_c (a : Option Addr) (n c : Nat) (l : List Rdx) (w : World) (hn : l.length = n) (h : Sl w a (rdxs l)) (bd : n ≤ 1000000000) (R : Ending → World → Prop)
    (k : ∀ w' g' d', w'.ownsRow 0 83 3 (.slice g' n d') n (rdxs l) → Off Old w w' → (∀ q, g' = some q → w.heap.size ≤ q.block) → R (.returned (.slice g' n d')) w') :
    Calls Try.prog 71 #[.slice a n c] w R := by
  obtain ⟨i0, hi, hz0, hz1, hz2⟩ := info_parts rdxinfo
  have HK2 := Lib.hid k; clear k
  have he := fun (w : World) (a : Option Addr) (n c : Nat) => Lib.run_eql_slice_nil (P := Try.prog) w 36 83 a n c 0 0 Try.underlying36
  have hln : Hid ((rdxs l).length = n * 3) := by show _ = _; rw [rdxs_length, hn]
  clear hn
  cases a with
  | none =>
    obtain rfl : l = [] := by
      cases l with
      | nil => rfl
      | cons x xs => obtain ⟨b, o, e, _⟩ := h 0 _ rfl; cases e
    obtain rfl : n = 0 := by have := hln.out; simp at this; omega
    have HF := HK2.out w none 0 (World.ownsRow_nil _ _ _ _) (Off.refl _ _) (by simp)
    clear HK2
    go_enter Try.func71, Try.ntmps71
    go_wp2_with fail
    exact HF
  | some q =>
    have hown : (w.alloc (.cells #[] 83)).ownsRow 0 83 3 (.slice (some ⟨w.heap.size, 0, none⟩) 0 0) 0 [] := World.ownsRow_made w #[] 0 (Nat.zero_le _) (by unfold maxLen; omega) rfl
    have h' := h.alloc (.cells #[] 83)
    go_enter Try.func71, Try.ntmps71
    go_wp2_with (at_builtin; go_must (refine wpList_append_sl rfl (.tmp 5) (.tmp 6) 36 rfl 83 i0 (.agg #[.string ⟨#[]⟩, .bool false, .string ⟨#[]⟩]) 3 40 Try.underlying36 hi hz0 hz1 hz2 rfl (by decide) (.slice (some ⟨w.heap.size, 0, none⟩) 0 0) 0 [] rfl hown (some q) n c (rdxs l) rfl hln.out h' (rdxs_oneCell l) (by omega) (by omega) ?_))
    intro g' d' w1 hg
    have HF := HK2.out w1 g' d' (by simpa using hg.own) (((Off.refl Old w).alloc (.cells #[] 83)).step hg.off (by
      intro i hi hl; simp [Value.ownBlock] at hi; omega)) (by
      intro q hq; subst hq
      have := hg.mov q.block rfl
      simp [Value.ownBlock] at this; omega)
    clear HK2 hg
    go_wp2_with fail
    simpa using HF
instance : DecidableEq Rdx := fun x y => decidable_of_iff (x.key = y.key ∧ x.is = y.is ∧ x.val = y.val) ⟨fun ⟨h0, h1, h2⟩ => Rdx.ext h0 h1 h2, by rintro rfl; exact ⟨rfl, rfl, rfl⟩⟩
theorem rdx_ext_iff (x y : Rdx) : x = y ↔ x.key = y.key ∧ x.is = y.is ∧ x.val = y.val := ⟨by rintro rfl; exact ⟨rfl, rfl, rfl⟩, fun ⟨h0, h1, h2⟩ => Rdx.ext h0 h1 h2⟩
theorem run_eql_rdx (x y : Rdx) (w : World) : (binOp .eql 83 (.agg #[.string x.key, .bool x.is, .string x.val]) (.agg #[.string y.key, .bool y.is, .string y.val])).run Try.prog w = .ok (.bool (decide (x = y))) w := by
  first | rw [run_eql_struct] | rw [run_neq_struct]
  simp only [rdx_ext_iff]
  simp [go_sem, toList_inj]
  by_cases h0 : x.key = y.key <;> by_cases h1 : x.is = y.is <;> by_cases h2 : x.val = y.val <;> simp [h0, h1, h2]
theorem run_neq_rdx (x y : Rdx) (w : World) : (binOp .neq 83 (.agg #[.string x.key, .bool x.is, .string x.val]) (.agg #[.string y.key, .bool y.is, .string y.val])).run Try.prog w = .ok (.bool (!decide (x = y))) w := by
  first | rw [run_eql_struct] | rw [run_neq_struct]
  simp only [rdx_ext_iff]
  simp [go_sem, toList_inj]
  by_cases h0 : x.key = y.key <;> by_cases h1 : x.is = y.is <;> by_cases h2 : x.val = y.val <;> simp [h0, h1, h2]
set_option maxRecDepth 100000 in
set_option maxHeartbeats 800000 in
theorem sameReads_c (a1 a2 : Option Addr) (n1 n2 c1 c2 : Nat) (l1 l2 : List Rdx) (w : World) (e1 : l1.length = n1) (e2 : l2.length = n2) (h1 : Sl w a1 (rdxs l1)) (h2 : Sl w a2 (rdxs l2)) (b1 : n1 ≤ 1000000000)
    (R : Ending → World → Prop) (k : ∀ w', Dr w w' → R (.returned (.bool (decide (l1 = l2)))) w') :
    Calls Try.prog 45 #[.slice a1 n1 c1, .slice a2 n2 c2] w R := by
  subst e1
  subst e2
  have HK := Lib.hid k; clear k
  by_cases hl : l1.length = l2.length
  · have hb : ((l1.length : Int) != (l2.length : Int)) = false := by simp [hl]
    have HL := Lib.hid hl; clear hl
    obtain ⟨x1, o1, r1, Q1, _⟩ := h1.ix_rdx c1
    obtain ⟨x2, o2, r2, Q2, _⟩ := h2.ix_rdx c2
    go_enter Try.func45, Try.ntmps45
    go_wp2_with fail
    go_loopw [5] (fun i wr => ∃ j : Nat, j ≤ l1.length ∧ i = .int .i64 j ∧ Dr w wr ∧ Hid (l1.take j = l2.take j)) (fun i _ => l1.length - (intOf i).toNat)
    case atStart => exact ⟨0, Nat.zero_le _, rfl, Dr.refl _, rfl⟩
    case round =>
      obtain ⟨j, hj, rfl, ⟨m, rfl⟩, ht⟩ := hrel
      by_cases hlt : j < l1.length
      · have hlt2 : j < l2.length := by have := HL.out; omega
        obtain ⟨x, hx⟩ := at_of_lt hlt
        obtain ⟨y, hy⟩ := at_of_lt hlt2
        obtain ⟨g10, g11, g12⟩ := Q1.out j _ hx.out
        obtain ⟨g20, g21, g22⟩ := Q2.out j _ hy.out
        have hne := run_neq_rdx x y
        by_cases hxy : x = y
        · rw [decide_eq_true hxy] at hne
          have hxy2 := Lib.hid hxy
          clear hxy
          go_wp2_with fail
          go_quiet (fail)
          go_wp2_with fail
          go_roundw
          case rel => exact ⟨j + 1, by omega, by go_num, by simp, take_eq_step hx.out (by rw [hxy2.out]; exact hy.out) ht.out⟩
          case measure => simp [intOf]; omega
        · rw [decide_eq_false hxy] at hne
          have HF : Hid (∀ w', Dr w w' → R (.returned (.bool false)) w') := by
            intro w' hw'
            have := HK.out w' hw'
            rwa [decide_eq_false (ne_of_at hx.out hy.out hxy)] at this
          clear HK
          go_wp2_with fail
          go_quiet (fail)
          go_wp2_with fail
          exact HF.out _ (by simp)
      · obtain rfl : j = l1.length := by omega
        have HF := HK.out (w.drewN m) (by simp)
        rw [decide_eq_true (eq_of_take HL.out ht.out)] at HF
        clear HK
        go_wp2_with fail
        exact HF
  · have hb : ((l1.length : Int) != (l2.length : Int)) = true := by simp; omega
    have hv : ¬ l1 = l2 := by intro h; exact hl (by rw [h])
    have HF := HK.out w (by simp)
    rw [decide_eq_false hv] at HF
    clear HK hv hl
    go_enter Try.func45, Try.ntmps45
    go_wp2_with fail
    exact HF
theorem markRead_1 (T : Nat) (hT : T ≤ 12) (w : World) (R : Ending → World → Prop) (K : ∀ w', Off Old w w' → R (.returned (.agg #[.string (markT 1 T), .bool false, .string ⟨#[]⟩])) w') :
    Calls Try.prog 40 #[.int .i64 1, .int .i64 (T : Int)] w R := markRead_c 1 T (by omega) (by omega) w R K
set_option maxRecDepth 100000 in
set_option maxHeartbeats 1000000 in
theorem keptReads_c (g : Nat) (a : Option Addr) (n c : Nat) (l : List Rdx) (w : World) (hn : l.length = n) (hb : Blk w g (rdxs (l ++ marksRdx 1 12)) 83) (h : Sl w a (rdxs l)) (bd : n ≤ 1000000000) (R : Ending → World → Prop)
    (k : ∀ w', Off Old w w' → R (.returned (.bool true)) w') :
    Calls Try.prog 18 #[.slice (some ⟨g, 0, none⟩) n (n + 12), .slice a n c] w R := by
  have HK := Lib.hid k; clear k
  subst hn
  have hAll : Hid ((l ++ marksRdx 1 12).length = l.length + 12) := by show _ = _; simp
  go_enter Try.func18, Try.ntmps18
  go_wp2_with fail
  go_loopw [6] (fun i wr => ∃ j : Nat, i = .int .i64 j ∧ j ≤ l.length + 12 ∧ Off Old w wr) (fun i _ => l.length + 12 - (intOf i).toNat)
  case atStart => exact ⟨0, rfl, by omega, Off.refl _ _⟩
  case round =>
    obtain ⟨j, rfl, hj, ho⟩ := hrel
    by_cases hlt : j < l.length
    · obtain ⟨x, hx⟩ := at_of_lt hlt
      obtain ⟨b, o, ix, Q, _⟩ := (h.old ho).ix_rdx c
      obtain ⟨cx0, cx1, cx2⟩ := Q.out j x hx.out
      have hq := rdxs_at (l := l ++ marksRdx 1 12) (j := j) (x := x) (by rw [List.getElem?_append_left hlt]; exact hx.out)
      rw [Nat.mul_comm] at hq
      obtain ⟨hq0, hq1, hq2⟩ := hq
      have cg0 := (hb.off ho (fun x => x)).cell hq0
      have cg1 := (hb.off ho (fun x => x)).cell hq1
      have cg2 := (hb.off ho (fun x => x)).cell hq2
      have hnd : decide (l.length ≤ j) = false := by simpa using hlt
      have heq := run_eql_rdx x x
      rw [decide_eq_true rfl] at heq
      clear hq0 hq1 hq2
      go_wp2_with fail
      go_quiet (fail)
      go_wp2_with fail
      go_roundw
      case rel => exact ⟨j + 1, by go_num, by omega, ho.drewN _⟩
      case measure => simp [intOf]; omega
    · by_cases hend : j < l.length + 12
      · have hq := rdxs_at (l := l ++ marksRdx 1 12) (j := j) (x := markRdx 1 (j - l.length)) (by rw [List.getElem?_append_right (by omega)]; exact marksRdx_at (by omega))
        rw [Nat.mul_comm] at hq
        obtain ⟨hq0, hq1, hq2⟩ := hq
        have cg0 : wr.cell? ⟨g, j * 3, none⟩ = some (.string (markT 1 (j - l.length))) := (hb.off ho (fun x => x)).cell hq0
        have cg1 : wr.cell? ⟨g, j * 3 + 1, none⟩ = some (.bool false) := (hb.off ho (fun x => x)).cell hq1
        have cg2 : wr.cell? ⟨g, j * 3 + 2, none⟩ = some (.string ⟨#[]⟩) := (hb.off ho (fun x => x)).cell hq2
        have hsub : IntKind.i64.wrap ((j : Int) - (l.length : Int)) = ((j - l.length : Nat) : Int) := by
          rw [IntWalk.i64_in _ (by omega)]; omega
        have hnd : decide (l.length ≤ j) = true := by simpa using hlt
        have hlt2 : decide (j < l.length) = false := by simpa using hlt
        have ht12 : j - l.length ≤ 12 := by omega
        have heq := run_eql_rdx (markRdx 1 (j - l.length)) (markRdx 1 (j - l.length))
        rw [decide_eq_true rfl] at heq
        simp only [markRdx] at heq
        clear hq0 hq1 hq2 hb
        generalize hT : j - l.length = T at *
        clear hT
        have hkeep0 : wr.cell? ⟨g, j * 3, none⟩ = some (.string (markT 1 T)) ∧ wr.cell? ⟨g, j * 3 + 1, none⟩ = some (.bool false) ∧ wr.cell? ⟨g, j * 3 + 2, none⟩ = some (.string ⟨#[]⟩) := ⟨cg0, cg1, cg2⟩
        have hkeepd : wr.drew.cell? ⟨g, j * 3, none⟩ = some (.string (markT 1 T)) ∧ wr.drew.cell? ⟨g, j * 3 + 1, none⟩ = some (.bool false) ∧ wr.drew.cell? ⟨g, j * 3 + 2, none⟩ = some (.string ⟨#[]⟩) := ⟨cg0, cg1, cg2⟩
        go_wp2_with fail
        refine wp_region_held_drew (S := (fun w' => w'.cell? ⟨g, j * 3, none⟩ = some (.string (markT 1 T)) ∧ w'.cell? ⟨g, j * 3 + 1, none⟩ = some (.bool false) ∧ w'.cell? ⟨g, j * 3 + 2, none⟩ = some (.string ⟨#[]⟩))) (by kernel_rfl) ?_ (fun hHeld => ?_)
        · (first | exact hkeepd | exact hkeep1)
        refine wpAnyH_take (i := 0) (v := ?_) rfl (by kernel_rfl) (by kernel_rfl) (by kernel_rfl) (fun _ _ _ h => h) (Or.inl ⟨by rfl, ?_⟩) (by assumption) ?_
        rotate_left
        · (intro w hSw; (try dsimp only at hSw); go_simp; try with_reducible rfl)
        try simp only [Act.put, List.getElem_toArray, List.getElem_cons_zero, List.getElem_cons_succ, List.setIfInBounds_toArray, List.set_cons_zero, List.set_cons_succ]
        refine wpAnyH_take (i := 1) (v := ?_) rfl (by kernel_rfl) (by kernel_rfl) (by kernel_rfl) (fun _ _ _ h => h) (Or.inl ⟨by rfl, ?_⟩) (by assumption) ?_
        rotate_left
        · (intro w hSw; (try dsimp only at hSw); go_simp; try with_reducible rfl)
        try simp only [Act.put, List.getElem_toArray, List.getElem_cons_zero, List.getElem_cons_succ, List.setIfInBounds_toArray, List.set_cons_zero, List.set_cons_succ]
        refine wpAnyH_take (i := 2) (v := ?_) rfl (by kernel_rfl) (by kernel_rfl) (by kernel_rfl) (fun _ _ _ h => h) (Or.inl ⟨by rfl, ?_⟩) (by assumption) ?_
        rotate_left
        · (intro w hSw; (try dsimp only at hSw); go_simp; try with_reducible rfl)
        try simp only [Act.put, List.getElem_toArray, List.getElem_cons_zero, List.getElem_cons_succ, List.setIfInBounds_toArray, List.set_cons_zero, List.set_cons_succ]
        refine wpAnyH_take (i := 3) (v := ?_) rfl (by kernel_rfl) (by kernel_rfl) (by kernel_rfl) (fun _ _ _ h => h) (Or.inl ⟨by rfl, ?_⟩) (by assumption) ?_
        rotate_left
        · (intro w hSw; (try dsimp only at hSw); go_simp; try with_reducible rfl)
        try simp only [Act.put, List.getElem_toArray, List.getElem_cons_zero, List.getElem_cons_succ, List.setIfInBounds_toArray, List.set_cons_zero, List.set_cons_succ]
        refine wpAnyH_take (i := 4) (v := ?_) rfl (by kernel_rfl) (by kernel_rfl) (by kernel_rfl) (fun _ _ _ h => h) (Or.inl ⟨by rfl, ?_⟩) (by assumption) ?_
        rotate_left
        · (intro w hSw; (try dsimp only at hSw); go_simp; try with_reducible rfl)
        try simp only [Act.put, List.getElem_toArray, List.getElem_cons_zero, List.getElem_cons_succ, List.setIfInBounds_toArray, List.set_cons_zero, List.set_cons_succ]
        refine wpAnyH_take (i := 5) (v := undef) rfl (by kernel_rfl) (by kernel_rfl) (by kernel_rfl) (fun _ _ _ h => h) (Or.inr ⟨by rfl, rfl⟩) (by assumption) ?_
        try simp only [Act.put, List.getElem_toArray, List.getElem_cons_zero, List.getElem_cons_succ, List.setIfInBounds_toArray, List.set_cons_zero, List.set_cons_succ]
        refine wpAnyH_take (i := 6) (v := undef) rfl (by kernel_rfl) (by kernel_rfl) (by kernel_rfl) (fun _ _ _ h => h) (Or.inr ⟨by rfl, rfl⟩) (by assumption) ?_
        try simp only [Act.put, List.getElem_toArray, List.getElem_cons_zero, List.getElem_cons_succ, List.setIfInBounds_toArray, List.set_cons_zero, List.set_cons_succ]
        refine wpAnyH_take (i := 7) (v := undef) rfl (by kernel_rfl) (by kernel_rfl) (by kernel_rfl) (fun _ _ _ h => h) (Or.inr ⟨by rfl, rfl⟩) (by assumption) ?_
        try simp only [Act.put, List.getElem_toArray, List.getElem_cons_zero, List.getElem_cons_succ, List.setIfInBounds_toArray, List.set_cons_zero, List.set_cons_succ]
        refine wpAnyH_take (i := 8) (v := undef) rfl (by kernel_rfl) (by kernel_rfl) (by kernel_rfl) (fun _ _ _ h => h) (Or.inr ⟨by rfl, rfl⟩) (by assumption) ?_
        try simp only [Act.put, List.getElem_toArray, List.getElem_cons_zero, List.getElem_cons_succ, List.setIfInBounds_toArray, List.set_cons_zero, List.set_cons_succ]
        refine wpAnyH_take (i := 9) (v := undef) rfl (by kernel_rfl) (by kernel_rfl) (by kernel_rfl) (fun _ _ _ h => h) (Or.inr ⟨by rfl, rfl⟩) (by assumption) ?_
        try simp only [Act.put, List.getElem_toArray, List.getElem_cons_zero, List.getElem_cons_succ, List.setIfInBounds_toArray, List.set_cons_zero, List.set_cons_succ]
        refine wpAnyH_take (i := 10) (v := undef) rfl (by kernel_rfl) (by kernel_rfl) (by kernel_rfl) (fun _ _ _ h => h) (Or.inr ⟨by rfl, rfl⟩) (by assumption) ?_
        try simp only [Act.put, List.getElem_toArray, List.getElem_cons_zero, List.getElem_cons_succ, List.setIfInBounds_toArray, List.set_cons_zero, List.set_cons_succ]
        refine wpAnyH_take (i := 11) (v := undef) rfl (by kernel_rfl) (by kernel_rfl) (by kernel_rfl) (fun _ _ _ h => h) (Or.inr ⟨by rfl, rfl⟩) (by assumption) ?_
        try simp only [Act.put, List.getElem_toArray, List.getElem_cons_zero, List.getElem_cons_succ, List.setIfInBounds_toArray, List.set_cons_zero, List.set_cons_succ]
        refine wpAnyH_take (i := 12) (v := undef) rfl (by kernel_rfl) (by kernel_rfl) (by kernel_rfl) (fun _ _ _ h => h) (Or.inr ⟨by rfl, rfl⟩) (by assumption) ?_
        try simp only [Act.put, List.getElem_toArray, List.getElem_cons_zero, List.getElem_cons_succ, List.setIfInBounds_toArray, List.set_cons_zero, List.set_cons_succ]
        refine wpAnyH_take (i := 13) (v := undef) rfl (by kernel_rfl) (by kernel_rfl) (by kernel_rfl) (fun _ _ _ h => h) (Or.inr ⟨by rfl, rfl⟩) (by assumption) ?_
        try simp only [Act.put, List.getElem_toArray, List.getElem_cons_zero, List.getElem_cons_succ, List.setIfInBounds_toArray, List.set_cons_zero, List.set_cons_succ]
        refine wpAnyH_take (i := 14) (v := undef) rfl (by kernel_rfl) (by kernel_rfl) (by kernel_rfl) (fun _ _ _ h => h) (Or.inr ⟨by rfl, rfl⟩) (by assumption) ?_
        try simp only [Act.put, List.getElem_toArray, List.getElem_cons_zero, List.getElem_cons_succ, List.setIfInBounds_toArray, List.set_cons_zero, List.set_cons_succ]
        refine wpAnyH_take (i := 15) (v := ?_) rfl (by kernel_rfl) (by kernel_rfl) (by kernel_rfl) (fun _ _ _ h => h) (Or.inl ⟨by rfl, ?_⟩) (by assumption) ?_
        rotate_left
        · (intro w hSw; (try dsimp only at hSw); go_simp; try with_reducible rfl)
        try simp only [Act.put, List.getElem_toArray, List.getElem_cons_zero, List.getElem_cons_succ, List.setIfInBounds_toArray, List.set_cons_zero, List.set_cons_succ]
        refine wpAnyH_take (i := 16) (v := ?_) rfl (by kernel_rfl) (by kernel_rfl) (by kernel_rfl) (fun _ _ _ h => h) (Or.inl ⟨by rfl, ?_⟩) (by assumption) ?_
        rotate_left
        · (intro w hSw; (try dsimp only at hSw); go_simp; try with_reducible rfl)
        try simp only [Act.put, List.getElem_toArray, List.getElem_cons_zero, List.getElem_cons_succ, List.setIfInBounds_toArray, List.set_cons_zero, List.set_cons_succ]
        refine wpAnyH_take (i := 17) (v := ?_) rfl (by kernel_rfl) (by kernel_rfl) (by kernel_rfl) (fun _ _ _ h => h) (Or.inl ⟨by rfl, ?_⟩) (by assumption) ?_
        rotate_left
        · (intro w hSw; (try dsimp only at hSw); go_simp; try with_reducible rfl)
        try simp only [Act.put, List.getElem_toArray, List.getElem_cons_zero, List.getElem_cons_succ, List.setIfInBounds_toArray, List.set_cons_zero, List.set_cons_succ]
        refine wpAnyH_take (i := 18) (v := ?_) rfl (by kernel_rfl) (by kernel_rfl) (by kernel_rfl) (fun _ _ _ h => h) (Or.inl ⟨by rfl, ?_⟩) (by assumption) ?_
        rotate_left
        · (intro w hSw; (try dsimp only at hSw); go_simp; try with_reducible rfl)
        try simp only [Act.put, List.getElem_toArray, List.getElem_cons_zero, List.getElem_cons_succ, List.setIfInBounds_toArray, List.set_cons_zero, List.set_cons_succ]
        refine wpAnyH_take (i := 19) (v := ?_) rfl (by kernel_rfl) (by kernel_rfl) (by kernel_rfl) (fun _ _ _ h => h) (Or.inl ⟨by rfl, ?_⟩) (by assumption) ?_
        rotate_left
        · (intro w hSw; (try dsimp only at hSw); go_simp; try with_reducible rfl)
        try simp only [Act.put, List.getElem_toArray, List.getElem_cons_zero, List.getElem_cons_succ, List.setIfInBounds_toArray, List.set_cons_zero, List.set_cons_succ]
        refine wpAnyH_take (i := 20) (v := ?_) rfl (by kernel_rfl) (by kernel_rfl) (by kernel_rfl) (fun _ _ _ h => h) (Or.inl ⟨by rfl, ?_⟩) (by assumption) ?_
        rotate_left
        · (intro w hSw; (try dsimp only at hSw); go_simp; try with_reducible rfl)
        try simp only [Act.put, List.getElem_toArray, List.getElem_cons_zero, List.getElem_cons_succ, List.setIfInBounds_toArray, List.set_cons_zero, List.set_cons_succ]
        refine wpAnyH_take (i := 21) (v := ?_) rfl (by kernel_rfl) (by kernel_rfl) (by kernel_rfl) (fun _ _ _ h => h) (Or.inl ⟨by rfl, ?_⟩) (by assumption) ?_
        rotate_left
        · (intro w hSw; (try dsimp only at hSw); go_simp; try with_reducible rfl)
        try simp only [Act.put, List.getElem_toArray, List.getElem_cons_zero, List.getElem_cons_succ, List.setIfInBounds_toArray, List.set_cons_zero, List.set_cons_succ]
        refine wpAnyH_take (i := 22) (v := ?_) rfl (by kernel_rfl) (by kernel_rfl) (by kernel_rfl) (fun _ _ _ h => h) (Or.inl ⟨by rfl, ?_⟩) (by assumption) ?_
        rotate_left
        · (intro w hSw; (try dsimp only at hSw); go_simp; try with_reducible rfl)
        try simp only [Act.put, List.getElem_toArray, List.getElem_cons_zero, List.getElem_cons_succ, List.setIfInBounds_toArray, List.set_cons_zero, List.set_cons_succ]
        refine wpAnyH_take (i := 23) (v := ?_) rfl (by kernel_rfl) (by kernel_rfl) (by kernel_rfl) (fun _ _ _ h => h) (Or.inl ⟨by rfl, ?_⟩) (by assumption) ?_
        rotate_left
        · (intro w hSw; (try dsimp only at hSw); go_simp; try with_reducible rfl)
        try simp only [Act.put, List.getElem_toArray, List.getElem_cons_zero, List.getElem_cons_succ, List.setIfInBounds_toArray, List.set_cons_zero, List.set_cons_succ]
        refine wpAnyH_take (i := 24) (v := ?_) rfl (by kernel_rfl) (by kernel_rfl) (by kernel_rfl) (fun _ _ _ h => h) (Or.inl ⟨by rfl, ?_⟩) (by assumption) ?_
        rotate_left
        · (intro w hSw; (try dsimp only at hSw); go_simp; try with_reducible rfl)
        try simp only [Act.put, List.getElem_toArray, List.getElem_cons_zero, List.getElem_cons_succ, List.setIfInBounds_toArray, List.set_cons_zero, List.set_cons_succ]
        refine wpAnyH_take (i := 25) (v := ?_) rfl (by kernel_rfl) (by kernel_rfl) (by kernel_rfl) (fun _ _ _ h => h) (Or.inl ⟨by rfl, ?_⟩) (by assumption) ?_
        rotate_left
        · (intro w hSw; (try dsimp only at hSw); go_simp; try with_reducible rfl)
        try simp only [Act.put, List.getElem_toArray, List.getElem_cons_zero, List.getElem_cons_succ, List.setIfInBounds_toArray, List.set_cons_zero, List.set_cons_succ]
        refine wpAnyH_take (i := 26) (v := ?_) rfl (by kernel_rfl) (by kernel_rfl) (by kernel_rfl) (fun _ _ _ h => h) (Or.inl ⟨by rfl, ?_⟩) (by assumption) ?_
        rotate_left
        · (intro w hSw; (try dsimp only at hSw); go_simp; try with_reducible rfl)
        try simp only [Act.put, List.getElem_toArray, List.getElem_cons_zero, List.getElem_cons_succ, List.setIfInBounds_toArray, List.set_cons_zero, List.set_cons_succ]
        refine wpAnyH_take (i := 27) (v := ?_) rfl (by kernel_rfl) (by kernel_rfl) (by kernel_rfl) (fun _ _ _ h => h) (Or.inl ⟨by rfl, ?_⟩) (by assumption) ?_
        rotate_left
        · (intro w hSw; (try dsimp only at hSw); go_simp; try with_reducible rfl)
        try simp only [Act.put, List.getElem_toArray, List.getElem_cons_zero, List.getElem_cons_succ, List.setIfInBounds_toArray, List.set_cons_zero, List.set_cons_succ]
        refine wpAnyH_take (i := 28) (v := ?_) rfl (by kernel_rfl) (by kernel_rfl) (by kernel_rfl) (fun _ _ _ h => h) (Or.inl ⟨by rfl, ?_⟩) (by assumption) ?_
        rotate_left
        · (intro w hSw; (try dsimp only at hSw); go_simp; try with_reducible rfl)
        try simp only [Act.put, List.getElem_toArray, List.getElem_cons_zero, List.getElem_cons_succ, List.setIfInBounds_toArray, List.set_cons_zero, List.set_cons_succ]
        refine wpAnyH_take (i := 29) (v := ?_) rfl (by kernel_rfl) (by kernel_rfl) (by kernel_rfl) (fun _ _ _ h => h) (Or.inl ⟨by rfl, ?_⟩) (by assumption) ?_
        rotate_left
        · (intro w hSw; (try dsimp only at hSw); go_simp; try with_reducible rfl)
        try simp only [Act.put, List.getElem_toArray, List.getElem_cons_zero, List.getElem_cons_succ, List.setIfInBounds_toArray, List.set_cons_zero, List.set_cons_succ]
        refine wpAnyH_ready (rs := [30]) (by kernel_rfl) (by simp) ?_
        refine AllReadyH.cons rfl (fun K hK => ?_) AllReadyH.nil
        go_simp
        (go_at_call 40; refine markRead_1 T ht12 _ _ ?_; intro w2 e1; have hkeep1 : w2.cell? ⟨g, j * 3, none⟩ = some (.string (markT 1 T)) ∧ w2.cell? ⟨g, j * 3 + 1, none⟩ = some (.bool false) ∧ w2.cell? ⟨g, j * 3 + 2, none⟩ = some (.string ⟨#[]⟩) := ⟨e1.cell (fun x => x) cg0, e1.cell (fun x => x) cg1, e1.cell (fun x => x) cg2⟩)
        refine hK.out _ _ ?_ (fun hHeld => ?_)
        · (first | exact hkeepd | exact hkeep1)
        clear hK K
        try simp only [Act.put, List.getElem_toArray, List.getElem_cons_zero, List.getElem_cons_succ, List.setIfInBounds_toArray, List.set_cons_zero, List.set_cons_succ]
        refine wpAnyH_take (i := 31) (v := ?_) rfl (by kernel_rfl) (by kernel_rfl) (by kernel_rfl) (fun _ _ _ h => h) (Or.inl ⟨by rfl, ?_⟩) (by assumption) ?_
        rotate_left
        · (intro w hSw; (try dsimp only at hSw); go_simp; try with_reducible rfl)
        try simp only [Act.put, List.getElem_toArray, List.getElem_cons_zero, List.getElem_cons_succ, List.setIfInBounds_toArray, List.set_cons_zero, List.set_cons_succ]
        refine wpAnyH_take (i := 32) (v := ?_) rfl (by kernel_rfl) (by kernel_rfl) (by kernel_rfl) (fun _ _ _ h => h) (Or.inl ⟨by rfl, ?_⟩) (by assumption) ?_
        rotate_left
        · (intro w hSw; (try dsimp only at hSw); go_simp; try with_reducible rfl)
        try simp only [Act.put, List.getElem_toArray, List.getElem_cons_zero, List.getElem_cons_succ, List.setIfInBounds_toArray, List.set_cons_zero, List.set_cons_succ]
        refine wpAnyH_take (i := 33) (v := ?_) rfl (by kernel_rfl) (by kernel_rfl) (by kernel_rfl) (fun _ _ _ h => h) (Or.inl ⟨by rfl, ?_⟩) (by assumption) ?_
        rotate_left
        · (intro w hSw; (try dsimp only at hSw); go_simp; try with_reducible rfl)
        try simp only [Act.put, List.getElem_toArray, List.getElem_cons_zero, List.getElem_cons_succ, List.setIfInBounds_toArray, List.set_cons_zero, List.set_cons_succ]
        refine wpAnyH_take (i := 34) (v := ?_) rfl (by kernel_rfl) (by kernel_rfl) (by kernel_rfl) (fun _ _ _ h => h) (Or.inl ⟨by rfl, ?_⟩) (by assumption) ?_
        rotate_left
        · (intro w hSw; (try dsimp only at hSw); go_simp; try with_reducible rfl)
        try simp only [Act.put, List.getElem_toArray, List.getElem_cons_zero, List.getElem_cons_succ, List.setIfInBounds_toArray, List.set_cons_zero, List.set_cons_succ]
        refine wpAnyH_done (by kernel_rfl) ?_ _
        have ho2 := ho.drew.trans e1
        go_wp2_with fail
        go_roundw
        case rel => exact ⟨j + 1, by go_num, by omega, ho2⟩
        case measure => simp [intOf]; omega
      · obtain rfl : j = l.length + 12 := by omega
        have HF := HK.out wr ho
        clear HK
        go_wp2_with fail
        exact HF
end Go.Proofs.Ytahpfcfecghpmaa
