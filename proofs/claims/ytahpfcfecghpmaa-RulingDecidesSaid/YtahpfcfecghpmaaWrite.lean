/- The writer's walks: put, number, Numbers, Flags, Rows, Texts, Done. -/
import Derived.Test.YtahpfcfecghpmaaProg
import Derived.Test.YtahpfcfecghpmaaWirePure
import Derived.KernelRfl
namespace Go.Proofs.Ytahpfcfecghpmaa
open Go.RowKit

theorem u8info : (Try.prog.info? 5).map (fun i => (i.zero, i.size, i.bytes)) = some (some (.int .u8 0), 1, 1) := by kernel_rfl

/-- a writer at p: spoilt or not, its row, its bytes. -/
structure Wr (w : World) (p : Nat) (sp : Bool) (g : Option Addr) (c : Nat) (l : List UInt8) : Prop where
  blk : Blk w p [.bool true, .bool sp, .slice g l.length c] 105
  own : w.ownsRow 0 5 1 (.slice g l.length c) l.length (bys l)
/-- one step of a writer. -/
structure WStep (w w' : World) (p : Nat) (g g' : Option Addr) : Prop where
  off : Off (fun k => k = p ∨ g.map Addr.block = some k) w w'
  mov : ∀ k, g'.map Addr.block = some k → g.map Addr.block = some k ∨ w.heap.size ≤ k
theorem WStep.refl (w : World) (p : Nat) (g : Option Addr) : WStep w w p g g := ⟨Off.refl _ _, fun _ h => .inl h⟩
theorem WStep.trans {w w1 w2 : World} {p : Nat} {v v1 v2 : Option Addr} (h : WStep w w1 p v v1) (h' : WStep w1 w2 p v1 v2) : WStep w w2 p v v2 :=
  ⟨h.off.step h'.off (fun i hi hl => by
    rcases hi with hi | hi
    · exact .inl hi
    · rcases h.mov i hi with h1 | h1
      · exact .inr h1
      · omega), fun k hk => by
    rcases h'.mov k hk with h1 | h1
    · exact h.mov k h1
    · exact .inr (Nat.le_trans h.off.size h1)⟩
theorem own_block_eq' (g : Option Addr) (n c : Nat) : (Value.slice g n c).ownBlock = g.map Addr.block := by cases g <;> rfl
theorem Wr.off {S : Nat → Prop} {w w' : World} {p : Nat} {sp : Bool} {g : Option Addr} {c : Nat} {l : List UInt8} (h : Wr w p sp g c l) (ho : Off S w w') (h1 : ¬ S p) (h2 : ∀ k, g.map Addr.block = some k → ¬ S k) : Wr w' p sp g c l :=
  ⟨h.blk.off ho h1, own_off h.own ho (fun k hk => h2 k (by rw [← hk]; exact (own_block_eq' g _ _).symm))⟩
theorem Wr.old {w w' : World} {p : Nat} {sp : Bool} {g : Option Addr} {c : Nat} {l : List UInt8} (h : Wr w p sp g c l) (ho : Off Old w w') : Wr w' p sp g c l := h.off ho (fun x => x) (fun _ _ x => x)
theorem Wr.alloc {w : World} {p : Nat} {sp : Bool} {g : Option Addr} {c : Nat} {l : List UInt8} (h : Wr w p sp g c l) (o : Obj) : Wr (w.alloc o) p sp g c l := h.old ((Off.refl _ _).alloc o)
theorem WStep.of_old {w w' : World} (h : Off Old w w') (p : Nat) (g : Option Addr) : WStep w w' p g g := ⟨h.mono (fun _ x _ => x.elim), fun _ h => .inl h⟩
theorem own_block_eq (g : Option Addr) (n c : Nat) : (Value.slice g n c).ownBlock = g.map Addr.block := by cases g <;> rfl

set_option maxHeartbeats 400000 in
theorem put_c (p : Nat) (sp : Bool) (g : Option Addr) (d : Nat) (l : List UInt8) (a : Option Addr) (c : Nat) (m : List UInt8) (w : World) (hw : Wr w p sp g d l) (hm : Sl w a (bys m))
    (bd : l.length + m.length ≤ 140737488355328) (R : Ending → World → Prop)
    (k : ∀ w' g' d', Wr w' p sp g' d' (l ++ m) → WStep w w' p g g' → R (.returned (.tuple #[])) w') :
    Calls Try.prog 76 #[.pointer (some ⟨p, 0, none⟩), .slice a m.length c] w R := by
  have c0 := hw.blk.cell (i := 0) rfl
  have c2 := hw.blk.cell (i := 2) rfl
  obtain ⟨i0, hi, hz0, hz1, hz2⟩ := info_parts u8info
  have HK := Lib.hid k; clear k
  go_enter Try.func76, Try.ntmps76
  go_wp2_with (at_builtin; go_must (refine wpList_append_sl rfl (.tmp 12) (.tmp 13) 57 rfl 5 i0 (.int .u8 0) 1 1 Try.underlying57 hi hz0 hz1 hz2 rfl (by decide) (.slice g l.length d) l.length (bys l) rfl hw.own a m.length c (bys m) rfl (by simp) hm (bys_oneCell m) (by omega) bd ?_))
  intro g' d' w1 hg
  have hb := hw.blk.off hg.off (own_blk_ne hw.own hw.blk (by decide))
  have d2 := hb.cell (i := 2) rfl
  have e2 := hb.free 2
  go_wp2_with fail
  go_end0
  refine HK.out _ g' d' ⟨by simpa using hb.set 2 (.slice g' (l.length + m.length) d'), ?_⟩ ⟨?_, fun k => by simpa only [own_block_eq] using hg.mov k⟩
  · have := own_off hg.own ((Off.refl (fun k => k = p) w1).setCell (p := ⟨p, 2, none⟩) (fun _ => rfl) (.slice g' (l.length + m.length) d')) ?_
    · simpa using this
    · intro k hk e
      exact own_blk_ne hg.own hb (by decide) (by rw [hk, e])
  · exact (hg.off.mono (fun i h _ => .inr (by simpa only [own_block_eq] using h))).setCell (fun _ => .inl rfl) _

set_option maxHeartbeats 400000 in
theorem number_c (p : Nat) (sp : Bool) (g : Option Addr) (d : Nat) (l : List UInt8) (x : Int) (w : World) (hw : Wr w p sp g d l)
    (bd : l.length + 9 ≤ 140737488355328) (R : Ending → World → Prop)
    (k : ∀ w' g' d', Wr w' p (putNum (sp, l) x).1 g' d' (putNum (sp, l) x).2 → WStep w w' p g g' → R (.returned (.tuple #[])) w') :
    Calls Try.prog 75 #[.pointer (some ⟨p, 0, none⟩), .int .i64 x] w R := by
  have c1 := hw.blk.cell (i := 1) rfl
  have f1 := hw.blk.free 1
  by_cases hx : numOk x = true
  · simp only [putNum, hx, if_true] at k
    have HK := Lib.hid k; clear k
    simp only [numOk, decide_eq_true_eq] at hx
    obtain ⟨hx0, hx1⟩ := hx
    obtain ⟨n, rfl⟩ := Int.eq_ofNat_of_zero_le hx0
    go_enter Try.func75, Try.ntmps75
    go_wp2_with fail
    go_loopw [1] (fun i wr => ∃ (m : Nat) (g' : Option Addr) (d' : Nat) (l' : List UInt8), i = .int .i64 m ∧ (m : Int) ≤ 4611686018427387903 ∧ Wr wr p sp g' d' l' ∧ WStep w wr p g g' ∧ Hid (l' ++ enc m = l ++ enc n)) (fun i _ => (intOf i).toNat)
    case atStart => exact ⟨n, g, d, l, rfl, hx1, hw, WStep.refl _ _ _, rfl⟩
    case round =>
      obtain ⟨m, g', d', l', rfl, hm, hw', hs, he⟩ := hrel
      clear c1 f1
      by_cases hbig : 127 < m
      · go_wp2_with fail
        refine put_c p sp g' d' l' _ 1 [UInt8.ofNat (m % 128 + 128)] _ (hw'.alloc _) (by rw [or_128]; exact Sl.new wr (bys [_]) _) ?_ _ ?_
        · have := congrArg List.length he.out; have := enc_len (n := n) (by omega); have := enc_pos m; simp at *; omega
        · intro w1 g1 d1 hw1 hs1
          have hs2 := (hs.trans (WStep.of_old ((Off.refl _ _).alloc _) p g')).trans hs1
          have he2 : Hid ((l' ++ [UInt8.ofNat (m % 128 + 128)]) ++ enc (m / 128) = l ++ enc n) := by
            show _ = _; rw [← he.out, enc_big (n := m) (by omega)]; simp
          clear hs1 hs he
          go_wp2_with fail
          go_roundw
          case rel => exact ⟨m / 128, g1, d1, _, by go_num, by omega, hw1, hs2, he2⟩
          case measure => simp [intOf]; omega
      · go_wp2_with fail
        refine put_c p sp g' d' l' _ 1 [UInt8.ofNat m] _ (hw'.alloc _) (by rw [← low_byte (m := m) (by omega)]; exact Sl.new wr (bys [_]) _) ?_ _ ?_
        · have := congrArg List.length he.out; have := enc_len (n := n) (by omega); have := enc_pos m; simp at *; omega
        · intro w1 g1 d1 hw1 hs1
          have hs2 := (hs.trans (WStep.of_old ((Off.refl _ _).alloc _) p g')).trans hs1
          have he2 : l' ++ [UInt8.ofNat m] = l ++ enc n := by rw [← he.out, enc_small (n := m) (by omega)]
          rw [he2] at hw1
          have HF := HK.out _ _ _ hw1 hs2
          clear hs1 hs he hs2 he2 HK
          go_wp2_with fail
          go_end0
          exact HF
  · have hx' : numOk x = false := by simpa using hx
    simp only [putNum, hx', Bool.false_eq_true, if_false] at k
    have HK := Lib.hid k; clear k
    have hor : x < 0 ∨ (0 ≤ x ∧ 4611686018427387903 < x) := by simp [numOk] at hx'; omega
    have hb := hw.blk.set 1 (.bool true)
    have ho := own_off hw.own ((Off.refl (fun k => k = p) w).setCell (p := ⟨p, 1, none⟩) (fun _ => rfl) (.bool true)) (by rintro k hk rfl; exact own_blk_ne hw.own hw.blk (by decide) hk)
    have hf : Off (fun k => k = p ∨ g.map Addr.block = some k) w (w.setCell ⟨p, 1, none⟩ (.bool true)) := (Off.refl _ _).setCell (fun _ => .inl rfl) _
    have HF := HK.out _ g d ⟨hb, ho⟩ ⟨hf, fun _ h => .inl h⟩
    clear hb ho hf HK
    rcases hor with hlt | ⟨hge, hgt⟩
    · go_enter Try.func75, Try.ntmps75
      go_wp2_with fail
      exact bodyPost_ret (results_none rfl _ _ _) rfl HF
    · go_enter Try.func75, Try.ntmps75
      go_wp2_with fail
      exact bodyPost_ret (results_none rfl _ _ _) rfl HF

theorem sz_u8 (w : World) : (sizeOf 5).run Try.prog w = .ok 1 w := by kernel_rfl
theorem sz_int (w : World) : (sizeOf 3).run Try.prog w = .ok 1 w := by kernel_rfl

set_option maxHeartbeats 400000 in
theorem known_c (p : Nat) (m : Bool) (w : World) (c0 : w.cell? ⟨p, 0, none⟩ = some (.bool m)) (R : Ending → World → Prop) (k : R (.returned (.bool m)) w) :
    Calls Try.prog 54 #[.pointer (some ⟨p, 0, none⟩)] w R := by
  go_enter Try.func54, Try.ntmps54
  go_wp2_with fail
  all_goals (cases m <;> simp_all)

set_option maxHeartbeats 400000 in
theorem newWriter_c (w : World) (R : Ending → World → Prop)
    (k : ∀ w', Wr w' w.heap.size false none 0 [] → Off Old w w' → w'.heap.size = w.heap.size + 1 → R (.returned (.pointer (some ⟨w.heap.size, 0, none⟩))) w') :
    Calls Try.prog 25 #[] w R := by
  have HK := Lib.hid k; clear k
  go_enter Try.func25, Try.ntmps25
  go_wp2_with fail
  refine HK.out _ ⟨Blk.new w _ _, World.ownsRow_nil _ _ _ _⟩ ((Off.refl _ _).alloc _) (by simp)

set_option maxHeartbeats 400000 in
theorem numbers_c (p : Nat) (sp : Bool) (g : Option Addr) (d : Nat) (l : List UInt8) (a : Option Addr) (c : Nat) (xs : List Int) (w : World) (hw : Wr w p sp g d l)
    (ha : Sl w a (ins xs)) (hs : ∀ q, a = some q → xs ≠ [] → q.block ≠ p ∧ g.map Addr.block ≠ some q.block)
    (bd : l.length + 9 * xs.length ≤ 140737488355328) (R : Ending → World → Prop)
    (k : ∀ w' g' d', Wr w' p (putNums (sp, l) xs).1 g' d' (putNums (sp, l) xs).2 → WStep w w' p g g' → R (.returned (.pointer (some ⟨p, 0, none⟩))) w') :
    Calls Try.prog 51 #[.pointer (some ⟨p, 0, none⟩), .slice a xs.length c] w R := by
  have c0 := hw.blk.cell (i := 0) rfl
  have HK := Lib.hid k; clear k
  go_enter Try.func51, Try.ntmps51
  go_wp2_with (go_at_call 54; refine known_c _ _ _ c0 _ ?_)
  go_loopw [6, 11] (fun _ i wr => ∃ (j : Nat) (g' : Option Addr) (d' : Nat), i = .int .i64 j ∧ j ≤ xs.length ∧ Wr wr p (putNums (sp, l) (xs.take j)).1 g' d' (putNums (sp, l) (xs.take j)).2 ∧ WStep w wr p g g') (fun _ i _ => xs.length - (intOf i).toNat)
  case atStart => exact ⟨0, g, d, rfl, Nat.zero_le _, by simpa [putNums] using hw, WStep.refl _ _ _⟩
  case round =>
    obtain ⟨j, g', d', rfl, hj, hw', hs'⟩ := hrel
    clear c0
    by_cases hlt : j < xs.length
    · obtain ⟨x, hx⟩ := at_of_lt hlt
      obtain ⟨b, o, ix, Q⟩ := (Sl.off (cs := ins xs) ha hs'.off (by
        intro q hq hne hor; have := hs q hq (by rintro rfl; exact hne rfl); rcases hor with h | h
        · exact this.1 h
        · exact this.2 h)).ix1 Try.underlying124 sz_int (n := xs.length) (by simp) c
      have cx := Q.out j _ (ins_at hx.out)
      have hlen := putNums_len (xs.take j) (sp, l)
      have ht : Hid (putNums (sp, l) (xs.take (j + 1)) = putNum (putNums (sp, l) (xs.take j)) x) := by
        show _ = _; simp [putNums, List.take_add_one, hx.out]
      go_wp2_with (go_at_call 75; refine number_c _ _ _ _ _ _ _ hw' (by simp at hlen; omega) _ ?_)
      intro w1 g1 d1 hw1 hs1
      rw [← ht.out] at hw1
      have hs2 := hs'.trans hs1
      clear hs1 hs' hw' ht hlen cx ix
      go_wp2_with fail
      go_roundw
      case rel => exact ⟨j + 1, g1, d1, by go_num, by omega, hw1, hs2⟩
      case measure => simp [intOf]; omega
    · obtain rfl : j = xs.length := by omega
      rw [List.take_length] at hw'
      have HF := HK.out _ _ _ hw' hs'
      clear HK hw' hs'
      go_wp2_with fail
      exact HF

theorem sz_bool (w : World) : (sizeOf 4).run Try.prog w = .ok 1 w := by kernel_rfl
theorem sz_str (w : World) : (sizeOf 9).run Try.prog w = .ok 1 w := by kernel_rfl
theorem sz_bs (w : World) : (sizeOf 57).run Try.prog w = .ok 1 w := by kernel_rfl

set_option maxHeartbeats 400000 in
theorem flags_c (p : Nat) (sp : Bool) (g : Option Addr) (d : Nat) (l : List UInt8) (a : Option Addr) (c : Nat) (xs : List Bool) (w : World) (hw : Wr w p sp g d l)
    (ha : Sl w a (bos xs)) (hs : ∀ q, a = some q → xs ≠ [] → q.block ≠ p ∧ g.map Addr.block ≠ some q.block)
    (bd : l.length + xs.length ≤ 140737488355328) (R : Ending → World → Prop)
    (k : ∀ w' g' d', Wr w' p (putFlags (sp, l) xs).1 g' d' (putFlags (sp, l) xs).2 → WStep w w' p g g' → R (.returned (.pointer (some ⟨p, 0, none⟩))) w') :
    Calls Try.prog 52 #[.pointer (some ⟨p, 0, none⟩), .slice a xs.length c] w R := by
  have c0 := hw.blk.cell (i := 0) rfl
  have HK := Lib.hid k; clear k
  go_enter Try.func52, Try.ntmps52
  go_wp2_with (go_at_call 54; refine known_c _ _ _ c0 _ ?_)
  go_loopw [6, 11] (fun _ i wr => ∃ (j : Nat) (g' : Option Addr) (d' : Nat), i = .int .i64 j ∧ j ≤ xs.length ∧ Wr wr p (putFlags (sp, l) (xs.take j)).1 g' d' (putFlags (sp, l) (xs.take j)).2 ∧ WStep w wr p g g') (fun _ i _ => xs.length - (intOf i).toNat)
  case atStart => exact ⟨0, g, d, rfl, Nat.zero_le _, by simpa [putFlags] using hw, WStep.refl _ _ _⟩
  case round =>
    obtain ⟨j, g', d', rfl, hj, hw', hs'⟩ := hrel
    clear c0
    by_cases hlt : j < xs.length
    · obtain ⟨x, hx⟩ := at_of_lt hlt
      obtain ⟨b, o, ix, Q⟩ := (Sl.off (cs := bos xs) ha hs'.off (by
        intro q hq hne hor; have := hs q hq (by rintro rfl; exact hne rfl); rcases hor with h | h
        · exact this.1 h
        · exact this.2 h)).ix1 Try.underlying23 sz_bool (n := xs.length) (by simp) c
      have cx := Q.out j _ (bos_at hx.out)
      have ht : Hid (putFlags (sp, l) (xs.take (j + 1)) = putFlag (putFlags (sp, l) (xs.take j)) x) := by
        show _ = _; simp [putFlags, List.take_add_one, hx.out]
      have hsl := Sl.new wr (bys [flagB x]) 5
      have hl : (putFlags (sp, l) (xs.take j)).2.length + 1 ≤ 140737488355328 := by rw [putFlags_len]; simp; omega
      cases x with
      | true =>
        go_wp2_with (go_at_call 76; refine put_c _ _ _ _ _ _ _ [flagB true] _ (hw'.alloc _) hsl hl _ ?_)
        intro w1 g1 d1 hw1 hs1
        have hw2 : Wr w1 p (putFlags (sp, l) (xs.take (j + 1))).1 g1 d1 (putFlags (sp, l) (xs.take (j + 1))).2 := by rw [ht.out]; exact hw1
        have hs2 := (hs'.trans (WStep.of_old ((Off.refl _ _).alloc _) p g')).trans hs1
        clear hs1 hs' hw' hw1 ht cx ix hsl hl
        go_wp2_with fail
        go_roundw
        case rel => exact ⟨j + 1, g1, d1, by go_num, by omega, hw2, hs2⟩
        case measure => simp [intOf]; omega
      | false =>
        go_wp2_with (go_at_call 76; refine put_c _ _ _ _ _ _ _ [flagB false] _ (hw'.alloc _) hsl hl _ ?_)
        intro w1 g1 d1 hw1 hs1
        have hw2 : Wr w1 p (putFlags (sp, l) (xs.take (j + 1))).1 g1 d1 (putFlags (sp, l) (xs.take (j + 1))).2 := by rw [ht.out]; exact hw1
        have hs2 := (hs'.trans (WStep.of_old ((Off.refl _ _).alloc _) p g')).trans hs1
        clear hs1 hs' hw' hw1 ht cx ix hsl hl
        go_wp2_with fail
        go_roundw
        case rel => exact ⟨j + 1, g1, d1, by go_num, by omega, hw2, hs2⟩
        case measure => simp [intOf]; omega
    · obtain rfl : j = xs.length := by omega
      rw [List.take_length] at hw'
      have HF := HK.out _ _ _ hw' hs'
      clear HK hw' hs'
      go_wp2_with fail
      exact HF

set_option maxHeartbeats 400000 in
theorem rows_c (p : Nat) (sp : Bool) (g : Option Addr) (d : Nat) (l : List UInt8) (a : Option Addr) (c : Nat) (rs : List BRow) (w : World) (hw : Wr w p sp g d l)
    (ha : Sl w a (rs.map BRow.v)) (hs : ∀ q, a = some q → rs ≠ [] → q.block ≠ p ∧ g.map Addr.block ≠ some q.block)
    (hr : RowsOk w rs) (hrs : ∀ r ∈ rs, ∀ q, r.a = some q → r.l ≠ [] → q.block ≠ p ∧ g.map Addr.block ≠ some q.block)
    (bd : l.length + lenOf (rs.map BRow.l) ≤ 140737488355328) (R : Ending → World → Prop)
    (k : ∀ w' g' d', Wr w' p (putRows (sp, l) (rs.map BRow.l)).1 g' d' (putRows (sp, l) (rs.map BRow.l)).2 → WStep w w' p g g' → R (.returned (.pointer (some ⟨p, 0, none⟩))) w') :
    Calls Try.prog 77 #[.pointer (some ⟨p, 0, none⟩), .slice a rs.length c] w R := by
  have c0 := hw.blk.cell (i := 0) rfl
  have HK := Lib.hid k; clear k
  go_enter Try.func77, Try.ntmps77
  go_wp2_with (go_at_call 54; refine known_c _ _ _ c0 _ ?_)
  go_loopw [6, 11] (fun _ i wr => ∃ (j : Nat) (g' : Option Addr) (d' : Nat), i = .int .i64 j ∧ j ≤ rs.length ∧ Wr wr p (putRows (sp, l) ((rs.map BRow.l).take j)).1 g' d' (putRows (sp, l) ((rs.map BRow.l).take j)).2 ∧ WStep w wr p g g') (fun _ i _ => rs.length - (intOf i).toNat)
  case atStart => exact ⟨0, g, d, rfl, Nat.zero_le _, by simpa [putRows] using hw, WStep.refl _ _ _⟩
  case round =>
    obtain ⟨j, g', d', rfl, hj, hw', hs'⟩ := hrel
    clear c0
    by_cases hlt : j < rs.length
    · obtain ⟨x, hx⟩ := at_of_lt hlt
      have hmem : x ∈ rs := List.mem_of_getElem? hx.out
      obtain ⟨b, o, ix, Q⟩ := (Sl.off (cs := rs.map BRow.v) ha hs'.off (by
        intro q hq hne hor; have := hs q hq (by rintro rfl; exact hne rfl); rcases hor with h | h
        · exact this.1 h
        · exact this.2 h)).ix1 Try.underlying136 sz_bs (n := rs.length) (by simp) c
      have hxr := (hr.off hs'.off (by
        intro r hr q hq hne hor; have := hrs r hr q hq hne; rcases hor with h | h
        · exact this.1 h
        · exact this.2 h)) x hmem
      have cx := Q.out j x.v (by simp [hx.out])
      simp only [BRow.v] at cx
      have hlen := putRows_len ((rs.map BRow.l).take j) (sp, l)
      have hjl := lenOf_ge (rs.map BRow.l)
      rw [List.length_map] at hjl
      have hlen2 := lenOf_take (rs.map BRow.l) j (x := x.l) (by simp [hx.out])
      have hlen3 : ((putRows (sp, l) ((rs.map BRow.l).take j)).2).length + 9 + x.l.length ≤ 140737488355328 := by simp at hlen hlen2 ⊢; omega
      have hlen4 := putNum_len (putRows (sp, l) ((rs.map BRow.l).take j)) x.l.length
      have ht : Hid (putRows (sp, l) ((rs.map BRow.l).take (j + 1)) = putRow (putRows (sp, l) ((rs.map BRow.l).take j)) x.l) := by
        show _ = _; simp [putRows, List.take_add_one, hx.out]
      clear hlen hlen2
      generalize hst : putRows (sp, l) ((rs.map BRow.l).take j) = st at *
      clear hst
      go_wp2_with (go_at_call 75; refine number_c _ _ _ _ _ _ _ hw' (by omega) _ ?_)
      intro w1 g1 d1 hw1 hs1
      have hxr1 : Sl w1 x.a (bys x.l) := by
        have := hr x hmem
        exact this.off (hs'.trans hs1).off (by
          intro q hq hne hor; have := hrs x hmem q hq (by intro h; exact hne (by rw [h]; rfl)); rcases hor with h | h
          · exact this.1 h
          · exact this.2 h)
      have hs2 := hs'.trans hs1
      have hw2 : Wr w1 p (putNum st x.l.length).1 g1 d1 (putNum st x.l.length).2 := hw1
      clear hs1 hs' hw' cx ix hw1
      go_wp2_with (go_at_call 76; refine put_c _ _ _ _ _ _ _ _ _ hw2 hxr1 (by omega) _ ?_)
      intro w3 g3 d3 hw3 hs3
      have hs4 := hs2.trans hs3
      have hw4 : Wr w3 p (putRows (sp, l) ((rs.map BRow.l).take (j + 1))).1 g3 d3 (putRows (sp, l) ((rs.map BRow.l).take (j + 1))).2 := by rw [ht.out]; exact hw3
      clear hs2 hs3 hw3 ht hw2 hxr1
      go_wp2_with fail
      go_roundw
      case rel => exact ⟨j + 1, g3, d3, by go_num, by omega, hw4, hs4⟩
      case measure => simp [intOf]; omega
    · obtain rfl : j = rs.length := by omega
      rw [List.take_of_length_le (by simp)] at hw'
      have HF := HK.out _ _ _ hw' hs'
      clear HK hw' hs'
      go_wp2_with fail
      exact HF

set_option maxHeartbeats 400000 in
theorem clone_c (a : Option Addr) (n c : Nat) (l : List UInt8) (w : World) (hn : n = l.length) (h : Sl w a (bys l)) (bd : l.length ≤ 140737488355328) (R : Ending → World → Prop)
    (k : ∀ w' g' d', w'.ownsRow 0 5 1 (.slice g' l.length d') l.length (bys l) → Off Old w w' → (∀ q, g' = some q → w.heap.size ≤ q.block) → (g' = none ↔ a = none) → R (.returned (.slice g' l.length d')) w') :
    Calls Try.prog 55 #[.slice a n c] w R := by
  subst hn
  obtain ⟨i0, hi, hz0, hz1, hz2⟩ := info_parts u8info
  have HK2 := Lib.hid k; clear k
  have he := fun (w : World) (a : Option Addr) (n c : Nat) => Lib.run_eql_slice_nil (P := Try.prog) w 57 5 a n c 0 0 Try.underlying57
  cases a with
  | none =>
    obtain rfl : l = [] := by
      cases l with
      | nil => rfl
      | cons x xs => obtain ⟨b, o, e, _⟩ := h 0 _ rfl; cases e
    have HF := HK2.out w none 0 (World.ownsRow_nil _ _ _ _) (Off.refl _ _) (by simp) (by simp)
    clear HK2
    go_enter Try.func55, Try.ntmps55
    go_wp2_with fail
    exact HF
  | some q =>
    have hown : (w.alloc (.cells #[] 5)).ownsRow 0 5 1 (.slice (some ⟨w.heap.size, 0, none⟩) 0 0) 0 [] := World.ownsRow_made w #[] 0 (Nat.zero_le _) (by unfold maxLen; omega) rfl
    have h' := h.alloc (.cells #[] 5)
    go_enter Try.func55, Try.ntmps55
    go_wp2_with (at_builtin; go_must (refine wpList_append_sl rfl (.tmp 5) (.tmp 6) 57 rfl 5 i0 (.int .u8 0) 1 1 Try.underlying57 hi hz0 hz1 hz2 rfl (by decide) (.slice (some ⟨w.heap.size, 0, none⟩) 0 0) 0 [] rfl hown (some q) l.length c (bys l) rfl (by simp) h' (bys_oneCell l) (by omega) (by omega) ?_))
    intro g' d' w1 hg
    have HF := HK2.out w1 g' d' hg.own (((Off.refl Old w).alloc (.cells #[] 5)).step hg.off (by
      intro i hi hl; simp [Value.ownBlock] at hi; omega)) (by
      intro q hq; subst hq
      have := hg.mov q.block rfl
      simp [Value.ownBlock] at this; omega) (by
      cases g' with
      | none => have := hg.nn rfl; simp [Value.ownBlock] at this
      | some q => simp)
    clear HK2 hg
    go_wp2_with fail
    exact HF

set_option maxHeartbeats 400000 in
theorem texts_c (p : Nat) (sp : Bool) (g : Option Addr) (d : Nat) (l : List UInt8) (a : Option Addr) (c : Nat) (xs : List ByteArray) (w : World) (hw : Wr w p sp g d l)
    (ha : Sl w a (sts xs)) (hs : ∀ q, a = some q → xs ≠ [] → q.block ≠ p ∧ g.map Addr.block ≠ some q.block)
    (bd : l.length + lenOf (xs.map fun s => s.data.toList) ≤ 140737488355328) (R : Ending → World → Prop)
    (k : ∀ w' g' d', Wr w' p (putRows (sp, l) (xs.map fun s => s.data.toList)).1 g' d' (putRows (sp, l) (xs.map fun s => s.data.toList)).2 → WStep w w' p g g' → R (.returned (.pointer (some ⟨p, 0, none⟩))) w') :
    Calls Try.prog 53 #[.pointer (some ⟨p, 0, none⟩), .slice a xs.length c] w R := by
  have c0 := hw.blk.cell (i := 0) rfl
  have HK := Lib.hid k; clear k
  go_enter Try.func53, Try.ntmps53
  go_wp2_with (go_at_call 54; refine known_c _ _ _ c0 _ ?_)
  go_loopw [6, 11] (fun _ i wr => ∃ (j : Nat) (g' : Option Addr) (d' : Nat), i = .int .i64 j ∧ j ≤ xs.length ∧ Wr wr p (putRows (sp, l) ((xs.map fun s => s.data.toList).take j)).1 g' d' (putRows (sp, l) ((xs.map fun s => s.data.toList).take j)).2 ∧ WStep w wr p g g') (fun _ i _ => xs.length - (intOf i).toNat)
  case atStart => exact ⟨0, g, d, rfl, Nat.zero_le _, by simpa [putRows] using hw, WStep.refl _ _ _⟩
  case round =>
    obtain ⟨j, g', d', rfl, hj, hw', hs'⟩ := hrel
    clear c0
    by_cases hlt : j < xs.length
    · obtain ⟨x, hx⟩ := at_of_lt hlt
      obtain ⟨b, o, ix, Q⟩ := (Sl.off (cs := sts xs) ha hs'.off (by
        intro q hq hne hor; have := hs q hq (by rintro rfl; exact hne rfl); rcases hor with h | h
        · exact this.1 h
        · exact this.2 h)).ix1 Try.underlying127 sz_str (n := xs.length) (by simp) c
      have cx := Q.out j _ (sts_at hx.out)
      have kc := fun (w : World) (s : ByteArray) => run_bytes_of_string (P := Try.prog) w 9 57 5 s Try.underlying9 Try.underlying57 Try.underlying5
      have hlen := putRows_len ((xs.map fun s => s.data.toList).take j) (sp, l)
      have hjl := lenOf_ge (xs.map fun s => s.data.toList)
      rw [List.length_map] at hjl
      have hlen2 := lenOf_take (xs.map fun s => s.data.toList) j (x := x.data.toList) (by simp [hx.out])
      have hlen3 : ((putRows (sp, l) ((xs.map fun s => s.data.toList).take j)).2).length + lenOf [x.data.toList] ≤ 140737488355328 := by
        dsimp only at hlen; rw [lenOf_one]; omega
      have ht : Hid (putRows (sp, l) ((xs.map fun s => s.data.toList).take (j + 1)) = putRows (putRows (sp, l) ((xs.map fun s => s.data.toList).take j)) [x.data.toList]) := by
        show _ = _; simp [putRows, List.take_add_one, hx.out]
      clear hlen hlen2
      generalize hst : putRows (sp, l) ((xs.map fun s => s.data.toList).take j) = st at *
      clear hst
      go_wp2_with fail
      generalize hC : grownCap wr x.size 0 5 = C at *
      clear hC
      have hoff : Off Old wr ((wr.alloc (Obj.cells (bytesRow x C) 5 ((bytesRow x C).size, (bytesRow x C).size + 1))).alloc (Obj.cells #[Value.slice (some ⟨wr.heap.size, 0, none⟩) x.size C] 57)).drew := (((Off.refl _ _).alloc _).alloc _).drew
      have hr : RowsOk ((wr.alloc (Obj.cells (bytesRow x C) 5 ((bytesRow x C).size, (bytesRow x C).size + 1))).alloc (Obj.cells #[Value.slice (some ⟨wr.heap.size, 0, none⟩) x.size C] 57)).drew [⟨some ⟨wr.heap.size, 0, none⟩, C, x.data.toList⟩] := by
        intro r hr; simp at hr; subst hr
        exact ((Sl.string wr x C 5 _).alloc _).drew
      have hsl : Sl ((wr.alloc (Obj.cells (bytesRow x C) 5 ((bytesRow x C).size, (bytesRow x C).size + 1))).alloc (Obj.cells #[Value.slice (some ⟨wr.heap.size, 0, none⟩) x.size C] 57)).drew (some ⟨wr.heap.size + 1, 0, none⟩) ([(⟨some ⟨wr.heap.size, 0, none⟩, C, x.data.toList⟩ : BRow)].map BRow.v) := by
        have := (Sl.new (wr.alloc (Obj.cells (bytesRow x C) 5 ((bytesRow x C).size, (bytesRow x C).size + 1))) [Value.slice (some ⟨wr.heap.size, 0, none⟩) x.size C] 57).drew
        rw [World.size_alloc] at this
        exact this
      have hlt := hw'.blk.lt
      refine rows_c p st.1 g' d' st.2 (some ⟨wr.heap.size + 1, 0, none⟩) 1 [⟨some ⟨wr.heap.size, 0, none⟩, C, x.data.toList⟩] _ (hw'.old hoff) hsl ?_ hr ?_ ?_ _ ?_
      · intro q hq _; cases hq
        refine ⟨by simp only; omega, ?_⟩
        intro h; have := own_lt hw'.own (k := wr.heap.size + 1) (by rw [own_block_eq']; simpa using h); omega
      · intro r hr q hq _; simp only [List.mem_singleton] at hr; subst hr; cases hq
        refine ⟨by simp only; omega, ?_⟩
        intro h; have := own_lt hw'.own (k := wr.heap.size) (by rw [own_block_eq']; simpa using h); omega
      · exact hlen3
      · intro w1 g1 d1 hw1 hs1
        have hw2 : Wr w1 p (putRows st [x.data.toList]).1 g1 d1 (putRows st [x.data.toList]).2 := hw1
        rw [← ht.out] at hw2
        have hs2 := (hs'.trans (WStep.of_old hoff p g')).trans hs1
        clear hs1 hs' hw' hw1 ht cx ix hsl hr hoff kc
        go_wp2_with fail
        go_roundw
        case rel => exact ⟨j + 1, g1, d1, by go_num, by omega, hw2, hs2⟩
        case measure => simp [intOf]; omega
    · obtain rfl : j = xs.length := by omega
      rw [List.take_of_length_le (by simp)] at hw'
      have HF := HK.out _ _ _ hw' hs'
      clear HK hw' hs'
      go_wp2_with fail
      exact HF

set_option maxHeartbeats 400000 in
theorem done_c (p : Nat) (sp : Bool) (g : Option Addr) (d : Nat) (l : List UInt8) (w : World) (hw : Wr w p sp g d l) (bd : l.length ≤ 140737488355328) (R : Ending → World → Prop)
    (k1 : sp = true → R (.returned (.tuple #[.slice none 0 0, .int .i64 2])) w)
    (k2 : sp = false → ∀ w' g' d', w'.ownsRow 0 5 1 (.slice g' l.length d') l.length (bys l) → Off Old w w' → (∀ q, g' = some q → w.heap.size ≤ q.block) → R (.returned (.tuple #[.slice g' l.length d', .int .i64 0])) w') :
    Calls Try.prog 26 #[.pointer (some ⟨p, 0, none⟩)] w R := by
  have c0 := hw.blk.cell (i := 0) rfl
  have c1 := hw.blk.cell (i := 1) rfl
  have c2 := hw.blk.cell (i := 2) rfl
  cases sp with
  | true =>
    have HF := k1 rfl
    clear k1 k2
    go_enter Try.func26, Try.ntmps26
    go_wp2_with (go_at_call 54; refine known_c _ _ _ c0 _ ?_)
    exact HF
  | false =>
    have HK := Lib.hid (k2 rfl)
    clear k1 k2
    obtain ⟨_, _, hsl⟩ := own_sl2 hw.own
    go_enter Try.func26, Try.ntmps26
    go_wp2_with (first | (go_at_call 54; refine known_c _ _ _ c0 _ ?_) | (go_at_call 55; refine clone_c _ _ _ l _ rfl hsl bd _ ?_))
    · intro w' g' d' h1 h2 h3 _
      have HF := HK.out _ _ _ h1 h2 h3
      clear HK h1 h2 h3
      go_wp2_with fail
      exact HF

/-! ### the same with a row that was just laid -/
theorem Wr.clr {w : World} {p : Nat} {sp : Bool} {g : Option Addr} {c : Nat} {l : List UInt8} (h : Wr w p sp g c l) {n : Nat} (hn : w.heap.size ≤ n) : n ≠ p ∧ g.map Addr.block ≠ some n := by
  have h1 := h.blk.lt
  refine ⟨by omega, fun e => ?_⟩
  have := own_lt h.own (k := n) (by rw [own_block_eq']; exact e)
  omega
theorem numbers_n (p : Nat) (sp : Bool) (g : Option Addr) (d : Nat) (l : List UInt8) (xs : List Int) (w : World) (hw : Wr w p sp g d l) (bd : l.length + 9 * xs.length ≤ 140737488355328) (R : Ending → World → Prop)
    (k : ∀ w' g' d', Wr w' p (putNums (sp, l) xs).1 g' d' (putNums (sp, l) xs).2 → WStep w w' p g g' → R (.returned (.pointer (some ⟨p, 0, none⟩))) w') :
    Calls Try.prog 51 #[.pointer (some ⟨p, 0, none⟩), .slice (some ⟨w.heap.size, 0, none⟩) xs.length xs.length] (w.alloc (.cells (ins xs).toArray 3)) R :=
  numbers_c p sp g d l _ _ xs _ (hw.alloc _) (Sl.new w (ins xs) _) (by rintro q ⟨rfl⟩ _; exact hw.clr (Nat.le_refl _)) bd R
    (fun w' g' d' h1 h2 => k w' g' d' h1 ((WStep.of_old ((Off.refl _ _).alloc _) p g).trans h2))
theorem flags_n (p : Nat) (sp : Bool) (g : Option Addr) (d : Nat) (l : List UInt8) (xs : List Bool) (w : World) (hw : Wr w p sp g d l) (bd : l.length + xs.length ≤ 140737488355328) (R : Ending → World → Prop)
    (k : ∀ w' g' d', Wr w' p (putFlags (sp, l) xs).1 g' d' (putFlags (sp, l) xs).2 → WStep w w' p g g' → R (.returned (.pointer (some ⟨p, 0, none⟩))) w') :
    Calls Try.prog 52 #[.pointer (some ⟨p, 0, none⟩), .slice (some ⟨w.heap.size, 0, none⟩) xs.length xs.length] (w.alloc (.cells (bos xs).toArray 4)) R :=
  flags_c p sp g d l _ _ xs _ (hw.alloc _) (Sl.new w (bos xs) _) (by rintro q ⟨rfl⟩ _; exact hw.clr (Nat.le_refl _)) bd R
    (fun w' g' d' h1 h2 => k w' g' d' h1 ((WStep.of_old ((Off.refl _ _).alloc _) p g).trans h2))
theorem texts_n (p : Nat) (sp : Bool) (g : Option Addr) (d : Nat) (l : List UInt8) (xs : List ByteArray) (w : World) (hw : Wr w p sp g d l) (bd : l.length + lenOf (xs.map fun s => s.data.toList) ≤ 140737488355328) (R : Ending → World → Prop)
    (k : ∀ w' g' d', Wr w' p (putRows (sp, l) (xs.map fun s => s.data.toList)).1 g' d' (putRows (sp, l) (xs.map fun s => s.data.toList)).2 → WStep w w' p g g' → R (.returned (.pointer (some ⟨p, 0, none⟩))) w') :
    Calls Try.prog 53 #[.pointer (some ⟨p, 0, none⟩), .slice (some ⟨w.heap.size, 0, none⟩) xs.length xs.length] (w.alloc (.cells (sts xs).toArray 9)) R :=
  texts_c p sp g d l _ _ xs _ (hw.alloc _) (Sl.new w (sts xs) _) (by rintro q ⟨rfl⟩ _; exact hw.clr (Nat.le_refl _)) bd R
    (fun w' g' d' h1 h2 => k w' g' d' h1 ((WStep.of_old ((Off.refl _ _).alloc _) p g).trans h2))
theorem rows_n (p : Nat) (sp : Bool) (g : Option Addr) (d : Nat) (l : List UInt8) (rs : List BRow) (w : World) (hw : Wr w p sp g d l) (hr : RowsOk w rs) (hrs : ∀ r ∈ rs, ∀ q, r.a = some q → r.l ≠ [] → q.block ≠ p ∧ g.map Addr.block ≠ some q.block)
    (bd : l.length + lenOf (rs.map BRow.l) ≤ 140737488355328) (R : Ending → World → Prop)
    (k : ∀ w' g' d', Wr w' p (putRows (sp, l) (rs.map BRow.l)).1 g' d' (putRows (sp, l) (rs.map BRow.l)).2 → WStep w w' p g g' → R (.returned (.pointer (some ⟨p, 0, none⟩))) w') :
    Calls Try.prog 77 #[.pointer (some ⟨p, 0, none⟩), .slice (some ⟨w.heap.size, 0, none⟩) rs.length rs.length] (w.alloc (.cells (rs.map BRow.v).toArray 57)) R :=
  rows_c p sp g d l _ _ rs _ (hw.alloc _) (Sl.new w (rs.map BRow.v) _) (by rintro q ⟨rfl⟩ _; exact hw.clr (Nat.le_refl _)) (fun r h => (hr r h).alloc _) hrs bd R
    (fun w' g' d' h1 h2 => k w' g' d' h1 ((WStep.of_old ((Off.refl _ _).alloc _) p g).trans h2))
end Go.Proofs.Ytahpfcfecghpmaa
