/- WireWrites' walk. -/
import Derived.Test.YtfllejlooaipiaaWireBack
import Derived.Test.YtfllejlooaipiaaLentRows
namespace Go.Proofs.Ytfllejlooaipiaa
open Go.RowKit

theorem putFlags_ok : ∀ (l : List Bool) (s : Bool × List UInt8), putFlags s l = (s.1, s.2 ++ l.map flagB)
  | [], s => by simp [putFlags]
  | x :: l, s => by
    have := putFlags_ok l (putFlag s x)
    simp only [putFlags, List.foldl_cons] at this ⊢
    rw [this]; simp [putFlag]
theorem putRows_ok : ∀ (l : List (List UInt8)) (s : Bool × List UInt8), (∀ r ∈ l, (r.length : Int) ≤ 4611686018427387903) → putRows s l = (s.1, s.2 ++ l.flatMap rowEnc)
  | [], s, _ => by simp [putRows]
  | x :: l, s, h => by
    have hx := h x (by simp)
    have h0 : numOk (x.length : Int) = true := by simp [numOk, hx]
    have := putRows_ok l (putRow s x) (fun y hy => h y (by simp [hy]))
    simp only [putRows, List.foldl_cons] at this ⊢
    rw [this]; simp [putRow, putNum, h0, rowEnc]
theorem putNum_sp (s : Bool × List UInt8) (x : Int) (h : s.1 = true) : (putNum s x).1 = true := by unfold putNum; split <;> simp [h]
theorem putNums_sp : ∀ (l : List Int) (s : Bool × List UInt8), s.1 = true → (putNums s l).1 = true
  | [], _, h => h
  | x :: l, s, h => putNums_sp l (putNum s x) (putNum_sp s x h)
theorem putNums_bad : ∀ (l : List Int) (s : Bool × List UInt8), l.all numOk = false → (putNums s l).1 = true
  | [], _, h => by simp at h
  | x :: l, s, h => by
    cases hx : numOk x with
    | true => simp only [List.all_cons, hx, Bool.true_and] at h; exact putNums_bad l _ h
    | false => exact putNums_sp l (putNum s x) (by simp [putNum, hx])
/-- what the writer makes of numbers, flags, texts, rows. -/
def put4 (ns : List Int) (fs : List Bool) (ts rs : List (List UInt8)) : Bool × List UInt8 := putRows (putRows (putFlags (putNums (false, []) ns) fs) ts) rs
theorem put4_ok {ns : List Int} {fs : List Bool} {ts rs : List (List UInt8)} (h : ns.all numOk = true) (ht : ∀ r ∈ ts, (r.length : Int) ≤ 4611686018427387903) (hr : ∀ r ∈ rs, (r.length : Int) ≤ 4611686018427387903) : put4 ns fs ts rs = (false, wrB ns fs ts rs) := by
  unfold put4
  rw [putNums_ok ns _ (List.all_eq_true.1 h), putFlags_ok, putRows_ok _ _ ht, putRows_ok _ _ hr]
  simp [wrB]
theorem put4_bad {ns : List Int} {fs : List Bool} {ts rs : List (List UInt8)} (h : ns.all numOk = false) (ht : ∀ r ∈ ts, (r.length : Int) ≤ 4611686018427387903) (hr : ∀ r ∈ rs, (r.length : Int) ≤ 4611686018427387903) : (put4 ns fs ts rs).1 = true := by
  unfold put4
  rw [putRows_ok _ _ hr, putRows_ok _ _ ht, putFlags_ok]
  exact putNums_bad ns _ h

/-- what is told of it: the bytes, the error. -/
def outOf (s : Bool × List UInt8) : List UInt8 × Int := if s.1 then ([], 2) else (s.2, 0)
theorem done_a (p : Nat) (s : Bool × List UInt8) (g : Option Addr) (d : Nat) (w : World) (hw : Wr w p s.1 g d s.2) (bd : s.2.length ≤ 140737488355328) (R : Ending → World → Prop)
    (k : ∀ w' g' n' d', BOut w w' g' n' d' (outOf s).1 → R (.returned (.tuple #[.slice g' n' d', .int .i64 (outOf s).2])) w') :
    Calls Try.prog 25 #[.pointer (some ⟨p, 0, none⟩)] w R := by
  obtain ⟨sp, l⟩ := s
  cases sp with
  | true => exact done_c p true g d l w hw bd R (fun _ => k w none 0 0 (BOut.nil w)) (fun h => by cases h)
  | false => exact done_c p false g d l w hw bd R (fun h => by cases h) (fun _ w' g' d' h1 h2 h3 => k w' g' l.length d' ⟨h1, h2, fun b hb => by
      cases g' with
      | none => simp [Value.ownBlock] at hb
      | some q => simp [Value.ownBlock] at hb; subst hb; exact h3 q rfl⟩)
theorem refWrite_a (a0 a1 a2 a3 : Option Addr) (c0 c1 c2 c3 : Nat) (ns : List Int) (fs : List Bool) (ts : List ByteArray) (rs : List BRow) (w : World) (s0 : Sl w a0 (ins ns)) (s1 : Sl w a1 (bos fs)) (s2 : Sl w a2 (sts ts)) (s3 : Sl w a3 (rs.map BRow.v)) (hrs : RowsOk w rs)
    (bd : 9 * ns.length + fs.length + lenOf (ts.map fun s => s.data.toList) + lenOf (rs.map BRow.l) ≤ 1000000000) (R : Ending → World → Prop)
    (k : ∀ w' g n d, BOut w w' g n d (outOf (put4 ns fs (ts.map fun s => s.data.toList) (rs.map BRow.l))).1 → R (.returned (.tuple #[.slice g n d, .int .i64 (outOf (put4 ns fs (ts.map fun s => s.data.toList) (rs.map BRow.l))).2])) w') :
    Calls Try.prog 42 #[.slice a0 ns.length c0, .slice a1 fs.length c1, .slice a2 ts.length c2, .slice a3 rs.length c3] w R := by
  have hlen : ∀ (l : List (List UInt8)) (r : List UInt8), r ∈ l → r.length ≤ lenOf l := fun l r h => by
    have := le_sum (List.mem_map.2 ⟨r, h, rfl⟩ : r.length + 9 ∈ l.map (fun r => r.length + 9))
    unfold lenOf; omega
  have ht : ∀ r ∈ (ts.map fun s => s.data.toList), (r.length : Int) ≤ 4611686018427387903 := fun r h => by have := hlen _ r h; omega
  have hr : ∀ r ∈ (rs.map BRow.l), (r.length : Int) ≤ 4611686018427387903 := fun r h => by have := hlen _ r h; omega
  refine refWrite_c a0 a1 a2 a3 c0 c1 c2 c3 ns fs ts rs w s0 s1 s2 s3 hrs bd R (fun h w' g n d hB => ?_) (fun h w' ho => ?_)
  · have := k w' g n d
    rw [put4_ok h ht hr] at this
    exact this hB
  · have := k w' none 0 0
    have e : outOf (put4 ns fs (ts.map fun s => s.data.toList) (rs.map BRow.l)) = ([], 2) := by simp [outOf, put4_bad h ht hr]
    rw [e] at this
    exact this ⟨World.ownsRow_nil _ _ _ _, ho, fun b hb => by simp [Value.ownBlock] at hb⟩
theorem rows_l (p : Nat) (sp : Bool) (g : Option Addr) (d : Nat) (l : List UInt8) (a : Option Addr) (n c : Nat) (rs : List BRow) (w : World) (hn : rs.length = n) (hw : Wr w p sp g d l) (ha : Sl w a (rs.map BRow.v)) (hs : ∀ q, a = some q → rs ≠ [] → q.block ≠ p ∧ g.map Addr.block ≠ some q.block) (hr : RowsOk w rs)
    (hrs : ∀ r ∈ rs, ∀ q, r.a = some q → r.l ≠ [] → q.block ≠ p ∧ g.map Addr.block ≠ some q.block) (bd : l.length + lenOf (rs.map BRow.l) ≤ 140737488355328) (R : Ending → World → Prop)
    (k : ∀ w' g' d', Wr w' p (putRows (sp, l) (rs.map BRow.l)).1 g' d' (putRows (sp, l) (rs.map BRow.l)).2 → WStep w w' p g g' → R (.returned (.pointer (some ⟨p, 0, none⟩))) w') :
    Calls Try.prog 41 #[.pointer (some ⟨p, 0, none⟩), .slice a n c] w R := by
  subst hn; exact rows_c p sp g d l a c rs w hw ha hs hr hrs bd R k
theorem rowsAt2 {w : World} {e : TypeId} {s : Nat} {r1 r2 : CRow} {x y : List Value} (h1 : w.ownsRow 0 e s r1.v r1.n x) (h2 : w.ownsRow 0 e s r2.v r2.n y) : RowsAt w e s [r1, r2] (fun m => if m = 0 then x else y) := by
  intro m r hr
  match m, hr with
  | 0, hr => cases hr; exact h1
  | 1, hr => cases hr; exact h2
theorem dist2 {r1 r2 : CRow} (h : ∀ k, r1.v.ownBlock = some k → r2.v.ownBlock ≠ some k) : Dist [r1, r2] := by
  intro i j r t hr ht hij k hk
  match i, j, hr, ht with
  | 0, 0, _, _ => exact absurd rfl hij
  | 0, 1, hr, ht => cases hr; cases ht; exact h k hk
  | 1, 0, hr, ht => cases hr; cases ht; exact fun h2 => h k h2 hk
  | 1, 1, _, _ => exact absurd rfl hij
theorem rb2 {r1 r2 : CRow} {k : Nat} (h : RB [r1, r2] k) : r1.v.ownBlock = some k ∨ r2.v.ownBlock = some k := by
  obtain ⟨m, r, hr, hk⟩ := h
  match m, hr with
  | 0, hr => cases hr; exact .inl hk
  | 1, hr => cases hr; exact .inr hk
theorem lenOf_le {l : List (List UInt8)} {m : Nat} (h : ∀ r ∈ l, r.length ≤ m) : lenOf l ≤ (m + 9) * l.length := by
  induction l with
  | nil => simp [lenOf]
  | cons x l ih =>
    have h1 := ih (fun r hr => h r (by simp [hr]))
    have h2 := h x (by simp)
    simp only [lenOf, List.map_cons, List.sum_cons, List.length_cons, Nat.mul_succ] at *
    omega
set_option maxRecDepth 100000 in
set_option maxHeartbeats 4000000 in
theorem wireWrites_c (c2 c3 c4 c5 : Nat) (a2 a3 a4 a5 : Option Addr) (ns : List Int) (fs : List Bool) (ts : List ByteArray) (rs : List BRow) (w : World) (ha : Args w Old a2 a3 a4 a5 ns fs ts rs)
    (b2 : ns.length ≤ 140737488351232) (b3 : fs.length ≤ 140737488351232) (b4 : ts.length ≤ 140737488351232) (b5 : rs.length ≤ 140737488351232) (b6 : ∀ r ∈ rs, r.l.length ≤ 140737488351232) (b7 : ∀ t ∈ ts, t.size ≤ 140737488351232) (R : Ending → World → Prop)
    (k : ∀ w', Off Old w w' → R (.returned (.bool true)) w') :
    Calls Try.prog 6 #[.slice a2 ns.length c2, .slice a3 fs.length c3, .slice a4 ts.length c4, .slice a5 rs.length c5] w R := by
  have HK := Lib.hid k; clear k
  have ha1 := ha
  go_enter Try.func6, Try.ntmps6
  go_upto_block 0 with fail
  go_cut [9] (fun n wx => w = wx ∧ ∃ N : Nat, n = .int .i64 N ∧ N ≤ 1000000000000000 ∧ Hid (N ≤ 20000 → N = ns.length + fs.length + ts.length + rs.length + szT ts))
  case first =>
    go_wp2_with fail
    go_loop [9, 10] (fun n i => ∃ j N : Nat, i = .int .i64 j ∧ n = .int .i64 N ∧ j ≤ ts.length ∧ N ≤ 1000000000000000 ∧ Hid (N = ns.length + fs.length + ts.length + rs.length + szT (ts.take j))) (fun _ i => ts.length - (intOf i).toNat)
    case atStart => exact ⟨0, ns.length + fs.length + ts.length + rs.length, rfl, by go_num, Nat.zero_le _, by omega, by show _ = _; simp [szT]⟩
    case round =>
      obtain ⟨j, N, rfl, rfl, hj, hN, hS⟩ := hrel
      by_cases h2 : N ≤ 20000
      · by_cases hlt : j < ts.length
        · obtain ⟨x, hx⟩ := at_of_lt hlt
          have hx7 := b7 x (List.mem_of_getElem? hx.out)
          obtain ⟨b, o, ix, Q, HB⟩ := ha1.h4.ix2 Try.underlying71 sz_str (n := ts.length) (by simp) c4
          have cx := Q.out j _ (sts_at hx.out)
          have hS2 : Hid (N + x.size = ns.length + fs.length + ts.length + rs.length + szT (ts.take (j + 1))) := by
            show _ = _; rw [szT_succ hx.out, hS.out]; omega
          go_wp2_with fail
          go_round
          case rel => exact ⟨j + 1, N + x.size, by go_num, by go_num, by omega, by omega, hS2⟩
          case measure => simp [intOf]; omega
        · have hS2 : Hid (N ≤ 20000 → N = ns.length + fs.length + ts.length + rs.length + szT ts) := by
            intro _; rw [hS.out, List.take_of_length_le (by omega)]
          go_wp2_with fail
          go_meet
          exact ⟨rfl, N, rfl, hN, hS2⟩
      · have hS2 : Hid (N ≤ 20000 → N = ns.length + fs.length + ts.length + rs.length + szT ts) := by intro h; omega
        by_cases hlt : j < ts.length
        · go_wp2_with fail
          go_meet
          exact ⟨rfl, N, rfl, hN, hS2⟩
        · go_wp2_with fail
          go_meet
          exact ⟨rfl, N, rfl, hN, hS2⟩
  case rest =>
    obtain ⟨rfl, N, rfl, hN, hS⟩ := hcut
    go_upto_block 2 with fail
    go_cut [9] (fun n wx => w = wx ∧ ∃ N : Nat, n = .int .i64 N ∧ N ≤ 10000000000000000 ∧ Hid (N ≤ 20000 → N = ns.length + fs.length + ts.length + rs.length + szT ts + szR rs))
    case first =>
      go_wp2_with fail
      go_loop [9, 11] (fun n i => ∃ j N : Nat, i = .int .i64 j ∧ n = .int .i64 N ∧ j ≤ rs.length ∧ N ≤ 10000000000000000 ∧ Hid (N ≤ 20000 → N = ns.length + fs.length + ts.length + rs.length + szT ts + szR (rs.take j))) (fun _ i => rs.length - (intOf i).toNat)
      case atStart => exact ⟨0, N, rfl, rfl, Nat.zero_le _, by omega, by show _ → _; simpa [szR] using hS.out⟩
      case round =>
        clear hS hN N
        obtain ⟨j, N, rfl, rfl, hj, hN, hS⟩ := hrel
        by_cases h2 : N ≤ 20000
        · by_cases hlt : j < rs.length
          · obtain ⟨x, hx⟩ := at_of_lt hlt
            have hx7 := b6 x (List.mem_of_getElem? hx.out)
            obtain ⟨b, o, ix, Q, HB⟩ := ha1.h5.ix2 Try.underlying72 sz_bs (n := rs.length) (by simp) c5
            have cx := Q.out j x.v (by simp [hx.out])
            simp only [BRow.v] at cx
            have hS2 : Hid (N + x.l.length ≤ 20000 → N + x.l.length = ns.length + fs.length + ts.length + rs.length + szT ts + szR (rs.take (j + 1))) := by
              have := hS.out h2
              intro _; rw [szR_succ hx.out]; omega
            go_wp2_with fail
            go_round
            case rel => exact ⟨j + 1, N + x.l.length, by go_num, by go_num, by omega, by omega, hS2⟩
            case measure => simp [intOf]; omega
          · have hS2 : Hid (N ≤ 20000 → N = ns.length + fs.length + ts.length + rs.length + szT ts + szR rs) := by
              have := hS.out h2
              rw [List.take_of_length_le (by omega)] at this
              exact fun _ => this
            go_wp2_with fail
            go_meet
            exact ⟨rfl, N, rfl, hN, hS2⟩
        · have hS2 : Hid (N ≤ 20000 → N = ns.length + fs.length + ts.length + rs.length + szT ts + szR rs) := by intro h; omega
          by_cases hlt : j < rs.length
          · go_wp2_with fail
            go_meet
            exact ⟨rfl, N, rfl, hN, hS2⟩
          · go_wp2_with fail
            go_meet
            exact ⟨rfl, N, rfl, hN, hS2⟩
    case rest =>
      clear hS hN N
      obtain ⟨rfl, N, rfl, hN, hS⟩ := hcut
      by_cases h2 : N ≤ 20000
      case neg =>
        go_wp2_with (go_at_call 30; refine awake02_c _ _ ?_)
        intro w1 ho1
        have HF := HK.out _ ho1
        clear HK
        go_wp2_with fail
        exact HF
      have hS2 : Hid (ns.length ≤ N ∧ fs.length ≤ N ∧ ts.length ≤ N ∧ rs.length ≤ N) := by
        have := hS.out h2; exact ⟨by omega, by omega, by omega, by omega⟩
      have d6 : ∀ r ∈ rs, r.l.length ≤ 20000 := by
        intro r hr; have := hS.out h2; have := szR_mem hr; omega
      have d7 : ∀ t ∈ ts, t.size ≤ 20000 := by
        intro t ht; have := hS.out h2; have := szT_mem ht; omega
      have D6 := Lib.hid d6
      have D7 := Lib.hid d7
      clear hS b6 b7 d6 d7
      clear ha1
      have hT9 : lenOf (ts.map fun s => s.data.toList) ≤ 20009 * 20000 := by
        have := lenOf_le (l := ts.map fun s => s.data.toList) (m := 20000) (fun r hr => by
          obtain ⟨t, ht, rfl⟩ := List.mem_map.1 hr
          simpa using D7.out t ht)
        rw [List.length_map] at this
        have := hS2.out
        exact Nat.le_trans ‹_› (Nat.mul_le_mul_left _ (by omega))
      have hR9 : lenOf (rs.map BRow.l) ≤ 20009 * 20000 := by
        have := lenOf_le (l := rs.map BRow.l) (m := 20000) (fun r hr => by
          obtain ⟨t, ht, rfl⟩ := List.mem_map.1 hr
          exact D6.out t ht)
        rw [List.length_map] at this
        have := hS2.out
        exact Nat.le_trans ‹_› (Nat.mul_le_mul_left _ (by omega))
      have hR9 := Lib.hid hR9
      have hT9 := Lib.hid hT9
      have hr6 : Hid (∀ r ∈ rs, r.l.length ≤ 100000000) := fun r hr => by have := D6.out r hr; omega
      have hn6 : rs.length ≤ 1000000 := by have := hS2.out; omega
      go_wp2_with (go_at_call 38; go_must (refine lentRows_c a5 c5 rs _ ha.h5 ha.h6 hn6 hr6.out _ ?_))
      intro w1 gi di gs hin hL ho1 hfi
      have A1 := ha.off ho1
      have hsi := (own_sl2 hin).2.2
      have hri := hL.rows
      have hlt : Hid (∀ b, (∃ q, q.block = b ∧ ((a2 = some q ∧ ns ≠ []) ∨ (a3 = some q ∧ fs ≠ []) ∨ (a4 = some q ∧ ts ≠ []) ∨ (gi = some q))) → b < w1.heap.size) := by
        rintro b ⟨q, rfl, ⟨h1, h2⟩ | ⟨h1, h2⟩ | ⟨h1, h2⟩ | h1⟩
        · exact A1.h2.lt h1 (by simpa [ins] using h2)
        · exact A1.h3.lt h1 (by simpa [bos] using h2)
        · exact A1.h4.lt h1 (by simpa [sts] using h2)
        · subst h1; exact own_lt hin (k := q.block) rfl
      have hW1 := ho1.size
      have hgi : Hid (∀ q, gi = some q → q.block < w1.heap.size) := fun q h => by subst h; exact own_lt hin (k := q.block) rfl
      have hLm : Hid (∀ g ∈ gs, g < w1.heap.size) := fun g hg => (hL.mem hg).2
      go_wp2_with (go_at_call 24; go_must (refine newWriter_c _ _ ?_))
      intro w2 hw ho2 hsz
      have hp : w1.heap.size ≤ w1.heap.size := Nat.le_refl _
      generalize hpe : w1.heap.size = p at *
      have HP := Lib.hid hpe
      clear hsz hpe hp
      have hbn : Hid (9 * ns.length ≤ 180000 ∧ fs.length ≤ 20000) := by have := hS2.out; exact ⟨by omega, by omega⟩
      have hpp : Hid (w1.heap.size ≤ p) := Nat.le_of_eq HP.out
      have hb1 : Hid ((putNums (false, []) ns).2.length ≤ 180000) := by
        have h1 := putNums_len ns (false, []); have h2 := hbn.out; dsimp only [List.length_nil] at h1; show _ ≤ _; omega
      go_wp2_with (go_at_call 35; go_must (refine numbers_c p false none 0 [] a2 c2 ns _ hw (A1.h2.old ho2) (fun q e hn => ⟨by have := hlt.out _ ⟨q, rfl, .inl ⟨e, hn⟩⟩; omega, by simp⟩) (by have := hbn.out; simp; omega) _ ?_))
      intro w3 g3 d3 hw3 hst
      obtain ⟨ho3, hg3⟩ := fresh_step hpp.out ho2 (by simp) hst
      have hg3 := Lib.hid hg3
      clear hw hst ho2
      obtain ⟨st1, hst1⟩ : ∃ st1, Hid (putNums (false, []) ns = st1) := ⟨_, rfl⟩
      rw [hst1.out] at hw3 hb1
      have hb2 : Hid ((putFlags st1 fs).2.length ≤ 200000) := by
        have := putFlags_len fs st1; have := hbn.out; have := hb1.out; show _ ≤ _; omega
      go_wp2_with (go_at_call 39; go_must (refine flags_c p st1.1 g3 d3 st1.2 a3 c3 fs _ hw3 (A1.h3.old ho3) (fun q e hn => ⟨by have := hlt.out _ ⟨q, rfl, .inr (.inl ⟨e, hn⟩)⟩; omega, fun h => by have := hlt.out _ ⟨q, rfl, .inr (.inl ⟨e, hn⟩)⟩; have := hg3.out _ h; have := HP.out; omega⟩) (by have := hbn.out; have := hb1.out; omega) _ ?_))
      intro w4 g4 d4 hw4 hst
      obtain ⟨ho4, hg4⟩ := fresh_step hpp.out ho3 hg3.out hst
      have hg4 := Lib.hid hg4
      have hw4 : Wr w4 p (putFlags st1 fs).1 g4 d4 (putFlags st1 fs).2 := hw4
      clear hw3 hst ho3 hg3 hb1
      obtain ⟨st2, hst2⟩ : ∃ st2, Hid (putFlags st1 fs = st2) := ⟨_, rfl⟩
      rw [hst2.out] at hw4 hb2
      have hb3 : Hid ((putRows st2 (ts.map fun s => s.data.toList)).2.length ≤ 400500000) := by
        have := putRows_len (ts.map fun s => s.data.toList) st2; have := hT9.out; have := hb2.out; show _ ≤ _; omega
      go_wp2_with (go_at_call 40; go_must (refine texts_c p st2.1 g4 d4 st2.2 a4 c4 ts _ hw4 (A1.h4.old ho4) (fun q e hn => ⟨by have := hlt.out _ ⟨q, rfl, .inr (.inr (.inl ⟨e, hn⟩))⟩; omega, fun h => by have := hlt.out _ ⟨q, rfl, .inr (.inr (.inl ⟨e, hn⟩))⟩; have := hg4.out _ h; have := HP.out; omega⟩) (by have := hT9.out; have := hb2.out; omega) _ ?_))
      intro w5 g5 d5 hw5 hst
      obtain ⟨ho5, hg5⟩ := fresh_step hpp.out ho4 hg4.out hst
      have hg5 := Lib.hid hg5
      have hw5 : Wr w5 p (putRows st2 (ts.map fun s => s.data.toList)).1 g5 d5 (putRows st2 (ts.map fun s => s.data.toList)).2 := hw5
      clear hw4 hst ho4 hg4 hb2
      obtain ⟨st3, hst3⟩ : ∃ st3, Hid (putRows st2 (ts.map fun s => s.data.toList) = st3) := ⟨_, rfl⟩
      rw [hst3.out] at hw5 hb3
      have hll : Hid ((lrows rs gs).length = rs.length) := lrows_len hL.len
      have hlm : Hid ((lrows rs gs).map BRow.l = rs.map BRow.l) := lrows_l hL.len
      have hb4 : Hid ((putRows st3 (rs.map BRow.l)).2.length ≤ 801000000) := by
        have := putRows_len (rs.map BRow.l) st3; have := hR9.out; have := hb3.out; show _ ≤ _; omega
      have hcl : Hid (∀ r ∈ lrows rs gs, ∀ q, r.a = some q → r.l ≠ [] → q.block ≠ p ∧ g5.map Addr.block ≠ some q.block) := by
        intro r hr q hq _
        obtain ⟨i, r0, g0, h1, h2, rfl⟩ := lrows_mem hr
        cases hq
        have h3 := hLm.out g0 (List.mem_of_getElem? h2)
        exact ⟨by show g0 ≠ p; omega, fun h => by have h4 := hg5.out g0 h; have := HP.out; omega⟩
      go_wp2_with (go_at_call 41; go_must (refine rows_l p st3.1 g5 d5 st3.2 gi rs.length di (lrows rs gs) _ hll.out hw5 (hsi.old ho5) (fun q e hn => ⟨by have := hlt.out _ ⟨q, rfl, .inr (.inr (.inr e))⟩; omega, fun h => by have := hlt.out _ ⟨q, rfl, .inr (.inr (.inr e))⟩; have := hg5.out _ h; have := HP.out; omega⟩) (fun r hr => (hri r hr).old ho5) hcl.out (by rw [hlm.out]; have := hR9.out; have := hb3.out; omega) _ ?_))
      rw [hlm.out]
      intro w6 g6 d6 hw6 hst
      obtain ⟨ho6, hg6⟩ := fresh_step hpp.out ho5 hg5.out hst
      have hw6 : Wr w6 p (putRows st3 (rs.map BRow.l)).1 g6 d6 (putRows st3 (rs.map BRow.l)).2 := hw6
      have hP4 : Hid (putRows st3 (rs.map BRow.l) = put4 ns fs (ts.map fun s => s.data.toList) (rs.map BRow.l)) := by
        show _ = _; rw [← hst3.out, ← hst2.out, ← hst1.out]; rfl
      rw [hP4.out] at hw6 hb4
      clear hw5 hst ho5 hg5 hb3 hst1 hst2 hst3 hg6 hcl hP4
      obtain ⟨P4, hP4⟩ : ∃ P4, Hid (put4 ns fs (ts.map fun s => s.data.toList) (rs.map BRow.l) = P4) := ⟨_, rfl⟩
      rw [hP4.out] at hw6 hb4
      have A6 := A1.off (S := Old) ho6
      have hL6 := hL.old ho6
      have hsi6 := hsi.old ho6
      have hz6 := ho6.size
      have ho0 := ho1.trans ho6
      have hp6 : p < w6.heap.size := hw6.blk.lt
      clear A1 hL hsi hri hlt ho1 ho6 hin hll hlm hfi
      go_wp2_with (go_at_call 25; go_must (refine done_a p P4 g6 d6 _ hw6 (by have := hb4.out; omega) _ ?_))
      intro w7 ga na da hA
      have hw7 := hw6.old hA.off
      have A7 := A6.off (S := Old) hA.off
      clear hw6
      go_wp2_with (go_at_call 42; go_must (refine refWrite_a a2 a3 a4 a5 c2 c3 c4 c5 ns fs ts rs _ A7.h2 A7.h3 A7.h4 A7.h5 A7.h6 (by have := hbn.out; have := hT9.out; have := hR9.out; omega) _ ?_))
      rw [hP4.out]
      intro w8 gb nb db hB
      have hw8 := hw7.old hB.off
      clear A7 hw7
      go_wp2_with (go_at_call 25; go_must (refine done_a p P4 g6 d6 _ hw8 (by have := hb4.out; omega) _ ?_))
      intro w9 gc nc dc hC
      have hpl : Hid ((outOf P4).1.length ≤ 801000000) := by
        have := hb4.out
        show _ ≤ _
        unfold outOf; split <;> simp; omega
      generalize outOf P4 = LE at *
      obtain ⟨L, e⟩ := LE
      dsimp only at hA hB hC hpl
      have hA9 := (hA.old hB.off).old hC.off
      have hB9 := hB.old hC.off
      have hdist : Hid (∀ k, (CRow.v ⟨ga, na, da⟩).ownBlock = some k → (CRow.v ⟨gc, nc, dc⟩).ownBlock ≠ some k) := fun k h1 h2 => by
        have h3 := own_lt (hA.old hB.off).own h1
        have h4 := hC.fr k h2
        omega
      have hRB : Hid (∀ k, RB [⟨ga, na, da⟩, ⟨gc, nc, dc⟩] k → w6.heap.size ≤ k) := fun k h => by
        rcases rb2 h with h | h
        · exact hA.fr k h
        · have := hC.fr k h; have := hA.off.size; have := hB.off.size; omega
      have hoN := ((hA.off.trans hB.off).trans hC.off)
      have A9 := A6.off (S := Old) hoN
      have hL9 := hL6.old hoN
      have hsi9 := hsi6.old hoN
      have ho9 := ho0.trans hoN
      have hpn : na ≤ 801000000 ∧ nc ≤ 801000000 := ⟨by rw [← hA.len]; exact hpl.out, by rw [← hC.len]; exact hpl.out⟩
      clear hA hB hw8 hoN A6 hL6 hsi6 ho0
      have hdd : Hid (decide (L = L) = true) := by show _ = _; simp
      have lenA := Lib.hid hA9.len
      have lenB := Lib.hid hB9.len
      have lenC := Lib.hid hC.len
      go_wp2_with (go_at_call 26; go_must (refine sameBytes_b true ga gb na nb da db L L _ hdd.out lenA.out.symm lenB.out.symm hA9.sl hB9.sl (by have := hpl.out; omega) _ ?_))
      intro w10 hd1
      have hB9 := hB9.old (hd1.off (S := Old))
      have hC9 := hC.old (hd1.off (S := Old))
      have hA9 := hA9.old (hd1.off (S := Old))
      have hdd : Hid (decide (L = L) = true) := by show _ = _; simp
      go_wp2_with (go_at_call 26; go_must (refine sameBytes_b true gc gb nc nb dc db L L _ hdd.out lenC.out.symm lenB.out.symm hC9.sl hB9.sl (by have := hpl.out; omega) _ ?_))
      intro w11 hd2
      have hof := (hd1.off (S := Old)).trans (hd2.off (S := Old))
      have hA9 := hA9.old (hd2.off (S := Old))
      have hC9 := hC9.old (hd2.off (S := Old))
      have A9 := A9.off (S := Old) hof
      have hL9 := hL9.old hof
      have hsi9 := hsi9.old hof
      have ho9 := ho9.trans hof
      clear hB9 hd1 hd2 hof hC
      go_wp2_with (go_at_call 43; go_must (refine keptRows_c gi a5 di c5 w.heap.size rs gs _ hsi9 hL9 A9.h5 A9.h6 hn6 hr6.out _ ?_))
      intro w12 hd1
      have hof := hd1.off (S := Old)
      have hA9 := hA9.old hof
      have hC9 := hC9.old hof
      have A9 := A9.off (S := Old) hof
      have hL9 := hL9.old hof
      have hsi9 := hsi9.old hof
      have ho9 := ho9.trans hof
      clear hd1 hof
      have hoA : Off Old w12 (w12.alloc (.cells (([⟨ga, na, da⟩, ⟨gc, nc, dc⟩] : List CRow).map CRow.v).toArray 43)) := (Off.refl _ _).alloc _
      have hRows := Lib.hid (rowsAt2 (r1 := ⟨ga, na, da⟩) (r2 := ⟨gc, nc, dc⟩) (own_off hA9.own hoA (fun _ _ x => x)) (own_off hC9.own hoA (fun _ _ x => x)))
      have hSl := Lib.hid (Sl.new w12 (([⟨ga, na, da⟩, ⟨gc, nc, dc⟩] : List CRow).map CRow.v) 43)
      have hDi : Hid (Dist [⟨ga, na, da⟩, ⟨gc, nc, dc⟩]) := dist2 hdist.out
      have hbl : Hid (∀ r ∈ ([⟨ga, na, da⟩, ⟨gc, nc, dc⟩] : List CRow), r.n ≤ 900000000) := by
        intro r hr
        simp only [List.mem_cons, List.not_mem_nil, or_false] at hr
        rcases hr with rfl | rfl
        · show na ≤ _; omega
        · show nc ≤ _; omega
      go_wp2_with (go_at_call 44; go_must (refine apartBytes_c _ 2 [⟨ga, na, da⟩, ⟨gc, nc, dc⟩] _ _ hSl.out hRows.out hDi.out (by simp) hbl.out _ ?_))
      intro w13 hof
      have hL10 := (hL9.old hoA).off hof (fun g hg h => by have := hRB.out g h; have := hLm.out g hg; omega)
      have hwp : Hid (w.heap.size ≤ p) := by have := ho9.size; have := hz6; have := HP.out; have h := hW1; show _ ≤ _; omega
      have ho13 : Off Old w w13 := (ho9.trans hoA).step hof (fun i hi hl => by have := hRB.out i hi; have := hwp.out; omega)
      have A13 := ha.off (S := Old) ho13
      have hsi13 : Sl w13 gi ((lrows rs gs).map BRow.v) := (hsi9.old hoA).off hof (fun q hq hne h => by
        have := hRB.out _ h; have := hgi.out q hq; omega)
      clear hsi9 hL9 A9 hA9 hC9 hoA hRows hSl hof ho9
      go_wp2_with (go_at_call 43; go_must (refine keptRows_c gi a5 di c5 w.heap.size rs gs _ hsi13 hL10 A13.h5 A13.h6 hn6 hr6.out _ ?_))
      intro w14 hd1
      have ho14 := ho13.trans (hd1.off (S := Old))
      go_wp2_with (go_at_call 30; refine awake02_c _ _ ?_)
      intro w15 ho15
      have HF := HK.out _ (ho14.trans ho15)
      clear HK
      go_wp2_with fail
      exact HF
end Go.Proofs.Ytfllejlooaipiaa
