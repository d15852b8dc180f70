/- WireBack's walk. -/
import Derived.Test.YtfllejlooaipiaaReads1
import Derived.Deep.CutBlock
namespace Go.Proofs.Ytfllejlooaipiaa
open Go.RowKit

def szT (ts : List ByteArray) : Nat := (ts.map ByteArray.size).sum
def szR (rs : List BRow) : Nat := (rs.map fun r => r.l.length).sum
theorem le_sum {l : List Nat} {x : Nat} (h : x ∈ l) : x ≤ l.sum := by
  induction l with
  | nil => simp at h
  | cons y l ih =>
    rcases List.mem_cons.1 h with rfl | h
    · simp
    · have := ih h; simp; omega
theorem szT_mem {ts : List ByteArray} {t : ByteArray} (h : t ∈ ts) : t.size ≤ szT ts := le_sum (List.mem_map.2 ⟨t, h, rfl⟩)
theorem szR_mem {rs : List BRow} {r : BRow} (h : r ∈ rs) : r.l.length ≤ szR rs := le_sum (List.mem_map.2 ⟨r, h, rfl⟩)
theorem szT_succ {ts : List ByteArray} {j : Nat} {x : ByteArray} (h : ts[j]? = some x) : szT (ts.take (j + 1)) = szT (ts.take j) + x.size := by
  simp [szT, List.take_add_one, h]
theorem szR_succ {rs : List BRow} {j : Nat} {x : BRow} (h : rs[j]? = some x) : szR (rs.take (j + 1)) = szR (rs.take j) + x.l.length := by
  simp [szR, List.take_add_one, h]

/-- what one round of writing may add. -/
theorem putItem_len (s : Bool × List UInt8) (it : Item) (h : ∀ l, it = .row l → l.length ≤ 20000) : (it.put s).2.length ≤ s.2.length + 20009 := by
  cases it with
  | num n => have := putNum_len s n; simp only [Item.put]; omega
  | flag b => simp [Item.put, putFlag]
  | row l => have := putRow_len s l; have := h l rfl; simp only [Item.put]; omega
theorem putItems_len : ∀ (l : List Item) (s : Bool × List UInt8), (∀ it ∈ l, ∀ r, it = .row r → r.length ≤ 20000) → (putItems s l).2.length ≤ s.2.length + 20009 * l.length
  | [], s, _ => by simp [putItems]
  | x :: l, s, h => by
    have h1 := putItem_len s x (h x (by simp))
    have h2 := putItems_len l (x.put s) (fun it hi => h it (by simp [hi]))
    simp only [putItems, List.foldl_cons, List.length_cons] at h2 ⊢
    omega
theorem roundItems_row {ns : List Int} {fs : List Bool} {ts : List ByteArray} {rs : List BRow} {i : Nat} {it : Item} {l : List UInt8} (h : it ∈ roundItems ns fs ts rs i) (e : it = .row l) : (∃ r ∈ rs, r.l = l) ∨ (∃ t ∈ ts, t.data.toList = l) := by
  subst e
  simp only [roundItems, List.mem_append, Option.mem_toList, Option.map_eq_some_iff] at h
  rcases h with ((h | h) | h) | h
  · obtain ⟨r, hr, e⟩ := h; cases e; exact .inl ⟨r, List.mem_of_getElem? hr, rfl⟩
  · obtain ⟨r, hr, e⟩ := h; cases e
  · obtain ⟨r, hr, e⟩ := h; cases e
  · obtain ⟨r, hr, e⟩ := h; cases e; exact .inr ⟨r, List.mem_of_getElem? hr, rfl⟩
theorem roundItems_len (ns : List Int) (fs : List Bool) (ts : List ByteArray) (rs : List BRow) (i : Nat) : (roundItems ns fs ts rs i).length ≤ 4 := by
  simp only [roundItems, List.length_append]
  have h : ∀ o : Option Item, o.toList.length ≤ 1 := fun o => by cases o <;> simp
  have h1 := h (rs[i]?.map fun r => Item.row r.l)
  have h2 := h (fs[i]?.map Item.flag)
  have h3 := h (ns[i]?.map Item.num)
  have h4 := h (ts[i]?.map fun s => Item.row s.data.toList)
  omega
theorem allItems_len (ns : List Int) (fs : List Bool) (ts : List ByteArray) (rs : List BRow) : ∀ n, (allItems ns fs ts rs n).length ≤ 4 * n
  | 0 => by simp [allItems]
  | n + 1 => by
    have := allItems_len ns fs ts rs n
    have := roundItems_len ns fs ts rs n
    rw [allItems_succ, List.length_append]; omega
theorem allItems_mem {ns : List Int} {fs : List Bool} {ts : List ByteArray} {rs : List BRow} {n : Nat} {it : Item} (h : it ∈ allItems ns fs ts rs n) : ∃ i, i < n ∧ it ∈ roundItems ns fs ts rs i := by
  obtain ⟨i, hi, h⟩ := List.mem_flatMap.1 h
  exact ⟨i, by simpa using hi, h⟩
/-- all are fine just if the numbers are. -/
theorem allItems_ok {ns : List Int} {fs : List Bool} {ts : List ByteArray} {rs : List BRow} {n : Nat} (h1 : ∀ x ∈ ns, numOk x = true) (h2 : ∀ r ∈ rs, r.l.length ≤ 20000) (h3 : ∀ t ∈ ts, t.size ≤ 20000) : ∀ it ∈ allItems ns fs ts rs n, it.ok = true := by
  intro it hi
  obtain ⟨i, _, h⟩ := allItems_mem hi
  simp only [roundItems, List.mem_append, Option.mem_toList, Option.map_eq_some_iff] at h
  rcases h with ((h | h) | h) | h
  · obtain ⟨r, hr, rfl⟩ := h; have := h2 r (List.mem_of_getElem? hr); simp [Item.ok]; omega
  · obtain ⟨r, hr, rfl⟩ := h; rfl
  · obtain ⟨r, hr, rfl⟩ := h; exact h1 r (List.mem_of_getElem? hr)
  · obtain ⟨r, hr, rfl⟩ := h; have := h3 r (List.mem_of_getElem? hr); simp [Item.ok]; omega
theorem allItems_bad {ns : List Int} {fs : List Bool} {ts : List ByteArray} {rs : List BRow} {n j : Nat} {x : Int} (hx : ns[j]? = some x) (hj : j < n) (hb : numOk x = false) : ∃ it ∈ allItems ns fs ts rs n, it.ok = false := by
  refine ⟨.num x, List.mem_flatMap.2 ⟨j, by simpa using hj, ?_⟩, hb⟩
  simp [roundItems, hx]
theorem allItems_put_len {ns : List Int} {fs : List Bool} {ts : List ByteArray} {rs : List BRow} {n : Nat} (h2 : ∀ r ∈ rs, r.l.length ≤ 20000) (h3 : ∀ t ∈ ts, t.size ≤ 20000) (hn : n ≤ 20000) : (putItems (false, []) (allItems ns fs ts rs n)).2.length ≤ 1601000000 := by
  have h4 := putItems_len (allItems ns fs ts rs n) (false, []) (by
    intro it hi r e
    obtain ⟨i, _, h⟩ := allItems_mem hi
    rcases roundItems_row h e with ⟨r, hr, rfl⟩ | ⟨t, ht, rfl⟩
    · exact h2 r hr
    · have := h3 t ht; simpa using this)
  have h5 := allItems_len ns fs ts rs n
  simp only [List.length_nil] at h4
  omega

theorem fresh_step {w0 w w' : World} {p : Nat} {g g' : Option Addr} (hp : w0.heap.size ≤ p) (ho : Off Old w0 w) (hg : ∀ k, g.map Addr.block = some k → w0.heap.size ≤ k) (h : WStep w w' p g g') :
    Off Old w0 w' ∧ ∀ k, g'.map Addr.block = some k → w0.heap.size ≤ k :=
  ⟨ho.step h.off (by
    rintro i (hi | hi) hl
    · omega
    · have := hg i hi; omega), fun k hk => by
    rcases h.mov k hk with h1 | h1
    · exact hg k h1
    · have := ho.size; omega⟩
/-- a writer that is new since w0. -/
def WrN (w0 w : World) (p : Nat) (T : Bool × List UInt8) (g : Option Addr) (d : Nat) : Prop :=
  Wr w p T.1 g d T.2 ∧ Off Old w0 w ∧ ∀ k, g.map Addr.block = some k → w0.heap.size ≤ k
theorem putItems_one (T : Bool × List UInt8) (o : Option Item) (h : ∀ r, o = some (.row r) → r.length ≤ 20000) : (putItems T o.toList).2.length ≤ T.2.length + 20009 := by
  cases o with
  | none => simp [putItems]
  | some it => exact putItem_len T it (fun l e => h l (by rw [e]))

theorem done_ok (p : Nat) (g : Option Addr) (d : Nat) (l : List UInt8) (w : World) (hw : Wr w p false g d l) (bd : l.length ≤ 140737488355328) (R : Ending → World → Prop)
    (k : ∀ w' g' d', w'.ownsRow 0 5 1 (.slice g' l.length d') l.length (bys l) → Off Old w w' → R (.returned (.tuple #[.slice g' l.length d', .int .i64 0])) w') :
    Calls Try.prog 25 #[.pointer (some ⟨p, 0, none⟩)] w R := done_c p false g d l w hw bd R (fun h => by cases h) (fun _ w' g' d' h1 h2 _ => k w' g' d' h1 h2)
theorem done_bad (p : Nat) (g : Option Addr) (d : Nat) (l : List UInt8) (w : World) (hw : Wr w p true g d l) (bd : l.length ≤ 140737488355328) (R : Ending → World → Prop)
    (k : R (.returned (.tuple #[.slice none 0 0, .int .i64 2])) w) :
    Calls Try.prog 25 #[.pointer (some ⟨p, 0, none⟩)] w R := done_c p true g d l w hw bd R (fun _ => k) (fun h => by cases h)
theorem Args.fresh {w w' : World} {a2 a3 a4 a5 : Option Addr} {ns : List Int} {fs : List Bool} {ts : List ByteArray} {rs : List BRow} (h : Args w Old a2 a3 a4 a5 ns fs ts rs) (ho : Off Old w w') {p : Nat} (hp : w.heap.size ≤ p) : Args w' (fun k => k = p) a2 a3 a4 a5 ns fs ts rs := by
  have h' := h.off ho
  refine ⟨h'.h2, h'.h3, h'.h4, h'.h5, h'.h6, fun q e hn => ?_, fun q e hn => ?_, fun q e hn => ?_, fun q e hn => ?_, fun r hr q e hn => ?_⟩
  · have := h.h2.lt e (by simpa [ins] using hn); omega
  · have := h.h3.lt e (by simpa [bos] using hn); omega
  · have := h.h4.lt e (by simpa [sts] using hn); omega
  · have := h.h5.lt e (by simpa using hn); omega
  · have := (h.h6 r hr).lt e (by simpa [bys] using hn); omega
theorem rdAll_ok {l : List Item} (h : ∀ x ∈ l, x.ok = true) : rdAll (some (encItems l)) l = true := by
  have := rdItems_enc l [] h
  rw [List.append_nil] at this
  simp [rdAll, this]
theorem rdAll_short {l : List Item} {s : List UInt8} (h : s.length < (encItems l).length) : rdAll (some s) l = false := by
  cases hc : rdAll (some s) l with
  | false => rfl
  | true =>
    simp only [rdAll, Bool.and_eq_true, decide_eq_true_eq] at hc
    have := rdItems_some l (some s) [] (Prod.ext hc.1 hc.2)
    simp only [Option.some.injEq, List.append_nil] at this
    subst this; omega
theorem reads_v (v : Bool) (p bb n c2 c3 c4 c5 : Nat) (s : RS) (L : List Item) (a2 a3 a4 a5 : Option Addr) (ns : List Int) (fs : List Bool) (ts : List ByteArray) (rs : List BRow) (w : World) (hv : rdAll s L = v) (hL : allItems ns fs ts rs n = L) (hr : Rd w p bb s) (ha : Args w (fun k => k = p) a2 a3 a4 a5 ns fs ts rs)
    (bd : rsLen s ≤ 100000000000) (bn : n ≤ 100000000) (b6 : ∀ r ∈ rs, r.l.length ≤ 100000000) (b7 : ∀ t ∈ ts, t.size ≤ 100000000) (R : Ending → World → Prop)
    (k : ∀ w', Off (fun k => k = p) w w' → R (.returned (.bool v)) w') :
    Calls Try.prog 56 #[.pointer (some ⟨p, 0, none⟩), .int .i64 n, .slice a2 ns.length c2, .slice a3 fs.length c3, .slice a4 ts.length c4, .slice a5 rs.length c5] w R := by
  subst hL; subst hv
  exact reads_c p bb n c2 c3 c4 c5 s a2 a3 a4 a5 ns fs ts rs w hr ha bd bn b6 b7 R k
theorem reads2_v (v : Bool) (s' : RS) (p bb n c2 c3 c4 c5 : Nat) (s : RS) (L : List Item) (a2 a3 a4 a5 : Option Addr) (ns : List Int) (fs : List Bool) (ts : List ByteArray) (rs : List BRow) (w : World) (hv : rdItems (true, s) L = (v, s')) (hL : allItems ns fs ts rs n = L) (hr : Rd w p bb s) (ha : Args w (fun k => k = p) a2 a3 a4 a5 ns fs ts rs)
    (bd : rsLen s ≤ 100000000000) (bn : n ≤ 100000000) (b6 : ∀ r ∈ rs, r.l.length ≤ 100000000) (b7 : ∀ t ∈ ts, t.size ≤ 100000000) (R : Ending → World → Prop)
    (k : ∀ w', Rd w' p bb s' → Off (fun k => k = p) w w' → R (.returned (.bool v)) w') :
    Calls Try.prog 57 #[.pointer (some ⟨p, 0, none⟩), .int .i64 n, .slice a2 ns.length c2, .slice a3 fs.length c3, .slice a4 ts.length c4, .slice a5 rs.length c5] w R := by
  subst hL
  exact reads2_c p bb n c2 c3 c4 c5 s a2 a3 a4 a5 ns fs ts rs w hr ha bd bn b6 b7 R (by rw [hv]; exact k)
theorem own_at {w : World} {e : TypeId} {g : Option Addr} {n c : Nat} {xs : List Value} (h : w.ownsRow 0 e 1 (.slice g n c) n xs) (hn : n ≠ 0) : ∃ b, g = some ⟨b, 0, none⟩ := by
  rcases h.2 with ⟨h1, _⟩ | ⟨b, cap, cur, h1, _⟩
  · cases h1; exact absurd rfl hn
  · cases h1; exact ⟨b, rfl⟩

set_option maxRecDepth 100000 in
set_option maxHeartbeats 4000000 in
theorem wireBack_c (c2 c3 c4 c5 : Nat) (a2 a3 a4 a5 : Option Addr) (ns : List Int) (fs : List Bool) (ts : List ByteArray) (rs : List BRow) (w : World) (ha : Args w Old a2 a3 a4 a5 ns fs ts rs)
    (b2 : ns.length ≤ 140737488351232) (b3 : fs.length ≤ 140737488351232) (b4 : ts.length ≤ 140737488351232) (b5 : rs.length ≤ 140737488351232) (b6 : ∀ r ∈ rs, r.l.length ≤ 140737488351232) (b7 : ∀ t ∈ ts, t.size ≤ 140737488351232) (R : Ending → World → Prop)
    (k : ∀ w', Off Old w w' → R (.returned (.bool true)) w') :
    Calls Try.prog 9 #[.slice a2 ns.length c2, .slice a3 fs.length c3, .slice a4 ts.length c4, .slice a5 rs.length c5] w R := by
  have HK := Lib.hid k; clear k
  go_enter Try.func9, Try.ntmps9
  go_wp2_with (go_at_call 30; refine awake02_c _ _ ?_)
  intro w1 ho1
  have ha1 := ha.off ho1
  go_upto_block 0 with fail
  go_cut [9] (fun n wx => w1 = wx ∧ ∃ N : Nat, n = .int .i64 N ∧ N ≤ 1000000000000000 ∧ Hid (N ≤ 20000 → N = ns.length + fs.length + ts.length + rs.length + szT ts))
  case first =>
    go_wp2_with fail
    go_loop [9, 10] (fun n i => ∃ j N : Nat, i = .int .i64 j ∧ n = .int .i64 N ∧ j ≤ ts.length ∧ N ≤ 1000000000000000 ∧ Hid (N = ns.length + fs.length + ts.length + rs.length + szT (ts.take j))) (fun _ i => ts.length - (intOf i).toNat)
    case atStart => exact ⟨0, ns.length + fs.length + ts.length + rs.length, rfl, by go_num, Nat.zero_le _, by omega, by show _ = _; simp [szT]⟩
    case round =>
      obtain ⟨j, N, rfl, rfl, hj, hN, hS⟩ := hrel
      by_cases h2 : N ≤ 20000
      · by_cases hlt : j < ts.length
        · obtain ⟨x, hx⟩ := at_of_lt hlt
          have hx7 := b7 x (List.mem_of_getElem? hx.out)
          obtain ⟨b, o, ix, Q, HB⟩ := ha1.h4.ix2 Try.underlying71 sz_str (n := ts.length) (by simp) c4
          have cx := Q.out j _ (sts_at hx.out)
          have hS2 : Hid (N + x.size = ns.length + fs.length + ts.length + rs.length + szT (ts.take (j + 1))) := by
            show _ = _; rw [szT_succ hx.out, hS.out]; omega
          go_wp2_with fail
          go_round
          case rel => exact ⟨j + 1, N + x.size, by go_num, by go_num, by omega, by omega, hS2⟩
          case measure => simp [intOf]; omega
        · have hS2 : Hid (N ≤ 20000 → N = ns.length + fs.length + ts.length + rs.length + szT ts) := by
            intro _; rw [hS.out, List.take_of_length_le (by omega)]
          go_wp2_with fail
          go_meet
          exact ⟨rfl, N, rfl, hN, hS2⟩
      · have hS2 : Hid (N ≤ 20000 → N = ns.length + fs.length + ts.length + rs.length + szT ts) := by intro h; omega
        by_cases hlt : j < ts.length
        · go_wp2_with fail
          go_meet
          exact ⟨rfl, N, rfl, hN, hS2⟩
        · go_wp2_with fail
          go_meet
          exact ⟨rfl, N, rfl, hN, hS2⟩
  case rest =>
    obtain ⟨rfl, N, rfl, hN, hS⟩ := hcut
    go_upto_block 2 with fail
    go_cut [9] (fun n wx => w1 = wx ∧ ∃ N : Nat, n = .int .i64 N ∧ N ≤ 10000000000000000 ∧ Hid (N ≤ 20000 → N = ns.length + fs.length + ts.length + rs.length + szT ts + szR rs))
    case first =>
      go_wp2_with fail
      go_loop [9, 11] (fun n i => ∃ j N : Nat, i = .int .i64 j ∧ n = .int .i64 N ∧ j ≤ rs.length ∧ N ≤ 10000000000000000 ∧ Hid (N ≤ 20000 → N = ns.length + fs.length + ts.length + rs.length + szT ts + szR (rs.take j))) (fun _ i => rs.length - (intOf i).toNat)
      case atStart => exact ⟨0, N, rfl, rfl, Nat.zero_le _, by omega, by show _ → _; simpa [szR] using hS.out⟩
      case round =>
        clear hS hN N
        obtain ⟨j, N, rfl, rfl, hj, hN, hS⟩ := hrel
        by_cases h2 : N ≤ 20000
        · by_cases hlt : j < rs.length
          · obtain ⟨x, hx⟩ := at_of_lt hlt
            have hx7 := b6 x (List.mem_of_getElem? hx.out)
            obtain ⟨b, o, ix, Q, HB⟩ := ha1.h5.ix2 Try.underlying72 sz_bs (n := rs.length) (by simp) c5
            have cx := Q.out j x.v (by simp [hx.out])
            simp only [BRow.v] at cx
            have hS2 : Hid (N + x.l.length ≤ 20000 → N + x.l.length = ns.length + fs.length + ts.length + rs.length + szT ts + szR (rs.take (j + 1))) := by
              have := hS.out h2
              intro _; rw [szR_succ hx.out]; omega
            go_wp2_with fail
            go_round
            case rel => exact ⟨j + 1, N + x.l.length, by go_num, by go_num, by omega, by omega, hS2⟩
            case measure => simp [intOf]; omega
          · have hS2 : Hid (N ≤ 20000 → N = ns.length + fs.length + ts.length + rs.length + szT ts + szR rs) := by
              have := hS.out h2
              rw [List.take_of_length_le (by omega)] at this
              exact fun _ => this
            go_wp2_with fail
            go_meet
            exact ⟨rfl, N, rfl, hN, hS2⟩
        · have hS2 : Hid (N ≤ 20000 → N = ns.length + fs.length + ts.length + rs.length + szT ts + szR rs) := by intro h; omega
          by_cases hlt : j < rs.length
          · go_wp2_with fail
            go_meet
            exact ⟨rfl, N, rfl, hN, hS2⟩
          · go_wp2_with fail
            go_meet
            exact ⟨rfl, N, rfl, hN, hS2⟩
    case rest =>
      clear hS hN N
      obtain ⟨rfl, N, rfl, hN, hS⟩ := hcut
      by_cases h2 : N ≤ 20000
      case neg =>
        have HF := HK.out _ ho1
        clear HK
        go_wp2_with fail
        exact HF
      have hS2 : Hid (ns.length ≤ N ∧ fs.length ≤ N ∧ ts.length ≤ N ∧ rs.length ≤ N) := by
        have := hS.out h2; exact ⟨by omega, by omega, by omega, by omega⟩
      have d6 : ∀ r ∈ rs, r.l.length ≤ 20000 := by
        intro r hr; have := hS.out h2; have := szR_mem hr; omega
      have d7 : ∀ t ∈ ts, t.size ≤ 20000 := by
        intro t ht; have := hS.out h2; have := szT_mem ht; omega
      have D6 := Lib.hid d6
      have D7 := Lib.hid d7
      clear hS b6 b7 d6 d7
      go_wp2_with (go_at_call 24; refine newWriter_c _ _ ?_)
      intro w2 hw ho2 hsz
      have ho2 := ho1.trans ho2
      have hp : w.heap.size ≤ w1.heap.size := ho1.size
      generalize w1.heap.size = p at *
      clear hsz ha1 ho1
      go_wp2_with fail
      go_loopw [13] (fun i wr => ∃ (j : Nat) (g : Option Addr) (d : Nat), i = .int .i64 j ∧ j ≤ N ∧ WrN w wr p (putItems (false, []) (allItems ns fs ts rs j)) g d) (fun i _ => N - (intOf i).toNat)
      case atStart => exact ⟨0, none, 0, rfl, Nat.zero_le _, hw, ho2, by simp⟩
      case round =>
        clear hw ho2
        obtain ⟨j, g, d, rfl, hj, hw, ho, hg⟩ := hrel
        have ha1 := ha.off ho
        by_cases hlt : j < N
        · have hB : Hid ((putItems (false, []) (allItems ns fs ts rs j)).2.length ≤ 1601000000) := allItems_put_len D6.out D7.out (by omega)
          have hT : Hid (putItems (false, []) (allItems ns fs ts rs (j + 1)) = putItems (putItems (putItems (putItems (putItems (false, []) (allItems ns fs ts rs j)) (rs[j]?.map fun r => Item.row r.l).toList) (fs[j]?.map Item.flag).toList) (ns[j]?.map Item.num).toList) (ts[j]?.map fun s => Item.row s.data.toList).toList) := by
            show _ = _
            simp only [← putItems_append, allItems_succ, roundItems, List.append_assoc]
          generalize putItems (false, []) (allItems ns fs ts rs j) = T at *
          obtain ⟨sp, l⟩ := T
          go_upto_if 76 with fail
          obtain ⟨T1, hT1⟩ : ∃ T1, Hid (T1 = putItems (sp, l) (rs[j]?.map (fun r => Item.row r.l)).toList) := ⟨_, rfl⟩
          have hB1 : Hid (T1.2.length ≤ 1601000000 + 20009) := by
            have h8 := putItems_one (sp, l) (rs[j]?.map (fun r => Item.row r.l)) (by
                intro r e
                obtain ⟨y, hy, e⟩ := Option.map_eq_some_iff.1 e
                cases e; exact D6.out y (List.mem_of_getElem? hy))
            have h9 := hB.out
            show _ ≤ _
            rw [hT1.out]; dsimp only at h8 h9; omega
          go_cut [] (fun wx => ∃ g d, WrN w wx p T1 g d)
          case first =>
            by_cases hlr : j < rs.length
            · obtain ⟨x, hx⟩ := at_of_lt hlr
              have hmem := List.mem_of_getElem? hx.out
              have hx6 := D6.out x hmem
              have hsx := ha1.h6 x hmem
              have hsx0 := ha.h6 x hmem
              have hT1 : Hid (T1 = putRow (sp, l) x.l) := by
                show _ = _; rw [hT1.out, hx.out]; rfl
              obtain ⟨b, o, ix, Q, HB⟩ := ha1.h5.ix2 Try.underlying72 sz_bs (n := rs.length) (by simp) c5
              have cx := Q.out j x.v (by simp [hx.out])
              simp only [BRow.v] at cx
              have hl9 : l.length ≤ 1601000000 + 80036 := Nat.le_trans hB.out (by omega)
              have hr1 : Hid (RowsOk wr [x]) := by
                intro r hr; rw [List.mem_singleton] at hr; subst hr; exact hsx
              have hr2 : Hid (∀ r ∈ [x], ∀ q, r.a = some q → r.l ≠ [] → q.block ≠ p ∧ g.map Addr.block ≠ some q.block) := by
                intro r hr q hq hne
                rw [List.mem_singleton] at hr; subst hr
                have h8 := hsx0.lt hq (by intro h; exact hne (by simpa [bys] using h))
                exact ⟨by omega, fun h => by have := hg _ h; omega⟩
              have hr3 : l.length + lenOf ([x].map BRow.l) ≤ 140737488355328 := by
                simp only [List.map_cons, List.map_nil, lenOf_one]; omega
              have hr3 := Lib.hid hr3
              go_wp2_with (go_at_call 41; refine rows_n p sp g d l [x] _ hw hr1.out hr2.out hr3.out _ ?_)
              intro w3 g3 d3 h3 h4
              obtain ⟨h5, h6⟩ := fresh_step hp ho hg h4
              go_wp2_with fail
              go_meet
              exact ⟨g3, d3, by rw [hT1.out]; exact h3, h5, h6⟩
            · have hT1 : Hid (T1 = (sp, l)) := by
                show _ = _; rw [hT1.out, List.getElem?_eq_none (by omega)]; rfl
              go_wp2_with fail
              go_meet
              exact ⟨g, d, by rw [hT1.out]; exact hw, ho, hg⟩
          case rest =>
            clear hw ho hg ha1 hB
            rename_i wx
            obtain ⟨g, d, hw, ho, hg⟩ := hcut
            rw [← hT1.out] at hT
            clear hT1
            obtain ⟨sp, l⟩ := T1
            have hB := hB1
            clear hB1
            have ha1 := ha.off ho
            go_upto_if 87 with fail
            obtain ⟨T1, hT1⟩ : ∃ T1, Hid (T1 = putItems (sp, l) (fs[j]?.map Item.flag).toList) := ⟨_, rfl⟩
            have hB1 : Hid (T1.2.length ≤ 1601000000 + 40018) := by
              have h8 := putItems_one (sp, l) (fs[j]?.map Item.flag) (by
                  intro r e
                  obtain ⟨y, hy, e⟩ := Option.map_eq_some_iff.1 e
                  cases e)
              have h9 := hB.out
              show _ ≤ _
              rw [hT1.out]; dsimp only at h8 h9; omega
            go_cut [] (fun wx => ∃ g d, WrN w wx p T1 g d)
            case first =>
              by_cases hlr : j < fs.length
              · obtain ⟨x, hx⟩ := at_of_lt hlr
                have hT1 : Hid (T1 = putFlag (sp, l) x) := by
                  show _ = _; rw [hT1.out, hx.out]; rfl
                obtain ⟨b, o, ix, Q, HB⟩ := ha1.h3.ix2 Try.underlying70 sz_bool (n := fs.length) (by simp) c3
                have cx := Q.out j _ (bos_at hx.out)
                have hl9 : l.length ≤ 1601000000 + 80036 := Nat.le_trans hB.out (by omega)
                have hr3 : Hid (l.length + [x].length ≤ 140737488355328) := by
                  show _ ≤ _; simp only [List.length_cons, List.length_nil]; omega
                go_wp2_with (go_at_call 39; refine flags_n p sp g d l [x] _ hw hr3.out _ ?_)
                intro w3 g3 d3 h3 h4
                obtain ⟨h5, h6⟩ := fresh_step hp ho hg h4
                go_wp2_with fail
                go_meet
                exact ⟨g3, d3, by rw [hT1.out]; exact h3, h5, h6⟩
              · have hT1 : Hid (T1 = (sp, l)) := by
                  show _ = _; rw [hT1.out, List.getElem?_eq_none (by omega)]; rfl
                go_wp2_with fail
                go_meet
                exact ⟨g, d, by rw [hT1.out]; exact hw, ho, hg⟩
            case rest =>
              clear hw ho hg ha1 hB
              rename_i wx
              obtain ⟨g, d, hw, ho, hg⟩ := hcut
              rw [← hT1.out] at hT
              clear hT1
              obtain ⟨sp, l⟩ := T1
              have hB := hB1
              clear hB1
              have ha1 := ha.off ho
              go_upto_if 98 with fail
              obtain ⟨T1, hT1⟩ : ∃ T1, Hid (T1 = putItems (sp, l) (ns[j]?.map Item.num).toList) := ⟨_, rfl⟩
              have hB1 : Hid (T1.2.length ≤ 1601000000 + 60027) := by
                have h8 := putItems_one (sp, l) (ns[j]?.map Item.num) (by
                    intro r e
                    obtain ⟨y, hy, e⟩ := Option.map_eq_some_iff.1 e
                    cases e)
                have h9 := hB.out
                show _ ≤ _
                rw [hT1.out]; dsimp only at h8 h9; omega
              go_cut [] (fun wx => ∃ g d, WrN w wx p T1 g d)
              case first =>
                by_cases hlr : j < ns.length
                · obtain ⟨x, hx⟩ := at_of_lt hlr
                  have hT1 : Hid (T1 = putNum (sp, l) x) := by
                    show _ = _; rw [hT1.out, hx.out]; rfl
                  obtain ⟨b, o, ix, Q, HB⟩ := ha1.h2.ix2 Try.underlying57 sz_int (n := ns.length) (by simp) c2
                  have cx := Q.out j _ (ins_at hx.out)
                  have hl9 : l.length ≤ 1601000000 + 80036 := Nat.le_trans hB.out (by omega)
                  have hr3 : Hid (l.length + 9 * [x].length ≤ 140737488355328) := by
                    show _ ≤ _; simp only [List.length_cons, List.length_nil]; omega
                  go_wp2_with (go_at_call 35; refine numbers_n p sp g d l [x] _ hw hr3.out _ ?_)
                  intro w3 g3 d3 h3 h4
                  obtain ⟨h5, h6⟩ := fresh_step hp ho hg h4
                  go_wp2_with fail
                  go_meet
                  exact ⟨g3, d3, by rw [hT1.out]; exact h3, h5, h6⟩
                · have hT1 : Hid (T1 = (sp, l)) := by
                    show _ = _; rw [hT1.out, List.getElem?_eq_none (by omega)]; rfl
                  go_wp2_with fail
                  go_meet
                  exact ⟨g, d, by rw [hT1.out]; exact hw, ho, hg⟩
              case rest =>
                clear hw ho hg ha1 hB
                rename_i wx
                obtain ⟨g, d, hw, ho, hg⟩ := hcut
                rw [← hT1.out] at hT
                clear hT1
                obtain ⟨sp, l⟩ := T1
                have hB := hB1
                clear hB1
                have ha1 := ha.off ho
                go_upto_if 109 with fail
                obtain ⟨T1, hT1⟩ : ∃ T1, Hid (T1 = putItems (sp, l) (ts[j]?.map (fun s => Item.row s.data.toList)).toList) := ⟨_, rfl⟩
                have hT2 : Hid (T1 = putItems (false, []) (allItems ns fs ts rs (j + 1))) := by show _ = _; rw [hT1.out, hT.out]
                by_cases hlr : j < ts.length
                · obtain ⟨x, hx⟩ := at_of_lt hlr
                  have hx7 := D7.out x (List.mem_of_getElem? hx.out)
                  have hT1 : Hid (T1 = putRow (sp, l) x.data.toList) := by
                    show _ = _; rw [hT1.out, hx.out]; rfl
                  obtain ⟨b, o, ix, Q, HB⟩ := ha1.h4.ix2 Try.underlying71 sz_str (n := ts.length) (by simp) c4
                  have cx := Q.out j _ (sts_at hx.out)
                  have hl9 : l.length ≤ 1601000000 + 80036 := Nat.le_trans hB.out (by omega)
                  have hr3 : Hid (l.length + lenOf ([x].map fun s => s.data.toList) ≤ 140737488355328) := by
                    show _ ≤ _
                    simp only [List.map_cons, List.map_nil, lenOf_one, Array.length_toList]; have : x.data.size = x.size := rfl; omega
                  go_wp2_with (go_at_call 40; refine texts_n p sp g d l [x] _ hw hr3.out _ ?_)
                  intro w3 g3 d3 h3 h4
                  obtain ⟨h5, h6⟩ := fresh_step hp ho hg h4
                  go_wp2_with fail
                  go_roundw
                  case rel => exact ⟨j + 1, g3, d3, by go_num, by omega, by rw [← hT2.out, hT1.out]; exact ⟨h3, h5, h6⟩⟩
                  case measure => simp [intOf]; omega
                · have hT1 : Hid (T1 = (sp, l)) := by
                    show _ = _; rw [hT1.out, List.getElem?_eq_none (by omega)]; rfl
                  go_wp2_with fail
                  go_roundw
                  case rel => exact ⟨j + 1, g, d, by go_num, by omega, by rw [← hT2.out, hT1.out]; exact ⟨hw, ho, hg⟩⟩
                  case measure => simp [intOf]; omega
        · obtain rfl : j = N := by omega
          have hB : (putItems (false, []) (allItems ns fs ts rs j)).2.length ≤ 1601000000 := allItems_put_len D6.out D7.out (by omega)
          by_cases hall : ∀ x ∈ ns, numOk x = true
          · have hok := allItems_ok (fs := fs) (n := j) hall D6.out D7.out
            obtain ⟨E, hE⟩ : ∃ E, Hid (E = encItems (allItems ns fs ts rs j)) := ⟨_, rfl⟩
            have hP : putItems (false, []) (allItems ns fs ts rs j) = (false, E) := by rw [putItems_ok _ _ hok, hE.out]; rfl
            rw [hP] at hw hB
            dsimp only at hw hB
            have r1 : Hid (rdAll (some E) (allItems ns fs ts rs j) = true) := by show _ = _; rw [hE.out]; exact rdAll_ok hok
            have r2 : Hid (rdItems (true, some (E ++ [0])) (allItems ns fs ts rs j) = (true, some [0])) := by show _ = _; rw [hE.out]; exact rdItems_enc _ _ hok
            have r3 : Hid (E ≠ [] → rdAll (some (E.take (E.length - 1))) (allItems ns fs ts rs j) = false) := by
              intro hne
              refine rdAll_short ?_
              have := List.length_pos_iff.2 hne
              rw [← hE.out, List.length_take]; omega
            have HALL := Lib.hid hall
            have HB := Lib.hid hB
            clear hok hE hP hall hB
            go_wp2_with (go_at_call 25; refine done_ok p g d E _ hw (by have := HB.out; omega) _ ?_)
            intro w3 g3 d3 h3 h4
            have ho3 := ho.trans h4
            have ha3 := ha.off ho3
            have hs3 : Sl w3 g3 (bys E) := (own_sl2 h3).2.2
            clear hw h4 ho hg ha1 hj hlt
            go_wp2_with fail
            go_loop [16] (fun i => ∃ m : Nat, i = .int .i64 m ∧ m ≤ ns.length) (fun i => ns.length - (intOf i).toNat)
            case atStart => exact ⟨0, rfl, Nat.zero_le _⟩
            case round =>
              obtain ⟨m, rfl, hm⟩ := hrel
              by_cases hlm : m < ns.length
              · obtain ⟨x, hx⟩ := at_of_lt hlm
                obtain ⟨b, o, ix, Q, HB⟩ := ha3.h2.ix2 Try.underlying57 sz_int (n := ns.length) (by simp) c2
                have cx := Q.out m _ (ins_at hx.out)
                have hxo := HALL.out x (List.mem_of_getElem? hx.out)
                simp only [numOk, decide_eq_true_eq] at hxo
                have t1 : decide (x < 0) = false := by simp; omega
                have t2 : decide (4611686018427387903 < x) = false := by simp; omega
                go_wp2_with fail
                go_round
                case rel => exact ⟨m + 1, by go_num, by omega⟩
                case measure => simp [intOf]; omega
              · have hbd : E.length ≤ 1601000000 := HB.out
                have hbn : j ≤ 100000000 := by omega
                have q6 : Hid (∀ r ∈ rs, r.l.length ≤ 100000000) := fun r hr => Nat.le_trans (D6.out r hr) (by omega)
                have q7 : Hid (∀ t ∈ ts, t.size ≤ 100000000) := fun t ht => Nat.le_trans (D7.out t ht) (by omega)
                obtain ⟨L, hL⟩ : ∃ L, Hid (allItems ns fs ts rs j = L) := ⟨_, rfl⟩
                rw [hL.out] at r1 r2 r3
                go_wp2_with (go_at_call 31; refine newReader_c g3 _ _ E _ rfl hs3 (by omega) _ ?_)
                intro w4 p4 b4 hr4 ho4 hb4 hp4
                have hz3 := ho3.size
                go_wp2_with (go_at_call 56; go_must (refine reads_v true p4 b4 j _ _ _ _ (some E) L _ _ _ _ ns fs ts rs _ r1.out hL.out hr4 (ha.fresh (ho3.trans ho4) (by omega)) (by show E.length ≤ _; omega) hbn q6.out q7.out _ ?_))
                intro w5 ho5
                have hs5 : Sl w5 g3 (bys E) := (hs3.old ho4).off ho5 (fun q e hn => by have := hs3.lt e hn; omega)
                have ho6 : Off Old w w5 := (ho3.trans ho4).step ho5 (by rintro i rfl hi; omega)
                have hv3 : Hid (E.length ≠ 0 → ∃ b, g3 = some ⟨b, 0, none⟩) := own_at h3
                have hc3 := (own_sl2 h3).1
                have hc4 := (own_sl2 h3).2.1
                clear h3 hs3 ho3 ho4 ho5 hr4 hb4 hp4 r1 ha3 hz3
                go_wp2_with (go_at_call 47; refine copyBytes_c g3 _ _ E _ rfl hs5 (by omega) _ ?_)
                intro w7 g7 d7 h7 ho7 hq7
                obtain ⟨i0, hi, hz0, hz1, hz2⟩ := info_parts u8info
                go_wp2_with (at_builtin; go_must (refine wpList_append_new rfl (.tmp 161) (.tmp 162) 43 rfl 5 i0 (.int .u8 0) 1 1 Try.underlying43 hi hz0 hz1 hz2 rfl (by decide) (.slice g7 E.length d7) E.length (bys E) rfl h7 1 1 (bys [0]) rfl rfl (bys_oneCell _) (by omega) (by omega) ?_))
                intro g8 d8 w8 hg8
                have hq8 : ∀ i, (Value.slice g7 E.length d7).ownBlock = some i → w5.heap.size ≤ i := by
                  intro i hi
                  cases g7 with
                  | none => simp [Value.ownBlock] at hi
                  | some q => have := hq7 q rfl; simp [Value.ownBlock] at hi; omega
                have hz6 := ho6.size
                have ho8 : Off Old w w8 := (ho6.trans ho7).step hg8.off (by intro i hi hl; have := hq8 i hi; omega)
                have hs8 : Sl w8 g3 (bys E) := (hs5.old ho7).off hg8.off (fun q e hn hi => by have := hs5.lt e hn; have := hq8 _ hi; omega)
                have hsm : Sl w8 g8 (bys (E ++ [0])) := by rw [bys_append]; exact (own_sl2 hg8.own).2.2
                have hln : Hid (E.length + 1 = (E ++ [0]).length) := by show _ = _; simp
                clear hg8 hq8 hq7 h7 ho7 ho6 hs5 hi hz0 hz1 hz2 hz6
                have hz8 := ho8.size
                go_wp2_with (go_at_call 31; go_must (refine newReader_c g8 _ _ (E ++ [0]) _ hln.out hsm (by have := hln.out; omega) _ ?_))
                intro w9 p9 b9 hr9 ho9 hb9 hp9
                go_wp2_with (go_at_call 57; go_must (refine reads2_v true (some [0]) p9 b9 j _ _ _ _ (some (E ++ [0])) L _ _ _ _ ns fs ts rs _ r2.out hL.out hr9 (ha.fresh (ho8.trans ho9) (by omega)) (by show (E ++ [0]).length ≤ _; have := hln.out; omega) hbn q6.out q7.out _ ?_))
                intro w10 hr10 ho10
                have hb1 : (((rdLeft (some [0]) : Nat) : Int) != 1) = false := rfl
                have hb2 : (rdEnd (some [0]) != 4) = false := rfl
                have hs10 : Sl w10 g3 (bys E) := (hs8.old ho9).off ho10 (fun q e hn => by have := hs8.lt e hn; omega)
                have ho11 : Off Old w w10 := (ho8.trans ho9).step ho10 (by rintro i rfl hi; omega)
                clear hs8 ho8 ho9 ho10 hr9 hb9 hp9 r2 hsm hz8
                by_cases hE0 : E.length = 0
                · have HF := HK.out w10 ho11
                  clear HK
                  have hE1 : ((E.length : Int) == 0) = true := by rw [beq_iff_eq]; omega
                  go_wp2_with (first | (go_at_call 32; refine left_c _ _ (some [0]) _ hr10 _ ?_) | (go_at_call 34; refine end_c _ _ (some [0]) _ hr10 _ ?_))
                  exact HF
                · have hE1 : ((E.length : Int) == 0) = false := beq_eq_false_iff_ne.2 (by omega)
                  have r3 : Hid (rdAll (some (E.take (E.length - 1))) L = false) := r3.out (fun h => hE0 (by rw [h]; rfl))
                  obtain ⟨b3, rfl⟩ := hv3.out hE0
                  have hsub : IntKind.i64.wrap ((E.length : Int) - 1) = ((E.length - 1 : Nat) : Int) := by
                    rw [IntWalk.i64_in _ (by omega)]; omega
                  have hs11 : Hid (Sl w10 (some ⟨b3, 0, none⟩) (bys (E.take (E.length - 1)))) := by
                    have := hs10.take (E.length - 1)
                    show Sl _ _ _
                    simpa [bys] using this
                  have hln2 : Hid (E.length - 1 = (E.take (E.length - 1)).length) := by show _ = _; simp
                  clear hv3
                  go_wp2_with (first | (go_at_call 32; refine left_c _ _ (some [0]) _ hr10 _ ?_) | (go_at_call 34; refine end_c _ _ (some [0]) _ hr10 _ ?_))
                  have hz11 := ho11.size
                  go_wp2_with (go_at_call 31; go_must (refine newReader_c (some ⟨b3, 0, none⟩) _ _ (E.take (E.length - 1)) _ hln2.out hs11.out (by have := hln2.out; omega) _ ?_))
                  intro w12 p12 b12 hr12 ho12 hb12 hp12
                  go_wp2_with (go_at_call 56; go_must (refine reads_v false p12 b12 j _ _ _ _ (some (E.take (E.length - 1))) L _ _ _ _ ns fs ts rs _ r3.out hL.out hr12 (ha.fresh (ho11.trans ho12) (by omega)) (by show (E.take (E.length - 1)).length ≤ _; have := hln2.out; omega) hbn q6.out q7.out _ ?_))
                  intro w13 ho13
                  have HF := HK.out w13 ((ho11.trans ho12).step ho13 (by rintro i rfl hi; omega))
                  clear HK
                  go_wp2_with fail
                  exact HF
          · have hbad : Hid (∃ x ∈ ns, numOk x = false) := by
              obtain ⟨x, hx⟩ := Classical.not_forall.1 hall
              exact ⟨x, (Classical.not_imp.1 hx).1, by simpa using (Classical.not_imp.1 hx).2⟩
            have hsp : (putItems (false, []) (allItems ns fs ts rs j)).1 = true := by
              obtain ⟨x, hx, hb⟩ := hbad.out
              obtain ⟨i, hi⟩ := List.mem_iff_getElem?.1 hx
              have hil := (List.getElem?_eq_some_iff.1 hi).1
              have := hS2.out.1
              exact putItems_bad _ _ (allItems_bad hi (by omega) hb)
            generalize putItems (false, []) (allItems ns fs ts rs j) = T at *
            obtain ⟨sp, l⟩ := T
            dsimp only at hsp hB hw
            subst hsp
            have HF := HK.out _ ho
            clear HK hall
            go_wp2_with (go_at_call 25; refine done_bad p g d l _ hw (by omega) _ ?_)
            go_wp2_with fail
            go_loop [16] (fun i => ∃ m : Nat, i = .int .i64 m ∧ m ≤ ns.length ∧ Hid (∀ i x, i < m → ns[i]? = some x → numOk x = true)) (fun i => ns.length - (intOf i).toNat)
            case atStart => exact ⟨0, rfl, Nat.zero_le _, fun i x h => absurd h (Nat.not_lt_zero _)⟩
            case round =>
              obtain ⟨m, rfl, hm, hgood⟩ := hrel
              by_cases hlm : m < ns.length
              · obtain ⟨x, hx⟩ := at_of_lt hlm
                obtain ⟨b, o, ix, Q, HB⟩ := ha1.h2.ix2 Try.underlying57 sz_int (n := ns.length) (by simp) c2
                have cx := Q.out m _ (ins_at hx.out)
                by_cases t1 : x < 0
                · have t1 : decide (x < 0) = true := by simpa using t1
                  go_wp2_with fail
                  exact HF
                · by_cases t2 : 4611686018427387903 < x
                  · have t1 : decide (x < 0) = false := by simpa using t1
                    have t2 : decide (4611686018427387903 < x) = true := by simpa using t2
                    go_wp2_with fail
                    exact HF
                  · have hgood2 : Hid (∀ i x, i < m + 1 → ns[i]? = some x → numOk x = true) := by
                      intro i y hi hy
                      by_cases h : i < m
                      · exact hgood.out i y h hy
                      · obtain rfl : i = m := by omega
                        rw [hx.out] at hy; cases hy
                        simp [numOk]; omega
                    have t1 : decide (x < 0) = false := by simpa using t1
                    have t2 : decide (4611686018427387903 < x) = false := by simpa using t2
                    go_wp2_with fail
                    go_round
                    case rel => exact ⟨m + 1, by go_num, by omega, hgood2⟩
                    case measure => simp [intOf]; omega
              · exfalso
                obtain ⟨x, hx, hb⟩ := hbad.out
                obtain ⟨i, hi⟩ := List.mem_iff_getElem?.1 hx
                have hil := (List.getElem?_eq_some_iff.1 hi).1
                rw [hgood.out i x (by omega) hi] at hb; cases hb
end Go.Proofs.Ytfllejlooaipiaa
