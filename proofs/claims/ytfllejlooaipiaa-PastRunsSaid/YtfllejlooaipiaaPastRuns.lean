/- PastRuns' walk. -/
import Derived.Test.YtfllejlooaipiaaRef17c
import Derived.Test.YtfllejlooaipiaaLentN
import Derived.Test.YtfllejlooaipiaaLaw17
import Derived.Test.YtfllejlooaipiaaPast6
import Derived.Test.YtfllejlooaipiaaPastPure3
import Derived.Test.YtfllejlooaipiaaKit
import Derived.Deep.CutBlock
namespace Go.Proofs.Ytfllejlooaipiaa
open Go.RowKit
set_option linter.unusedSimpArgs false

/-- a row of names. -/
structure NRow where
  a : Option Addr
  c : Nat
  l : List Nm
def NRow.v (r : NRow) : Value := .slice r.a r.l.length r.c
def raiseIf (v : Bool) (N : List Int) (l : List Nm) : List Int := if v then raiseAll N l else N
def errIf (v : Bool) : Int := if v then 0 else 2
theorem raise_g (p : Nat) (N : List Int) (v : Bool) (a : Option Addr) (n c : Nat) (l : List Nm) (w : World) (hn : l.length = n) (hv : l.all Nm.ok = v) (h : Pst w p N) (ha : Sl w a (nms l)) (hs : ∀ q, a = some q → l ≠ [] → q.block ≠ p) (bn : n ≤ 1000000000) (R : Ending → World → Prop)
    (k : ∀ w', Pst w' p (raiseIf v N l) → Off (fun k => k = p) w w' → R (.returned (.int .i64 (errIf v))) w') :
    Calls Try.prog 16 #[.pointer (some ⟨p, 0, none⟩), .slice a n c] w R := by
  subst hn
  cases v
  · exact raise_bad p N a c l w hv h ha hs bn R (fun w' ho => k w' (h.old ho) (ho.mono (fun _ x _ => x.elim)))
  · exact raise_ok p N a c l w hv h ha hs bn R k
theorem rraise_g (p : Nat) (N : List Int) (v : Bool) (a : Option Addr) (n c : Nat) (l : List Nm) (w : World) (hn : l.length = n) (hv : l.all Nm.ok = v) (h : Rps w p N) (ha : Sl w a (nms l)) (hs : ∀ q, a = some q → l ≠ [] → q.block ≠ p) (bn : n ≤ 1000000000) (R : Ending → World → Prop)
    (k : ∀ w', Rps w' p (raiseIf v N l) → Off (fun k => k = p) w w' → R (.returned (.int .i64 (errIf v))) w') :
    Calls Try.prog 17 #[.pointer (some ⟨p, 0, none⟩), .slice a n c] w R := by
  subst hn
  exact rraise_c p N v a c l w hv h ha hs bn R k
set_option maxHeartbeats 400000 in
theorem all_g (v : Bool) (a : Option Addr) (n c : Nat) (l : List Nm) (w : World) (hn : l.length = n) (hv : l.all Nm.ok = v) (ha : Sl w a (nms l)) (bn : n ≤ 1000000000) (R : Ending → World → Prop) (k : ∀ w', Off Old w w' → R (.returned (.bool v)) w') :
    Calls Try.prog 15 #[.slice a n c] w R := by
  subst hn
  have HK := Lib.hid k; clear k
  have HV := Lib.hid hv; clear hv
  go_enter Try.func15, Try.ntmps15
  go_wp2_with fail
  go_loopw [3] (fun i wr => ∃ j : Nat, i = .int .i64 j ∧ j ≤ l.length ∧ Off Old w wr ∧ Hid ((l.take j).all Nm.ok = true)) (fun i _ => l.length - (intOf i).toNat)
  case atStart => exact ⟨0, rfl, Nat.zero_le _, Off.refl _ _, rfl⟩
  case round =>
    obtain ⟨j, rfl, hj, ho, hok⟩ := hrel
    by_cases hlt : j < l.length
    · obtain ⟨x, hx⟩ := at_of_lt hlt
      obtain ⟨b, o, ix, Q, HB⟩ := Sl.ixn (ha.old ho) c
      obtain ⟨cx1, cx2⟩ := Q.out j x hx.out
      obtain ⟨u, hu⟩ : ∃ u, Hid (x.ok = u) := ⟨_, rfl⟩
      cases u
      · have hbad : v = false := by
          rw [← HV.out, List.all_eq_false]; exact ⟨x, List.mem_of_getElem? hx.out, by rw [hu.out]; simp⟩
        subst hbad
        go_wp2_with (go_at_call 65; go_must (refine rright_c x _ _ ?_))
        rw [hu.out]
        intro w1 ho1
        have HF := HK.out w1 (ho.trans ho1)
        clear HK
        go_wp2_with fail
        exact HF
      · have hok2 : Hid ((l.take (j + 1)).all Nm.ok = true) := by
          show _ = _; rw [List.take_add_one, hx.out, List.all_append, hok.out]; simp [hu.out]
        go_wp2_with (go_at_call 65; go_must (refine rright_c x _ _ ?_))
        rw [hu.out]
        intro w1 ho1
        have ho2 := ho.trans ho1
        clear ho ho1
        go_wp2_with fail
        go_roundw
        case rel => exact ⟨j + 1, by go_num, by omega, ho2, hok2⟩
        case measure => simp [intOf]; omega
    · have hall := hok.out
      rw [List.take_of_length_le (by omega)] at hall
      have hv : v = true := by rw [← HV.out]; exact hall
      subst hv
      have HF := HK.out wr ho
      clear HK
      go_wp2_with fail
      exact HF
theorem right_g (v : Bool) (a : Option Addr) (n c : Nat) (l : List Nm) (w : World) (hn : l.length = n) (hv : l.all Nm.ok = v) (ha : Sl w a (nms l)) (bn : n ≤ 1000000000) (R : Ending → World → Prop) (k : ∀ w', Off Old w w' → R (.returned (.bool v)) w') :
    Calls Try.prog 14 #[.slice a n c] w R := by subst hn; exact right_c v a c l w hv ha bn R k
/-- pasts, the document's ones, and their numbers. -/
structure Many (W : Nat) (w : World) (ps qs : List Nat) (Ms : List (List Int)) : Prop where
  lp : ps.length = Ms.length
  lq : qs.length = Ms.length
  pst : ∀ (i q : Nat) (M : List Int), ps[i]? = some q → Ms[i]? = some M → W ≤ q ∧ Pst w q M
  rps : ∀ (i q : Nat) (M : List Int), qs[i]? = some q → Ms[i]? = some M → W ≤ q ∧ Rps w q M
theorem Many.off {W : Nat} {w w' : World} {ps qs : List Nat} {Ms : List (List Int)} {S : Nat → Prop} (h : Many W w ps qs Ms) (ho : Off S w w') (hs : ∀ (i q : Nat) (M : List Int), (ps[i]? = some q ∨ qs[i]? = some q) → Ms[i]? = some M → ¬ S q) : Many W w' ps qs Ms :=
  ⟨h.lp, h.lq, fun i q M h1 h2 => ⟨(h.pst i q M h1 h2).1, (h.pst i q M h1 h2).2.off ho (hs i q M (.inl h1) h2)⟩, fun i q M h1 h2 => ⟨(h.rps i q M h1 h2).1, (h.rps i q M h1 h2).2.off ho (hs i q M (.inr h1) h2)⟩⟩
theorem Many.old {W : Nat} {w w' : World} {ps qs : List Nat} {Ms : List (List Int)} (h : Many W w ps qs Ms) (ho : Off Old w w') : Many W w' ps qs Ms := h.off ho (fun _ _ _ _ _ x => x)
theorem Many.lt {W : Nat} {w : World} {ps qs : List Nat} {Ms : List (List Int)} (h : Many W w ps qs Ms) {i q : Nat} {M : List Int} (h1 : ps[i]? = some q ∨ qs[i]? = some q) (h2 : Ms[i]? = some M) : q < w.heap.size := by
  rcases h1 with h1 | h1
  · exact (h.pst i q M h1 h2).2.blk.lt
  · exact (h.rps i q M h1 h2).2.blk.lt
theorem Many.snoc {W : Nat} {w : World} {ps qs : List Nat} {Ms : List (List Int)} {p q : Nat} {M : List Int} (h : Many W w ps qs Ms) (hp : Pst w p M) (hq : Rps w q M) (hWp : W ≤ p) (hWq : W ≤ q) : Many W w (ps ++ [p]) (qs ++ [q]) (Ms ++ [M]) := by
  have key : ∀ {l : List Nat} {x : Nat}, l.length = Ms.length → ∀ {i y : Nat} {N : List Int}, (l ++ [x])[i]? = some y → (Ms ++ [M])[i]? = some N → (l[i]? = some y ∧ Ms[i]? = some N) ∨ (y = x ∧ N = M) := by
    intro l x hl i y N h1 h2
    by_cases hi : i < Ms.length
    · rw [List.getElem?_append_left (by omega)] at h1
      rw [List.getElem?_append_left hi] at h2
      exact .inl ⟨h1, h2⟩
    · have hi2 : i = Ms.length := by
        have := (List.getElem?_eq_some_iff.1 h2).1; simp at this; omega
      subst hi2
      rw [List.getElem?_append_right (by omega)] at h1 h2
      rw [hl] at h1
      simp at h1 h2
      exact .inr ⟨h1.symm, h2.symm⟩
  refine ⟨by simp [h.lp], by simp [h.lq], fun i y N h1 h2 => ?_, fun i y N h1 h2 => ?_⟩
  · rcases key h.lp h1 h2 with ⟨h3, h4⟩ | ⟨rfl, rfl⟩
    · exact h.pst i y N h3 h4
    · exact ⟨hWp, hp⟩
  · rcases key h.lq h1 h2 with ⟨h3, h4⟩ | ⟨rfl, rfl⟩
    · exact h.rps i y N h3 h4
    · exact ⟨hWq, hq⟩
/-- numbers that may be. -/
def Rng (N : List Int) : Prop := N.length = 8 ∧ ∀ i, i < 8 → 0 ≤ N.getD i 0 ∧ N.getD i 0 ≤ 1073741824
theorem Rng.zero : Rng zero8 := ⟨rfl, fun i hi => by rw [zero8_at hi]; decide⟩
theorem Rng.raise {v : Bool} {N : List Int} {l : List Nm} (h : Rng N) (hv : l.all Nm.ok = v) : Rng (raiseIf v N l) := by
  cases v
  · exact h
  · refine ⟨by simp only [raiseIf, if_true]; rw [raiseAll_len, h.1], fun i hi => ?_⟩
    simp only [raiseIf, if_true]
    rw [raiseAll_at hv h.1 hi]
    exact top_range hv (h.2 i hi).1 (h.2 i hi).2
theorem Rng.merge {N M : List Int} (h : Rng N) (h2 : Rng M) : Rng (mergeN N M) :=
  ⟨mergeN_len h.1, fun i hi => by rw [mergeN_at h.1 hi]; have := h.2 i hi; have := h2.2 i hi; omega⟩
theorem Rng.mergeAll {Ms : List (List Int)} : ∀ {N : List Int}, Rng N → (∀ M ∈ Ms, Rng M) → Rng (Go.Proofs.Ytfllejlooaipiaa.mergeAll N Ms) := by
  induction Ms with
  | nil => intro N h _; exact h
  | cons M Ms ih => intro N h hM; exact ih (h.merge (hM M (by simp))) (fun X hX => hM X (by simp [hX]))
theorem Rng.ok {N : List Int} (h : Rng N) : N.all numOk = true := by
  rw [List.all_eq_true]
  intro x hx
  obtain ⟨i, hi⟩ := List.mem_iff_getElem?.1 hx
  have hl := (List.getElem?_eq_some_iff.1 hi).1
  have h1 := h.2 i (by rw [← h.1]; exact hl)
  have h2 : N.getD i 0 = x := by simp [List.getD, hi]
  rw [h2] at h1
  simp [numOk]; omega
theorem put4_nil (N : List Int) : put4 N [] [] [] = putNums (false, []) N := rfl
theorem merge_l (p : Nat) (N : List Int) (a : Option Addr) (n c : Nat) (qs : List Nat) (Ms : List (List Int)) (w : World) (hn : qs.length = n) (h : Pst w p N) (ha : Sl w a (pts qs)) (hs : ∀ q, a = some q → qs ≠ [] → q.block ≠ p) (hl : Ms.length = qs.length)
    (hq : ∀ (i q : Nat) (M : List Int), qs[i]? = some q → Ms[i]? = some M → q ≠ p ∧ Pst w q M) (bn : n ≤ 1000000000) (R : Ending → World → Prop)
    (k : ∀ w', Pst w' p (mergeAll N Ms) → Off (fun k => k = p) w w' → R (.returned (.int .i64 0)) w') :
    Calls Try.prog 21 #[.pointer (some ⟨p, 0, none⟩), .slice a n c] w R := by
  subst hn; exact merge_c p N a c qs Ms w h ha hs hl hq bn R k
theorem ris_v (v : Bool) (p : Nat) (N : List Int) (x : Nm) (w : World) (hv : (x.ok && decide (x.n ≤ ofN N x.c)) = v) (h : Rps w p N) (R : Ending → World → Prop) (k : ∀ w', Off Old w w' → R (.returned (.bool v)) w') :
    Calls Try.prog 29 #[.pointer (some ⟨p, 0, none⟩), .agg #[.int .i64 x.c, .int .i64 x.n]] w R := by
  subst hv; exact ris_c p N x w h R k
theorem ppinfo : (Try.prog.info? 27).map (fun i => (i.zero, i.size, i.bytes)) = some (some (.pointer none), 1, 8) := by kernel_rfl
theorem rpinfo : (Try.prog.info? 29).map (fun i => (i.zero, i.size, i.bytes)) = some (some (.pointer none), 1, 8) := by kernel_rfl
theorem own_ne_own {w : World} {e e' : TypeId} {s s' n n' : Nat} {v v' : Value} {xs xs' : List Value} (h : w.ownsRow 0 e s v n xs) (h' : w.ownsRow 0 e' s' v' n' xs') (he : e ≠ e') : ∀ k, v.ownBlock = some k → v'.ownBlock ≠ some k := by
  intro k hk hk'
  rcases h.2 with ⟨h1, _⟩ | ⟨g, cap, cur, h1, _, h2, _⟩
  · rw [h1] at hk; simp [Value.ownBlock] at hk
  · rw [h1] at hk; simp [Value.ownBlock] at hk; subst hk
    rcases h'.2 with ⟨h3, _⟩ | ⟨g', cap', cur', h3, _, h4, _⟩
    · rw [h3] at hk'; simp [Value.ownBlock] at hk'
    · rw [h3] at hk'; simp [Value.ownBlock] at hk'; subst hk'
      rw [h2] at h4; injection h4 with h4; injection h4 with _ h5 _; exact he h5
theorem sz_row (w : World) : (sizeOf 23).run Try.prog w = .ok 1 w := by kernel_rfl
set_option maxRecDepth 100000 in
set_option maxHeartbeats 4000000 in
theorem pastRuns_c (a0 a1 : Option Addr) (c0 c1 : Nat) (rs : List NRow) (ask : List Nm) (w : World) (s0 : Sl w a0 (rs.map NRow.v)) (hrs : ∀ r ∈ rs, Sl w r.a (nms r.l)) (s1 : Sl w a1 (nms ask)) (b0 : rs.length ≤ 140737488351232) (b1 : ask.length ≤ 140737488351232) (b2 : ∀ r ∈ rs, r.l.length ≤ 140737488351232) (R : Ending → World → Prop)
    (k : ∀ w', Off Old w w' → R (.returned (.bool true)) w') :
    Calls Try.prog 3 #[.slice a0 rs.length c0, .slice a1 ask.length c1] w R := by
  have HK := Lib.hid k; clear k
  have HR := Lib.hid hrs; clear hrs
  have HB := Lib.hid b2; clear b2
  go_enter Try.func3, Try.ntmps3
  go_upto_block 0 with fail
  go_cut [5] (fun n wx => w = wx ∧ ∃ N : Nat, n = .int .i64 N ∧ N ≤ 100000000000000000 ∧ Hid (N ≤ 1000 → ask.length ≤ N ∧ ∀ r ∈ rs, r.l.length ≤ N))
  case first =>
    go_wp2_with fail
    go_loop [5, 6] (fun n i => ∃ j N : Nat, i = .int .i64 j ∧ n = .int .i64 N ∧ j ≤ rs.length ∧ N ≤ 140737488351232 + 1001 + 140737488351232 ∧ Hid (ask.length ≤ N ∧ ∀ i r, i < j → rs[i]? = some r → r.l.length ≤ N)) (fun _ i => rs.length - (intOf i).toNat)
    case atStart => exact ⟨0, ask.length, rfl, rfl, Nat.zero_le _, by omega, Nat.le_refl _, fun i r h => by omega⟩
    case round =>
      obtain ⟨j, N, rfl, rfl, hj, hN, hS⟩ := hrel
      by_cases h2 : N ≤ 1000
      · by_cases hlt : j < rs.length
        · obtain ⟨x, hx⟩ := at_of_lt hlt
          have hx7 := HB.out x (List.mem_of_getElem? hx.out)
          obtain ⟨b, o, ix, Q⟩ := s0.ix1 Try.underlying22 sz_row (n := rs.length) (by simp) c0
          have cx : w.cell? ⟨b, o + j, none⟩ = some (.slice x.a x.l.length x.c) := Q.out j _ (by simp [hx.out, NRow.v])
          have hS2 : Hid (ask.length ≤ N + x.l.length ∧ ∀ i r, i < j + 1 → rs[i]? = some r → r.l.length ≤ N + x.l.length) := by
            refine ⟨by have := hS.out.1; omega, fun i r hi hr => ?_⟩
            by_cases hij : i = j
            · subst hij; rw [hx.out] at hr; cases hr; omega
            · have := hS.out.2 i r (by omega) hr; omega
          go_wp2_with fail
          go_round
          case rel => exact ⟨j + 1, N + x.l.length, by go_num, by go_num, by omega, by omega, hS2⟩
          case measure => simp [intOf]; omega
        · have hS2 : Hid (N ≤ 1000 → ask.length ≤ N ∧ ∀ r ∈ rs, r.l.length ≤ N) := fun _ => ⟨hS.out.1, fun r hr => by
            obtain ⟨i, hi⟩ := List.mem_iff_getElem?.1 hr
            exact hS.out.2 i r (by have := (List.getElem?_eq_some_iff.1 hi).1; omega) hi⟩
          go_wp2_with fail
          go_meet
          exact ⟨rfl, N, rfl, by omega, hS2⟩
      · have hS2 : Hid (N ≤ 1000 → ask.length ≤ N ∧ ∀ r ∈ rs, r.l.length ≤ N) := fun h => absurd h h2
        by_cases hlt : j < rs.length
        · go_wp2_with fail
          go_meet
          exact ⟨rfl, N, rfl, by omega, hS2⟩
        · go_wp2_with fail
          go_meet
          exact ⟨rfl, N, rfl, by omega, hS2⟩
  case rest =>
    obtain ⟨rfl, N, rfl, hN, hS⟩ := hcut
    by_cases h2 : N ≤ 1000 ∧ rs.length ≤ 20
    case neg =>
      have hor : 1000 < N ∨ (N ≤ 1000 ∧ 20 < rs.length) := by omega
      clear h2
      rcases hor with h2 | ⟨h2, h3⟩
      · go_wp2_with (go_at_call 11; refine awake17_c _ _ ?_)
        intro w1 ho1
        have HF := HK.out _ ho1
        clear HK
        go_wp2_with fail
        exact HF
      · go_wp2_with (go_at_call 11; refine awake17_c _ _ ?_)
        intro w1 ho1
        have HF := HK.out _ ho1
        clear HK
        go_wp2_with fail
        exact HF
    obtain ⟨h2, h3⟩ := h2
    have hak : ask.length ≤ 1000 := by have := (hS.out h2).1; omega
    have hrl : Hid (∀ r ∈ rs, r.l.length ≤ 1000) := fun r hr => by have := (hS.out h2).2 r hr; omega
    clear hS HB
    obtain ⟨b, o, ix, Q⟩ := s0.ix1 Try.underlying22 sz_row (n := rs.length) (by simp) c0
    go_wp2_with fail
    go_loopw [7, 8, 9] (fun v7 v8 i wr => ∃ (j d7 d8 : Nat) (g7 g8 : Option Addr) (ps qs : List Nat) (Ms : List (List Int)), i = .int .i64 j ∧ j ≤ rs.length ∧ Hid (Ms.length = j) ∧ v7 = .slice g7 j d7 ∧ v8 = .slice g8 j d8 ∧ wr.ownsRow 0 27 1 (.slice g7 j d7) j (pts ps) ∧ wr.ownsRow 0 29 1 (.slice g8 j d8) j (pts qs) ∧ Hid (fresh w.heap.size (.slice g7 j d7)) ∧ Hid (fresh w.heap.size (.slice g8 j d8)) ∧ Many w.heap.size wr ps qs Ms ∧ Hid (∀ M ∈ Ms, Rng M) ∧ Off Old w wr) (fun _ _ i _ => rs.length - (intOf i).toNat)
    case atStart => exact ⟨0, 0, 0, none, none, [], [], [], rfl, Nat.zero_le _, rfl, rfl, rfl, World.ownsRow_nil _ _ _ _, World.ownsRow_nil _ _ _ _, fun b h => by simp [Value.ownBlock] at h, fun b h => by simp [Value.ownBlock] at h, ⟨rfl, rfl, fun i q M h => by simp at h, fun i q M h => by simp at h⟩, fun M h => by simp at h, Off.refl _ _⟩
    case round =>
      obtain ⟨j, d7, d8, g7, g8, ps, qs, Ms, rfl, hj, hMl, rfl, rfl, ho7, ho8, hf7, hf8, hM, hMR, ho⟩ := hrel
      by_cases hlt : j < rs.length
      · obtain ⟨⟨ra, rc, rl⟩, hx⟩ := at_of_lt hlt
        have hxl : rl.length ≤ 1000 := hrl.out _ (List.mem_of_getElem? hx.out)
        have hsr := (HR.out _ (List.mem_of_getElem? hx.out)).old ho
        dsimp only at hsr
        go_wp2_with (go_at_call 12; refine new_c _ _ ?_)
        intro w1 hp0 ho1 hz1
        clear hz1
        have hbm := Blk.new w1 #[.int .i64 0, .int .i64 0, .int .i64 0, .int .i64 0, .int .i64 0, .int .i64 0, .int .i64 0, .int .i64 0, .int .i64 0] 32
        have hoA : Off Old w1 (w1.alloc (.cells #[.int .i64 0, .int .i64 0, .int .i64 0, .int .i64 0, .int .i64 0, .int .i64 0, .int .i64 0, .int .i64 0, .int .i64 0] 32)) := (Off.refl _ _).alloc _
        have hm : Rps (w1.alloc (.cells #[.int .i64 0, .int .i64 0, .int .i64 0, .int .i64 0, .int .i64 0, .int .i64 0, .int .i64 0, .int .i64 0, .int .i64 0] 32)) w1.heap.size zero8 := ⟨hbm, rfl⟩
        have hp := hp0.old hoA
        have hoB := ho1.trans hoA
        have cxw : w.cell? ⟨b, o + j, none⟩ = some (.slice ra rl.length rc) := Q.out j _ (by simp [hx.out, NRow.v])
        have hbl := World.block_lt_of_cell? w _ cxw
        have cx := (ho.trans hoB).cell (fun x => x) cxw
        have hral : Hid (∀ q, ra = some q → rl ≠ [] → q.block < w.heap.size) := fun q e hn => (HR.out _ (List.mem_of_getElem? hx.out)).lt e (nms_ne hn)
        have hsA := hsr.old hoB
        obtain ⟨n, hn⟩ : ∃ n, Hid (rl.length = n) := ⟨_, rfl⟩
        rw [hn.out] at cx hxl cxw
        go_wp2_with (go_at_call 13; go_must (refine lentNames_c ra n rc rl _ hn.out hsA (by omega) _ ?_))
        intro w2 gi hgi ho2 hgi2
        have hgi : Blk w2 gi (nms (rl ++ marksNm 1 12)) 53 := by rw [nms_append]; exact hgi
        have hz2 := ho2.size
        have hzB := hoB.size
        have hz1 := ho1.size
        have hz0 := ho.size
        have hplt := hp.blk.lt
        have hmlt := hm.blk.lt
        have hp1lt := hp0.blk.lt
        have hp := hp.old ho2
        have hm := hm.old ho2
        have hoC := hoB.trans ho2
        have hsr2 := hsA.old ho2
        have hsl : Sl w2 (some ⟨gi, 0, none⟩) (nms rl) := by
          have h1 := blk_sl hgi
          rw [nms_append] at h1
          intro t u hu
          exact h1 t u (by rw [List.getElem?_append_left (List.getElem?_eq_some_iff.1 hu).1]; exact hu)
        have hgl := hgi.lt
        have cx := (ho.trans hoC).cell (fun x => x) cxw
        generalize hP : wr.heap.size = P at *
        generalize hMM : w1.heap.size = MM at *
        have HP := Lib.hid hP
        have HMM := Lib.hid hMM
        clear hP hMM
        have hgiM : MM + 1 ≤ gi := by simpa [HMM.out] using hgi2
        obtain ⟨v, hv⟩ : ∃ v, Hid (rl.all Nm.ok = v) := ⟨_, rfl⟩
        have hvv : (v != v) = false := by simp
        have hee : (errIf v != errIf v) = false := by simp
        have hD : Off Old w2 w2.drew := (Off.refl _ _).drew
        have hd1 : Hid (gi ≠ P ∧ gi ≠ MM ∧ P ≠ MM ∧ b ≠ P ∧ b ≠ MM) := ⟨by omega, by omega, by omega, by omega, by omega⟩
        have hd2 : Hid (∀ q, ra = some q → rl ≠ [] → q.block ≠ MM ∧ q.block ≠ P) := fun q e hn => by have := hral.out q e hn; exact ⟨by omega, by omega⟩
        have hd3 : Hid (∀ q : Addr, (some ⟨gi, 0, none⟩ : Option Addr) = some q → rl ≠ [] → q.block ≠ P) := by rintro q ⟨rfl⟩ _; exact hd1.out.1
        have hk0 : w2.drew.cell? ⟨b, o + j, none⟩ = some (.slice ra n rc) := cx
        go_wp2_with fail
        (go_region_held3 (fun w' => w'.cell? ⟨b, o + j, none⟩ = some (.slice ra n rc)) (first | exact hk0 | exact hk1 | exact hk2 | exact hk3 | exact hk4 | exact hk5 | exact hk6) (first
          | (go_at_call 14; refine right_g v _ n _ rl _ hn.out hv.out (hsl.old hD) (by omega) _ ?_; intro x1 e1; have hk1 : x1.cell? ⟨b, o + j, none⟩ = some (.slice ra n rc) := e1.cell (fun x => x) hk0)
          | (go_at_call 15; refine all_g v ra n rc rl _ hn.out hv.out ((hsr2.old hD).old e1) (by omega) _ ?_; intro x2 e2; have hk2 : x2.cell? ⟨b, o + j, none⟩ = some (.slice ra n rc) := e2.cell (fun x => x) hk1)
          | (go_at_call 16; refine raise_g P zero8 v _ n _ rl _ hn.out hv.out (((hp.old hD).old e1).old e2) (((hsl.old hD).old e1).old e2) hd3.out (by omega) _ ?_; intro x3 hp3 e3; have hk3 : x3.cell? ⟨b, o + j, none⟩ = some (.slice ra n rc) := e3.cell hd1.out.2.2.2.1 hk2)
          | (go_at_call 17; refine rraise_g MM zero8 v ra n rc rl _ hn.out hv.out ((((hm.old hD).old e1).old e2).off e3 (fun h => hd1.out.2.2.1 h.symm)) ((((hsr2.old hD).old e1).old e2).off e3 (fun q e hq => (hd2.out q e (by rintro rfl; exact hq rfl)).2)) (fun q e hq => (hd2.out q e hq).1) (by omega) _ ?_; intro x4 hm4 e4; have hk4 : x4.cell? ⟨b, o + j, none⟩ = some (.slice ra n rc) := e4.cell hd1.out.2.2.2.2 hk3)
          | (go_at_call 18; refine same_c P MM _ _ rfl _ (hp3.off e4 hd1.out.2.2.1) hm4 _ ?_; intro x5 e5; have hk5 : x5.cell? ⟨b, o + j, none⟩ = some (.slice ra n rc) := e5.cell (fun x => x) hk4)
          | (go_at_call 19; refine keptNames_c gi ra n rc rl _ hn.out (((((hgi.off hD (fun x => x)).off e1 (fun x => x)).off e2 (fun x => x)).off e3 hd1.out.1).off e4 hd1.out.2.1 |>.off e5 (fun x => x)) (((((hsr2.old hD).old e1).old e2).off e3 (fun q e hq => (hd2.out q e (by rintro rfl; exact hq rfl)).2)).off e4 (fun q e hq => (hd2.out q e (by rintro rfl; exact hq rfl)).1) |>.old e5) (by omega) _ ?_; intro x6 e6; have hk6 : x6.cell? ⟨b, o + j, none⟩ = some (.slice ra n rc) := e6.cell (fun x => x) hk5)))
        have hpx : Pst x6 P (raiseIf v zero8 rl) := ((hp3.off e4 hd1.out.2.2.1).old e5).old e6
        have hmx : Rps x6 MM (raiseIf v zero8 rl) := (hm4.old e5).old e6
        have hoX : Off Old wr x6 := ((((((hoC.trans hD).trans e1).trans e2).step e3 (fun i hi hl => by have := HP.out; omega)).step e4 (fun i hi hl => by have := HP.out; omega)).trans e5).trans e6
        have hRv : Hid (Rng (raiseIf v zero8 rl)) := Rng.zero.raise hv.out
        have hWP : w.heap.size ≤ P ∧ w.heap.size ≤ MM := ⟨by omega, by omega⟩
        have hMx := hM.old hoX
        have ho7x := own_off ho7 hoX (fun _ _ x => x)
        have ho8x := own_off ho8 hoX (fun _ _ x => x)
        have hox := ho.trans hoX
        clear hp3 hm4 e1 e2 e3 e4 e5 e6 hk0 hk1 hk2 hk3 hk4 hk5 hk6 hM ho7 ho8 ho hD hoC hoB hsl hsr2 hgi hgl cx hoX hgi2 hsA hsr hp hm hd3 hp0 hbm hoA ho1 ho2 hvv hee
        obtain ⟨i0, hi, hz00, hz10, hz20⟩ := info_parts ppinfo
        go_wp2_with (at_builtin; go_must (refine wpList_append_new rfl (.tmp 95) (.tmp 97) 25 rfl 27 i0 (.pointer none) 1 8 Try.underlying25 hi hz00 hz10 hz20 rfl (by decide) (.slice g7 j d7) j (pts ps) rfl ho7x 1 1 [.pointer (some ⟨P, 0, none⟩)] rfl rfl (by intro u hu; simp at hu; subst hu; rfl) (by omega) (by omega) ?_))
        intro g7' d7' y1 hg
        have hpy := hpx.off hg.off (own_blk_ne ho7x hpx.blk (by decide))
        have hmy := hmx.off hg.off (own_blk_ne ho7x hmx.blk (by decide))
        have hMy := hMx.off hg.off (fun i q M h1 h2 => by
          rcases h1 with h1 | h1
          · exact own_blk_ne ho7x (hMx.pst i q M h1 h2).2.blk (by decide)
          · exact own_blk_ne ho7x (hMx.rps i q M h1 h2).2.blk (by decide))
        have ho8y := own_off ho8x hg.off (fun k hk h => own_ne_own ho7x ho8x (by decide) k h hk)
        have hoy : Off Old w y1 := hox.step hg.off (fun i hi hl => by have := hf7.out i hi; omega)
        have ho7y : y1.ownsRow 0 27 1 (.slice g7' (j + 1) d7') (j + 1) (pts (ps ++ [P])) := by rw [show pts (ps ++ [P]) = pts ps ++ [.pointer (some ⟨P, 0, none⟩)] by simp [pts]]; exact hg.own
        have hf7y : Hid (fresh w.heap.size (.slice g7' (j + 1) d7')) := fun b hb => by
          rcases hg.mov b hb with h | h
          · exact hf7.out b h
          · have := hox.size; omega
        clear hg hpx hmx hMx ho7x ho8x hox hi hz00 hz10 hz20
        obtain ⟨i0, hi, hz00, hz10, hz20⟩ := info_parts rpinfo
        go_wp2_with (at_builtin; go_must (refine wpList_append_new rfl (.tmp 99) (.tmp 101) 26 rfl 29 i0 (.pointer none) 1 8 Try.underlying26 hi hz00 hz10 hz20 rfl (by decide) (.slice g8 j d8) j (pts qs) rfl ho8y 1 1 [.pointer (some ⟨MM, 0, none⟩)] rfl rfl (by intro u hu; simp at hu; subst hu; rfl) (by omega) (by omega) ?_))
        intro g8' d8' y2 hg
        have hpz := hpy.off hg.off (own_blk_ne ho8y hpy.blk (by decide))
        have hmz := hmy.off hg.off (own_blk_ne ho8y hmy.blk (by decide))
        have hMz := hMy.off hg.off (fun i q M h1 h2 => by
          rcases h1 with h1 | h1
          · exact own_blk_ne ho8y (hMy.pst i q M h1 h2).2.blk (by decide)
          · exact own_blk_ne ho8y (hMy.rps i q M h1 h2).2.blk (by decide))
        have ho7z := own_off ho7y hg.off (fun k hk h => own_ne_own ho8y ho7y (by decide) k h hk)
        have hoz : Off Old w y2 := hoy.step hg.off (fun i hi hl => by have := hf8.out i hi; omega)
        have ho8z : y2.ownsRow 0 29 1 (.slice g8' (j + 1) d8') (j + 1) (pts (qs ++ [MM])) := by rw [show pts (qs ++ [MM]) = pts qs ++ [.pointer (some ⟨MM, 0, none⟩)] by simp [pts]]; exact hg.own
        have hf8z : Hid (fresh w.heap.size (.slice g8' (j + 1) d8')) := fun b hb => by
          rcases hg.mov b hb with h | h
          · exact hf8.out b h
          · have := hoy.size; omega
        have hMs := hMz.snoc hpz hmz hWP.1 hWP.2
        have hMs2 : Hid ((Ms ++ [raiseIf v zero8 rl]).length = j + 1) := by show _ = _; rw [List.length_append, hMl.out]; rfl
        have hMR2 : Hid (∀ M ∈ Ms ++ [raiseIf v zero8 rl], Rng M) := fun M hm => by
          rcases List.mem_append.1 hm with h | h
          · exact hMR.out M h
          · rw [List.mem_singleton] at h; subst h; exact hRv.out
        clear hg hpy hmy hMy ho7y ho8y hoy hMz hpz hmz
        go_wp2_with fail
        go_roundw
        case rel => exact ⟨j + 1, d7', d8', g7', g8', _, _, _, by go_num, by omega, hMs2, by simp, by simp, ho7z, ho8z, hf7y, hf8z, hMs, hMR2, hoz⟩
        case measure => simp [intOf]; omega
      · obtain rfl : j = rs.length := by omega
        have hRN : Hid (Rng (mergeAll zero8 Ms)) := Rng.zero.mergeAll hMR.out
        have hs7 := (own_sl2 ho7).2.2
        have hs8 := (own_sl2 ho8).2.2
        have hb7 : Hid (∀ q, g7 = some q → q.block < wr.heap.size) := fun q e => by subst e; exact own_lt ho7 (k := q.block) rfl
        have hb8 : Hid (∀ q, g8 = some q → q.block < wr.heap.size) := fun q e => by subst e; exact own_lt ho8 (k := q.block) rfl
        have hz0 := ho.size
        go_wp2_with (go_at_call 12; refine new_c _ _ ?_)
        intro w1 hp0 ho1 hz1
        clear hz1
        have hbm := Blk.new w1 #[.int .i64 0, .int .i64 0, .int .i64 0, .int .i64 0, .int .i64 0, .int .i64 0, .int .i64 0, .int .i64 0, .int .i64 0] 32
        have hoA : Off Old w1 (w1.alloc (.cells #[.int .i64 0, .int .i64 0, .int .i64 0, .int .i64 0, .int .i64 0, .int .i64 0, .int .i64 0, .int .i64 0, .int .i64 0] 32)) := (Off.refl _ _).alloc _
        have hm : Rps (w1.alloc (.cells #[.int .i64 0, .int .i64 0, .int .i64 0, .int .i64 0, .int .i64 0, .int .i64 0, .int .i64 0, .int .i64 0, .int .i64 0] 32)) w1.heap.size zero8 := ⟨hbm, rfl⟩
        have hp := hp0.old hoA
        have hoB := ho1.trans hoA
        have hMB := hM.old hoB
        have hs7 := hs7.old hoB
        have hs8 := hs8.old hoB
        have hzB := hoB.size
        have hplt := hp0.blk.lt
        have hmlt := hm.blk.lt
        have hlp : Hid (ps.length = rs.length) := hM.lp.trans hMl.out
        have hlq : Hid (qs.length = rs.length) := hM.lq.trans hMl.out
        have hlt9 : Hid (∀ (i q : Nat) (M : List Int), (ps[i]? = some q ∨ qs[i]? = some q) → Ms[i]? = some M → q < wr.heap.size) := fun i q M h1 h2 => hM.lt h1 h2
        go_wp2_with fail
        generalize hP : wr.heap.size = P at *
        generalize hMM : w1.heap.size = MM at *
        generalize hw2 : w1.alloc (.cells #[.int .i64 0, .int .i64 0, .int .i64 0, .int .i64 0, .int .i64 0, .int .i64 0, .int .i64 0, .int .i64 0, .int .i64 0] 32) = w2 at *
        clear hP hMM hw2 hbm hoA hM ho7 ho8 hp0
        have hc1 : Hid (∀ q, g8 = some q → qs ≠ [] → q.block ≠ MM) := fun q e _ => by have := hb8.out q e; omega
        have hc2 : Hid (∀ (i q : Nat) (M : List Int), qs[i]? = some q → Ms[i]? = some M → q ≠ MM ∧ Rps w2 q M) := fun i q M h1 h2 => ⟨by have := hlt9.out i q M (.inr h1) h2; omega, (hMB.rps i q M h1 h2).2⟩
        have hc3 : Hid (Ms.length = qs.length) := hMB.lq.symm
        go_wp2_with (go_at_call 20; go_must (refine rmerge_c MM zero8 g8 _ d8 qs Ms _ hlq.out hm hs8 hc1.out hc3.out hc2.out (by omega) _ ?_))
        intro w3 hm3 e3
        have hPM : Hid (P ≠ MM) := by show _ ≠ _; omega
        have hp3 := hp.off e3 hPM.out
        have hM3 := hMB.off e3 (fun i q M h1 h2 e => by have := hlt9.out i q M h1 h2; omega)
        have hs73 := hs7.off e3 (fun q e _ h => by have := hb7.out q e; omega)
        have hc4 : Hid (∀ q, g7 = some q → ps ≠ [] → q.block ≠ P) := fun q e _ => by have := hb7.out q e; omega
        have hc5 : Hid (∀ (i q : Nat) (M : List Int), ps[i]? = some q → Ms[i]? = some M → q ≠ P ∧ Pst w3 q M) := fun i q M h1 h2 => ⟨by have := hlt9.out i q M (.inl h1) h2; omega, (hM3.pst i q M h1 h2).2⟩
        have hc6 : Hid (Ms.length = ps.length) := hM3.lp.symm
        have hWPM : Hid (w.heap.size ≤ P ∧ w.heap.size ≤ MM) := ⟨by omega, by omega⟩
        have hoD : Off Old w w3 := (ho.trans hoB).step e3 (fun i hi hl => by have := hWPM.out; omega)
        clear hm hp hMB hs7 hs8 e3 ho hoB hc1 hc2 hc3 hb8
        go_wp2_with (go_at_call 21; go_must (refine merge_l P zero8 g7 _ d7 ps Ms _ hlp.out hp3 hs73 hc4.out hc6.out hc5.out (by omega) _ ?_))
        intro w4 hp4 e4
        have hm4 := hm3.off e4 (fun h => hPM.out h.symm)
        have hoE : Off Old w w4 := hoD.step e4 (fun i hi hl => by have := hWPM.out; omega)
        clear hm3 hp3 hM3 hs73 hc4 hc5 hc6 e4 hoD hlt9 hlp hlq hb7 hMl hMR hf7 hf8
        obtain ⟨NN, hNN⟩ : ∃ NN, Hid (mergeAll zero8 Ms = NN) := ⟨_, rfl⟩
        rw [hNN.out] at hp4 hm4 hRN
        go_wp2_with (go_at_call 18; go_must (refine same_c P MM NN NN rfl _ hp4 hm4 _ ?_))
        intro w5 e5
        have hp5 := hp4.old e5
        have hm5 := hm4.old e5
        have hoF := hoE.trans e5
        clear hp4 hm4 hoE e5
        go_wp2_with (go_at_call 22; go_must (refine copy_c P NN _ hp5 _ ?_))
        intro w6 C hC hc6 e6
        have hp6 := hp5.old e6
        have hm6 := hm5.old e6
        have hoG := hoF.trans e6
        have hd9 : Hid (C ≠ P ∧ C ≠ MM ∧ w.heap.size ≤ C ∧ C < w6.heap.size) := by
          have h1 := hp5.blk.lt; have h2 := hm5.blk.lt; have h3 := hoF.size
          exact ⟨by omega, by omega, by omega, hc6.blk.lt⟩
        clear hp5 hm5 hoF e6 hC
        go_wp2_with (go_at_call 24; go_must (refine newWriter_c _ _ ?_))
        intro w7 hw7 e7 hz7
        clear hz7
        have hpl := hp6.blk.lt
        have hml := hm6.blk.lt
        have hp7 := hp6.old e7
        have hm7 := hm6.old e7
        have hc7 := hc6.old e7
        have hz7 := e7.size
        have hg7 := hoG.size
        have hHS : Hid (w.heap.size ≤ w6.heap.size) := hg7
        generalize hpw : w6.heap.size = pw at *
        clear hpw
        have hoH := hoG.trans e7
        clear hp6 hm6 hc6 hoG e7
        have hNe : Hid (putNums (false, []) NN = (false, encs NN)) := by
          show _ = _
          rw [putNums_ok NN (false, []) (List.all_eq_true.1 hRN.out.ok)]
          simp
        have hNl : Hid ((encs NN).length ≤ 72) := by
          show _ ≤ _
          have h1 := encs_len NN (List.all_eq_true.1 hRN.out.ok)
          rw [hRN.out.1] at h1
          omega
        have hne : P ≠ pw := by omega
        have hd10 : Hid (MM ≠ pw ∧ C ≠ pw ∧ w.heap.size ≤ pw) := ⟨by omega, by have := hd9.out; omega, hHS.out⟩
        go_wp2_with (go_at_call 23; go_must (refine pwrite_c P NN pw false none 0 [] _ hp7 hw7 hne (by simp) (by simp) _ ?_))
        rw [hNe.out]
        intro w8 g8 d8 hw8 hst
        have hp8 := hp7.off hst.off (by rintro (h | h); exact hne h; simp at h)
        have hm8 := hm7.off hst.off (by rintro (h | h); exact hd10.out.1 h; simp at h)
        have hc8 := hc7.off hst.off (by rintro (h | h); exact hd10.out.2.1 h; simp at h)
        have hoI : Off Old w w8 := hoH.step hst.off (by
          rintro i (h | h) hi
          · have := hd10.out; omega
          · simp at h)
        clear hst hp7 hm7 hc7 hw7 hoH
        go_wp2_with (go_at_call 25; go_must (refine done_a pw (false, encs NN) g8 d8 _ hw8 (by have := hNl.out; dsimp only; omega) _ ?_))
        rw [show outOf (false, encs NN) = (encs NN, 0) from rfl]
        intro w9 ga na da hA
        dsimp only at hA
        have hp9 := hp8.old hA.off
        have hm9 := hm8.old hA.off
        have hc9 := hc8.old hA.off
        have hoJ := hoI.trans hA.off
        clear hw8 hp8 hm8 hc8 hoI
        have hOO : Hid (outOf (put4 NN [] [] []) = (encs NN, 0)) := by show _ = _; rw [put4_nil, hNe.out]; rfl
        go_wp2_with (go_at_call 27; go_must (refine rbytes_c MM NN _ hm9 _ ?_))
        rw [hOO.out]
        intro w10 gb nb db hB
        dsimp only at hB
        have hA10 := hA.old hB.off
        have hp10 := hp9.old hB.off
        have hm10 := hm9.old hB.off
        have hc10 := hc9.old hB.off
        have hoK := hoJ.trans hB.off
        clear hA hp9 hm9 hc9 hoJ
        have hdd : Hid (decide (encs NN = encs NN) = true) := by show _ = _; simp
        have lenA := Lib.hid hA10.len
        have lenB := Lib.hid hB.len
        go_wp2_with (go_at_call 26; go_must (refine sameBytes_b true ga gb na nb da db (encs NN) (encs NN) _ hdd.out lenA.out.symm lenB.out.symm hA10.sl hB.sl (by have := hNl.out; omega) _ ?_))
        intro w11 hdr
        have hof := hdr.off (S := Old)
        have hp11 := hp10.old hof
        have hm11 := hm10.old hof
        have hc11 := hc10.old hof
        have hoL := hoK.trans hof
        clear hA10 hB hp10 hm10 hc10 hoK hdr hof hdd lenA lenB hOO hNe hNl
        obtain ⟨v, hv⟩ : ∃ v, Hid (ask.all Nm.ok = v) := ⟨_, rfl⟩
        have hsk := s1.old hoL
        have hal : Hid (∀ q, a1 = some q → ask ≠ [] → q.block < w.heap.size) := fun q e hn => s1.lt e (nms_ne hn)
        have hcl1 : Hid (∀ q, a1 = some q → ask ≠ [] → q.block ≠ C) := fun q e hn => by have := hal.out q e hn; have := hd9.out; omega
        have hcl2 : Hid (∀ q, a1 = some q → ask ≠ [] → q.block ≠ MM) := fun q e hn => by have := hal.out q e hn; have := hWPM.out; omega
        obtain ⟨n, hn⟩ : ∃ n, Hid (ask.length = n) := ⟨_, rfl⟩
        have hcn : Hid (n ≤ 1000) := by show _ ≤ _; rw [← hn.out]; exact hak
        go_wp2_with (go_at_call 16; go_must (refine raise_g C NN v a1 _ c1 ask _ rfl hv.out hc11 hsk hcl1.out (by omega) _ ?_))
        intro w13 hc13 e13
        have hp13 := hp11.off e13 (fun h => hd9.out.1 h.symm)
        have hm13 := hm11.off e13 (fun h => hd9.out.2.1 h.symm)
        have hoM : Off Old w w13 := hoL.step e13 (fun i hi hl => by have := hd9.out; omega)
        clear hp11 hm11 hc11 e13 hoL hsk
        cases v
        · have hp14 := hp13
          have hm14 := hm13
          have hc14 := hc13
          have hoN := hoM
          clear hp13 hm13 hc13 hoM
          have hE : (errIf false == 0) = false := rfl
          go_wp2_with (go_at_call 18; go_must (refine same_c P MM NN NN rfl _ hp14 hm14 _ ?_))
          intro w15 e15
          have hp15 := hp14.old e15
          have hm15 := hm14.old e15
          have hc15 := hc14.old e15
          have hoO := hoN.trans e15
          clear hp14 hm14 hc14 hoN e15
          go_wp2_with fail
          go_loopw [18] (fun i wr => ∃ j : Nat, i = .int .i64 j ∧ j ≤ ask.length ∧ Off Old w15 wr) (fun i _ => ask.length - (intOf i).toNat)
          case atStart => exact ⟨0, rfl, Nat.zero_le _, Off.refl _ _⟩
          case round =>
            obtain ⟨j, rfl, hj, ho⟩ := hrel
            have hp16 := hp15.old ho
            have hm16 := hm15.old ho
            have hs16 := s1.old (hoO.trans ho)
            by_cases hlt : j < ask.length
            · obtain ⟨x, hx⟩ := at_of_lt hlt
              obtain ⟨b2, o2, ix2, Q2, _⟩ := hs16.ixn c1
              obtain ⟨cx1, cx2⟩ := Q2.out j x hx.out
              have hk0 : wr.drew.cell? ⟨b2, o2 + j * 2, none⟩ = some (.int .i64 x.c) ∧ wr.drew.cell? ⟨b2, o2 + j * 2 + 1, none⟩ = some (.int .i64 x.n) := ⟨cx1, cx2⟩
              have hpD := hp16.old (Off.refl Old wr).drew
              have hmD := hm16.old (Off.refl Old wr).drew
              obtain ⟨u, hu⟩ : ∃ u, Hid ((x.ok && decide (x.n ≤ ofN NN x.c)) = u) := ⟨_, rfl⟩
              have huu : (u != u) = false := by simp
              go_wp2_with fail
              (go_region_held3 (fun w' => w'.cell? ⟨b2, o2 + j * 2, none⟩ = some (.int .i64 x.c) ∧ w'.cell? ⟨b2, o2 + j * 2 + 1, none⟩ = some (.int .i64 x.n)) (first | exact hk0 | exact hk1 | exact hk2) (first
                | (go_at_call 28; refine is_v u P NN x _ hu.out hpD _ ?_; intro x1 e1; have hk1 : x1.cell? ⟨b2, o2 + j * 2, none⟩ = some (.int .i64 x.c) ∧ x1.cell? ⟨b2, o2 + j * 2 + 1, none⟩ = some (.int .i64 x.n) := ⟨e1.cell (fun x => x) hk0.1, e1.cell (fun x => x) hk0.2⟩)
                | (go_at_call 29; refine ris_v u MM NN x _ hu.out (hmD.old e1) _ ?_; intro x2 e2; have hk2 : x2.cell? ⟨b2, o2 + j * 2, none⟩ = some (.int .i64 x.c) ∧ x2.cell? ⟨b2, o2 + j * 2 + 1, none⟩ = some (.int .i64 x.n) := ⟨e2.cell (fun x => x) hk1.1, e2.cell (fun x => x) hk1.2⟩)))
              have hoZ := (ho.drew.trans e1).trans e2
              clear hk0 hk1 hk2 e1 e2 ho
              go_wp2_with fail
              go_roundw
              case rel => exact ⟨j + 1, by go_num, by omega, hoZ⟩
              case measure => simp [intOf]; omega
            · obtain rfl : j = ask.length := by omega
              have hc16 := hc15.old ho
              have hoP := hoO.trans ho
              clear hp15 hm15 hc15 ho hp16 hoO
              go_wp2_with (go_at_call 17; go_must (refine rraise_g MM NN false a1 _ c1 ask _ rfl hv.out hm16 hs16 hcl2.out (by omega) _ ?_))
              intro w17 hm17 e17
              have hc17 := hc16.off e17 hd9.out.2.1
              have hoQ : Off Old w w17 := hoP.step e17 (fun i hi hl => by have := hWPM.out; omega)
              clear hc16 hm16 e17 hoP
              go_wp2_with (go_at_call 18; go_must (refine same_c C MM _ _ rfl _ hc17 hm17 _ ?_))
              intro w18 e18
              go_wp2_with (go_at_call 11; refine awake17_c _ _ ?_)
              intro w19 e19
              have HF := HK.out _ ((hoQ.trans e18).trans e19)
              clear HK
              go_wp2_with fail
              exact HF
        · have hE : (errIf true == 0) = true := rfl
          have hsk := s1.old hoM
          go_wp2_with (go_at_call 15; go_must (refine all_g true a1 _ c1 ask _ rfl hv.out hsk (by omega) _ ?_))
          intro w14 e14
          have hp14 := hp13.old e14
          have hm14 := hm13.old e14
          have hc14 := hc13.old e14
          have hoN := hoM.trans e14
          clear hp13 hm13 hc13 hoM e14 hsk
          go_wp2_with (go_at_call 18; go_must (refine same_c P MM NN NN rfl _ hp14 hm14 _ ?_))
          intro w15 e15
          have hp15 := hp14.old e15
          have hm15 := hm14.old e15
          have hc15 := hc14.old e15
          have hoO := hoN.trans e15
          clear hp14 hm14 hc14 hoN e15
          go_wp2_with fail
          go_loopw [18] (fun i wr => ∃ j : Nat, i = .int .i64 j ∧ j ≤ ask.length ∧ Off Old w15 wr) (fun i _ => ask.length - (intOf i).toNat)
          case atStart => exact ⟨0, rfl, Nat.zero_le _, Off.refl _ _⟩
          case round =>
            obtain ⟨j, rfl, hj, ho⟩ := hrel
            have hp16 := hp15.old ho
            have hm16 := hm15.old ho
            have hs16 := s1.old (hoO.trans ho)
            by_cases hlt : j < ask.length
            · obtain ⟨x, hx⟩ := at_of_lt hlt
              obtain ⟨b2, o2, ix2, Q2, _⟩ := hs16.ixn c1
              obtain ⟨cx1, cx2⟩ := Q2.out j x hx.out
              have hk0 : wr.drew.cell? ⟨b2, o2 + j * 2, none⟩ = some (.int .i64 x.c) ∧ wr.drew.cell? ⟨b2, o2 + j * 2 + 1, none⟩ = some (.int .i64 x.n) := ⟨cx1, cx2⟩
              have hpD := hp16.old (Off.refl Old wr).drew
              have hmD := hm16.old (Off.refl Old wr).drew
              obtain ⟨u, hu⟩ : ∃ u, Hid ((x.ok && decide (x.n ≤ ofN NN x.c)) = u) := ⟨_, rfl⟩
              have huu : (u != u) = false := by simp
              go_wp2_with fail
              (go_region_held3 (fun w' => w'.cell? ⟨b2, o2 + j * 2, none⟩ = some (.int .i64 x.c) ∧ w'.cell? ⟨b2, o2 + j * 2 + 1, none⟩ = some (.int .i64 x.n)) (first | exact hk0 | exact hk1 | exact hk2) (first
                | (go_at_call 28; refine is_v u P NN x _ hu.out hpD _ ?_; intro x1 e1; have hk1 : x1.cell? ⟨b2, o2 + j * 2, none⟩ = some (.int .i64 x.c) ∧ x1.cell? ⟨b2, o2 + j * 2 + 1, none⟩ = some (.int .i64 x.n) := ⟨e1.cell (fun x => x) hk0.1, e1.cell (fun x => x) hk0.2⟩)
                | (go_at_call 29; refine ris_v u MM NN x _ hu.out (hmD.old e1) _ ?_; intro x2 e2; have hk2 : x2.cell? ⟨b2, o2 + j * 2, none⟩ = some (.int .i64 x.c) ∧ x2.cell? ⟨b2, o2 + j * 2 + 1, none⟩ = some (.int .i64 x.n) := ⟨e2.cell (fun x => x) hk1.1, e2.cell (fun x => x) hk1.2⟩)))
              have hoZ := (ho.drew.trans e1).trans e2
              clear hk0 hk1 hk2 e1 e2 ho
              go_wp2_with fail
              go_roundw
              case rel => exact ⟨j + 1, by go_num, by omega, hoZ⟩
              case measure => simp [intOf]; omega
            · obtain rfl : j = ask.length := by omega
              have hc16 := hc15.old ho
              have hoP := hoO.trans ho
              clear hp15 hm15 hc15 ho hp16 hoO
              go_wp2_with (go_at_call 17; go_must (refine rraise_g MM NN true a1 _ c1 ask _ rfl hv.out hm16 hs16 hcl2.out (by omega) _ ?_))
              intro w17 hm17 e17
              have hc17 := hc16.off e17 hd9.out.2.1
              have hoQ : Off Old w w17 := hoP.step e17 (fun i hi hl => by have := hWPM.out; omega)
              clear hc16 hm16 e17 hoP
              go_wp2_with (go_at_call 18; go_must (refine same_c C MM _ _ rfl _ hc17 hm17 _ ?_))
              intro w18 e18
              go_wp2_with (go_at_call 11; refine awake17_c _ _ ?_)
              intro w19 e19
              have HF := HK.out _ ((hoQ.trans e18).trans e19)
              clear HK
              go_wp2_with fail
              exact HF
end Go.Proofs.Ytfllejlooaipiaa
