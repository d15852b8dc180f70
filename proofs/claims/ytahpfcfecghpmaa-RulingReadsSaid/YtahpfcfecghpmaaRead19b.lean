/- A book is read, by the program. -/
import Derived.Test.YtahpfcfecghpmaaBkPure
import Derived.Test.YtahpfcfecghpmaaOne19
import Derived.Test.YtahpfcfecghpmaaOrd
import Derived.KernelRfl
namespace Go.Proofs.Ytahpfcfecghpmaa
open Go.RowKit
set_option linter.unusedSimpArgs false

set_option maxRecDepth 100000 in
theorem failed_c (B p bb : Nat) (s : RS) (V : Bool) (hV : Hid ((!s.isSome) = V)) (w : World) (hc : w.cell? ⟨B, 0, none⟩ = some (.pointer (some ⟨p, 0, none⟩))) (h : Rd w p bb s) (R : Ending → World → Prop) (k : R (.returned (.bool V)) w) :
    Calls Try.prog 60 #[.pointer (some ⟨B, 0, none⟩)] w R := by
  have HK := Lib.hid k; clear k
  cases s with
  | none =>
    have hv := hV.out
    simp at hv
    subst hv
    go_enter Try.func60, Try.ntmps60
    go_wp2_with (first | (go_at_call 35; refine left_c p bb none _ h _ ?_) | (go_at_call 61; refine end_c p bb none _ h _ ?_))
    exact HK.out
  | some l =>
    have hv := hV.out
    simp at hv
    subst hv
    cases l with
    | nil =>
      go_enter Try.func60, Try.ntmps60
      go_wp2_with (first | (go_at_call 35; refine left_c p bb (some []) _ h _ ?_) | (go_at_call 61; refine end_c p bb (some []) _ h _ ?_))
      exact HK.out
    | cons x xs =>
      go_enter Try.func60, Try.ntmps60
      go_wp2_with (first | (go_at_call 35; refine left_c p bb (some (x :: xs)) _ h _ ?_) | (go_at_call 61; refine end_c p bb (some (x :: xs)) _ h _ ?_))
      exact HK.out
set_option maxRecDepth 100000 in
set_option maxHeartbeats 2000000 in
theorem bkRead_c (p bb : Nat) (s : RS) (w : World) (h : Rd w p bb s) (hbb : bb < w.heap.size) (bd : rsLen s ≤ 1000000) (O : Option (List Vd) × RS) (hO : Hid (rdBk s = O)) (R : Ending → World → Prop)
    (k1 : O.1 = none → ∀ w', Rd w' p bb O.2 → Off (fun k => k = p) w w' → R (.returned (.tuple #[.pointer none, .bool false])) w')
    (k2 : ∀ L, O.1 = some L → ∀ w' q g d r l, Bk w' q g d r l → Hid (l.map Ve.x = L) → Rd w' p bb O.2 → Off (fun k => k = p) w w' → (∀ k, BkOwn q g r l k → w.heap.size ≤ k) → R (.returned (.tuple #[.pointer (some ⟨q, 0, none⟩), .bool true])) w') :
    Calls Try.prog 33 #[.pointer (some ⟨p, 0, none⟩)] w R := by
  have K1 := Lib.hid k1; clear k1
  have K2 := Lib.hid k2; clear k2
  have hp := h.lt
  obtain ⟨s1, e1⟩ : ∃ x, Hid ((rdNum 1073741824 s).2 = x) := ⟨_, rfl⟩
  obtain ⟨M0, h1⟩ : ∃ N, Hid ((rdNum 1073741824 s).1 = N) := ⟨_, rfl⟩
  have hM := rdNum_ge 1073741824 s
  rw [h1.out] at hM
  obtain ⟨M, rfl⟩ := Int.eq_ofNat_of_zero_le hM.1
  have hMb : M ≤ 1073741824 := by have := hM.2; omega
  clear hM
  have hO1 : Hid (rdBook M [] s1 = O) := by
    show _ = _
    rw [← hO.out, rdBk, h1.out, e1.out, Int.toNat_natCast]
  have hl1 : rsLen s1 ≤ 1000000 := by have a1 := rdNum_len 1073741824 s; rw [e1.out] at a1; omega
  have hbox := Blk.new w #[.pointer (some ⟨p, 0, none⟩)] 69
  have hal := (Off.refl Old w).alloc (.cells #[.pointer (some ⟨p, 0, none⟩)] 69)
  go_enter Try.func33, Try.ntmps33
  go_wp2_with (go_at_call 8; go_must (refine new_c _ _ ?_))
  intro w1 q r hB ho1 hq hr
  have hq : w.heap.size < q := by omega
  have hr : w.heap.size < r := by omega
  have hbox1 := hbox.old ho1
  have c0 := hbox1.cell (i := 0) rfl
  have hrd1 := (h.old hal).old ho1
  have ho1 := hal.trans ho1
  go_wp2_with (go_at_call 62; go_must (refine number_n p bb s 1073741824 (M : Int) h1 _ hrd1 _ ?_))
  rw [e1.out]
  intro w2 r2 o2
  have hO2 : Off (fun k => k = p) w w2 := (ho1.mono (fun _ x _ => x.elim)).trans o2
  have hB2 : Bk w2 q none 0 r [] := hB.off o2 (fun k hk => by
    rcases hk with rfl | hk | rfl | ⟨e, he, _⟩
    · omega
    · cases hk
    · omega
    · cases he)
  have hbox2 := hbox1.off o2 (by omega)
  have hf0 : ∀ k, BkOwn q none r [] k → w.heap.size < k := fun k hk => by
    rcases hk with rfl | hk | rfl | ⟨e, he, _⟩
    · omega
    · cases hk
    · omega
    · cases he
  clear c0 hbox1 hrd1 ho1 o2 hB hbox
  go_wp2_with fail
  go_loopw [6, 7, 8, 9, 10, 15] (fun _ _ _ _ _ i wr => ∃ (j : Nat) (g : Option Addr) (d : Nat) (l : List Ve) (s' : RS), i = .int .i64 j ∧ j ≤ M ∧ Bk wr q g d r l ∧ Rd wr p bb s' ∧ Hid (rdBook (M - j) (l.map Ve.x) s' = O) ∧ l.length + rsLen s' ≤ 1000000 ∧ Off (fun k => k = p) w wr ∧ (∀ k, BkOwn q g r l k → w.heap.size < k) ∧ Blk wr w.heap.size [.pointer (some ⟨p, 0, none⟩)] 69) (fun _ _ _ _ _ i _ => M - (intOf i).toNat)
  case atStart => exact ⟨0, none, 0, [], s1, rfl, by omega, hB2, r2, hO1, by simpa using hl1, hO2, hf0, hbox2⟩
  case round =>
    clear hB2 r2 hO1 hO2 hbox2
    obtain ⟨j, g, d, l, s', rfl, hj, hB, hrd, hOr, hlen, ho, hfr, hbox⟩ := hrel
    have c0 := hbox.cell (i := 0) rfl
    have hpl := hrd.lt
    have hzr := ho.size
    by_cases hlt : j < M
    · obtain ⟨n, hn⟩ : ∃ n, Hid (M - j = n + 1) := ⟨M - j - 1, by show _ = _; omega⟩
      have hn2 : Hid (M - (j + 1) = n) := by have := hn.out; show _ = _; omega
      have hvb := rdVd_b s'
      have hvl := rdVd_lt s'
      obtain ⟨X, hX⟩ : ∃ X, Hid ((rdVd s').1 = X) := ⟨_, rfl⟩
      obtain ⟨s3, e3⟩ : ∃ X, Hid ((rdVd s').2 = X) := ⟨_, rfl⟩
      rw [hX.out] at hvb
      rw [e3.out] at hvl
      have hvl := Lib.hid hvl
      have hxb : i64B X.c ∧ i64B X.n := ⟨⟨by omega, by omega⟩, ⟨by omega, by omega⟩⟩
      have hxt : i64B X.at_ := ⟨by omega, by omega⟩
      have hst : Hid (O = if s3.isSome && !((l.map Ve.x).any (sameName X)) && (dec (l.map Ve.x) X).1.isSome then rdBook n (dec (l.map Ve.x) X).2 s3 else (none, s3)) := by
        show _ = _
        rw [← hOr.out, hn.out, rdBook, hX.out, e3.out]
      clear hvb
      go_wp2_with (go_at_call 63; go_must (refine one_c p bb s' _ hrd (by omega) (by omega) _ ?_))
      rw [hX.out, e3.out]
      intro w3 a3 m3 d3 r3 v3 hm3 o3 f3
      have hpo : ∀ k, BkOwn q g r l k → ¬ k = p := fun k hk e => by have := hfr k hk; omega
      have hal3 : Off Old w3 (w3.alloc (.cells #[.int .i64 X.c, .int .i64 X.n, .bool X.commit, .int .i64 X.at_, .slice a3 m3 d3] 38)) := (Off.refl _ _).alloc _
      have hB3 := (hB.off o3 hpo).old hal3
      have hX3 := (Blk.new w3 #[.int .i64 X.c, .int .i64 X.n, .bool X.commit, .int .i64 X.at_, .slice a3 m3 d3] 38)
      have hbx3 := (hbox.off o3 (by omega)).old hal3
      have hr3 := r3.old hal3
      have hv3 := v3.old hal3
      have hO3 : Off (fun k => k = p) w (w3.alloc (.cells #[.int .i64 X.c, .int .i64 X.n, .bool X.commit, .int .i64 X.at_, .slice a3 m3 d3] 38)) := (ho.trans o3).trans (hal3.mono (fun _ x _ => x.elim))
      have hz3 := o3.size
      have hlm : l.length ≤ 1000000 := by omega
      cases hfd : (l.map Ve.x).any (sameName X) with
      | true =>
        obtain ⟨y, hy, hyx⟩ := List.any_eq_true.1 hfd
        obtain ⟨f, hf, rfl⟩ := List.mem_map.1 hy
        obtain ⟨i, hi⟩ := List.getElem?_of_mem hf
        simp only [sameName, decide_eq_true_eq] at hyx
        have hH := Lib.hid hyx
        have hI := Lib.hid hi
        have hON : Hid (O = (none, s3)) := by
          show _ = _; rw [hst.out, hfd]; simp
        clear hyx hi hy hf hfd hst hOr c0
        go_wp2_with (go_at_call 22; go_must (refine bkOf_yes q g d r l X.c X.n i f _ hB3 hI.out hH.out.1 hH.out.2 _ ?_))
        intro w4 a4 m4 d4 v4 hm4 o4 f4
        unfold vdV
        have hON2 := hON.out
        have HF := K1.out (by rw [hON2]) (w4.alloc (.cells #[.int .i64 f.x.c, .int .i64 f.x.n, .bool f.x.commit, .int .i64 f.x.at_, .slice a4 m4 d4] 38)) (by rw [hON2]; exact (hr3.old o4).old ((Off.refl _ _).alloc _)) ((hO3.trans (o4.mono (fun _ x _ => x.elim))).alloc _)
        clear K1 K2 hON2
        go_wp2_with fail
        exact HF
      | false =>
        have hno := Lib.hid (fun (f : Ve) (hf : f ∈ l) => show ¬ (f.x.c = X.c ∧ f.x.n = X.n) from fun hn => by
          have h1 := List.any_eq_false.1 hfd f.x (List.mem_map.2 ⟨f, hf, rfl⟩)
          simp [sameName, hn.1, hn.2] at h1)
        have hfd := Lib.hid hfd
        rename_i hfd0
        clear hfd0 hOr c0
        go_wp2_with (go_at_call 22; go_must (refine bkOf_no q g d r l X.c X.n _ hB3 hxb.1 hxb.2 hno.out _ ?_))
        intro w4 o4
        unfold vd0
        have hal4 : Off Old w4 (w4.alloc (.cells #[.int .i64 0, .int .i64 0, .bool false, .int .i64 0, .slice none 0 0] 38)) := (Off.refl _ _).alloc _
        have hXa := hX3.old o4
        have hxz := hXa.lt
        have o4 := o4.trans hal4
        have hB4 := hB3.old o4
        have hX4 := hX3.old o4
        have hbx4 := hbx3.old o4
        have hr4 := hr3.old o4
        have hv4 := hv3.old o4
        have hO4 := hO3.trans (o4.mono (S' := fun k => k = p) (fun _ x _ => x.elim))
        have c4 := hbx4.cell (i := 0) rfl
        cases hs3 : s3.isSome with
        | false =>
          have hON : Hid (O = (none, s3)) := by
            show _ = _; rw [hst.out, hs3]; simp
          have hON2 := hON.out
          have HF := K1.out (by rw [hON2]) _ (by rw [hON2]; exact hr4) hO4
          have hV : Hid ((!s3.isSome) = true) := by show _ = _; rw [hs3]; rfl
          clear K1 K2 hON2 hs3
          go_wp2_with (go_at_call 60; go_must (refine failed_c w.heap.size p bb s3 true hV _ c4 hr4 _ ?_))
          exact HF
        | true =>
          have hV : Hid ((!s3.isSome) = false) := by show _ = _; rw [hs3]; rfl
          have hs3 := Lib.hid hs3
          rename_i hs30
          clear hs30
          have x0 := hXa.cell (i := 0) rfl
          have x1 := hXa.cell (i := 1) rfl
          have x2 := hXa.cell (i := 2) rfl
          have x3 := hXa.cell (i := 3) rfl
          have x4 := hXa.cell (i := 4) rfl
          have hap : X.reads ≠ [] → ∀ k, a3 = some k → ¬ BkS q g r k.block := fun _ k hk hS => by
            have h1 := f3 k hk
            have h2 := hB.lt (k := k.block) (by rcases hS with h | h | h; exact .inl h; exact .inr (.inl h); exact .inr (.inr (.inl h)))
            omega
          go_wp2_with (first | (go_at_call 60; go_must (refine failed_c w.heap.size p bb s3 false hV _ c4 hr4 _ ?_)) | (go_at_call 15; go_must (refine bkDecide_c q g d r l ⟨X, a3, d3⟩ m3 hm3 _ hB4 hv4 hxb hxt hap hlm _ ?_)))
          intro w5 g5 d5 l5 a5 m5 c5 hB5 hl5 hv5 hm5 o5 hmv5 hfr5 hen5
          unfold vdV
          obtain ⟨E, hE⟩ : ∃ E, Hid ((dec (l.map Ve.x) X).1.isSome = E) := ⟨_, rfl⟩
          have hnp : ¬ BkS q g r p := fun hS => by
            have := hfr p (by rcases hS with h | h | h; exact .inl h; exact .inr (.inl h); exact .inr (.inr (.inl h)))
            omega
          have hnb : ¬ BkS q g r bb := fun hS => by
            have := hfr bb (by rcases hS with h | h | h; exact .inl h; exact .inr (.inl h); exact .inr (.inr (.inl h)))
            omega
          have hnx : ¬ BkS q g r w.heap.size := fun hS => by
            have := hfr w.heap.size (by rcases hS with h | h | h; exact .inl h; exact .inr (.inl h); exact .inr (.inr (.inl h)))
            omega
          have hr5 := hr4.off o5 hnp hnb
          have hbx5 := hbx4.off o5 hnx
          have hz5 := o5.size
          have hO5 : Off (fun k => k = p) w w5 := hO4.step o5 (fun i hi hl => by
            have := hfr i (by rcases hi with h | h | h; exact .inl h; exact .inr (.inl h); exact .inr (.inr (.inl h)))
            omega)
          have hal5 : Off Old w5 (w5.alloc (.cells #[.int .i64 (decV (l.map Ve.x) X).c, .int .i64 (decV (l.map Ve.x) X).n, .bool (decV (l.map Ve.x) X).commit, .int .i64 (decV (l.map Ve.x) X).at_, .slice a5 m5 c5] 38)) := (Off.refl _ _).alloc _
          have hz4 := hO4.size
          cases E with
          | false =>
            have hee : decE (l.map Ve.x) X = 2 := by simp [decE, hE.out]
            have hON : Hid (O = (none, s3)) := by
              show _ = _; rw [hst.out, hE.out]; simp
            have hON2 := hON.out
            have HF := K1.out (by rw [hON2]) _ (by rw [hON2]; exact hr5.old hal5) (hO5.trans (hal5.mono (fun _ x _ => x.elim)))
            rw [hee]
            clear K1 K2 hON2 hee x0 x1 x2 x3 x4 c4
            go_wp2_with fail
            exact HF
          | true =>
            have hee : decE (l.map Ve.x) X = 0 := by simp [decE, hE.out]
            have hOR : Hid (rdBook (M - (j + 1)) (l5.map Ve.x) s3 = O) := by
              show _ = _; rw [hst.out, hE.out, hs3.out, hfd.out, hn2.out, hl5.out]; simp
            have hlen5 : l5.length + rsLen s3 ≤ 1000000 := by
              have h1 := dec_len (l.map Ve.x) X
              have h2 := congrArg List.length hl5.out
              simp only [List.length_map] at h1 h2
              have h3 := hvl.out (hs3.out)
              omega
            have hfr6 : ∀ k, BkOwn q g5 r l5 k → w.heap.size < k := fun k hk => by
              rcases hk with h1 | h1 | h1 | ⟨f, hf, hne, h1⟩
              · exact hfr k (.inl h1)
              · rcases hmv5 k h1 with h2 | h2
                · exact hfr k (.inr (.inl h2))
                · have := hO4.size; have := hbx4.lt; omega
              · exact hfr k (.inr (.inr (.inl h1)))
              · rcases hen5 f hf with h2 | h2
                · exact hfr k (.inr (.inr (.inr ⟨f, h2, hne, h1⟩)))
                · obtain ⟨z, hz, rfl⟩ := Option.map_eq_some_iff.1 h1
                  have := h2 z hz; have := hbx4.lt; omega
            rw [hee]
            have hB6 := hB5.old hal5
            have hr6 := hr5.old hal5
            have hbx6 := hbx5.old hal5
            have hO6 := hO5.trans (hal5.mono (S' := fun k => k = p) (fun _ x _ => x.elim))
            clear hee x0 x1 x2 x3 x4 c4
            go_wp2_with fail
            go_roundw
            case rel => exact ⟨j + 1, g5, d5, l5, s3, by go_num, by omega, hB6, hr6, hOR, hlen5, hO6, hfr6, hbx6⟩
            case measure => simp [intOf]; omega
    · obtain rfl : j = M := by omega
      have hOe : Hid (O = (if s'.isSome then some (l.map Ve.x) else none, s')) := by
        show _ = _; rw [← hOr.out, Nat.sub_self]; rfl
      clear hOr
      cases hs' : s'.isSome with
      | false =>
        have hV : Hid ((!s'.isSome) = true) := by show _ = _; rw [hs']; rfl
        have hON2 := hOe.out
        rw [hs'] at hON2
        have HF := K1.out (by rw [hON2]; rfl) wr (by rw [hON2]; exact hrd) ho
        clear K1 K2 hON2 hs'
        go_wp2_with (go_at_call 60; go_must (refine failed_c w.heap.size p bb s' true hV _ c0 hrd _ ?_))
        exact HF
      | true =>
        have hV : Hid ((!s'.isSome) = false) := by show _ = _; rw [hs']; rfl
        have hON2 := hOe.out
        rw [hs'] at hON2
        have HF := K2.out (l.map Ve.x) (by rw [hON2]; rfl) wr q g d r l hB rfl (by rw [hON2]; exact hrd) ho (fun k hk => by have := hfr k hk; omega)
        clear K1 K2 hON2 hs'
        go_wp2_with (go_at_call 60; go_must (refine failed_c w.heap.size p bb s' false hV _ c0 hrd _ ?_))
        exact HF
end Go.Proofs.Ytahpfcfecghpmaa
