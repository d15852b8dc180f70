/- A book of verdicts, by the program: all of it. -/
import Derived.Test.YtahpfcfecghpmaaBook4
import Derived.Test.YtahpfcfecghpmaaStep
import Derived.KernelRfl
namespace Go.Proofs.Ytahpfcfecghpmaa
open Go.RowKit
set_option linter.unusedSimpArgs false

def pick19 (cs : List Bool) (x : Vd) : Bool := decide (cs.length = 0) || cs.contains x.commit
def allV (cs : List Bool) (l : List Vd) : List Vd := l.filter (pick19 cs)
set_option maxRecDepth 100000 in
set_option maxHeartbeats 400000 in
theorem indexB_c (a : Option Addr) (m c : Nat) (cs : List Bool) (v V : Bool) (hV : Hid (cs.contains v = V)) (hm : cs.length = m) (w : World) (ha : Sl w a (bos cs)) (bn : m ≤ 1000000000) (R : Ending → World → Prop)
    (k1 : V = true → ∀ w' (i : Nat), Off Old w w' → R (.returned (.int .i64 i)) w') (k2 : V = false → ∀ w', Off Old w w' → R (.returned (.int .i64 (-1))) w') :
    Calls Try.prog 80 #[.slice a m c, .bool v] w R := by
  subst hm
  have K1 := Lib.hid k1; have K2 := Lib.hid k2; clear k1 k2
  go_enter Try.func80, Try.ntmps80
  go_wp2_with fail
  go_loopw [5, 8] (fun _ i wr => ∃ j : Nat, i = .int .i64 j ∧ j ≤ cs.length ∧ Off Old w wr ∧ Hid ((cs.take j).contains v = false)) (fun _ i _ => cs.length - (intOf i).toNat)
  case atStart => exact ⟨0, rfl, Nat.zero_le _, Off.refl _ _, by show _ = _; simp⟩
  case round =>
    obtain ⟨j, rfl, hj, ho, hno⟩ := hrel
    by_cases hlt : j < cs.length
    · obtain ⟨x, hx⟩ := at_of_lt hlt
      obtain ⟨b, o, ix, Q⟩ := (ha.old ho).ix1 Try.underlying23 sz_bool (n := cs.length) (by simp) c
      have cx := Q.out j _ (bos_at hx.out)
      have hix := ix j hlt
      clear ix Q
      by_cases hxv : v = x
      · have hv : V = true := by
          rw [← hV.out, hxv]
          simpa using List.mem_of_getElem? hx.out
        have HF := K1.out hv wr j ho
        have hb : (v == x) = true := by simpa using hxv
        clear K1 K2 hv hxv
        go_wp2_with fail
        exact HF
      · have hno2 : Hid ((cs.take (j + 1)).contains v = false) := by
          show _ = _
          have h1 := hno.out
          rw [List.take_add_one, hx.out]
          simp only [List.contains_eq_mem, List.mem_append, decide_eq_false_iff_not] at h1 ⊢
          simp [h1, hxv]
        have hb : (v == x) = false := by simpa using hxv
        clear hxv
        go_wp2_with fail
        go_roundw
        case rel => exact ⟨j + 1, by go_num, by omega, ho, hno2⟩
        case measure => simp [intOf]; omega
    · have hv : V = false := by
        have h1 := hno.out
        rw [List.take_of_length_le (by omega)] at h1
        rw [← hV.out]; exact h1
      have HF := K2.out hv wr ho
      clear K1 K2 hv
      go_wp2_with fail
      exact HF
theorem containsB_c (a : Option Addr) (m c : Nat) (cs : List Bool) (v V : Bool) (hV : Hid (cs.contains v = V)) (hm : cs.length = m) (w : World) (ha : Sl w a (bos cs)) (bn : m ≤ 1000000000) (R : Ending → World → Prop)
    (k : ∀ w', Off Old w w' → R (.returned (.bool V)) w') :
    Calls Try.prog 59 #[.slice a m c, .bool v] w R := by
  have HK := Lib.hid k; clear k
  go_enter Try.func59, Try.ntmps59
  go_wp2_with (go_at_call 80; refine indexB_c a m c cs v V hV hm _ ha bn _ ?_ ?_)
  · intro hv w1 i ho1
    subst hv
    have HF := HK.out w1 ho1
    clear HK
    have hi : (0 : Int) ≤ i := by omega
    go_wp2_with fail
    first | exact HF | (simp only [decide_eq_true hi]; exact HF)
  · intro hv w1 ho1
    subst hv
    have HF := HK.out w1 ho1
    clear HK
    go_wp2_with fail
    exact HF
theorem allV_take {cs : List Bool} {l : List Vd} {j : Nat} {x : Vd} (h : l[j]? = some x) : allV cs (l.take (j + 1)) = allV cs (l.take j) ++ (if pick19 cs x then [x] else []) := by
  unfold allV
  rw [List.take_add_one, List.filter_append, h]
  simp only [Option.toList_some, List.filter_cons, List.filter_nil]
set_option maxRecDepth 100000 in
set_option maxHeartbeats 3000000 in
theorem bkAll_c (p : Nat) (g : Option Addr) (d r : Nat) (l : List Ve) (a : Option Addr) (m c : Nat) (cs : List Bool) (hm : cs.length = m) (w : World) (h : Bk w p g d r l) (ha : Sl w a (bos cs)) (bn : m ≤ 1000000) (hln : l.length ≤ 1000000) (R : Ending → World → Prop)
    (k : ∀ w' l' n' g' d', Hid (l'.length = n') → w'.ownsRow 0 38 5 (.slice g' n' d') n' (vcs l') → (∀ f ∈ l', Vok w' f) → Hid (l'.map Ve.x = allV cs (l.map Ve.x)) → Off Old w w' → R (.returned (.slice g' n' d')) w') :
    Calls Try.prog 30 #[.pointer (some ⟨p, 0, none⟩), .slice a m c] w R := by
  have HK := Lib.hid k; clear k
  obtain ⟨i0, hi, hz0, hz1, hz2'⟩ := info_parts vdinfo
  have HM := Lib.hid hm; clear hm
  have c0 := h.blk.cell (i := 0) rfl
  go_enter Try.func30, Try.ntmps30
  go_wp2_with (go_at_call 37; go_must (refine bknown_c p g d r l _ h _ ?_))
  go_loopw [5, 7, 17] (fun v _ i wr => ∃ (j n' : Nat) (g' : Option Addr) (d' : Nat) (l' : List Ve), i = .int .i64 j ∧ j ≤ l.length ∧ n' ≤ j ∧ v = .slice g' n' d' ∧ Hid (l'.length = n') ∧ wr.ownsRow 0 38 5 (.slice g' n' d') n' (vcs l') ∧ (∀ f ∈ l', Vok wr f) ∧ Hid (l'.map Ve.x = allV cs ((l.map Ve.x).take j)) ∧ Off Old w wr ∧ (∀ z, g' = some z → w.heap.size ≤ z.block) ∧ (∀ f ∈ l', ∀ z, f.a = some z → f.x.reads ≠ [] → g'.map Addr.block ≠ some z.block)) (fun _ _ i _ => l.length - (intOf i).toNat)
  case atStart => exact ⟨0, 0, none, 0, [], rfl, Nat.zero_le _, Nat.zero_le _, rfl, rfl, World.ownsRow_nil _ _ _ _, by simp, rfl, Off.refl _ _, by simp, by simp⟩
  case round =>
    clear c0
    obtain ⟨j, n', g', d', l', rfl, hj, hnj, rfl, hn', hown, hv, hl', ho, hfr, hap⟩ := hrel
    by_cases hlt : j < l.length
    · obtain ⟨e, he⟩ := at_of_lt hlt
      have hB := h.old ho
      obtain ⟨b, o, ix, Q, _⟩ := ((own_sl2 hB.own).2.2).ix_ve d
      have hix := ix j hlt
      obtain ⟨x0, x1, x2, x3, x4⟩ := Q.out j e he.out
      obtain ⟨me, hme⟩ : ∃ me, Hid (e.x.reads.length = me) := ⟨_, rfl⟩
      rw [hme.out] at x4
      have hve := Lib.hid (hB.vok e (List.mem_of_getElem? he.out))
      have hal : Off Old wr (wr.alloc (.cells #[.int .i64 e.x.c, .int .i64 e.x.n, .bool e.x.commit, .int .i64 e.x.at_, .slice e.a me e.cap] 38)) := (Off.refl _ _).alloc _
      have hbx := Lib.hid (Blk.new wr #[.int .i64 e.x.c, .int .i64 e.x.n, .bool e.x.commit, .int .i64 e.x.at_, .slice e.a me e.cap] 38)
      have haA := Lib.hid ((ha.old ho).old hal)
      have htk := Lib.hid (allV_take (cs := cs) (l := l.map Ve.x) (j := j) (x := e.x) (by simp [he.out]))
      clear Q ix
      obtain ⟨P, hP⟩ : ∃ P, Hid (pick19 cs e.x = P) := ⟨_, rfl⟩
      rw [hP.out] at htk
      obtain ⟨C, hC⟩ : ∃ C, Hid (cs.contains e.x.commit = C) := ⟨_, rfl⟩
      have hPC : P = (decide (m = 0) || C) := by rw [← hP.out, pick19, HM.out, hC.out]
      by_cases hm0 : m = 0
      · have hP1 : P = true := by rw [hPC, hm0]; rfl
        subst hm0
        subst hP1
        clear hPC
        go_wp2_with (go_at_call 44; go_must (refine copied_c e me hme _ (hve.out.old hal) _ ?_))
        intro w2 a2 d2 hv2 ho2 hfr2
        have hoW : Off Old wr w2 := hal.trans ho2
        have hown2 := own_off hown hoW (fun _ _ x => x)
        have hz2 := hoW.size
        go_wp2_with (at_builtin; go_must (refine wpList_append_new rfl (.tmp 30) (.tmp 33) 22 rfl 38 i0 (.agg #[.int .i64 0, .int .i64 0, .bool false, .int .i64 0, .slice none 0 0]) 5 56 Try.underlying22 hi hz0 hz1 hz2' rfl (by decide) (.slice g' n' d') n' (vcs l') rfl hown2 1 1 [.int .i64 e.x.c, .int .i64 e.x.n, .bool e.x.commit, .int .i64 e.x.at_, .slice a2 me d2] rfl rfl (by intro u hu; simp at hu; rcases hu with rfl | rfl | rfl | rfl | rfl <;> rfl) (by omega) (by omega) ?_))
        intro g3 d3 w3 hg3
        have hfr2 : ∀ z, a2 = some z → wr.heap.size ≤ z.block := fun z hz => by have h1 := hfr2 z hz; omega
        have hgo : Off (fun k => g'.map Addr.block = some k) w2 w3 := hg3.off.mono (fun k hk _ => by rwa [own_block_eq'] at hk)
        have hmov : ∀ k, g3.map Addr.block = some k → g'.map Addr.block = some k ∨ w2.heap.size ≤ k := fun k hk => by
          have := hg3.mov k (by rw [own_block_eq']; exact hk)
          rwa [own_block_eq'] at this
        have hgw : ∀ k, g'.map Addr.block = some k → k < wr.heap.size := fun k hk => own_lt hown (by rw [own_block_eq']; exact hk)
        have hO3 : Off Old w w3 := (ho.trans hoW).step hgo (fun i hi hl => by
          obtain ⟨z, hz, rfl⟩ := Option.map_eq_some_iff.1 hi
          have := hfr z hz; omega)
        have hv3 : ∀ f ∈ l' ++ [⟨e.x, a2, d2⟩], Vok w3 f := by
          intro f hf
          rcases List.mem_append.1 hf with hf | hf
          · exact ((hv f hf).old hoW).off hgo (fun z hz hn => hap f hf z hz hn)
          · simp only [List.mem_singleton] at hf
            subst hf
            exact hv2.off hgo (fun z hz hn hk => by have := hfr2 z hz; have := hgw _ hk; omega)
        have hap3 : ∀ f ∈ l' ++ [⟨e.x, a2, d2⟩], ∀ z, f.a = some z → f.x.reads ≠ [] → g3.map Addr.block ≠ some z.block := by
          intro f hf z hz hn hk
          rcases List.mem_append.1 hf with hf | hf
          · have h9 := (hv f hf).sl.lt hz (ne_rdxs hn)
            rcases hmov _ hk with h3 | h3
            · exact hap f hf z hz hn h3
            · omega
          · simp only [List.mem_singleton] at hf
            subst hf
            have h8 := hfr2 z hz
            have h9 := hv2.sl.lt hz (ne_rdxs hn)
            rcases hmov _ hk with h3 | h3
            · have := hgw _ h3; omega
            · omega
        have hown3 : w3.ownsRow 0 38 5 (.slice g3 (n' + 1) d3) (n' + 1) (vcs (l' ++ [⟨e.x, a2, d2⟩])) := by
          have h9 := hg3.own
          have h8 := hme.out
          rw [vcs_append, show vcs [(⟨e.x, a2, d2⟩ : Ve)] = [.int .i64 e.x.c, .int .i64 e.x.n, .bool e.x.commit, .int .i64 e.x.at_, .slice a2 me d2] by simp [vcs, Ve.v, h8]]
          exact h9
        have hfr3 : ∀ z, g3 = some z → w.heap.size ≤ z.block := fun z hz => by
          rcases hmov z.block (by rw [hz]; rfl) with h3 | h3
          · obtain ⟨y, hy, hyz⟩ := Option.map_eq_some_iff.1 h3
            have := hfr y hy; omega
          · have := ho.size; omega
        have hl3 : Hid ((l' ++ [(⟨e.x, a2, d2⟩ : Ve)]).map Ve.x = allV cs ((l.map Ve.x).take (j + 1))) := by
          show _ = _
          rw [List.map_append, hl'.out, htk.out]; rfl
        have hn3 : Hid ((l' ++ [(⟨e.x, a2, d2⟩ : Ve)]).length = n' + 1) := by
          show _ = _; rw [List.length_append, hn'.out]; rfl
        clear hown hown2 hv hl' hg3 hgo hap hfr hv2 x0 x1 x2 x3 x4
        go_wp2_with fail
        go_roundw
        case rel => exact ⟨j + 1, n' + 1, g3, d3, l' ++ [⟨e.x, a2, d2⟩], by go_num, by omega, by omega, rfl, hn3, hown3, hv3, hl3, hO3, hfr3, hap3⟩
        case measure => simp [intOf]; omega
      · have hmd : decide (m = 0) = false := decide_eq_false hm0
        cases C
        · have hP0 : P = false := by rw [hPC, hmd]; rfl
          subst hP0
          clear hPC
          go_wp2_with (go_at_call 59; go_must (refine containsB_c a m c cs e.x.commit false hC HM.out _ haA.out (by omega) _ ?_))
          intro w1 ho1
          have ho1 := hal.trans ho1
          have hl3 : Hid (l'.map Ve.x = allV cs ((l.map Ve.x).take (j + 1))) := by
            show _ = _
            rw [hl'.out, htk.out]; simp
          have hown2 := own_off hown ho1 (fun _ _ x => x)
          have hv2 : ∀ f ∈ l', Vok w1 f := fun f hf => (hv f hf).old ho1
          have hO2 := ho.trans ho1
          clear hown hv hl' x0 x1 x2 x3 x4
          go_wp2_with fail
          go_roundw
          case rel => exact ⟨j + 1, n', g', d', l', by go_num, by omega, by omega, rfl, hn', hown2, hv2, hl3, hO2, hfr, hap⟩
          case measure => simp [intOf]; omega
        · have hP1 : P = true := by rw [hPC, hmd]; rfl
          subst hP1
          clear hPC
          go_wp2_with (go_at_call 59; go_must (refine containsB_c a m c cs e.x.commit true hC HM.out _ haA.out (by omega) _ ?_))
          intro w1 ho1
          have hbx1 := hbx.out.old ho1
          have y0 := hbx1.cell (i := 0) rfl
          have y1 := hbx1.cell (i := 1) rfl
          have y2 := hbx1.cell (i := 2) rfl
          have y3 := hbx1.cell (i := 3) rfl
          have y4 := hbx1.cell (i := 4) rfl
          have ho1 := hal.trans ho1
          go_wp2_with (go_at_call 44; go_must (refine copied_c e me hme _ (hve.out.old ho1) _ ?_))
          intro w2 a2 d2 hv2 ho2 hfr2
          have hoW : Off Old wr w2 := ho1.trans ho2
          have hown2 := own_off hown hoW (fun _ _ x => x)
          have hz2 := hoW.size
          go_wp2_with (at_builtin; go_must (refine wpList_append_new rfl (.tmp 30) (.tmp 33) 22 rfl 38 i0 (.agg #[.int .i64 0, .int .i64 0, .bool false, .int .i64 0, .slice none 0 0]) 5 56 Try.underlying22 hi hz0 hz1 hz2' rfl (by decide) (.slice g' n' d') n' (vcs l') rfl hown2 1 1 [.int .i64 e.x.c, .int .i64 e.x.n, .bool e.x.commit, .int .i64 e.x.at_, .slice a2 me d2] rfl rfl (by intro u hu; simp at hu; rcases hu with rfl | rfl | rfl | rfl | rfl <;> rfl) (by omega) (by omega) ?_))
          intro g3 d3 w3 hg3
          have hfr2 : ∀ z, a2 = some z → wr.heap.size ≤ z.block := fun z hz => by have h1 := hfr2 z hz; have := ho1.size; omega
          have hgo : Off (fun k => g'.map Addr.block = some k) w2 w3 := hg3.off.mono (fun k hk _ => by rwa [own_block_eq'] at hk)
          have hmov : ∀ k, g3.map Addr.block = some k → g'.map Addr.block = some k ∨ w2.heap.size ≤ k := fun k hk => by
            have := hg3.mov k (by rw [own_block_eq']; exact hk)
            rwa [own_block_eq'] at this
          have hgw : ∀ k, g'.map Addr.block = some k → k < wr.heap.size := fun k hk => own_lt hown (by rw [own_block_eq']; exact hk)
          have hO3 : Off Old w w3 := (ho.trans hoW).step hgo (fun i hi hl => by
            obtain ⟨z, hz, rfl⟩ := Option.map_eq_some_iff.1 hi
            have := hfr z hz; omega)
          have hv3 : ∀ f ∈ l' ++ [⟨e.x, a2, d2⟩], Vok w3 f := by
            intro f hf
            rcases List.mem_append.1 hf with hf | hf
            · exact ((hv f hf).old hoW).off hgo (fun z hz hn => hap f hf z hz hn)
            · simp only [List.mem_singleton] at hf
              subst hf
              exact hv2.off hgo (fun z hz hn hk => by have := hfr2 z hz; have := hgw _ hk; omega)
          have hap3 : ∀ f ∈ l' ++ [⟨e.x, a2, d2⟩], ∀ z, f.a = some z → f.x.reads ≠ [] → g3.map Addr.block ≠ some z.block := by
            intro f hf z hz hn hk
            rcases List.mem_append.1 hf with hf | hf
            · have h9 := (hv f hf).sl.lt hz (ne_rdxs hn)
              rcases hmov _ hk with h3 | h3
              · exact hap f hf z hz hn h3
              · omega
            · simp only [List.mem_singleton] at hf
              subst hf
              have h8 := hfr2 z hz
              have h9 := hv2.sl.lt hz (ne_rdxs hn)
              rcases hmov _ hk with h3 | h3
              · have := hgw _ h3; omega
              · omega
          have hown3 : w3.ownsRow 0 38 5 (.slice g3 (n' + 1) d3) (n' + 1) (vcs (l' ++ [⟨e.x, a2, d2⟩])) := by
            have h9 := hg3.own
            have h8 := hme.out
            rw [vcs_append, show vcs [(⟨e.x, a2, d2⟩ : Ve)] = [.int .i64 e.x.c, .int .i64 e.x.n, .bool e.x.commit, .int .i64 e.x.at_, .slice a2 me d2] by simp [vcs, Ve.v, h8]]
            exact h9
          have hfr3 : ∀ z, g3 = some z → w.heap.size ≤ z.block := fun z hz => by
            rcases hmov z.block (by rw [hz]; rfl) with h3 | h3
            · obtain ⟨y, hy, hyz⟩ := Option.map_eq_some_iff.1 h3
              have := hfr y hy; omega
            · have := ho.size; omega
          have hl3 : Hid ((l' ++ [(⟨e.x, a2, d2⟩ : Ve)]).map Ve.x = allV cs ((l.map Ve.x).take (j + 1))) := by
            show _ = _
            rw [List.map_append, hl'.out, htk.out]; rfl
          have hn3 : Hid ((l' ++ [(⟨e.x, a2, d2⟩ : Ve)]).length = n' + 1) := by
            show _ = _; rw [List.length_append, hn'.out]; rfl
          clear y0 y1 y2 y3 y4 hown hown2 hv hl' hg3 hgo hap hfr hv2 x0 x1 x2 x3 x4
          go_wp2_with fail
          go_roundw
          case rel => exact ⟨j + 1, n' + 1, g3, d3, l' ++ [⟨e.x, a2, d2⟩], by go_num, by omega, by omega, rfl, hn3, hown3, hv3, hl3, hO3, hfr3, hap3⟩
          case measure => simp [intOf]; omega
    · obtain rfl : j = l.length := by omega
      have hfin := hl'.out
      rw [List.take_of_length_le (by simp)] at hfin
      have HF := HK.out wr l' n' g' d' hn' hown hv hfin ho
      clear HK hfin
      go_wp2_with fail
      exact HF
end Go.Proofs.Ytahpfcfecghpmaa
