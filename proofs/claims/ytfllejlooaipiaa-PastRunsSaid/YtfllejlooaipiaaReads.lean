/- WireBack's reads2 and reads. -/
import Derived.Test.YtfllejlooaipiaaKit4
import Derived.Test.YtfllejlooaipiaaPure3
import Derived.Test.YtfllejlooaipiaaLaw02
import Derived.Deep.RegionHeld3
import Derived.Deep.DeepCutAuto
namespace Go.Proofs.Ytfllejlooaipiaa
open Go.RowKit

def rdOpt (t : Bool × RS) (o : Option Item) : Bool × RS := rdItems t o.toList
theorem rdOpt_none (t : Bool × RS) : rdOpt t none = t := rfl
theorem rdOpt_some (t : Bool × RS) (it : Item) : rdOpt t (some it) = ((it.rd t.2).1 && t.1, (it.rd t.2).2) := rfl
/-- the items of one round. -/
def roundItems (ns : List Int) (fs : List Bool) (ts : List ByteArray) (rs : List BRow) (i : Nat) : List Item :=
  ((rs[i]?.map fun r => Item.row r.l).toList ++ (fs[i]?.map Item.flag).toList ++ (ns[i]?.map Item.num).toList) ++ (ts[i]?.map fun s => Item.row s.data.toList).toList
def allItems (ns : List Int) (fs : List Bool) (ts : List ByteArray) (rs : List BRow) (n : Nat) : List Item := (List.range n).flatMap (roundItems ns fs ts rs)
theorem allItems_succ (ns : List Int) (fs : List Bool) (ts : List ByteArray) (rs : List BRow) (n : Nat) : allItems ns fs ts rs (n + 1) = allItems ns fs ts rs n ++ roundItems ns fs ts rs n := by
  simp [allItems, List.range_succ]

/-- what the two calls and the laws are handed. -/
structure Args (w : World) (S : Nat → Prop) (a2 a3 a4 a5 : Option Addr) (ns : List Int) (fs : List Bool) (ts : List ByteArray) (rs : List BRow) : Prop where
  h2 : Sl w a2 (ins ns)
  h3 : Sl w a3 (bos fs)
  h4 : Sl w a4 (sts ts)
  h5 : Sl w a5 (rs.map BRow.v)
  h6 : RowsOk w rs
  n2 : ∀ q, a2 = some q → ns ≠ [] → ¬ S q.block
  n3 : ∀ q, a3 = some q → fs ≠ [] → ¬ S q.block
  n4 : ∀ q, a4 = some q → ts ≠ [] → ¬ S q.block
  n5 : ∀ q, a5 = some q → rs ≠ [] → ¬ S q.block
  n6 : ∀ r ∈ rs, ∀ q, r.a = some q → r.l ≠ [] → ¬ S q.block
theorem Args.off {w w' : World} {S : Nat → Prop} {a2 a3 a4 a5 : Option Addr} {ns : List Int} {fs : List Bool} {ts : List ByteArray} {rs : List BRow} (h : Args w S a2 a3 a4 a5 ns fs ts rs) (ho : Off S w w') : Args w' S a2 a3 a4 a5 ns fs ts rs :=
  ⟨h.h2.off ho (fun q e hn => h.n2 q e (by rintro rfl; exact hn rfl)), h.h3.off ho (fun q e hn => h.n3 q e (by rintro rfl; exact hn rfl)), h.h4.off ho (fun q e hn => h.n4 q e (by rintro rfl; exact hn rfl)),
   h.h5.off ho (fun q e hn => h.n5 q e (by rintro rfl; exact hn rfl)), h.h6.off ho h.n6, h.n2, h.n3, h.n4, h.n5, h.n6⟩

theorem Rd.drew {w : World} {p bb : Nat} {s : RS} (h : Rd w p bb s) : Rd w.drew p bb s := h.old (Off.refl _ _).drew

theorem rdRow_le {most : Int} {s : RS} {n : Nat} (h : rsLen s ≤ n) : (rdRow most s).1.length ≤ n := by
  have h1 := rdNum_len most s
  simp only [rdRow]
  split
  · simp
  · rename_i hn
    rw [hn] at h1
    have h2 : ∀ l : List UInt8, rsLen (some l) = l.length := fun _ => rfl
    split
    · simp
    · rw [h2] at h1; simp only [List.length_take]; omega

set_option maxRecDepth 100000 in
set_option maxHeartbeats 4000000 in
theorem reads2_c (p bb n c2 c3 c4 c5 : Nat) (s : RS) (a2 a3 a4 a5 : Option Addr) (ns : List Int) (fs : List Bool) (ts : List ByteArray) (rs : List BRow) (w : World) (hr : Rd w p bb s) (ha : Args w (fun k => k = p) a2 a3 a4 a5 ns fs ts rs)
    (bd : rsLen s ≤ 100000000000) (bn : n ≤ 100000000) (b6 : ∀ r ∈ rs, r.l.length ≤ 100000000) (b7 : ∀ t ∈ ts, t.size ≤ 100000000) (R : Ending → World → Prop)
    (k : ∀ w', Rd w' p bb (rdItems (true, s) (allItems ns fs ts rs n)).2 → Off (fun k => k = p) w w' → R (.returned (.bool (rdItems (true, s) (allItems ns fs ts rs n)).1)) w') :
    Calls Try.prog 57 #[.pointer (some ⟨p, 0, none⟩), .int .i64 n, .slice a2 ns.length c2, .slice a3 fs.length c3, .slice a4 ts.length c4, .slice a5 rs.length c5] w R := by
  have HK := Lib.hid k; clear k
  go_enter Try.func57, Try.ntmps57
  go_wp2_with fail
  go_loopw [13, 14] (fun ok i wr => ∃ (j : Nat), i = .int .i64 j ∧ j ≤ n ∧ ok = .bool (rdItems (true, s) (allItems ns fs ts rs j)).1 ∧ Rd wr p bb (rdItems (true, s) (allItems ns fs ts rs j)).2 ∧ Off (fun k => k = p) w wr) (fun _ i _ => n - (intOf i).toNat)
  case atStart => exact ⟨0, rfl, Nat.zero_le _, rfl, hr, Off.refl _ _⟩
  case round =>
    obtain ⟨j, rfl, hj, rfl, hr1, ho⟩ := hrel
    have hlen := rdItems_len (allItems ns fs ts rs j) (true, s)
    have ha1 := ha.off ho
    by_cases hlt : j < n
    · have hT : Hid (rdItems (true, s) (allItems ns fs ts rs (j + 1)) = rdOpt (rdOpt (rdOpt (rdOpt (rdItems (true, s) (allItems ns fs ts rs j)) (rs[j]?.map fun r => Item.row r.l)) (fs[j]?.map Item.flag)) (ns[j]?.map Item.num)) (ts[j]?.map fun s => Item.row s.data.toList)) := by
        show _ = _
        simp only [rdOpt, ← rdItems_append, allItems_succ, roundItems, List.append_assoc]
      generalize rdItems (true, s) (allItems ns fs ts rs j) = T at *
      obtain ⟨ok, s1⟩ := T
      simp only at hlen hr1
      have hb1 : rsLen s1 ≤ 100000000000 := Nat.le_trans hlen bd
      clear hlen
      go_upto_if 23 with fail
      obtain ⟨T1, hT1⟩ : ∃ T1, Hid (T1 = rdOpt (ok, s1) (rs[j]?.map fun r => Item.row r.l)) := ⟨_, rfl⟩
      go_cut [13] (fun v wx => v = .bool T1.1 ∧ Rd wx p bb T1.2 ∧ Off (fun k => k = p) w wx)
      case first =>
        by_cases hlr : j < rs.length
        · obtain ⟨x, hx⟩ := at_of_lt hlr
          have hmem := List.mem_of_getElem? hx.out
          have hT : Hid (T1 = (decide ((rdRow x.l.length s1).1 = x.l) && ok, (rdRow x.l.length s1).2)) := by
            show _ = _; rw [hT1.out, hx.out]; rfl
          clear hT1
          have hx6 := b6 x hmem
          have hsx := ha1.h6 x hmem
          have hnx := ha1.n6 x hmem
          obtain ⟨b, o, ix, Q, HB⟩ := ha1.h5.ix2 Try.underlying72 sz_bs (n := rs.length) (by simp) c5
          have cx := Q.out j x.v (by simp [hx.out])
          simp only [BRow.v] at cx
          have hnb : ¬ b = p := ha1.n5 _ (HB.out (by omega)) (by rintro rfl; simp at hlr)
          go_wp2_with fail
          have hl1 : (rdRow x.l.length s1).1.length ≤ 140737488355328 := rdRow_le (by omega)
          obtain ⟨vb, hvb⟩ : ∃ vb, decide ((rdRow x.l.length s1).1 = x.l) = vb := ⟨_, rfl⟩
          have hT : Hid (T1 = (vb && ok, (rdRow x.l.length s1).2)) := by show _ = _; rw [hT.out, hvb]
          have hsx2 : ∀ w2, Off (fun k => k = p) wr.drew w2 → Sl w2 x.a (bys x.l) := fun w2 h => hsx.drew.off h (fun q e hn => hnx q e (by intro h; exact hn (by rw [h]; rfl)))
          have HV := Lib.hid hvb; clear hvb
          generalize hRR : rdRow x.l.length s1 = RR at *
          cases vb
          · first | (go_region_with (first | (go_at_call 53; refine row_r _ _ _ _ _ hr1.drew (by omega) _ ?_; rw [hRR]; intro w2 g2 d2 e1 e2 e3 e4; have hkeep1 := e3.cell hnb cx) | (go_at_call 26; refine sameBytes_b _ _ _ _ _ _ _ _ x.l _ HV.out rfl rfl (own_sl2 e1).2.2 (hsx2 _ e3) hl1 _ ?_; rintro w3 ⟨q, rfl⟩; have hkeep2 := hkeep1))) | fail
            all_goals
              go_wp2_with fail
              go_meet
              exact ⟨by rw [hT.out]; rfl, by rw [hT.out]; exact e2.old (by simp), by have := (ho.drew.trans e3).drewN q; simpa using this⟩
          · first | (go_region_held3 (fun w' => w'.cell? ⟨b, o + j, none⟩ = some (.slice x.a x.l.length x.c)) (first | go_keep | exact hkeep1 | exact hkeep2) (first | (go_at_call 53; refine row_r _ _ _ _ _ hr1.drew (by omega) _ ?_; rw [hRR]; intro w2 g2 d2 e1 e2 e3 e4; have hkeep1 := e3.cell hnb cx) | (go_at_call 26; refine sameBytes_b _ _ _ _ _ _ _ _ x.l _ HV.out rfl rfl (own_sl2 e1).2.2 (hsx2 _ e3) hl1 _ ?_; rintro w3 ⟨q, rfl⟩; have hkeep2 := hkeep1))) | fail
            go_wp2_with fail
            go_meet
            exact ⟨by rw [hT.out]; rfl, by rw [hT.out]; exact e2.old (by simp), by have := (ho.drew.trans e3).drewN q; simpa using this⟩
        · have hT : Hid (T1 = (ok, s1)) := by
            show _ = _; rw [hT1.out, List.getElem?_eq_none (by omega)]; rfl
          go_wp2_with fail
          go_meet
          exact ⟨by rw [hT.out], by rw [hT.out]; exact hr1, ho⟩
      case rest =>
        obtain ⟨rfl, hr2, ho2⟩ := hcut
        have hlen2 : rsLen T1.2 ≤ 100000000000 := by
          rw [hT1.out]; exact Nat.le_trans (rdItems_len _ _) hb1
        rw [← hT1.out] at hT
        clear hT1 hb1 hr1 ho ha1
        generalize T1 = T at *
        obtain ⟨ok, s1⟩ := T
        have hr1 := hr2
        have ho := ho2
        have hb1 := hlen2
        simp only at hr1 hb1
        clear hr2 ho2 hlen2
        have ha1 := ha.off ho
        go_upto_if 42 with fail
        obtain ⟨T1, hT1⟩ : ∃ T1, Hid (T1 = rdOpt (ok, s1) (fs[j]?.map Item.flag)) := ⟨_, rfl⟩
        go_cut [13] (fun v wx => v = .bool T1.1 ∧ Rd wx p bb T1.2 ∧ Off (fun k => k = p) w wx)
        case first =>
          by_cases hlr : j < fs.length
          · obtain ⟨x, hx⟩ := at_of_lt hlr
            have hT : Hid (T1 = (decide ((rdFlag s1).1 = x) && ok, (rdFlag s1).2)) := by
              show _ = _; rw [hT1.out, hx.out]; rfl
            clear hT1
            obtain ⟨b, o, ix, Q, HB⟩ := ha1.h3.ix2 Try.underlying70 sz_bool (n := fs.length) (by simp) c3
            have cx := Q.out j _ (bos_at hx.out)
            have hnb : ¬ b = p := ha1.n3 _ (HB.out (by omega)) (by rintro rfl; simp at hlr)
            obtain ⟨vb, hvb⟩ : ∃ vb, decide ((rdFlag s1).1 = x) = vb := ⟨_, rfl⟩
            have hT : Hid (T1 = (vb && ok, (rdFlag s1).2)) := by show _ = _; rw [hT.out, hvb]
            have hvb2 : ((rdFlag s1).1 == x) = vb := by rw [← hvb]; rfl
            clear hvb
            generalize hRR : rdFlag s1 = RR at *
            go_wp2_with fail
            cases vb
            · first | (go_region_with (first | (go_at_call 49; refine flag_c _ _ _ _ hr1.drew _ ?_; rw [hRR]; intro w2 e2 e3; have hkeep1 := e3.cell hnb cx))) | fail
              all_goals
                go_wp2_with fail
                go_meet
                exact ⟨by rw [hT.out]; rfl, by rw [hT.out]; exact e2, ho.drew.trans e3⟩
            · first | (go_region_held3 (fun w' => w'.cell? ⟨b, o + j, none⟩ = some (.bool x)) (first | go_keep | exact hkeep1) (first | (go_at_call 49; refine flag_c _ _ _ _ hr1.drew _ ?_; rw [hRR]; intro w2 e2 e3; have hkeep1 := e3.cell hnb cx))) | fail
              go_wp2_with fail
              go_meet
              exact ⟨by rw [hT.out]; rfl, by rw [hT.out]; exact e2, ho.drew.trans e3⟩
          · have hT : Hid (T1 = (ok, s1)) := by
              show _ = _; rw [hT1.out, List.getElem?_eq_none (by omega)]; rfl
            go_wp2_with fail
            go_meet
            exact ⟨by rw [hT.out], by rw [hT.out]; exact hr1, ho⟩
        case rest =>
          obtain ⟨rfl, hr2, ho2⟩ := hcut
          have hlen2 : rsLen T1.2 ≤ 100000000000 := by
            rw [hT1.out]; exact Nat.le_trans (rdItems_len _ _) hb1
          rw [← hT1.out] at hT
          clear hT1 hb1 hr1 ho ha1
          generalize T1 = T at *
          obtain ⟨ok, s1⟩ := T
          have hr1 := hr2
          have ho := ho2
          have hb1 := hlen2
          simp only at hr1 hb1
          clear hr2 ho2 hlen2
          have ha1 := ha.off ho
          go_upto_if 56 with fail
          obtain ⟨T1, hT1⟩ : ∃ T1, Hid (T1 = rdOpt (ok, s1) (ns[j]?.map Item.num)) := ⟨_, rfl⟩
          go_cut [13] (fun v wx => v = .bool T1.1 ∧ Rd wx p bb T1.2 ∧ Off (fun k => k = p) w wx)
          case first =>
            by_cases hlr : j < ns.length
            · obtain ⟨x, hx⟩ := at_of_lt hlr
              obtain ⟨b, o, ix, Q, HB⟩ := ha1.h2.ix2 Try.underlying57 sz_int (n := ns.length) (by simp) c2
              have cx := Q.out j _ (ins_at hx.out)
              have hnb : ¬ b = p := ha1.n2 _ (HB.out (by omega)) (by rintro rfl; simp at hlr)
              have hT : Hid (T1 = (decide ((rdNum x s1).1 = x) && ok, (rdNum x s1).2)) := by
                show _ = _; rw [hT1.out, hx.out]; rfl
              clear hT1
              obtain ⟨vb, hvb⟩ : ∃ vb, decide ((rdNum x s1).1 = x) = vb := ⟨_, rfl⟩
              have hT : Hid (T1 = (vb && ok, (rdNum x s1).2)) := by show _ = _; rw [hT.out, hvb]
              have hvb2 : ((rdNum x s1).1 == x) = vb := by rw [← hvb]; rfl
              clear hvb
              generalize hRR : rdNum x s1 = RR at *
              go_wp2_with fail
              cases vb
              · first | (go_region_with (first | (go_at_call 33; refine number_r _ _ _ _ _ hr1.drew _ ?_; rw [hRR]; intro w2 e2 e3; have hkeep1 := e3.cell hnb cx))) | fail
                all_goals
                  go_wp2_with fail
                  go_meet
                  exact ⟨by rw [hT.out]; rfl, by rw [hT.out]; exact e2, ho.drew.trans e3⟩
              · first | (go_region_held3 (fun w' => w'.cell? ⟨b, o + j, none⟩ = some (.int .i64 x)) (first | go_keep | exact hkeep1) (first | (go_at_call 33; refine number_r _ _ _ _ _ hr1.drew _ ?_; rw [hRR]; intro w2 e2 e3; have hkeep1 := e3.cell hnb cx))) | fail
                go_wp2_with fail
                go_meet
                exact ⟨by rw [hT.out]; rfl, by rw [hT.out]; exact e2, ho.drew.trans e3⟩
            · have hT : Hid (T1 = (ok, s1)) := by
                show _ = _; rw [hT1.out, List.getElem?_eq_none (by omega)]; rfl
              go_wp2_with fail
              go_meet
              exact ⟨by rw [hT.out], by rw [hT.out]; exact hr1, ho⟩
          case rest =>
            obtain ⟨rfl, hr2, ho2⟩ := hcut
            have hlen2 : rsLen T1.2 ≤ 100000000000 := by
              rw [hT1.out]; exact Nat.le_trans (rdItems_len _ _) hb1
            rw [← hT1.out] at hT
            clear hT1 hb1 hr1 ho ha1
            generalize T1 = T at *
            obtain ⟨ok, s1⟩ := T
            have hr1 := hr2
            have ho := ho2
            have hb1 := hlen2
            simp only at hr1 hb1
            clear hr2 ho2 hlen2
            have ha1 := ha.off ho
            go_upto_if 74 with fail
            obtain ⟨T1, hT1⟩ : ∃ T1, Hid (T1 = rdOpt (ok, s1) (ts[j]?.map fun s => Item.row s.data.toList)) := ⟨_, rfl⟩
            have hT2 : Hid (T1 = rdItems (true, s) (allItems ns fs ts rs (j + 1))) := by show _ = _; rw [hT1.out, hT.out]
            by_cases hlr : j < ts.length
            · obtain ⟨x, hx⟩ := at_of_lt hlr
              obtain ⟨b, o, ix, Q, HB⟩ := ha1.h4.ix2 Try.underlying71 sz_str (n := ts.length) (by simp) c4
              have cx := Q.out j _ (sts_at hx.out)
              have hnb : ¬ b = p := ha1.n4 _ (HB.out (by omega)) (by rintro rfl; simp at hlr)
              have hT : Hid (T1 = (decide ((rdRow (x.size : Int) s1).1 = x.data.toList) && ok, (rdRow (x.size : Int) s1).2)) := by
                show _ = _; rw [hT1.out, hx.out]; rfl
              clear hT1
              obtain ⟨vb, hvb⟩ : ∃ vb, decide ((rdRow (x.size : Int) s1).1 = x.data.toList) = vb := ⟨_, rfl⟩
              have hT : Hid (T1 = (vb && ok, (rdRow (x.size : Int) s1).2)) := by show _ = _; rw [hT.out, hvb]
              have hvb2 : ((rdRow (x.size : Int) s1).1 == x.toList) = vb := by rw [← hvb, ByteArray.toList_eq]; exact Bool.eq_iff_iff.2 (by simp)
              clear hvb
              generalize hRR : rdRow (x.size : Int) s1 = RR at *
              go_wp2_with fail
              cases vb
              · first | (go_region_with (first | (go_at_call 51; refine text_r _ _ _ _ _ hr1.drew (by omega) _ ?_; rw [hRR]; intro w2 e2 e3; have hkeep1 := e3.cell hnb cx))) | fail
                all_goals
                  go_wp2_with fail
                  go_roundw
                  case rel => exact ⟨j + 1, by go_num, by omega, by rw [← hT2.out, hT.out]; rfl, by rw [← hT2.out, hT.out]; exact e2, ho.drew.trans e3⟩
                  case measure => simp [intOf]; omega
              · first | (go_region_held3 (fun w' => w'.cell? ⟨b, o + j, none⟩ = some (.string x)) (first | go_keep | exact hkeep1) (first | (go_at_call 51; refine text_r _ _ _ _ _ hr1.drew (by omega) _ ?_; rw [hRR]; intro w2 e2 e3; have hkeep1 := e3.cell hnb cx))) | fail
                go_wp2_with fail
                go_roundw
                case rel => exact ⟨j + 1, by go_num, by omega, by rw [← hT2.out, hT.out]; rfl, by rw [← hT2.out, hT.out]; exact e2, ho.drew.trans e3⟩
                case measure => simp [intOf]; omega
            · have hT : Hid (T1 = (ok, s1)) := by
                show _ = _; rw [hT1.out, List.getElem?_eq_none (by omega)]; rfl
              go_wp2_with fail
              go_roundw
              case rel => exact ⟨j + 1, by go_num, by omega, by rw [← hT2.out, hT.out], by rw [← hT2.out, hT.out]; exact hr1, ho⟩
              case measure => simp [intOf]; omega
    · obtain rfl : j = n := by omega
      have HF := HK.out wr hr1 ho
      clear HK
      go_wp2_with fail
      exact HF
end Go.Proofs.Ytfllejlooaipiaa
