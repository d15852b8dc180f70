/- The document's writer: Write. -/
import Derived.Test.YtahpfcfecghpmaaRefW
namespace Go.Proofs.Ytahpfcfecghpmaa
open Go.RowKit

/-- what the document writes of numbers that are right, flags, rows. -/
def wrB (ns : List Int) (fs : List Bool) (ts : List (List UInt8)) (rs : List (List UInt8)) : List UInt8 := encs ns ++ fs.map flagB ++ ts.flatMap rowEnc ++ rs.flatMap rowEnc
theorem encs_take {ns : List Int} {j : Nat} {x : Int} (h : ns[j]? = some x) : encs (ns.take (j + 1)) = encs (ns.take j) ++ enc x.toNat := by simp [encs, List.take_add_one, h]
theorem flags_take {fs : List Bool} {j : Nat} {x : Bool} (h : fs[j]? = some x) : (fs.take (j + 1)).map flagB = (fs.take j).map flagB ++ [flagB x] := by simp [List.take_add_one, h]
theorem rows_take {rs : List (List UInt8)} {j : Nat} {x : List UInt8} (h : rs[j]? = some x) : (rs.take (j + 1)).flatMap rowEnc = (rs.take j).flatMap rowEnc ++ rowEnc x := by simp [List.take_add_one, h]
theorem encs_len (ns : List Int) (h : ∀ x ∈ ns, numOk x = true) : (encs ns).length ≤ 9 * ns.length := by
  have h1 := putNums_ok ns (false, []) h
  have h2 := putNums_len ns (false, [])
  rw [h1] at h2
  simpa using h2
theorem rowEnc_len {l : List UInt8} (h : (l.length : Int) ≤ 4611686018427387903) : (rowEnc l).length ≤ l.length + 9 := by
  have := enc_len h
  simp [rowEnc]; omega
theorem rowsEnc_len : ∀ (rs : List (List UInt8)), (∀ r ∈ rs, (r.length : Int) ≤ 4611686018427387903) → (rs.flatMap rowEnc).length ≤ lenOf rs
  | [], _ => by simp
  | r :: rs, h => by
    have h1 := rowEnc_len (h r (by simp))
    have h2 := rowsEnc_len rs (fun x hx => h x (by simp [hx]))
    have e : lenOf (r :: rs) = r.length + 9 + lenOf rs := by simp [lenOf]
    rw [e, List.flatMap_cons, List.length_append]; omega

theorem lenOf_app (a b : List (List UInt8)) : lenOf (a ++ b) = lenOf a + lenOf b := by simp [lenOf]
set_option maxRecDepth 100000 in
set_option maxHeartbeats 4000000 in
theorem refWrite_c (a0 a1 a2 a3 : Option Addr) (c0 c1 c2 c3 : Nat) (ns : List Int) (fs : List Bool) (ts : List ByteArray) (rs : List BRow) (w : World) (s0 : Sl w a0 (ins ns)) (s1 : Sl w a1 (bos fs)) (s2 : Sl w a2 (sts ts)) (s3 : Sl w a3 (rs.map BRow.v)) (hrs : RowsOk w rs)
    (bd : 9 * ns.length + fs.length + lenOf (ts.map fun s => s.data.toList) + lenOf (rs.map BRow.l) ≤ 1000000000) (R : Ending → World → Prop)
    (k1 : ns.all numOk = true → ∀ w' g n d, BOut w w' g n d (wrB ns fs (ts.map fun s => s.data.toList) (rs.map BRow.l)) → R (.returned (.tuple #[.slice g n d, .int .i64 0])) w')
    (k2 : ns.all numOk = false → ∀ w', Off Old w w' → R (.returned (.tuple #[.slice none 0 0, .int .i64 2])) w') :
    Calls Try.prog 78 #[.slice a0 ns.length c0, .slice a1 fs.length c1, .slice a2 ts.length c2, .slice a3 rs.length c3] w R := by
  have K1 := Lib.hid k1; clear k1
  have K2 := Lib.hid k2; clear k2
  have hbT := lenOf_ge (ts.map fun s => s.data.toList)
  have hbR := lenOf_ge (rs.map BRow.l)
  simp only [List.length_map] at hbT hbR
  obtain ⟨i0, hi, hz0, hz1, hz2⟩ := info_parts u8info
  go_enter Try.func78, Try.ntmps78
  go_wp2_with fail
  go_loopw [10, 11] (fun v i wr => ∃ (j n : Nat) (g : Option Addr) (d : Nat), i = .int .i64 j ∧ j ≤ ns.length ∧ v = .slice g n d ∧ n ≤ 9 * j ∧ BOut w wr g n d (encs (ns.take j)) ∧ Hid ((ns.take j).all numOk = true)) (fun _ i _ => ns.length - (intOf i).toNat)
  case atStart => exact ⟨0, 0, none, 0, rfl, Nat.zero_le _, rfl, Nat.zero_le _, BOut.nil w, rfl⟩
  case round =>
    obtain ⟨j, n, g, d, rfl, hj, rfl, hn, hB, hok⟩ := hrel
    have s0' := s0.old hB.off
    by_cases hlt : j < ns.length
    · obtain ⟨x, hx⟩ := at_of_lt hlt
      obtain ⟨b, o, ix, Q⟩ := s0'.ix1 Try.underlying124 sz_int (n := ns.length) (by simp) c0
      have cx := Q.out j _ (ins_at hx.out)
      obtain ⟨v, hv⟩ : ∃ v, Hid (numOk x = v) := ⟨_, rfl⟩
      cases v
      · have hbad : Hid (ns.all numOk = false) := by
          show _ = _; rw [List.all_eq_false]; exact ⟨x, List.mem_of_getElem? hx.out, by rw [hv.out]; simp⟩
        have HF := K2.out hbad.out _ hB.off
        clear K1 K2
        go_wp2_with (go_at_call 87; go_must (refine refNumber_bad x _ hv.out _ ?_))
        exact HF
      · have hx0 : 0 ≤ x := by have := hv.out; simp [numOk] at this; omega
        have hx1 : x ≤ 4611686018427387903 := by have := hv.out; simp [numOk] at this; omega
        obtain ⟨N, rfl⟩ := Int.eq_ofNat_of_zero_le hx0
        have hok2 : Hid ((ns.take (j + 1)).all numOk = true) := by
          show _ = _; rw [List.take_add_one, hx.out, List.all_append, hok.out]; simp [hv.out]
        go_wp2_with (go_at_call 87; go_must (refine refNumber_o N _ hx1 _ ?_))
        intro w1 g1 n1 d1 h1
        have hB1 := hB.old h1.off
        have hs1 := h1.sl
        have hl1 : n1 ≤ 9 := by rw [← h1.len]; exact enc_len hx1
        have hln : Hid ((bys (enc N)).length = n1 * 1) := by show _ = _; rw [bys_length, h1.len]; omega
        clear h1
        go_wp2_with (at_builtin; go_must (refine wpList_append_sl rfl (.tmp 33) (.tmp 34) 57 rfl 5 i0 (.int .u8 0) 1 1 Try.underlying57 hi hz0 hz1 hz2 rfl (by decide) (.slice g n d) n (bys (encs (ns.take j))) rfl hB1.own g1 n1 d1 (bys (enc N)) rfl hln.out hs1 (bys_oneCell _) (by omega) (by omega) ?_))
        intro g2 d2 w2 hg
        have hB2 := hB1.app hg
        have e : encs (ns.take j) ++ enc N = encs (ns.take (j + 1)) := by rw [encs_take hx.out]; simp
        rw [e] at hB2
        clear hg hB1 hs1 hB e s0'
        go_wp2_with fail
        go_roundw
        case rel => exact ⟨j + 1, n + n1, g2, d2, by go_num, by omega, by simp, by omega, hB2, hok2⟩
        case measure => simp [intOf]; omega
    · obtain rfl : j = ns.length := by omega
      rw [List.take_length] at hB hok
      have K1 := Lib.hid (K1.out hok.out)
      clear K2 s0' s0 hok
      go_wp2_with fail
      go_loopw [10, 14] (fun v i wr => ∃ (j n : Nat) (g : Option Addr) (d : Nat), i = .int .i64 j ∧ j ≤ fs.length ∧ v = .slice g n d ∧ n ≤ 9 * ns.length + j ∧ BOut w wr g n d (encs ns ++ (fs.take j).map flagB)) (fun _ i _ => fs.length - (intOf i).toNat)
      case atStart => exact ⟨0, n, g, d, rfl, Nat.zero_le _, rfl, by omega, by simpa using hB⟩
      case round =>
        clear hB
        obtain ⟨j, n, g, d, rfl, hj, rfl, hn, hB⟩ := hrel
        by_cases hlt : j < fs.length
        · obtain ⟨x, hx⟩ := at_of_lt hlt
          obtain ⟨b, o, ix, Q⟩ := (s1.old hB.off).ix1 Try.underlying23 sz_bool (n := fs.length) (by simp) c1
          have cx := Q.out j _ (bos_at hx.out)
          obtain ⟨L, hL⟩ : ∃ L, Hid (encs ns ++ (fs.take j).map flagB = L) := ⟨_, rfl⟩
          rw [hL.out] at hB
          go_wp2_with (go_at_call 57; go_must (refine refFlag_c x _ _ ?_))
          intro w1 g1 n1 d1 h1
          have hB1 := hB.old h1.off
          have hs1 := h1.sl
          have hl1 : n1 ≤ 1 := by rw [← h1.len]; exact Nat.le_refl _
          have hln : Hid ((bys [flagB x]).length = n1 * 1) := by show _ = _; rw [bys_length, h1.len]; omega
          clear h1
          go_wp2_with (at_builtin; go_must (refine wpList_append_sl rfl (.tmp 42) (.tmp 47) 57 rfl 5 i0 (.int .u8 0) 1 1 Try.underlying57 hi hz0 hz1 hz2 rfl (by decide) (.slice g n d) n (bys L) rfl hB1.own g1 n1 d1 (bys [flagB x]) rfl hln.out hs1 (bys_oneCell _) (by omega) (by omega) ?_))
          intro g2 d2 w2 hg
          have hB2 := hB1.app hg
          rw [← hL.out, List.append_assoc, ← flags_take hx.out] at hB2
          clear hg hB1 hs1 hB
          go_wp2_with fail
          go_roundw
          case rel => exact ⟨j + 1, n + n1, g2, d2, by go_num, by omega, by simp, by omega, hB2⟩
          case measure => simp [intOf]; omega
        · obtain rfl : j = fs.length := by omega
          rw [List.take_length] at hB
          clear s1
          go_wp2_with fail
          go_loopw [10, 15] (fun v i wr => ∃ (j n : Nat) (g : Option Addr) (d : Nat), i = .int .i64 j ∧ j ≤ ts.length ∧ v = .slice g n d ∧ n ≤ 9 * ns.length + fs.length + lenOf ((ts.map fun s => s.data.toList).take j) ∧ BOut w wr g n d (encs ns ++ fs.map flagB ++ ((ts.map fun s => s.data.toList).take j).flatMap rowEnc)) (fun _ i _ => ts.length - (intOf i).toNat)
          case atStart => exact ⟨0, n, g, d, rfl, Nat.zero_le _, rfl, by omega, by simpa using hB⟩
          case round =>
            clear hB
            obtain ⟨j, n, g, d, rfl, hj, rfl, hn, hB⟩ := hrel
            by_cases hlt : j < ts.length
            · obtain ⟨x, hx⟩ := at_of_lt hlt
              have hxl : Hid ((ts.map fun s => s.data.toList)[j]? = some x.data.toList) := by show _ = _; simp [hx.out]
              have hlt2 := lenOf_take _ j hxl.out
              have hsz : x.data.toList.length ≤ 1000000000 := by omega
              obtain ⟨b, o, ix, Q⟩ := (s2.old hB.off).ix1 Try.underlying127 sz_str (n := ts.length) (by simp) c2
              have cx := Q.out j _ (sts_at hx.out)
              obtain ⟨L, hL⟩ : ∃ L, Hid (encs ns ++ fs.map flagB ++ ((ts.map fun s => s.data.toList).take j).flatMap rowEnc = L) := ⟨_, rfl⟩
              rw [hL.out] at hB
              have hL2 : Hid (L ++ rowEnc x.data.toList = encs ns ++ fs.map flagB ++ ((ts.map fun s => s.data.toList).take (j + 1)).flatMap rowEnc) := by
                show _ = _; rw [← hL.out, List.append_assoc, rows_take hxl.out]
              obtain ⟨LJ, hLJ⟩ : ∃ LJ, Hid (lenOf ((ts.map fun s => s.data.toList).take j) = LJ) := ⟨_, rfl⟩
              rw [hLJ.out] at hn hlt2
              have hlt3 : LJ + (x.data.toList.length + 9) ≤ lenOf ((ts.map fun s => s.data.toList).take (j + 1)) := by
                rw [← hLJ.out, List.take_add_one, hxl.out, lenOf_app]; simp [lenOf]
              have kc := fun (w : World) (s : ByteArray) => run_bytes_of_string (P := Try.prog) w 9 57 5 s Try.underlying9 Try.underlying57 Try.underlying5
              have hxs : Hid (x.data.toList.length = x.size) := by show _ = _; simp
              go_wp2_with fail
              generalize hC : grownCap wr x.size 0 5 = C at *
              clear hC
              have hoff : Off Old wr (wr.alloc (Obj.cells (bytesRow x C) 5 ((bytesRow x C).size, (bytesRow x C).size + 1))).drew := ((Off.refl _ _).alloc _).drew
              have hr : Sl (wr.alloc (Obj.cells (bytesRow x C) 5 ((bytesRow x C).size, (bytesRow x C).size + 1))).drew (some ⟨wr.heap.size, 0, none⟩) (bys x.data.toList) := (Sl.string wr x C 5 _).drew
              have hB0 := hB.old hoff
              clear hoff hB
              refine refRow_c (some ⟨wr.heap.size, 0, none⟩) x.size C x.data.toList _ hxs.out hr (by have := hxs.out; omega) _ ?_
              intro w1 g1 n1 d1 h1
              have hB1 := hB0.old h1.off
              have hs1 := h1.sl
              have hl1 : n1 ≤ x.data.toList.length + 9 := by rw [← h1.len]; exact rowEnc_len (by omega)
              have hln : Hid ((bys (rowEnc x.data.toList)).length = n1 * 1) := by show _ = _; rw [bys_length, h1.len]; omega
              clear h1 hr hB0 kc ix cx Q
              generalize rowEnc x.data.toList = E at *
              go_wp2_with (at_builtin; go_must (refine wpList_append_sl rfl (.tmp 55) (.tmp 61) 57 rfl 5 i0 (.int .u8 0) 1 1 Try.underlying57 hi hz0 hz1 hz2 rfl (by decide) (.slice g n d) n (bys L) rfl hB1.own g1 n1 d1 (bys E) rfl hln.out hs1 (bys_oneCell _) (by omega) (by omega) ?_))
              intro g2 d2 w2 hg
              have hB2 := hB1.app hg
              rw [hL2.out] at hB2
              clear hg hB1 hs1
              go_wp2_with fail
              go_roundw
              case rel => exact ⟨j + 1, n + n1, g2, d2, by go_num, by omega, by simp, by omega, hB2⟩
              case measure => simp [intOf]; omega
            · obtain rfl : j = ts.length := by omega
              rw [List.take_of_length_le (by simp)] at hB hn
              clear s2
              go_wp2_with fail
              go_loopw [10, 16] (fun v i wr => ∃ (j n : Nat) (g : Option Addr) (d : Nat), i = .int .i64 j ∧ j ≤ rs.length ∧ v = .slice g n d ∧ n ≤ 9 * ns.length + fs.length + lenOf (ts.map fun s => s.data.toList) + lenOf ((rs.map BRow.l).take j) ∧ BOut w wr g n d (encs ns ++ fs.map flagB ++ (ts.map fun s => s.data.toList).flatMap rowEnc ++ ((rs.map BRow.l).take j).flatMap rowEnc)) (fun _ i _ => rs.length - (intOf i).toNat)
              case atStart => exact ⟨0, n, g, d, rfl, Nat.zero_le _, rfl, by omega, by simpa using hB⟩
              case round =>
                clear hB
                obtain ⟨j, n, g, d, rfl, hj, rfl, hn, hB⟩ := hrel
                by_cases hlt : j < rs.length
                · obtain ⟨⟨xa, xc, xl⟩, hx⟩ := at_of_lt hlt
                  have hxl : Hid ((rs.map BRow.l)[j]? = some xl) := by show _ = _; simp [hx.out]
                  have hlt2 := lenOf_take _ j hxl.out
                  have hsz : xl.length ≤ 1000000000 := by omega
                  obtain ⟨b, o, ix, Q⟩ := (s3.old hB.off).ix1 Try.underlying136 sz_bs (n := rs.length) (by simp) c3
                  have cx : wr.cell? ⟨b, o + j, none⟩ = some (.slice xa xl.length xc) := Q.out j _ (by simp [hx.out, BRow.v])
                  have hr : Sl wr xa (bys xl) := (hrs _ (List.mem_of_getElem? hx.out)).old hB.off
                  obtain ⟨L, hL⟩ : ∃ L, Hid (encs ns ++ fs.map flagB ++ (ts.map fun s => s.data.toList).flatMap rowEnc ++ ((rs.map BRow.l).take j).flatMap rowEnc = L) := ⟨_, rfl⟩
                  rw [hL.out] at hB
                  have hL2 : Hid (L ++ rowEnc xl = encs ns ++ fs.map flagB ++ (ts.map fun s => s.data.toList).flatMap rowEnc ++ ((rs.map BRow.l).take (j + 1)).flatMap rowEnc) := by
                    show _ = _; rw [← hL.out, List.append_assoc, rows_take hxl.out]
                  obtain ⟨LJ, hLJ⟩ : ∃ LJ, Hid (lenOf ((rs.map BRow.l).take j) = LJ) := ⟨_, rfl⟩
                  rw [hLJ.out] at hn hlt2
                  have hlt3 : LJ + (xl.length + 9) ≤ lenOf ((rs.map BRow.l).take (j + 1)) := by
                    rw [← hLJ.out, List.take_add_one, hxl.out, lenOf_app]; simp [lenOf]
                  go_wp2_with (go_at_call 79; go_must (refine refRow_c xa xl.length xc xl _ rfl hr hsz _ ?_))
                  intro w1 g1 n1 d1 h1
                  have hB1 := hB.old h1.off
                  have hs1 := h1.sl
                  have hl1 : n1 ≤ xl.length + 9 := by rw [← h1.len]; exact rowEnc_len (by omega)
                  have hln : Hid ((bys (rowEnc xl)).length = n1 * 1) := by show _ = _; rw [bys_length, h1.len]; omega
                  clear h1 hr hB ix cx Q
                  generalize rowEnc xl = E at *
                  go_wp2_with (at_builtin; go_must (refine wpList_append_sl rfl (.tmp 69) (.tmp 74) 57 rfl 5 i0 (.int .u8 0) 1 1 Try.underlying57 hi hz0 hz1 hz2 rfl (by decide) (.slice g n d) n (bys L) rfl hB1.own g1 n1 d1 (bys E) rfl hln.out hs1 (bys_oneCell _) (by omega) (by omega) ?_))
                  intro g2 d2 w2 hg
                  have hB2 := hB1.app hg
                  rw [hL2.out] at hB2
                  clear hg hB1 hs1
                  go_wp2_with fail
                  go_roundw
                  case rel => exact ⟨j + 1, n + n1, g2, d2, by go_num, by omega, by simp, by omega, hB2⟩
                  case measure => simp [intOf]; omega
                · obtain rfl : j = rs.length := by omega
                  rw [List.take_of_length_le (by simp)] at hB
                  have HF := K1.out wr g n d hB
                  clear K1
                  go_wp2_with fail
                  exact HF
end Go.Proofs.Ytahpfcfecghpmaa
