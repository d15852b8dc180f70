/- The document's writer: Number, Flag, Row, Write. -/
import Derived.Test.YtahpfcfecghpmaaPure3
import Derived.Test.YtahpfcfecghpmaaFlat0
import Derived.Test.YtahpfcfecghpmaaWrite
namespace Go.Proofs.Ytahpfcfecghpmaa
open Go.RowKit

theorem bits_and_nat {a b : Nat} (ha : a < 2 ^ 63) (hb : b < 2 ^ 63) : bits BinOp.and IntKind.i64 (a : Int) (b : Int) = ((a &&& b : Nat) : Int) := by
  have hlt : a &&& b < 2 ^ 63 := Nat.lt_of_le_of_lt Nat.and_le_left ha
  have e : (BitVec.ofInt 64 (a : Int) &&& BitVec.ofInt 64 (b : Int)).toNat = a &&& b := by
    simp only [BitVec.toNat_and, BitVec.ofInt_natCast, BitVec.toNat_ofNat]
    rw [Nat.mod_eq_of_lt (by omega), Nat.mod_eq_of_lt (by omega)]
  have h0 : bits BinOp.and IntKind.i64 (a : Int) (b : Int) = IntKind.i64.wrap ((BitVec.ofInt 64 (a : Int) &&& BitVec.ofInt 64 (b : Int)).toNat : Int) := rfl
  rw [h0, e]
  exact IntWalk.i64_in _ (by omega)
theorem and_i64_127 {m : Nat} (h : (m : Int) ≤ 4611686018427387903) : bits BinOp.and IntKind.i64 (m : Int) 127 = ((m % 128 : Nat) : Int) := by
  have := bits_and_nat (a := m) (b := 127) (by omega) (by omega)
  rw [show ((127 : Nat) : Int) = 127 from rfl] at this
  rw [this, show (127 : Nat) = 2 ^ 7 - 1 from rfl, Nat.and_two_pow_sub_one_eq_mod]
/-- what is left of a number goes behind. -/
theorem enc_split {m d : Nat} (hd : d < 128) (hm : 0 < m) : enc (m * 128 + d) = UInt8.ofNat (d + 128) :: enc (m / 128 * 128 + m % 128) := by
  rw [enc_big (n := m * 128 + d) (by omega)]
  rw [show (m * 128 + d) % 128 = d by omega, show (m * 128 + d) / 128 = m by omega, show m / 128 * 128 + m % 128 = m by omega]

theorem blk_own' {w : World} {e : TypeId} {g : Nat} {xs : List Value} {n : Nat} (h : Blk w g xs e) (hn : n = xs.length) (hm : n ≤ 140737488355328) : w.ownsRow 0 e 1 (.slice (some ⟨g, 0, none⟩) n n) n xs := by
  subst hn
  refine ⟨by simp, .inr ⟨g, xs.length, xs.toArray, rfl, Nat.zero_le _, h, Nat.le_refl _, by unfold maxLen; omega, by simp, by simp⟩⟩
set_option maxRecDepth 100000 in
set_option maxHeartbeats 1000000 in
theorem refNumber_ok (N : Nat) (w : World) (hN : (N : Int) ≤ 4611686018427387903) (R : Ending → World → Prop)
    (k : ∀ w' g d, w'.ownsRow 0 5 1 (.slice g (enc N).length d) (enc N).length (bys (enc N)) → Off Old w w' → fresh w.heap.size (.slice g (enc N).length d) → R (.returned (.tuple #[.slice g (enc N).length d, .bool true])) w') :
    Calls Try.prog 87 #[.int .i64 N] w R := by
  have HK := Lib.hid k; clear k
  obtain ⟨i0, hi, hz0, hz1, hz2⟩ := info_parts u8info
  have t1 : decide ((N : Int) < 0) = false := by simp
  have hand := and_i64_127 hN
  go_enter Try.func87, Try.ntmps87
  go_wp2_with fail
  have hoA : Off Old w (w.alloc (.cells #[.int .u8 ((N : Int) % 128)] 5)) := (Off.refl _ _).alloc _
  have hownA : (w.alloc (.cells #[.int .u8 ((N : Int) % 128)] 5)).ownsRow 0 5 1 (.slice (some ⟨w.heap.size, 0, none⟩) 1 1) 1 (bys [UInt8.ofNat (N % 128)]) := by
    have h1 : bys [UInt8.ofNat (N % 128)] = [.int .u8 ((N : Int) % 128)] := by
      simp only [bys, List.map_cons, List.map_nil]; rw [low_byte (by omega)]; simp
    rw [h1]
    exact blk_own' (Blk.new w _ _) rfl (by omega)
  clear hand
  go_loopw [0, 4] (fun v0 v4 wr => ∃ (m dd : Nat) (acc : List UInt8) (g : Option Addr) (c : Nat), v0 = .int .i64 m ∧ (m : Int) ≤ 4611686018427387903 ∧ dd < 128 ∧ v4 = .slice g (acc.length + 1) c ∧ wr.ownsRow 0 5 1 (.slice g (acc.length + 1) c) (acc.length + 1) (bys (acc ++ [UInt8.ofNat dd])) ∧ Off Old w wr ∧
    Hid (fresh w.heap.size (.slice g (acc.length + 1) c)) ∧ Hid (enc N = acc ++ enc (m * 128 + dd))) (fun v _ _ => (intOf v).toNat)
  case atStart => exact ⟨N / 128, N % 128, [], _, 1, by go_num, by omega, by omega, rfl, hownA, hoA, by intro b hb; simp [Value.ownBlock] at hb; omega, by show _ = _; rw [show N / 128 * 128 + N % 128 = N by omega]; rfl⟩
  case round =>
    clear hoA hownA
    obtain ⟨m, dd, acc, g, c, rfl, hm, hd, rfl, hown, ho, hfr, he⟩ := hrel
    have hal : acc.length ≤ 9 := by
      have h1 := congrArg List.length he.out
      rw [List.length_append] at h1
      have := enc_len hN; omega
    by_cases hpos : 0 < m
    · obtain ⟨g0, x, rfl, hx, cg, fg⟩ := own_cell hown (Nat.lt_succ_self acc.length)
      obtain ⟨dB, hdB⟩ : ∃ dB, Hid (UInt8.ofNat dd = dB) := ⟨_, rfl⟩
      obtain ⟨eB, heB⟩ : ∃ eB, Hid (UInt8.ofNat (dd + 128) = eB) := ⟨_, rfl⟩
      have hor : bits BinOp.or IntKind.u8 (dB.toNat : Int) 128 = (eB.toNat : Int) := by
        have h1 := bits_or_128 ⟨dd, by omega⟩
        rw [← hdB.out, ← heB.out, low_byte hd]
        simp only [UInt8.toNat_ofNat']
        simp only at h1
        rw [h1]
        omega
      rw [hdB.out] at hown hx
      have hxe : x = .int .u8 (dB.toNat : Int) := by
        have h1 : (bys (acc ++ [dB]))[acc.length]? = some (.int .u8 (dB.toNat : Int)) := bys_at (by simp)
        exact Option.some.inj (hx.symm.trans h1)
      subst hxe
      have hand := and_i64_127 hm
      have hset := own_set1 hown (Nat.lt_succ_self acc.length) (.int .u8 (eB.toNat : Int))
      have hset2 : (wr.setCell ⟨g0, acc.length, none⟩ (.int .u8 (eB.toNat : Int))).ownsRow 0 5 1 (.slice (some ⟨g0, 0, none⟩) (acc.length + 1) c) (acc.length + 1) (bys (acc ++ [eB])) := by
        have e : (bys (acc ++ [dB])).set acc.length (.int .u8 (eB.toNat : Int)) = bys (acc ++ [eB]) := by
          simp [bys, List.set_append_right]
        rw [← e]; exact hset
      have hg0 : Hid (w.heap.size ≤ g0) := hfr.out g0 rfl
      have hoS : Off Old w (wr.setCell ⟨g0, acc.length, none⟩ (.int .u8 (eB.toNat : Int))) := ho.setCell (fun h => by have := hg0.out; simp at h; omega) _
      clear hset hx hown ho
      have tl : IntKind.i64.wrap ((acc.length : Int) + 1 - 1) = (acc.length : Int) := by rw [IntWalk.i64_in _ (by omega)]; omega
      have hnews : Sl ((wr.setCell ⟨g0, acc.length, none⟩ (.int .u8 (eB.toNat : Int))).alloc (.cells [.int .u8 ((m : Int) % 128)].toArray 5)) (some ⟨wr.heap.size, 0, none⟩) [.int .u8 ((m : Int) % 128)] := by
        have := Sl.new (wr.setCell ⟨g0, acc.length, none⟩ (.int .u8 (eB.toNat : Int))) [.int .u8 ((m : Int) % 128)] 5
        rwa [show (wr.setCell ⟨g0, acc.length, none⟩ (.int .u8 (eB.toNat : Int))).heap.size = wr.heap.size by simp [World.setCell]] at this
      go_wp2_with (at_builtin; go_must (refine wpList_append_sl rfl (.tmp 27) (.tmp 31) 57 rfl 5 i0 (.int .u8 0) 1 1 Try.underlying57 hi hz0 hz1 hz2 rfl (by decide) (.slice (some ⟨g0, 0, none⟩) (acc.length + 1) c) (acc.length + 1) (bys (acc ++ [eB])) rfl (hset2.alloc _) (some ⟨wr.heap.size, 0, none⟩) 1 1 [.int .u8 ((m : Int) % 128)] rfl rfl hnews (by intro u hu; simp at hu; subst hu; rfl) (by omega) (by omega) ?_))
      intro g1 c1 w1 hg
      have hg := hg.of_alloc
      have hown1 : w1.ownsRow 0 5 1 (.slice g1 ((acc ++ [eB]).length + 1) c1) ((acc ++ [eB]).length + 1) (bys ((acc ++ [eB]) ++ [UInt8.ofNat (m % 128)])) := by
        have h1 : bys [UInt8.ofNat (m % 128)] = [.int .u8 ((m : Int) % 128)] := by
          simp only [bys, List.map_cons, List.map_nil]; rw [low_byte (by omega)]; simp
        have := hg.own
        rw [← h1, ← bys_append] at this
        simpa using this
      have ho1 : Off Old w w1 := hoS.step hg.off (fun i hi hl => by have := hg0.out; simp [Value.ownBlock] at hi; omega)
      have hfr1 : Hid (fresh w.heap.size (.slice g1 ((acc ++ [eB]).length + 1) c1)) := fun b hb => by
        have hb' : (Value.slice g1 (acc.length + 1 + 1) c1).ownBlock = some b := by rw [← hb]; cases g1 <;> rfl
        rcases hg.mov b hb' with h | h
        · exact hfr.out b h
        · have := hoS.size; omega
      have he1 : Hid (enc N = (acc ++ [eB]) ++ enc (m / 128 * 128 + m % 128)) := by
        show _ = _; rw [he.out, enc_split hd hpos, List.append_assoc, ← heB.out]; rfl
      clear hg hset2 hoS hor hand
      go_wp2_with fail
      go_roundw
      case rel => exact ⟨m / 128, m % 128, _, g1, c1, by go_num, by omega, by omega, by simp, hown1, ho1, hfr1, he1⟩
      case measure => simp [intOf]; omega
    · obtain rfl : m = 0 := by omega
      have hE : acc ++ [UInt8.ofNat dd] = enc N := by rw [he.out, Nat.zero_mul, Nat.zero_add, enc_small hd]
      have hL : acc.length + 1 = (enc N).length := by rw [← hE]; simp
      rw [hE] at hown
      have HF : Hid (R (.returned (.tuple #[.slice g (acc.length + 1) c, .bool true])) wr) := by
        show R _ _
        rw [hL] at hown ⊢
        exact HK.out wr g c hown ho (by have := hfr.out; rw [hL] at this; exact this)
      clear HK hE hL
      go_wp2_with fail
      exact HF.out
theorem refNumber_bad (n : Int) (w : World) (hN : numOk n = false) (R : Ending → World → Prop) (k : R (.returned (.tuple #[.slice none 0 0, .bool false])) w) : Calls Try.prog 87 #[.int .i64 n] w R := by
  have hor : n < 0 ∨ (0 ≤ n ∧ 4611686018427387903 < n) := by simp [numOk] at hN; omega
  rcases hor with hlt | ⟨hge, hgt⟩
  · have t1 : decide (n < 0) = true := by simpa using hlt
    go_enter Try.func87, Try.ntmps87
    go_wp2_with fail
    exact k
  · have t1 : decide (n < 0) = false := by simp; omega
    have t2 : decide (4611686018427387903 < n) = true := by simpa using hgt
    go_enter Try.func87, Try.ntmps87
    go_wp2_with fail
    exact k

/-- bytes in a row of their own that is new. -/
structure BOut (w w' : World) (g : Option Addr) (n d : Nat) (l : List UInt8) : Prop where
  own : w'.ownsRow 0 5 1 (.slice g n d) n (bys l)
  off : Off Old w w'
  fr : fresh w.heap.size (.slice g n d)
theorem BOut.nil (w : World) : BOut w w none 0 0 [] := ⟨World.ownsRow_nil _ _ _ _, Off.refl _ _, fun b h => by simp [Value.ownBlock] at h⟩
theorem BOut.len {w w' : World} {g : Option Addr} {n d : Nat} {l : List UInt8} (h : BOut w w' g n d l) : l.length = n := by have := h.own.1; simpa using this
theorem BOut.old {w w' w2 : World} {g : Option Addr} {n d : Nat} {l : List UInt8} (h : BOut w w' g n d l) (ho : Off Old w' w2) : BOut w w2 g n d l :=
  ⟨own_off h.own ho (fun _ _ x => x), h.off.trans ho, h.fr⟩
theorem BOut.sl {w w' : World} {g : Option Addr} {n d : Nat} {l : List UInt8} (h : BOut w w' g n d l) : Sl w' g (bys l) := (own_sl2 h.own).2.2
theorem BOut.room {w w' : World} {g : Option Addr} {n d : Nat} {l : List UInt8} (h : BOut w w' g n d l) : n ≤ d ∧ d ≤ 9223372036854775807 := ⟨(own_sl2 h.own).1, (own_sl2 h.own).2.1⟩
theorem BOut.pre {w0 w w' : World} {g : Option Addr} {n d : Nat} {l : List UInt8} (h : BOut w w' g n d l) (ho : Off Old w0 w) : BOut w0 w' g n d l :=
  ⟨h.own, ho.trans h.off, fun b hb => Nat.le_trans ho.size (h.fr b hb)⟩
theorem BOut.app {w w' w2 : World} {g g' : Option Addr} {n n' d d' : Nat} {l m : List UInt8} (h : BOut w w' g n d l) (hg : Grew w' w2 5 1 (.slice g n d) (.slice g' n' d') n' (bys l ++ bys m)) : BOut w w2 g' n' d' (l ++ m) :=
  ⟨by have := hg.own; rwa [← bys_append] at this, h.off.step hg.off (fun i hi hl => by have := h.fr i hi; omega), fun b hb => by
    rcases hg.mov b hb with h1 | h1
    · exact h.fr b h1
    · exact Nat.le_trans h.off.size h1⟩
def rowEnc (l : List UInt8) : List UInt8 := enc l.length ++ l
theorem refNumber_o (N : Nat) (w : World) (hN : (N : Int) ≤ 4611686018427387903) (R : Ending → World → Prop)
    (k : ∀ w' g n d, BOut w w' g n d (enc N) → R (.returned (.tuple #[.slice g n d, .bool true])) w') :
    Calls Try.prog 87 #[.int .i64 N] w R :=
  refNumber_ok N w hN R (fun w' g d h1 h2 h3 => k w' g _ d ⟨h1, h2, h3⟩)
theorem refFlag_c (b : Bool) (w : World) (R : Ending → World → Prop) (k : ∀ w' g n d, BOut w w' g n d [flagB b] → R (.returned (.slice g n d)) w') : Calls Try.prog 57 #[.bool b] w R := by
  have h1 : BOut w (w.alloc (.cells (bys [flagB b]).toArray 5)) (some ⟨w.heap.size, 0, none⟩) 1 1 [flagB b] :=
    ⟨blk_own' (Blk.new w _ _) rfl (by omega), (Off.refl _ _).alloc _, fun b hb => by simp [Value.ownBlock] at hb; omega⟩
  have HF := k _ _ _ _ h1
  clear k h1
  cases b
  · go_enter Try.func57, Try.ntmps57
    go_wp2_with fail
    exact HF
  · go_enter Try.func57, Try.ntmps57
    go_wp2_with fail
    exact HF
set_option maxRecDepth 100000 in
set_option maxHeartbeats 400000 in
theorem refRow_c (a : Option Addr) (n c : Nat) (l : List UInt8) (w : World) (hn : l.length = n) (h : Sl w a (bys l)) (bd : n ≤ 1000000000) (R : Ending → World → Prop) (k : ∀ w' g m d, BOut w w' g m d (rowEnc l) → R (.returned (.slice g m d)) w') :
    Calls Try.prog 79 #[.slice a n c] w R := by
  have HK := Lib.hid k; clear k
  have HN := Lib.hid hn; clear hn
  obtain ⟨i0, hi, hz0, hz1, hz2⟩ := info_parts u8info
  go_enter Try.func79, Try.ntmps79
  go_wp2_with (go_at_call 87; go_must (refine refNumber_o n _ (by omega) _ ?_))
  intro w1 g1 n1 d1 h1
  have hs := h.old h1.off
  have hl1 : n1 ≤ 9 := by rw [← h1.len]; exact enc_len (by omega)
  have hln : Hid ((bys l).length = n * 1) := by show _ = _; rw [bys_length, HN.out]; omega
  go_wp2_with (at_builtin; go_must (refine wpList_append_sl rfl (.tmp 11) (.tmp 12) 57 rfl 5 i0 (.int .u8 0) 1 1 Try.underlying57 hi hz0 hz1 hz2 rfl (by decide) (.slice g1 n1 d1) n1 (bys (enc n)) rfl h1.own a n c (bys l) rfl hln.out hs (bys_oneCell l) (by omega) (by omega) ?_))
  intro g2 d2 w2 hg
  have h2 := h1.app hg
  have HF : R (.returned (.slice g2 (n1 + n) d2)) w2 := HK.out w2 g2 _ d2 (by rw [rowEnc, HN.out]; exact h2)
  clear HK hg h2
  go_wp2_with fail
  exact HF
end Go.Proofs.Ytahpfcfecghpmaa
