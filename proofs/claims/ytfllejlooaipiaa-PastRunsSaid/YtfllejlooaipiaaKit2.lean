/- The verifier's kit: marks, lent and kept bytes. -/
import Derived.Test.YtfllejlooaipiaaKit
namespace Go.Proofs.Ytfllejlooaipiaa
open Go.RowKit

theorem wpList_append_fit_new {P : Program} {w : World} {ops : Array Oper} {rest : List Oper} {o : Oper} {a : Act} {Q : Exit → Act → World → Prop} (hgd : o.guard = none) (s x : Operand) (t : TypeId)
    (ho : o.op = .call { callee := .builtin .append, args := #[s, x], argTypes := #[t, t] })
    (e : TypeId) (i : TypeInfo) (z : Value) (size bytes : Nat) (ht : P.underlying t = some (.slice e)) (hi : P.info? e = some i) (hz : i.zero = some z)
    (hsize : i.size = size) (hby : i.bytes = bytes) (hzs : z.cells.size = size) (hsz : 0 < size)
    (g n cap : Nat) (xs : List Value) (hs : a.eval s = .slice (some ⟨g, 0, none⟩) n cap) (hown : w.ownsRow 0 e size (.slice (some ⟨g, 0, none⟩) n cap) n xs)
    (m c : Nat) (news : List Value) (hx : a.eval x = .slice (some ⟨w.heap.size, 0, none⟩) m c) (hl : news.length = m * size) (h1 : ∀ u ∈ news, u.oneCell' = true)
    (hroom : n + m ≤ cap) (hbytes : (n + m) * bytes ≤ 140737488355328) (h63 : n + m ≤ 140737488355328)
    (h : ∀ w', w'.ownsRow 0 e size (.slice (some ⟨g, 0, none⟩) (n + m) cap) (n + m) (xs ++ news) → Off (fun k => k = g) w w' → wpList P ops Q rest (a.put o.dst (.slice (some ⟨g, 0, none⟩) (n + m) cap)) w') : wpList P ops Q (o :: rest) a (w.alloc (.cells news.toArray e)) :=
  wpList_append_fit hgd s x t ho e i z size bytes ht hi hz hsize hby hzs hsz g n cap xs hs (hown.alloc _) _ m c news hx hl (Sl.new w news e) h1 hroom hbytes h63 (fun w' h1 h2 => h w' h1 (((Off.refl (fun k => k = g) w).alloc (.cells news.toArray e)).trans h2))

/-- the mark of a place. -/
def markN (k i : Nat) : Nat := 1000003 * (k + 7) + i
def markB (k i : Nat) : UInt8 := UInt8.ofNat ((markN k i * 11400714819323198485) % 18446744073709551616 / 72057594037927936)
theorem markB_lt (n : Nat) : (n % 18446744073709551616) / 72057594037927936 < 256 := by omega

theorem mark_wrap (n : Nat) : IntKind.u64.wrap ((n : Int) * 11400714819323198485) / 72057594037927936 % 256 = ((n * 11400714819323198485 % 18446744073709551616 / 72057594037927936 : Nat) : Int) := by
  rw [IntKind.wrap_u64]
  have h := markB_lt (n * 11400714819323198485)
  have e : (n : Int) * 11400714819323198485 % 18446744073709551616 = ((n * 11400714819323198485 % 18446744073709551616 : Nat) : Int) := by simp
  rw [e]
  generalize n * 11400714819323198485 % 18446744073709551616 = q at *
  omega

set_option maxRecDepth 100000 in
set_option maxHeartbeats 400000 in
theorem mark_c (k i : Nat) (hk : k ≤ 1000000) (hi : i ≤ 1000000000) (w : World) (R : Ending → World → Prop) (K : R (.returned (.int .i64 (markN k i))) w) :
    Calls Try.prog 84 #[.int .i64 k, .int .i64 i] w R := by
  have e : ((markN k i : Nat) : Int) = 1000003 * ((k : Int) + 7) + i := by simp [markN]
  rw [e] at K
  go_enter Try.func84, Try.ntmps84
  go_wp2_with fail
  exact K

set_option maxRecDepth 100000 in
set_option maxHeartbeats 400000 in
theorem markByte_c (k i : Nat) (hk : k ≤ 1000000) (hi : i ≤ 1000000000) (w : World) (R : Ending → World → Prop) (K : R (.returned (.int .u8 ((markB k i).toNat : Int))) w) :
    Calls Try.prog 81 #[.int .i64 k, .int .i64 i] w R := by
  have hm : markN k i ≤ 1100000000000 := by unfold markN; omega
  have e : ((markB k i).toNat : Int) = ((markN k i * 11400714819323198485) % 18446744073709551616 / 72057594037927936 : Nat) := by
    unfold markB
    rw [UInt8.toNat_ofNat', Nat.mod_eq_of_lt (markB_lt _)]
  rw [e] at K
  clear e
  have HK := Lib.hid K; clear K
  go_enter Try.func81, Try.ntmps81
  go_wp2_with (go_at_call 84; refine mark_c _ _ hk hi _ _ ?_)
  generalize markN k i = n at *
  have HF : R (.returned (.int .u8 (IntKind.u64.wrap ((n : Int) * 11400714819323198485) / 72057594037927936 % 256))) w := by rw [mark_wrap]; exact HK.out
  clear HK
  go_wp2_with fail
  exact HF

theorem markByte_q (k i : Int) (k0 : 0 ≤ k) (hk : k ≤ 1000000) (i0 : 0 ≤ i) (hi : i ≤ 1000000000) (w : World) :
    Calls Try.prog 81 #[.int .i64 k, .int .i64 i] w fun e w' => e = .returned (.int .u8 ((markB k.toNat i.toNat).toNat : Int)) ∧ w' = w := by
  obtain ⟨k, rfl⟩ := Int.eq_ofNat_of_zero_le k0
  obtain ⟨i, rfl⟩ := Int.eq_ofNat_of_zero_le i0
  exact markByte_c k i (by omega) (by omega) w _ ⟨rfl, rfl⟩

/-- the marks behind n places on. -/
def marksB (k n m : Nat) : List UInt8 := (List.range m).map fun i => markB k (n + i)
@[simp] theorem marksB_length (k n m : Nat) : (marksB k n m).length = m := by simp [marksB]
theorem marksB_succ (k n m : Nat) : marksB k n (m + 1) = marksB k n m ++ [markB k (n + m)] := by simp [marksB, List.range_succ]
theorem marksB_at {k n m i : Nat} (h : i < m) : (marksB k n m)[i]? = some (markB k (n + i)) := by simp [marksB, h]

/-- a row whose room is just filled is a whole block. -/
theorem own_full {w : World} {e : TypeId} {g : Nat} {n : Nat} {xs : List Value} (h : w.ownsRow 0 e 1 (.slice (some ⟨g, 0, none⟩) n n) n xs) : Blk w g xs e := by
  rcases h.2 with ⟨h1, _⟩ | ⟨g', cap, cur, h1, _, h2, _, _, h3, h4⟩
  · cases h1
  · cases h1
    unfold Blk
    rw [h2]
    have : cur.toList.take (n * 1) = cur.toList := List.take_of_length_le (by simp; omega)
    rw [this] at h4
    rw [← h4]
theorem blk_own {w : World} {e : TypeId} {g : Nat} {xs : List Value} {n : Nat} (h : Blk w g xs e) (hn : n = xs.length) (hm : n ≤ 140737488355328) : w.ownsRow 0 e 1 (.slice (some ⟨g, 0, none⟩) n n) n xs := by
  subst hn
  refine ⟨by simp, .inr ⟨g, xs.length, xs.toArray, rfl, Nat.zero_le _, h, Nat.le_refl _, by unfold maxLen; omega, by simp, by simp⟩⟩

set_option maxRecDepth 100000 in
set_option maxHeartbeats 1000000 in
theorem lentBytes_c (a : Option Addr) (n c : Nat) (l : List UInt8) (w : World) (hn : n = l.length) (h : Sl w a (bys l)) (bd : l.length ≤ 100000000000000) (R : Ending → World → Prop)
    (k : ∀ w' g, Blk w' g (bys (l ++ marksB 1 0 12)) 5 → Off Old w w' → w.heap.size ≤ g → R (.returned (.slice (some ⟨g, 0, none⟩) l.length (l.length + 12))) w') :
    Calls Try.prog 45 #[.slice a n c] w R := by
  subst hn
  obtain ⟨i0, hi, hz0, hz1, hz2⟩ := info_parts u8info
  have HK := Lib.hid k; clear k
  go_enter Try.func45, Try.ntmps45
  go_wp2_with (at_make; go_must (refine wpList_make_new rfl _ _ 43 rfl 5 i0 (.int .u8 0) 1 1 Try.underlying43 hi hz0 hz1 hz2 _ _ _ (l.length + 12) rfl rfl (by omega) (by omega) (by omega) ?_))
  intro w1 hown ho1
  have h1 := h.old ho1
  go_wp2_with (at_builtin; go_must (refine wpList_append_fit rfl (.tmp 9) (.tmp 10) 43 rfl 5 i0 (.int .u8 0) 1 1 Try.underlying43 hi hz0 hz1 hz2 rfl (by decide) w.heap.size 0 (l.length + 12) [] rfl hown a l.length c (bys l) rfl (by simp) h1 (bys_oneCell _) (by omega) (by omega) (by omega) ?_))
  intro w2 hown2 ho2
  have ho3 : Off Old w w2 := ho1.step ho2 (by intro i e hl; omega)
  clear ho2 ho1 h1 hown h
  go_wp2_with fail
  go_loopw [3, 4] (fun v i wr => ∃ j : Nat, i = .int .i64 j ∧ j ≤ 12 ∧ v = .slice (some ⟨w.heap.size, 0, none⟩) (l.length + j) (l.length + 12) ∧ wr.ownsRow 0 5 1 (.slice (some ⟨w.heap.size, 0, none⟩) (l.length + j) (l.length + 12)) (l.length + j) (bys (l ++ marksB 1 0 j)) ∧ Off Old w wr) (fun _ i _ => 12 - (intOf i).toNat)
  case atStart => exact ⟨0, rfl, by omega, rfl, by simpa [marksB] using hown2, ho3⟩
  case round =>
    obtain ⟨j, rfl, hj, rfl, hown, ho⟩ := hrel
    by_cases hlt : j < 12
    · go_wp2_with (first | (go_at_call 81; refine markByte_c 1 j (by omega) (by omega) _ _ ?_) | (at_builtin; go_must (refine wpList_append_fit_new rfl (.tmp 16) (.tmp 19) 43 rfl 5 i0 (.int .u8 0) 1 1 Try.underlying43 hi hz0 hz1 hz2 rfl (by decide) w.heap.size (l.length + j) (l.length + 12) (bys (l ++ marksB 1 0 j)) rfl hown 1 1 (bys [markB 1 j]) rfl rfl (bys_oneCell _) (by omega) (by omega) (by omega) ?_)))
      intro w3 hown3 ho4
      have hown4 : w3.ownsRow 0 5 1 (.slice (some ⟨w.heap.size, 0, none⟩) (l.length + (j + 1)) (l.length + 12)) (l.length + (j + 1)) (bys (l ++ marksB 1 0 (j + 1))) := by
        have := hown3
        rw [marksB_succ]
        simpa [Nat.add_assoc] using this
      have ho5 : Off Old w w3 := ho.step ho4 (by intro i e hl; omega)
      clear hown hown3 ho ho4
      go_wp2_with fail
      go_roundw
      case rel => exact ⟨j + 1, by go_num, by omega, by simp [Nat.add_assoc], hown4, ho5⟩
      case measure => simp [intOf]; omega
    · obtain rfl : j = 12 := by omega
      have HF := HK.out wr w.heap.size (own_full hown) ho (Nat.le_refl _)
      clear HK
      go_wp2_with fail
      exact HF
end Go.Proofs.Ytfllejlooaipiaa
