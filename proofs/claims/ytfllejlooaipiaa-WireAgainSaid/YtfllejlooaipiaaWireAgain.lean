/- WireAgain's walk. -/
import Derived.Test.YtfllejlooaipiaaLaw02
import Derived.Test.YtfllejlooaipiaaPure2
namespace Go.Proofs.Ytfllejlooaipiaa
open Go.RowKit

theorem intinfo : (Try.prog.info? 3).map (fun i => (i.zero, i.size, i.bytes)) = some (some (.int .i64 0), 1, 8) := by kernel_rfl

/-- what stands between the rounds: what was read, as numbers, and what is left. -/
def AgainInv (l : List UInt8) (s : RS) (L : List Int) : Prop := (∀ x ∈ L, numOk x = true) ∧ L.length + rsLen s ≤ l.length ∧ ∀ r, s = some r → l = encs L ++ r
theorem again_step {l : List UInt8} {s : RS} {L : List Int} (h : AgainInv l s L) {n : Int} {r : List UInt8} (hr : rdNum 4611686018427387903 s = (n, some r)) : AgainInv l (some r) (L ++ [n]) := by
  obtain ⟨N, rfl, rfl, _, hN⟩ := rdNum_some hr
  obtain ⟨h1, h2, h3⟩ := h
  refine ⟨fun x hx => ?_, ?_, fun r' e => ?_⟩
  · simp only [List.mem_append, List.mem_singleton] at hx
    rcases hx with hx | rfl
    · exact h1 x hx
    · simp [numOk, hN]
  · have := enc_pos N
    simp [rsLen] at h2 ⊢; omega
  · cases e
    rw [h3 _ rfl]; simp [encs]

set_option maxRecDepth 100000 in
set_option maxHeartbeats 2000000 in
theorem wireAgain_c (a : Option Addr) (n c : Nat) (l : List UInt8) (w : World) (hn : n = l.length) (h : Sl w a (bys l)) (R : Ending → World → Prop) (k : ∀ w', Off Old w w' → R (.returned (.bool true)) w') :
    Calls Try.prog 4 #[.slice a n c] w R := by
  subst hn
  obtain ⟨i0, hi, hz0, hz1, hz2⟩ := info_parts intinfo
  have HK := Lib.hid k; clear k
  go_enter Try.func4, Try.ntmps4
  go_wp2_with (go_at_call 30; refine awake02_c _ _ ?_)
  intro w1 ho1
  by_cases hbig : 20000 < l.length
  · have HF := HK.out w1 ho1
    clear HK
    go_wp2_with fail
    exact HF
  · have h1 := h.old ho1
    have bd : l.length ≤ 140737488355328 := by omega
    go_wp2_with (go_at_call 31; refine newReader_c _ _ _ l _ rfl h1 bd _ ?_)
    intro w2 p bb hr ho2 hp hp2
    have ho3 := ho1.trans ho2
    have h3 := h1.old ho2
    have hz := ho1.size
    have hpw : w.heap.size ≤ bb := by omega
    clear ho1 ho2 h1 hz hp
    go_wp2_with fail
    go_loopg [4, 5] (rsLen (some l)) (fun kq v4 _ wr => ∃ (s : RS) (L : List Int) (g : Option Addr) (d : Nat), v4 = .slice g L.length d ∧ rsLen s ≤ kq ∧ Rd wr p bb s ∧ wr.ownsRow 0 3 1 (.slice g L.length d) L.length (ins L) ∧ Off Old w wr ∧ (∀ q, g = some q → p < q.block) ∧ AgainInv l s L)
    case atStart => exact ⟨some l, [], none, 0, rfl, Nat.le_refl _, hr, World.ownsRow_nil _ _ _ _, ho3, by simp, by simp, by simp [rsLen], by simp [encs]⟩
    case round =>
      obtain ⟨s, L, g, d, rfl, hk, hr, hown, ho, hg, hinv⟩ := hrel
      by_cases hpos : 0 < rdLeft s
      · go_wp2_with (first | (go_at_call 32; refine left_c _ _ _ _ hr _ ?_) | (go_at_call 33; refine number_r _ _ _ _ _ hr _ ?_))
        intro w3 hr3 ho4
        have hpg : ∀ k, (Value.slice g L.length d).ownBlock = some k → ¬ k = p := by
          intro k hkk e
          subst e
          cases s with
          | none => exact own_blk_ne hown (show Blk _ _ _ _ from hr) (by decide) hkk
          | some r => obtain ⟨_, _, hb, _⟩ := hr; exact own_blk_ne hown hb (by decide) hkk
        have hown3 := own_off hown ho4 hpg
        have ho5 : Off Old w w3 := ho.step ho4 (by rintro i rfl hl; omega)
        have hlt : rsLen s = rdLeft s := by cases s <;> rfl
        have HLT := Lib.hid hlt
        clear ho4 hpg hown ho hr hlt
        cases hs : (rdNum 4611686018427387903 s).2 with
        | none =>
          have hs := Lib.hid hs
          rename_i hs0
          clear hs0
          rw [hs.out] at hr3
          have hi2 : AgainInv l none L := ⟨hinv.1, by have := hinv.2.1; simp [rsLen]; omega, by simp⟩
          go_wp2_with (first | (go_at_call 34; refine end_c _ _ _ _ hr3 _ ?_) | (go_at_call 32; refine left_c _ _ _ _ hr3 _ ?_))
          go_roundg 0
          case measure => have := HLT.out; omega
          case rel => exact ⟨none, L, g, d, rfl, Nat.le_refl _, hr3, hown3, ho5, hg, hi2⟩
        | some r =>
          have hn := again_step hinv (n := (rdNum 4611686018427387903 s).1) (r := r) (by rw [← hs])
          have hrl : r.length < rsLen s := by
            cases s with
            | none => simp [rdNum] at hs
            | some l' =>
              simp only [rdNum] at hs
              split at hs
              · rename_i hg; cases hs; exact (getN_len hg).1
              · cases hs
          have hs := Lib.hid hs
          rename_i hs0
          clear hs0
          rw [hs.out] at hr3
          have hbnd := hn.2.1
          generalize (rdNum 4611686018427387903 s).1 = N at *
          clear hs
          have hend : rdEnd (some r) = 0 ∧ r = [] ∨ rdEnd (some r) = 4 ∧ 0 < r.length := by cases r <;> simp [rdEnd]
          rcases hend with ⟨he, hr0⟩ | ⟨he, hr0⟩
          all_goals
            have hrl0 : 0 ≤ rdLeft (some r) := Nat.zero_le _
            go_wp2_with (first | (go_at_call 34; refine end_c _ _ _ _ hr3 _ ?_) | (go_at_call 32; refine left_c _ _ _ _ hr3 _ ?_) | (at_builtin; go_must (refine wpList_append_new rfl (.tmp 28) (.tmp 30) 57 rfl 3 i0 (.int .i64 0) 1 8 Try.underlying57 hi hz0 hz1 hz2 rfl (by decide) (.slice g L.length d) L.length (ins L) rfl hown3 1 1 (ins [N]) rfl rfl (ins_oneCell _) (by simp at hbnd; omega) (by simp at hbnd; omega) ?_)))
            intro g' d' w4 hgr
            have hb4 : bb ≤ p := hp2
            have hr4 := hr3.off hgr.off (by
              intro e; cases g with
              | none => cases e
              | some q => have := hg q rfl; simp [Value.ownBlock] at e; omega) (by
              intro e; cases g with
              | none => cases e
              | some q => have := hg q rfl; simp [Value.ownBlock] at e; omega)
            have ho6 : Off Old w w4 := ho5.step hgr.off (by
              intro i e hl; cases g with
              | none => cases e
              | some q => have := hg q rfl; simp [Value.ownBlock] at e; omega)
            have hpl := hr3.lt
            have hg' : ∀ q, g' = some q → p < q.block := by
              intro q e; subst e
              rcases hgr.mov q.block rfl with h | h
              · cases g with
                | none => cases h
                | some q0 => have := hg q0 rfl; simp [Value.ownBlock] at h; omega
              · omega
            have hown4 : w4.ownsRow 0 3 1 (.slice g' (L ++ [N]).length d') (L ++ [N]).length (ins (L ++ [N])) := by simpa [ins] using hgr.own
            clear hgr hown3 hr3 ho5
            go_wp2_with fail
            go_roundg r.length
            case measure => omega
            case rel => exact ⟨some r, L ++ [N], g', d', by simp, Nat.le_refl _, hr4, hown4, ho6, hg', hn⟩
      · have hz : rdLeft s = 0 := by omega
        have hZ := Lib.hid hz
        cases s with
        | none =>
          have HF := HK.out wr ho
          clear HK
          go_wp2_with (first | (go_at_call 32; refine left_c _ _ _ _ hr _ ?_) | (go_at_call 34; refine end_c _ _ _ _ hr _ ?_))
          exact HF
        | some r =>
          have hr0 : r = [] := List.eq_nil_of_length_eq_zero hz
          subst hr0
          clear hz hZ
          obtain ⟨hi1, hi2, hi3⟩ := hinv
          have hl := hi3 [] rfl
          rw [List.append_nil] at hl
          have hL := Lib.hid hl
          clear hl hi3
          go_wp2_with (first | (go_at_call 32; refine left_c _ _ _ _ hr _ ?_) | (go_at_call 34; refine end_c _ _ _ _ hr _ ?_) | (go_at_call 24; refine newWriter_c _ _ ?_))
          intro w5 hw5 ho5 hz5
          clear hz5
          obtain ⟨_, _, hsl⟩ := own_sl2 (own_off hown ho5 (fun _ _ x => x))
          have hgl : ∀ q, g = some q → L ≠ [] → q.block ≠ wr.heap.size ∧ (none : Option Addr).map Addr.block ≠ some q.block := fun q hq _ => ⟨by have := own_lt hown (k := q.block) (by subst hq; rfl); omega, by simp⟩
          go_wp2_with (go_at_call 35; refine numbers_c _ _ _ _ _ _ _ L _ hw5 hsl hgl (by simp; omega) _ ?_)
          intro w6 g6 d6 hw6 hs6
          rw [putNums_ok L _ hi1, List.nil_append, ← hL.out] at hw6
          have ho6 : Off Old w w6 := (ho.trans ho5).step hs6.off (by
            rintro i (rfl | e) hl
            · have := ho.size; omega
            · cases e)
          go_wp2_with (go_at_call 25; refine done_c _ _ _ _ _ _ hw6 bd _ (by simp) ?_)
          intro w7 g7 d7 e1 e2 e3
          obtain ⟨_, _, hsl7⟩ := own_sl2 e1
          have ho7 := ho6.trans e2
          have h7 := h.old ho7
          go_wp2_with (go_at_call 26; refine sameBytes_c _ _ _ _ _ _ l l _ rfl rfl h7 hsl7 bd _ ?_)
          rintro w8 ⟨m, rfl⟩
          have HF := HK.out _ (ho7.drewN m)
          clear HK
          go_wp2_with fail
          exact HF
end Go.Proofs.Ytfllejlooaipiaa
