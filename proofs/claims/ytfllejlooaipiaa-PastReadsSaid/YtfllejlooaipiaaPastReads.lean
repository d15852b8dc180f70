/- PastReads' walk. -/
import Derived.Test.YtfllejlooaipiaaLaw17
namespace Go.Proofs.Ytfllejlooaipiaa
open Go.RowKit
set_option linter.unusedSimpArgs false

set_option maxHeartbeats 400000 in
theorem pastReads_c (a : Option Addr) (c : Nat) (l : List UInt8) (w : World) (hs : Sl w a (bys l)) (hc : l.length ≤ c) (hm : c ≤ 9223372036854775807) (hn : a = none → c = 0) (R : Ending → World → Prop) (k : ∀ w', Off Old w w' → R (.returned (.bool true)) w') :
    Calls Try.prog 5 #[.slice a l.length c] w R := by
  by_cases hlen : 1000 < l.length
  · have HK := Lib.hid k; clear k
    go_enter Try.func5, Try.ntmps5
    go_wp2_with (go_at_call 11; go_must (refine awake17_c _ _ ?_))
    intro w1 ho
    have HF := HK.out w1 ho
    clear HK
    go_wp2_with fail
    exact HF
  · have HK := Lib.hid k; clear k
    go_enter Try.func5, Try.ntmps5
    go_wp2_with (go_at_call 31; refine newReader_c a _ _ l _ rfl hs (by omega) _ ?_)
    intro w1 p bb hr ho1 hb1 hb2
    have hp1 := hr.lt
    have hbk := Blk.new w1 #[.slice a l.length c, .bool false] 65
    have ho2 : Off Old w1 (w1.alloc (.cells #[.slice a l.length c, .bool false] 65)) := (Off.refl _ _).alloc _
    have hf0 : RefRd (w1.alloc (.cells #[.slice a l.length c, .bool false] 65)) w1.heap.size (fun k => w.heap.size ≤ k) (some l) :=
      ⟨ho1.size, a, c, hbk, (hs.old ho1).old ho2, fun q e hne => by have := hs.lt e (by simpa [bys] using hne); omega, hc, hm, hn⟩
    have hr2 := hr.old ho2
    go_wp2_with (go_at_call 36; refine pread_c p bb (some l) _ hr2 hb2 _ ?_ ?_)
    · intro e0 w2 hr3 ho3
      have hz1 := ho1.size
      have hz3 := ho3.size
      rw [World.size_alloc] at hz3
      have hf1 := hf0.off ho3 (by omega) (by rintro k rfl; omega)
      have ho4 : Off Old w w2 := (ho1.trans ho2).step ho3 (by rintro i rfl hi; omega)
      go_wp2_with (go_at_call 37; refine rread_c _ _ (some l) _ hf1 (fun k hk => by omega) _ ?_ (fun h => absurd e0 h))
      intro w3 hf2 ho5
      have ho6 : Off Old w w3 := ho4.step ho5 (by rintro i rfl hi; omega)
      go_wp2_with fail
      refine wp_region_any (by kernel_rfl) ?_
      try (change wpAny _ _ _ _ _ _ _ (World.drew _))
      refine wpAny_take (i := 0) (v := ?_) rfl (by kernel_rfl) (by kernel_rfl) (by kernel_rfl) (fun _ _ _ h => h) (Or.inl ⟨by rfl, ?_⟩) ?_
      rotate_left
      · (intro w; go_simp; try with_reducible rfl)
      try simp only [Act.put, List.getElem_toArray, List.getElem_cons_zero, List.getElem_cons_succ, List.setIfInBounds_toArray, List.set_cons_zero, List.set_cons_succ]
      refine wpAny_take (i := 1) (v := ?_) rfl (by kernel_rfl) (by kernel_rfl) (by kernel_rfl) (fun _ _ _ h => h) (Or.inl ⟨by rfl, ?_⟩) ?_
      rotate_left
      · (intro w; go_simp; try with_reducible rfl)
      try simp only [Act.put, List.getElem_toArray, List.getElem_cons_zero, List.getElem_cons_succ, List.setIfInBounds_toArray, List.set_cons_zero, List.set_cons_succ]
      refine wpAny_take (i := 2) (v := ?_) rfl (by kernel_rfl) (by kernel_rfl) (by kernel_rfl) (fun _ _ _ h => h) (Or.inl ⟨by rfl, ?_⟩) ?_
      rotate_left
      · (intro w; go_simp; try with_reducible rfl)
      try simp only [Act.put, List.getElem_toArray, List.getElem_cons_zero, List.getElem_cons_succ, List.setIfInBounds_toArray, List.set_cons_zero, List.set_cons_succ]
      refine wpAny_take (i := 3) (v := undef) rfl (by kernel_rfl) (by kernel_rfl) (by kernel_rfl) (fun _ _ _ h => h) (Or.inr ⟨by rfl, rfl⟩) ?_
      try simp only [Act.put, List.getElem_toArray, List.getElem_cons_zero, List.getElem_cons_succ, List.setIfInBounds_toArray, List.set_cons_zero, List.set_cons_succ]
      refine wpAny_take (i := 4) (v := undef) rfl (by kernel_rfl) (by kernel_rfl) (by kernel_rfl) (fun _ _ _ h => h) (Or.inr ⟨by rfl, rfl⟩) ?_
      try simp only [Act.put, List.getElem_toArray, List.getElem_cons_zero, List.getElem_cons_succ, List.setIfInBounds_toArray, List.set_cons_zero, List.set_cons_succ]
      refine wpAny_ready (rs := [5]) (by kernel_rfl) (by simp) ?_
      refine AllReady.cons rfl (fun K hK => ?_) AllReady.nil
      rw [if_neg (Bool.eq_false_iff.1 (by rfl))]
      refine hK _ _ ?_
      clear hK K
      try simp only [Act.put, List.getElem_toArray, List.getElem_cons_zero, List.getElem_cons_succ, List.setIfInBounds_toArray, List.set_cons_zero, List.set_cons_succ]
      refine wpAny_take (i := 6) (v := undef) rfl (by kernel_rfl) (by kernel_rfl) (by kernel_rfl) (fun _ _ _ h => h) (Or.inr ⟨by rfl, rfl⟩) ?_
      try simp only [Act.put, List.getElem_toArray, List.getElem_cons_zero, List.getElem_cons_succ, List.setIfInBounds_toArray, List.set_cons_zero, List.set_cons_succ]
      refine wpAny_take (i := 7) (v := undef) rfl (by kernel_rfl) (by kernel_rfl) (by kernel_rfl) (fun _ _ _ h => h) (Or.inr ⟨by rfl, rfl⟩) ?_
      try simp only [Act.put, List.getElem_toArray, List.getElem_cons_zero, List.getElem_cons_succ, List.setIfInBounds_toArray, List.set_cons_zero, List.set_cons_succ]
      refine wpAny_take (i := 9) (v := undef) rfl (by kernel_rfl) (by kernel_rfl) (by kernel_rfl) (fun _ _ _ h => h) (Or.inr ⟨by rfl, rfl⟩) ?_
      try simp only [Act.put, List.getElem_toArray, List.getElem_cons_zero, List.getElem_cons_succ, List.setIfInBounds_toArray, List.set_cons_zero, List.set_cons_succ]
      refine wpAny_take (i := 10) (v := undef) rfl (by kernel_rfl) (by kernel_rfl) (by kernel_rfl) (fun _ _ _ h => h) (Or.inr ⟨by rfl, rfl⟩) ?_
      try simp only [Act.put, List.getElem_toArray, List.getElem_cons_zero, List.getElem_cons_succ, List.setIfInBounds_toArray, List.set_cons_zero, List.set_cons_succ]
      refine wpAny_take (i := 11) (v := undef) rfl (by kernel_rfl) (by kernel_rfl) (by kernel_rfl) (fun _ _ _ h => h) (Or.inr ⟨by rfl, rfl⟩) ?_
      try simp only [Act.put, List.getElem_toArray, List.getElem_cons_zero, List.getElem_cons_succ, List.setIfInBounds_toArray, List.set_cons_zero, List.set_cons_succ]
      refine wpAny_take (i := 12) (v := undef) rfl (by kernel_rfl) (by kernel_rfl) (by kernel_rfl) (fun _ _ _ h => h) (Or.inr ⟨by rfl, rfl⟩) ?_
      try simp only [Act.put, List.getElem_toArray, List.getElem_cons_zero, List.getElem_cons_succ, List.setIfInBounds_toArray, List.set_cons_zero, List.set_cons_succ]
      refine wpAny_take (i := 13) (v := undef) rfl (by kernel_rfl) (by kernel_rfl) (by kernel_rfl) (fun _ _ _ h => h) (Or.inr ⟨by rfl, rfl⟩) ?_
      try simp only [Act.put, List.getElem_toArray, List.getElem_cons_zero, List.getElem_cons_succ, List.setIfInBounds_toArray, List.set_cons_zero, List.set_cons_succ]
      refine wpAny_ready (rs := [8]) (by kernel_rfl) (by simp) ?_
      refine AllReady.cons rfl (fun K hK => ?_) AllReady.nil
      rw [if_neg (Bool.eq_false_iff.1 (by rfl))]
      refine hK _ _ ?_
      clear hK K
      try simp only [Act.put, List.getElem_toArray, List.getElem_cons_zero, List.getElem_cons_succ, List.setIfInBounds_toArray, List.set_cons_zero, List.set_cons_succ]
      refine wpAny_take (i := 14) (v := undef) rfl (by kernel_rfl) (by kernel_rfl) (by kernel_rfl) (fun _ _ _ h => h) (Or.inr ⟨by rfl, rfl⟩) ?_
      try simp only [Act.put, List.getElem_toArray, List.getElem_cons_zero, List.getElem_cons_succ, List.setIfInBounds_toArray, List.set_cons_zero, List.set_cons_succ]
      refine wpAny_take (i := 15) (v := undef) rfl (by kernel_rfl) (by kernel_rfl) (by kernel_rfl) (fun _ _ _ h => h) (Or.inr ⟨by rfl, rfl⟩) ?_
      try simp only [Act.put, List.getElem_toArray, List.getElem_cons_zero, List.getElem_cons_succ, List.setIfInBounds_toArray, List.set_cons_zero, List.set_cons_succ]
      refine wpAny_take (i := 16) (v := ?_) rfl (by kernel_rfl) (by kernel_rfl) (by kernel_rfl) (fun _ _ _ h => h) (Or.inl ⟨by rfl, ?_⟩) ?_
      rotate_left
      · (intro w; go_simp; try with_reducible rfl)
      try simp only [Act.put, List.getElem_toArray, List.getElem_cons_zero, List.getElem_cons_succ, List.setIfInBounds_toArray, List.set_cons_zero, List.set_cons_succ]
      refine wpAny_take (i := 17) (v := ?_) rfl (by kernel_rfl) (by kernel_rfl) (by kernel_rfl) (fun _ _ _ h => h) (Or.inl ⟨by rfl, ?_⟩) ?_
      rotate_left
      · (intro w; go_simp; try with_reducible rfl)
      try simp only [Act.put, List.getElem_toArray, List.getElem_cons_zero, List.getElem_cons_succ, List.setIfInBounds_toArray, List.set_cons_zero, List.set_cons_succ]
      refine wpAny_ready (rs := [18]) (by kernel_rfl) (by simp) ?_
      refine AllReady.cons rfl (fun K hK => ?_) AllReady.nil
      go_simp
      (go_at_call 11; refine awake17_c _ _ ?_; intro w4 ho7)
      refine hK _ _ ?_
      clear hK K
      try simp only [Act.put, List.getElem_toArray, List.getElem_cons_zero, List.getElem_cons_succ, List.setIfInBounds_toArray, List.set_cons_zero, List.set_cons_succ]
      refine wpAny_take (i := 19) (v := ?_) rfl (by kernel_rfl) (by kernel_rfl) (by kernel_rfl) (fun _ _ _ h => h) (Or.inl ⟨by rfl, ?_⟩) ?_
      rotate_left
      · (intro w; go_simp; try with_reducible rfl)
      try simp only [Act.put, List.getElem_toArray, List.getElem_cons_zero, List.getElem_cons_succ, List.setIfInBounds_toArray, List.set_cons_zero, List.set_cons_succ]
      refine wpAny_take (i := 20) (v := ?_) rfl (by kernel_rfl) (by kernel_rfl) (by kernel_rfl) (fun _ _ _ h => h) (Or.inl ⟨by rfl, ?_⟩) ?_
      rotate_left
      · (intro w; go_simp; try with_reducible rfl)
      try simp only [Act.put, List.getElem_toArray, List.getElem_cons_zero, List.getElem_cons_succ, List.setIfInBounds_toArray, List.set_cons_zero, List.set_cons_succ]
      refine wpAny_done (by kernel_rfl) ?_ _
      have HF := HK.out w4 (ho6.drew.trans ho7)
      clear HK
      go_wp2_with fail
      exact HF
    · intro e0 w2 q hq hp2 hr3 ho3
      have hz1 := ho1.size
      have hz3 := ho3.size
      rw [World.size_alloc] at hz3
      have hf1 := hf0.off ho3 (by omega) (by rintro k rfl; omega)
      have ho4 : Off Old w w2 := (ho1.trans ho2).step ho3 (by rintro i rfl hi; omega)
      go_wp2_with (go_at_call 37; refine rread_c _ _ (some l) _ hf1 (fun k hk => by omega) _ (fun h => absurd h e0) ?_)
      intro w3 q' hq' hp3 hf2 ho5
      have ho6 : Off Old w w3 := ho4.step ho5 (by rintro i rfl hi; omega)
      have hp4 := hp2.off ho5 (by omega)
      have hr4 := hr3.off ho5 (by omega) (by omega)
      clear hr3 hp2 ho4 ho5 hf1 hf0 hr2 hr
      have HE := Lib.hid e0; clear e0
      obtain ⟨l', hl'⟩ : ∃ l', (rdMany 8 (some l)).2 = some l' := by
        cases h : (rdMany 8 (some l)).2 with
        | none => exact absurd h HE.out
        | some l' => exact ⟨l', rfl⟩
      rw [hl'] at hr4 hf2
      obtain ⟨_, a', c', hb3, _⟩ := hf2
      have hb8 : (((rdLeft (some l') : Nat) : Int) == (l'.length : Int)) = true := by simp [rdLeft]
      have hkeep0 : (Rd w3 p bb (some l') ∧ Blk w3 w1.heap.size [.slice a' l'.length c', .bool false] 65 ∧ Off Old w w3) ∧ w3.cell? ⟨w1.heap.size, 0, none⟩ = some (.slice a' l'.length c') := ⟨⟨hr4, hb3, ho6⟩, hb3.cell (i := 0) rfl⟩
      have hkeepd : (Rd w3.drew p bb (some l') ∧ Blk w3.drew w1.heap.size [.slice a' l'.length c', .bool false] 65 ∧ Off Old w w3.drew) ∧ w3.drew.cell? ⟨w1.heap.size, 0, none⟩ = some (.slice a' l'.length c') := ⟨⟨hr4.drew, hb3.drew, ho6.drew⟩, hb3.drew.cell (i := 0) rfl⟩
      clear hl' HE hs hn hbk
      generalize (rdMany 8 (some l)).1 = N at *
      go_wp2_with fail
      first | (go_region_held3 (fun w' => (Rd w' p bb (some l') ∧ Blk w' w1.heap.size [.slice a' l'.length c', .bool false] 65 ∧ Off Old w w') ∧ w'.cell? ⟨w1.heap.size, 0, none⟩ = some (.slice a' l'.length c')) (first | exact hkeepd | exact hkeep0 | exact hkeep1 | exact hkeep2) (first | (go_at_call 18; refine same_c q q' N N rfl _ (hp4.old (Off.refl Old w3).drew) (hp3.old (Off.refl Old w3).drew) _ ?_; intro w4 e4; have e5 := (Off.refl Old w3).drew.trans e4; have hkeep1 : (Rd w4 p bb (some l') ∧ Blk w4 w1.heap.size [.slice a' l'.length c', .bool false] 65 ∧ Off Old w w4) ∧ w4.cell? ⟨w1.heap.size, 0, none⟩ = some (.slice a' l'.length c') := ⟨⟨hkeep0.1.1.old e5, hkeep0.1.2.1.off e5 (fun x => x), hkeep0.1.2.2.trans e5⟩, e5.cell (fun x => x) hkeep0.2⟩) | (go_at_call 32; refine left_c _ _ (some l') _ hkeep1.1.1 _ ?_) | (go_at_call 11; refine awake17_c _ _ ?_; intro w5 e6; have hkeep2 : (Rd w5 p bb (some l') ∧ Blk w5 w1.heap.size [.slice a' l'.length c', .bool false] 65 ∧ Off Old w w5) ∧ w5.cell? ⟨w1.heap.size, 0, none⟩ = some (.slice a' l'.length c') := ⟨⟨hkeep1.1.1.old e6, hkeep1.1.2.1.off e6 (fun x => x), hkeep1.1.2.2.trans e6⟩, e6.cell (fun x => x) hkeep1.2⟩))) | fail
      have HF := HK.out w5 hkeep2.1.2.2
      clear HK
      go_wp2_with fail
      exact HF
end Go.Proofs.Ytfllejlooaipiaa
