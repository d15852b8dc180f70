/- The verifier's kit: marks that are texts. -/
import Derived.Test.YtahpfcfecghpmaaKit
import Derived.Test.YtahpfcfecghpmaaLib2
namespace Go.Proofs.Ytahpfcfecghpmaa
open Go.RowKit

theorem own_full_s {w : World} {e : TypeId} {s g n : Nat} {xs : List Value} (h : w.ownsRow 0 e s (.slice (some ⟨g, 0, none⟩) n n) n xs) : Blk w g xs e := by
  rcases h.2 with ⟨h1, _⟩ | ⟨g', cap, cur, h1, _, h2, _, _, h3, h4⟩
  · cases h1
  · cases h1
    unfold Blk
    rw [h2]
    have : cur.toList.take (n * s) = cur.toList := List.take_of_length_le (by simp; omega)
    rw [this] at h4
    rw [← h4]
theorem toList_inj (a b : ByteArray) : a.toList = b.toList ↔ a = b := by
  rw [ByteArray.toList_eq, ByteArray.toList_eq]
  obtain ⟨⟨x⟩⟩ := a
  obtain ⟨⟨y⟩⟩ := b
  simp
theorem Blk.old {w w' : World} {b : Nat} {cs : List Value} {t : TypeId} (h : Blk w b cs t) (ho : Off Old w w') : Blk w' b cs t := h.off ho (fun x => x)
def markTL (k i : Nat) : List UInt8 := [35, UInt8.ofNat k, UInt8.ofNat (k / 256), UInt8.ofNat (k / 65536), 47, UInt8.ofNat i, UInt8.ofNat (i / 256), UInt8.ofNat (i / 65536)]
def markT (k i : Nat) : ByteArray := ⟨(markTL k i).toArray⟩
theorem u8_val (n : Nat) : ((UInt8.ofNat n).toNat : Int) = (n : Int) % 256 := by
  rw [UInt8.toNat_ofNat']; omega
set_option maxHeartbeats 400000 in
set_option maxRecDepth 100000 in
theorem markText_c (k i : Nat) (hk : k ≤ 1000000) (_ : i ≤ 1000000000) (w : World) (R : Ending → World → Prop) (K : ∀ w', Off Old w w' → R (.returned (.string (markT k i))) w') :
    Calls Try.prog 69 #[.int .i64 k, .int .i64 i] w R := by
  have HK := Lib.hid K; clear K
  have hbs : #[Value.int IntKind.u8 35, Value.int IntKind.u8 ((k : Int) % 256), Value.int IntKind.u8 ((k : Int) / 256 % 256), Value.int IntKind.u8 ((k : Int) / 65536), Value.int IntKind.u8 47, Value.int IntKind.u8 ((i : Int) % 256), Value.int IntKind.u8 ((i : Int) / 256 % 256), Value.int IntKind.u8 ((i : Int) / 65536 % 256)] = (bys (markTL k i)).toArray := by
    simp only [bys, markTL, List.map_cons, List.map_nil, u8_val]
    have h1 : (k : Int) / 65536 = ((k / 65536 : Nat) : Int) % 256 := by omega
    rw [h1]
    simp
  have hcv : (convert 57 9 (.slice (some ⟨w.heap.size, 0, none⟩) 8 8)).run Try.prog (w.alloc (.cells #[Value.int IntKind.u8 35, Value.int IntKind.u8 ((k : Int) % 256), Value.int IntKind.u8 ((k : Int) / 256 % 256), Value.int IntKind.u8 ((k : Int) / 65536), Value.int IntKind.u8 47, Value.int IntKind.u8 ((i : Int) % 256), Value.int IntKind.u8 ((i : Int) / 256 % 256), Value.int IntKind.u8 ((i : Int) / 65536 % 256)] 5))
      = .ok (.string (markT k i)) (w.alloc (.cells #[Value.int IntKind.u8 35, Value.int IntKind.u8 ((k : Int) % 256), Value.int IntKind.u8 ((k : Int) / 256 % 256), Value.int IntKind.u8 ((k : Int) / 65536), Value.int IntKind.u8 47, Value.int IntKind.u8 ((i : Int) % 256), Value.int IntKind.u8 ((i : Int) / 256 % 256), Value.int IntKind.u8 ((i : Int) / 65536 % 256)] 5)) := by
    rw [hbs]
    exact run_string_of_sl Try.underlying57 Try.underlying5 Try.underlying9 rfl (Sl.new w (bys (markTL k i)) 5)
  clear hbs
  have HF := HK.out _ ((Off.refl Old w).alloc (.cells #[Value.int IntKind.u8 35, Value.int IntKind.u8 ((k : Int) % 256), Value.int IntKind.u8 ((k : Int) / 256 % 256), Value.int IntKind.u8 ((k : Int) / 65536), Value.int IntKind.u8 47, Value.int IntKind.u8 ((i : Int) % 256), Value.int IntKind.u8 ((i : Int) / 256 % 256), Value.int IntKind.u8 ((i : Int) / 65536 % 256)] 5))
  clear HK
  go_enter Try.func69, Try.ntmps69
  go_wp2_with fail
  exact HF
end Go.Proofs.Ytahpfcfecghpmaa
