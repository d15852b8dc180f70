/- The verifier's kit: of no rows it is said that they lie apart. -/
import Derived.Test.YtfllejlooaipiaaFlat0
import Derived.Test.YtfllejlooaipiaaProg
import Derived.KernelRfl
import Derived.Deep.OwnRows
namespace Go.Proofs.Ytfllejlooaipiaa
open Go.RowKit

set_option maxRecDepth 100000 in
theorem flatLimbs_nil (w : World) (R : Ending → World → Prop) (k : ∀ w', Off Old w w' → R (.returned (.bool true)) w') : Calls Try.prog 88 #[.slice none 0 0] w R := by
  have HK := Lib.hid k; clear k
  go_enter Try.func88, Try.ntmps88
  go_wp2_with fail
  go_loopw [3] (fun i wr => i = .int .i64 0 ∧ Off Old w wr) (fun _ _ => 0)
  case atStart => exact ⟨rfl, Off.refl _ _⟩
  case round =>
    obtain ⟨rfl, ho⟩ := hrel
    have hmk : ∀ w, (Instr.makeSlice 117 (.int .i64 0) (.int .i64 0)).run Try.prog w = .ok (.slice (some ⟨w.heap.size, 0, none⟩) 0 0) (w.alloc (.cells (madeCells #[.slice none 0 0] 0) 171)) := fun w =>
      Go.run_make_row' 117 171 (.slice none 0 0) 24 Try.underlying117 (by kernel_rfl) rfl .i64 .i64 0 (by omega) (by omega) w
    go_wp2_with fail
    go_loopw [6] (fun i wr => i = .int .i64 0 ∧ Off Old w wr) (fun _ _ => 0)
    case atStart => exact ⟨rfl, by first | exact ho | exact ho.alloc _⟩
    case round =>
      clear ho hmk
      obtain ⟨rfl, ho⟩ := hrel
      go_wp2_with fail
      go_loopw [9] (fun i wr => i = .int .i64 0 ∧ Off Old w wr) (fun _ _ => 0)
      case atStart => exact ⟨rfl, ho⟩
      case round =>
        clear ho
        obtain ⟨rfl, ho⟩ := hrel
        go_wp2_with fail
        go_loopw [11] (fun i wr => i = .int .i64 0 ∧ Off Old w wr) (fun _ _ => 0)
        case atStart => exact ⟨rfl, ho⟩
        case round =>
          clear ho
          obtain ⟨rfl, ho⟩ := hrel
          go_wp2_with fail
          go_loopw [14] (fun i wr => i = .int .i64 0 ∧ Off Old w wr) (fun _ _ => 0)
          case atStart => exact ⟨rfl, ho⟩
          case round =>
            clear ho
            obtain ⟨rfl, ho⟩ := hrel
            have HF := HK.out _ ho
            clear HK
            go_wp2_with fail
            exact HF
set_option maxRecDepth 100000 in
theorem flatWords_nil (w : World) (R : Ending → World → Prop) (k : ∀ w', Off Old w w' → R (.returned (.bool true)) w') : Calls Try.prog 89 #[.slice none 0 0] w R := by
  have HK := Lib.hid k; clear k
  go_enter Try.func89, Try.ntmps89
  go_wp2_with fail
  go_loopw [3] (fun i wr => i = .int .i64 0 ∧ Off Old w wr) (fun _ _ => 0)
  case atStart => exact ⟨rfl, Off.refl _ _⟩
  case round =>
    obtain ⟨rfl, ho⟩ := hrel
    have hmk : ∀ w, (Instr.makeSlice 118 (.int .i64 0) (.int .i64 0)).run Try.prog w = .ok (.slice (some ⟨w.heap.size, 0, none⟩) 0 0) (w.alloc (.cells (madeCells #[.slice none 0 0] 0) 173)) := fun w =>
      Go.run_make_row' 118 173 (.slice none 0 0) 24 Try.underlying118 (by kernel_rfl) rfl .i64 .i64 0 (by omega) (by omega) w
    go_wp2_with fail
    go_loopw [6] (fun i wr => i = .int .i64 0 ∧ Off Old w wr) (fun _ _ => 0)
    case atStart => exact ⟨rfl, by first | exact ho | exact ho.alloc _⟩
    case round =>
      clear ho hmk
      obtain ⟨rfl, ho⟩ := hrel
      go_wp2_with fail
      go_loopw [9] (fun i wr => i = .int .i64 0 ∧ Off Old w wr) (fun _ _ => 0)
      case atStart => exact ⟨rfl, ho⟩
      case round =>
        clear ho
        obtain ⟨rfl, ho⟩ := hrel
        go_wp2_with fail
        go_loopw [11] (fun i wr => i = .int .i64 0 ∧ Off Old w wr) (fun _ _ => 0)
        case atStart => exact ⟨rfl, ho⟩
        case round =>
          clear ho
          obtain ⟨rfl, ho⟩ := hrel
          go_wp2_with fail
          go_loopw [14] (fun i wr => i = .int .i64 0 ∧ Off Old w wr) (fun _ _ => 0)
          case atStart => exact ⟨rfl, ho⟩
          case round =>
            clear ho
            obtain ⟨rfl, ho⟩ := hrel
            have HF := HK.out _ ho
            clear HK
            go_wp2_with fail
            exact HF
set_option maxRecDepth 100000 in
theorem flatInts_nil (w : World) (R : Ending → World → Prop) (k : ∀ w', Off Old w w' → R (.returned (.bool true)) w') : Calls Try.prog 90 #[.slice none 0 0] w R := by
  have HK := Lib.hid k; clear k
  go_enter Try.func90, Try.ntmps90
  go_wp2_with fail
  go_loopw [3] (fun i wr => i = .int .i64 0 ∧ Off Old w wr) (fun _ _ => 0)
  case atStart => exact ⟨rfl, Off.refl _ _⟩
  case round =>
    obtain ⟨rfl, ho⟩ := hrel
    have hmk : ∀ w, (Instr.makeSlice 119 (.int .i64 0) (.int .i64 0)).run Try.prog w = .ok (.slice (some ⟨w.heap.size, 0, none⟩) 0 0) (w.alloc (.cells (madeCells #[.slice none 0 0] 0) 57)) := fun w =>
      Go.run_make_row' 119 57 (.slice none 0 0) 24 Try.underlying119 (by kernel_rfl) rfl .i64 .i64 0 (by omega) (by omega) w
    go_wp2_with fail
    go_loopw [6] (fun i wr => i = .int .i64 0 ∧ Off Old w wr) (fun _ _ => 0)
    case atStart => exact ⟨rfl, by first | exact ho | exact ho.alloc _⟩
    case round =>
      clear ho hmk
      obtain ⟨rfl, ho⟩ := hrel
      go_wp2_with fail
      go_loopw [9] (fun i wr => i = .int .i64 0 ∧ Off Old w wr) (fun _ _ => 0)
      case atStart => exact ⟨rfl, ho⟩
      case round =>
        clear ho
        obtain ⟨rfl, ho⟩ := hrel
        go_wp2_with fail
        go_loopw [11] (fun i wr => i = .int .i64 0 ∧ Off Old w wr) (fun _ _ => 0)
        case atStart => exact ⟨rfl, ho⟩
        case round =>
          clear ho
          obtain ⟨rfl, ho⟩ := hrel
          go_wp2_with fail
          go_loopw [14] (fun i wr => i = .int .i64 0 ∧ Off Old w wr) (fun _ _ => 0)
          case atStart => exact ⟨rfl, ho⟩
          case round =>
            clear ho
            obtain ⟨rfl, ho⟩ := hrel
            have HF := HK.out _ ho
            clear HK
            go_wp2_with fail
            exact HF
set_option maxRecDepth 100000 in
theorem flatLongs_nil (w : World) (R : Ending → World → Prop) (k : ∀ w', Off Old w w' → R (.returned (.bool true)) w') : Calls Try.prog 91 #[.slice none 0 0] w R := by
  have HK := Lib.hid k; clear k
  go_enter Try.func91, Try.ntmps91
  go_wp2_with fail
  go_loopw [3] (fun i wr => i = .int .i64 0 ∧ Off Old w wr) (fun _ _ => 0)
  case atStart => exact ⟨rfl, Off.refl _ _⟩
  case round =>
    obtain ⟨rfl, ho⟩ := hrel
    have hmk : ∀ w, (Instr.makeSlice 120 (.int .i64 0) (.int .i64 0)).run Try.prog w = .ok (.slice (some ⟨w.heap.size, 0, none⟩) 0 0) (w.alloc (.cells (madeCells #[.slice none 0 0] 0) 174)) := fun w =>
      Go.run_make_row' 120 174 (.slice none 0 0) 24 Try.underlying120 (by kernel_rfl) rfl .i64 .i64 0 (by omega) (by omega) w
    go_wp2_with fail
    go_loopw [6] (fun i wr => i = .int .i64 0 ∧ Off Old w wr) (fun _ _ => 0)
    case atStart => exact ⟨rfl, by first | exact ho | exact ho.alloc _⟩
    case round =>
      clear ho hmk
      obtain ⟨rfl, ho⟩ := hrel
      go_wp2_with fail
      go_loopw [9] (fun i wr => i = .int .i64 0 ∧ Off Old w wr) (fun _ _ => 0)
      case atStart => exact ⟨rfl, ho⟩
      case round =>
        clear ho
        obtain ⟨rfl, ho⟩ := hrel
        go_wp2_with fail
        go_loopw [11] (fun i wr => i = .int .i64 0 ∧ Off Old w wr) (fun _ _ => 0)
        case atStart => exact ⟨rfl, ho⟩
        case round =>
          clear ho
          obtain ⟨rfl, ho⟩ := hrel
          go_wp2_with fail
          go_loopw [14] (fun i wr => i = .int .i64 0 ∧ Off Old w wr) (fun _ _ => 0)
          case atStart => exact ⟨rfl, ho⟩
          case round =>
            clear ho
            obtain ⟨rfl, ho⟩ := hrel
            have HF := HK.out _ ho
            clear HK
            go_wp2_with fail
            exact HF
set_option maxRecDepth 100000 in
theorem flatTexts_nil (w : World) (R : Ending → World → Prop) (k : ∀ w', Off Old w w' → R (.returned (.bool true)) w') : Calls Try.prog 92 #[.slice none 0 0] w R := by
  have HK := Lib.hid k; clear k
  go_enter Try.func92, Try.ntmps92
  go_wp2_with fail
  go_loopw [3] (fun i wr => i = .int .i64 0 ∧ Off Old w wr) (fun _ _ => 0)
  case atStart => exact ⟨rfl, Off.refl _ _⟩
  case round =>
    obtain ⟨rfl, ho⟩ := hrel
    have hmk : ∀ w, (Instr.makeSlice 121 (.int .i64 0) (.int .i64 0)).run Try.prog w = .ok (.slice (some ⟨w.heap.size, 0, none⟩) 0 0) (w.alloc (.cells (madeCells #[.slice none 0 0] 0) 71)) := fun w =>
      Go.run_make_row' 121 71 (.slice none 0 0) 24 Try.underlying121 (by kernel_rfl) rfl .i64 .i64 0 (by omega) (by omega) w
    go_wp2_with fail
    go_loopw [6] (fun i wr => i = .int .i64 0 ∧ Off Old w wr) (fun _ _ => 0)
    case atStart => exact ⟨rfl, by first | exact ho | exact ho.alloc _⟩
    case round =>
      clear ho hmk
      obtain ⟨rfl, ho⟩ := hrel
      go_wp2_with fail
      go_loopw [9] (fun i wr => i = .int .i64 0 ∧ Off Old w wr) (fun _ _ => 0)
      case atStart => exact ⟨rfl, ho⟩
      case round =>
        clear ho
        obtain ⟨rfl, ho⟩ := hrel
        go_wp2_with fail
        go_loopw [11] (fun i wr => i = .int .i64 0 ∧ Off Old w wr) (fun _ _ => 0)
        case atStart => exact ⟨rfl, ho⟩
        case round =>
          clear ho
          obtain ⟨rfl, ho⟩ := hrel
          go_wp2_with fail
          go_loopw [14] (fun i wr => i = .int .i64 0 ∧ Off Old w wr) (fun _ _ => 0)
          case atStart => exact ⟨rfl, ho⟩
          case round =>
            clear ho
            obtain ⟨rfl, ho⟩ := hrel
            have HF := HK.out _ ho
            clear HK
            go_wp2_with fail
            exact HF
set_option maxRecDepth 100000 in
theorem flatBytes_nil (w : World) (R : Ending → World → Prop) (k : ∀ w', Off Old w w' → R (.returned (.bool true)) w') : Calls Try.prog 93 #[.slice none 0 0] w R := by
  have HK := Lib.hid k; clear k
  go_enter Try.func93, Try.ntmps93
  go_wp2_with fail
  go_loopw [3] (fun i wr => i = .int .i64 0 ∧ Off Old w wr) (fun _ _ => 0)
  case atStart => exact ⟨rfl, Off.refl _ _⟩
  case round =>
    obtain ⟨rfl, ho⟩ := hrel
    have hmk : ∀ w, (Instr.makeSlice 72 (.int .i64 0) (.int .i64 0)).run Try.prog w = .ok (.slice (some ⟨w.heap.size, 0, none⟩) 0 0) (w.alloc (.cells (madeCells #[.slice none 0 0] 0) 43)) := fun w =>
      Go.run_make_row' 72 43 (.slice none 0 0) 24 Try.underlying72 (by kernel_rfl) rfl .i64 .i64 0 (by omega) (by omega) w
    go_wp2_with fail
    go_loopw [6] (fun i wr => i = .int .i64 0 ∧ Off Old w wr) (fun _ _ => 0)
    case atStart => exact ⟨rfl, by first | exact ho | exact ho.alloc _⟩
    case round =>
      clear ho hmk
      obtain ⟨rfl, ho⟩ := hrel
      go_wp2_with fail
      go_loopw [9] (fun i wr => i = .int .i64 0 ∧ Off Old w wr) (fun _ _ => 0)
      case atStart => exact ⟨rfl, ho⟩
      case round =>
        clear ho
        obtain ⟨rfl, ho⟩ := hrel
        go_wp2_with fail
        go_loopw [11] (fun i wr => i = .int .i64 0 ∧ Off Old w wr) (fun _ _ => 0)
        case atStart => exact ⟨rfl, ho⟩
        case round =>
          clear ho
          obtain ⟨rfl, ho⟩ := hrel
          go_wp2_with fail
          go_loopw [14] (fun i wr => i = .int .i64 0 ∧ Off Old w wr) (fun _ _ => 0)
          case atStart => exact ⟨rfl, ho⟩
          case round =>
            clear ho
            obtain ⟨rfl, ho⟩ := hrel
            have HF := HK.out _ ho
            clear HK
            go_wp2_with fail
            exact HF
set_option maxRecDepth 100000 in
theorem flatTruths_nil (w : World) (R : Ending → World → Prop) (k : ∀ w', Off Old w w' → R (.returned (.bool true)) w') : Calls Try.prog 94 #[.slice none 0 0] w R := by
  have HK := Lib.hid k; clear k
  go_enter Try.func94, Try.ntmps94
  go_wp2_with fail
  go_loopw [3] (fun i wr => i = .int .i64 0 ∧ Off Old w wr) (fun _ _ => 0)
  case atStart => exact ⟨rfl, Off.refl _ _⟩
  case round =>
    obtain ⟨rfl, ho⟩ := hrel
    have hmk : ∀ w, (Instr.makeSlice 122 (.int .i64 0) (.int .i64 0)).run Try.prog w = .ok (.slice (some ⟨w.heap.size, 0, none⟩) 0 0) (w.alloc (.cells (madeCells #[.slice none 0 0] 0) 70)) := fun w =>
      Go.run_make_row' 122 70 (.slice none 0 0) 24 Try.underlying122 (by kernel_rfl) rfl .i64 .i64 0 (by omega) (by omega) w
    go_wp2_with fail
    go_loopw [6] (fun i wr => i = .int .i64 0 ∧ Off Old w wr) (fun _ _ => 0)
    case atStart => exact ⟨rfl, by first | exact ho | exact ho.alloc _⟩
    case round =>
      clear ho hmk
      obtain ⟨rfl, ho⟩ := hrel
      go_wp2_with fail
      go_loopw [9] (fun i wr => i = .int .i64 0 ∧ Off Old w wr) (fun _ _ => 0)
      case atStart => exact ⟨rfl, ho⟩
      case round =>
        clear ho
        obtain ⟨rfl, ho⟩ := hrel
        go_wp2_with fail
        go_loopw [11] (fun i wr => i = .int .i64 0 ∧ Off Old w wr) (fun _ _ => 0)
        case atStart => exact ⟨rfl, ho⟩
        case round =>
          clear ho
          obtain ⟨rfl, ho⟩ := hrel
          go_wp2_with fail
          go_loopw [14] (fun i wr => i = .int .i64 0 ∧ Off Old w wr) (fun _ _ => 0)
          case atStart => exact ⟨rfl, ho⟩
          case round =>
            clear ho
            obtain ⟨rfl, ho⟩ := hrel
            have HF := HK.out _ ho
            clear HK
            go_wp2_with fail
            exact HF
set_option maxRecDepth 100000 in
theorem flatSpans_nil (w : World) (R : Ending → World → Prop) (k : ∀ w', Off Old w w' → R (.returned (.bool true)) w') : Calls Try.prog 95 #[.slice none 0 0] w R := by
  have HK := Lib.hid k; clear k
  go_enter Try.func95, Try.ntmps95
  go_wp2_with fail
  go_loopw [3] (fun i wr => i = .int .i64 0 ∧ Off Old w wr) (fun _ _ => 0)
  case atStart => exact ⟨rfl, Off.refl _ _⟩
  case round =>
    obtain ⟨rfl, ho⟩ := hrel
    have hmk : ∀ w, (Instr.makeSlice 123 (.int .i64 0) (.int .i64 0)).run Try.prog w = .ok (.slice (some ⟨w.heap.size, 0, none⟩) 0 0) (w.alloc (.cells (madeCells #[.slice none 0 0] 0) 176)) := fun w =>
      Go.run_make_row' 123 176 (.slice none 0 0) 24 Try.underlying123 (by kernel_rfl) rfl .i64 .i64 0 (by omega) (by omega) w
    go_wp2_with fail
    go_loopw [6] (fun i wr => i = .int .i64 0 ∧ Off Old w wr) (fun _ _ => 0)
    case atStart => exact ⟨rfl, by first | exact ho | exact ho.alloc _⟩
    case round =>
      clear ho hmk
      obtain ⟨rfl, ho⟩ := hrel
      go_wp2_with fail
      go_loopw [9] (fun i wr => i = .int .i64 0 ∧ Off Old w wr) (fun _ _ => 0)
      case atStart => exact ⟨rfl, ho⟩
      case round =>
        clear ho
        obtain ⟨rfl, ho⟩ := hrel
        go_wp2_with fail
        go_loopw [11] (fun i wr => i = .int .i64 0 ∧ Off Old w wr) (fun _ _ => 0)
        case atStart => exact ⟨rfl, ho⟩
        case round =>
          clear ho
          obtain ⟨rfl, ho⟩ := hrel
          go_wp2_with fail
          go_loopw [14] (fun i wr => i = .int .i64 0 ∧ Off Old w wr) (fun _ _ => 0)
          case atStart => exact ⟨rfl, ho⟩
          case round =>
            clear ho
            obtain ⟨rfl, ho⟩ := hrel
            have HF := HK.out _ ho
            clear HK
            go_wp2_with fail
            exact HF
set_option maxRecDepth 100000 in
theorem flatShareRows_nil (w : World) (R : Ending → World → Prop) (k : ∀ w', Off Old w w' → R (.returned (.bool true)) w') : Calls Try.prog 96 #[.slice none 0 0] w R := by
  have HK := Lib.hid k; clear k
  go_enter Try.func96, Try.ntmps96
  go_wp2_with fail
  go_loopw [3] (fun i wr => i = .int .i64 0 ∧ Off Old w wr) (fun _ _ => 0)
  case atStart => exact ⟨rfl, Off.refl _ _⟩
  case round =>
    obtain ⟨rfl, ho⟩ := hrel
    have hmk : ∀ w, (Instr.makeSlice 124 (.int .i64 0) (.int .i64 0)).run Try.prog w = .ok (.slice (some ⟨w.heap.size, 0, none⟩) 0 0) (w.alloc (.cells (madeCells #[.slice none 0 0] 0) 180)) := fun w =>
      Go.run_make_row' 124 180 (.slice none 0 0) 24 Try.underlying124 (by kernel_rfl) rfl .i64 .i64 0 (by omega) (by omega) w
    go_wp2_with fail
    go_loopw [6] (fun i wr => i = .int .i64 0 ∧ Off Old w wr) (fun _ _ => 0)
    case atStart => exact ⟨rfl, by first | exact ho | exact ho.alloc _⟩
    case round =>
      clear ho hmk
      obtain ⟨rfl, ho⟩ := hrel
      go_wp2_with fail
      go_loopw [9] (fun i wr => i = .int .i64 0 ∧ Off Old w wr) (fun _ _ => 0)
      case atStart => exact ⟨rfl, ho⟩
      case round =>
        clear ho
        obtain ⟨rfl, ho⟩ := hrel
        go_wp2_with fail
        go_loopw [11] (fun i wr => i = .int .i64 0 ∧ Off Old w wr) (fun _ _ => 0)
        case atStart => exact ⟨rfl, ho⟩
        case round =>
          clear ho
          obtain ⟨rfl, ho⟩ := hrel
          go_wp2_with fail
          go_loopw [14] (fun i wr => i = .int .i64 0 ∧ Off Old w wr) (fun _ _ => 0)
          case atStart => exact ⟨rfl, ho⟩
          case round =>
            clear ho
            obtain ⟨rfl, ho⟩ := hrel
            have HF := HK.out _ ho
            clear HK
            go_wp2_with fail
            exact HF
set_option maxRecDepth 100000 in
theorem flatSharesRows_nil (w : World) (R : Ending → World → Prop) (k : ∀ w', Off Old w w' → R (.returned (.bool true)) w') : Calls Try.prog 97 #[.slice none 0 0] w R := by
  have HK := Lib.hid k; clear k
  go_enter Try.func97, Try.ntmps97
  go_wp2_with fail
  go_loopw [3] (fun i wr => i = .int .i64 0 ∧ Off Old w wr) (fun _ _ => 0)
  case atStart => exact ⟨rfl, Off.refl _ _⟩
  case round =>
    obtain ⟨rfl, ho⟩ := hrel
    have hmk : ∀ w, (Instr.makeSlice 125 (.int .i64 0) (.int .i64 0)).run Try.prog w = .ok (.slice (some ⟨w.heap.size, 0, none⟩) 0 0) (w.alloc (.cells (madeCells #[.slice none 0 0] 0) 184)) := fun w =>
      Go.run_make_row' 125 184 (.slice none 0 0) 24 Try.underlying125 (by kernel_rfl) rfl .i64 .i64 0 (by omega) (by omega) w
    go_wp2_with fail
    go_loopw [6] (fun i wr => i = .int .i64 0 ∧ Off Old w wr) (fun _ _ => 0)
    case atStart => exact ⟨rfl, by first | exact ho | exact ho.alloc _⟩
    case round =>
      clear ho hmk
      obtain ⟨rfl, ho⟩ := hrel
      go_wp2_with fail
      go_loopw [9] (fun i wr => i = .int .i64 0 ∧ Off Old w wr) (fun _ _ => 0)
      case atStart => exact ⟨rfl, ho⟩
      case round =>
        clear ho
        obtain ⟨rfl, ho⟩ := hrel
        go_wp2_with fail
        go_loopw [11] (fun i wr => i = .int .i64 0 ∧ Off Old w wr) (fun _ _ => 0)
        case atStart => exact ⟨rfl, ho⟩
        case round =>
          clear ho
          obtain ⟨rfl, ho⟩ := hrel
          go_wp2_with fail
          go_loopw [14] (fun i wr => i = .int .i64 0 ∧ Off Old w wr) (fun _ _ => 0)
          case atStart => exact ⟨rfl, ho⟩
          case round =>
            clear ho
            obtain ⟨rfl, ho⟩ := hrel
            have HF := HK.out _ ho
            clear HK
            go_wp2_with fail
            exact HF
set_option maxRecDepth 100000 in
theorem flatNames_nil (w : World) (R : Ending → World → Prop) (k : ∀ w', Off Old w w' → R (.returned (.bool true)) w') : Calls Try.prog 98 #[.slice none 0 0] w R := by
  have HK := Lib.hid k; clear k
  go_enter Try.func98, Try.ntmps98
  go_wp2_with fail
  go_loopw [3] (fun i wr => i = .int .i64 0 ∧ Off Old w wr) (fun _ _ => 0)
  case atStart => exact ⟨rfl, Off.refl _ _⟩
  case round =>
    obtain ⟨rfl, ho⟩ := hrel
    have hmk : ∀ w, (Instr.makeSlice 22 (.int .i64 0) (.int .i64 0)).run Try.prog w = .ok (.slice (some ⟨w.heap.size, 0, none⟩) 0 0) (w.alloc (.cells (madeCells #[.slice none 0 0] 0) 23)) := fun w =>
      Go.run_make_row' 22 23 (.slice none 0 0) 24 Try.underlying22 (by kernel_rfl) rfl .i64 .i64 0 (by omega) (by omega) w
    go_wp2_with fail
    go_loopw [6] (fun i wr => i = .int .i64 0 ∧ Off Old w wr) (fun _ _ => 0)
    case atStart => exact ⟨rfl, by first | exact ho | exact ho.alloc _⟩
    case round =>
      clear ho hmk
      obtain ⟨rfl, ho⟩ := hrel
      go_wp2_with fail
      go_loopw [9] (fun i wr => i = .int .i64 0 ∧ Off Old w wr) (fun _ _ => 0)
      case atStart => exact ⟨rfl, ho⟩
      case round =>
        clear ho
        obtain ⟨rfl, ho⟩ := hrel
        go_wp2_with fail
        go_loopw [11] (fun i wr => i = .int .i64 0 ∧ Off Old w wr) (fun _ _ => 0)
        case atStart => exact ⟨rfl, ho⟩
        case round =>
          clear ho
          obtain ⟨rfl, ho⟩ := hrel
          go_wp2_with fail
          go_loopw [14] (fun i wr => i = .int .i64 0 ∧ Off Old w wr) (fun _ _ => 0)
          case atStart => exact ⟨rfl, ho⟩
          case round =>
            clear ho
            obtain ⟨rfl, ho⟩ := hrel
            have HF := HK.out _ ho
            clear HK
            go_wp2_with fail
            exact HF
set_option maxRecDepth 100000 in
theorem flatActs_nil (w : World) (R : Ending → World → Prop) (k : ∀ w', Off Old w w' → R (.returned (.bool true)) w') : Calls Try.prog 99 #[.slice none 0 0] w R := by
  have HK := Lib.hid k; clear k
  go_enter Try.func99, Try.ntmps99
  go_wp2_with fail
  go_loopw [3] (fun i wr => i = .int .i64 0 ∧ Off Old w wr) (fun _ _ => 0)
  case atStart => exact ⟨rfl, Off.refl _ _⟩
  case round =>
    obtain ⟨rfl, ho⟩ := hrel
    have hmk : ∀ w, (Instr.makeSlice 126 (.int .i64 0) (.int .i64 0)).run Try.prog w = .ok (.slice (some ⟨w.heap.size, 0, none⟩) 0 0) (w.alloc (.cells (madeCells #[.slice none 0 0] 0) 189)) := fun w =>
      Go.run_make_row' 126 189 (.slice none 0 0) 24 Try.underlying126 (by kernel_rfl) rfl .i64 .i64 0 (by omega) (by omega) w
    go_wp2_with fail
    go_loopw [6] (fun i wr => i = .int .i64 0 ∧ Off Old w wr) (fun _ _ => 0)
    case atStart => exact ⟨rfl, by first | exact ho | exact ho.alloc _⟩
    case round =>
      clear ho hmk
      obtain ⟨rfl, ho⟩ := hrel
      go_wp2_with fail
      go_loopw [9] (fun i wr => i = .int .i64 0 ∧ Off Old w wr) (fun _ _ => 0)
      case atStart => exact ⟨rfl, ho⟩
      case round =>
        clear ho
        obtain ⟨rfl, ho⟩ := hrel
        go_wp2_with fail
        go_loopw [11] (fun i wr => i = .int .i64 0 ∧ Off Old w wr) (fun _ _ => 0)
        case atStart => exact ⟨rfl, ho⟩
        case round =>
          clear ho
          obtain ⟨rfl, ho⟩ := hrel
          go_wp2_with fail
          go_loopw [14] (fun i wr => i = .int .i64 0 ∧ Off Old w wr) (fun _ _ => 0)
          case atStart => exact ⟨rfl, ho⟩
          case round =>
            clear ho
            obtain ⟨rfl, ho⟩ := hrel
            have HF := HK.out _ ho
            clear HK
            go_wp2_with fail
            exact HF
set_option maxRecDepth 100000 in
theorem flatReads_nil (w : World) (R : Ending → World → Prop) (k : ∀ w', Off Old w w' → R (.returned (.bool true)) w') : Calls Try.prog 100 #[.slice none 0 0] w R := by
  have HK := Lib.hid k; clear k
  go_enter Try.func100, Try.ntmps100
  go_wp2_with fail
  go_loopw [3] (fun i wr => i = .int .i64 0 ∧ Off Old w wr) (fun _ _ => 0)
  case atStart => exact ⟨rfl, Off.refl _ _⟩
  case round =>
    obtain ⟨rfl, ho⟩ := hrel
    have hmk : ∀ w, (Instr.makeSlice 127 (.int .i64 0) (.int .i64 0)).run Try.prog w = .ok (.slice (some ⟨w.heap.size, 0, none⟩) 0 0) (w.alloc (.cells (madeCells #[.slice none 0 0] 0) 194)) := fun w =>
      Go.run_make_row' 127 194 (.slice none 0 0) 24 Try.underlying127 (by kernel_rfl) rfl .i64 .i64 0 (by omega) (by omega) w
    go_wp2_with fail
    go_loopw [6] (fun i wr => i = .int .i64 0 ∧ Off Old w wr) (fun _ _ => 0)
    case atStart => exact ⟨rfl, by first | exact ho | exact ho.alloc _⟩
    case round =>
      clear ho hmk
      obtain ⟨rfl, ho⟩ := hrel
      go_wp2_with fail
      go_loopw [9] (fun i wr => i = .int .i64 0 ∧ Off Old w wr) (fun _ _ => 0)
      case atStart => exact ⟨rfl, ho⟩
      case round =>
        clear ho
        obtain ⟨rfl, ho⟩ := hrel
        go_wp2_with fail
        go_loopw [11] (fun i wr => i = .int .i64 0 ∧ Off Old w wr) (fun _ _ => 0)
        case atStart => exact ⟨rfl, ho⟩
        case round =>
          clear ho
          obtain ⟨rfl, ho⟩ := hrel
          go_wp2_with fail
          go_loopw [14] (fun i wr => i = .int .i64 0 ∧ Off Old w wr) (fun _ _ => 0)
          case atStart => exact ⟨rfl, ho⟩
          case round =>
            clear ho
            obtain ⟨rfl, ho⟩ := hrel
            have HF := HK.out _ ho
            clear HK
            go_wp2_with fail
            exact HF
set_option maxRecDepth 100000 in
theorem flatLines_nil (w : World) (R : Ending → World → Prop) (k : ∀ w', Off Old w w' → R (.returned (.bool true)) w') : Calls Try.prog 101 #[.slice none 0 0] w R := by
  have HK := Lib.hid k; clear k
  go_enter Try.func101, Try.ntmps101
  go_wp2_with fail
  go_loopw [3] (fun i wr => i = .int .i64 0 ∧ Off Old w wr) (fun _ _ => 0)
  case atStart => exact ⟨rfl, Off.refl _ _⟩
  case round =>
    obtain ⟨rfl, ho⟩ := hrel
    have hmk : ∀ w, (Instr.makeSlice 128 (.int .i64 0) (.int .i64 0)).run Try.prog w = .ok (.slice (some ⟨w.heap.size, 0, none⟩) 0 0) (w.alloc (.cells (madeCells #[.slice none 0 0] 0) 198)) := fun w =>
      Go.run_make_row' 128 198 (.slice none 0 0) 24 Try.underlying128 (by kernel_rfl) rfl .i64 .i64 0 (by omega) (by omega) w
    go_wp2_with fail
    go_loopw [6] (fun i wr => i = .int .i64 0 ∧ Off Old w wr) (fun _ _ => 0)
    case atStart => exact ⟨rfl, by first | exact ho | exact ho.alloc _⟩
    case round =>
      clear ho hmk
      obtain ⟨rfl, ho⟩ := hrel
      go_wp2_with fail
      go_loopw [9] (fun i wr => i = .int .i64 0 ∧ Off Old w wr) (fun _ _ => 0)
      case atStart => exact ⟨rfl, ho⟩
      case round =>
        clear ho
        obtain ⟨rfl, ho⟩ := hrel
        go_wp2_with fail
        go_loopw [11] (fun i wr => i = .int .i64 0 ∧ Off Old w wr) (fun _ _ => 0)
        case atStart => exact ⟨rfl, ho⟩
        case round =>
          clear ho
          obtain ⟨rfl, ho⟩ := hrel
          go_wp2_with fail
          go_loopw [14] (fun i wr => i = .int .i64 0 ∧ Off Old w wr) (fun _ _ => 0)
          case atStart => exact ⟨rfl, ho⟩
          case round =>
            clear ho
            obtain ⟨rfl, ho⟩ := hrel
            have HF := HK.out _ ho
            clear HK
            go_wp2_with fail
            exact HF
set_option maxRecDepth 100000 in
theorem flatHolds_nil (w : World) (R : Ending → World → Prop) (k : ∀ w', Off Old w w' → R (.returned (.bool true)) w') : Calls Try.prog 102 #[.slice none 0 0] w R := by
  have HK := Lib.hid k; clear k
  go_enter Try.func102, Try.ntmps102
  go_wp2_with fail
  go_loopw [3] (fun i wr => i = .int .i64 0 ∧ Off Old w wr) (fun _ _ => 0)
  case atStart => exact ⟨rfl, Off.refl _ _⟩
  case round =>
    obtain ⟨rfl, ho⟩ := hrel
    have hmk : ∀ w, (Instr.makeSlice 129 (.int .i64 0) (.int .i64 0)).run Try.prog w = .ok (.slice (some ⟨w.heap.size, 0, none⟩) 0 0) (w.alloc (.cells (madeCells #[.slice none 0 0] 0) 202)) := fun w =>
      Go.run_make_row' 129 202 (.slice none 0 0) 24 Try.underlying129 (by kernel_rfl) rfl .i64 .i64 0 (by omega) (by omega) w
    go_wp2_with fail
    go_loopw [6] (fun i wr => i = .int .i64 0 ∧ Off Old w wr) (fun _ _ => 0)
    case atStart => exact ⟨rfl, by first | exact ho | exact ho.alloc _⟩
    case round =>
      clear ho hmk
      obtain ⟨rfl, ho⟩ := hrel
      go_wp2_with fail
      go_loopw [9] (fun i wr => i = .int .i64 0 ∧ Off Old w wr) (fun _ _ => 0)
      case atStart => exact ⟨rfl, ho⟩
      case round =>
        clear ho
        obtain ⟨rfl, ho⟩ := hrel
        go_wp2_with fail
        go_loopw [11] (fun i wr => i = .int .i64 0 ∧ Off Old w wr) (fun _ _ => 0)
        case atStart => exact ⟨rfl, ho⟩
        case round =>
          clear ho
          obtain ⟨rfl, ho⟩ := hrel
          go_wp2_with fail
          go_loopw [14] (fun i wr => i = .int .i64 0 ∧ Off Old w wr) (fun _ _ => 0)
          case atStart => exact ⟨rfl, ho⟩
          case round =>
            clear ho
            obtain ⟨rfl, ho⟩ := hrel
            have HF := HK.out _ ho
            clear HK
            go_wp2_with fail
            exact HF
set_option maxRecDepth 100000 in
theorem flatConfigs_nil (w : World) (R : Ending → World → Prop) (k : ∀ w', Off Old w w' → R (.returned (.bool true)) w') : Calls Try.prog 103 #[.slice none 0 0] w R := by
  have HK := Lib.hid k; clear k
  go_enter Try.func103, Try.ntmps103
  go_wp2_with fail
  go_loopw [3] (fun i wr => i = .int .i64 0 ∧ Off Old w wr) (fun _ _ => 0)
  case atStart => exact ⟨rfl, Off.refl _ _⟩
  case round =>
    obtain ⟨rfl, ho⟩ := hrel
    have hmk : ∀ w, (Instr.makeSlice 130 (.int .i64 0) (.int .i64 0)).run Try.prog w = .ok (.slice (some ⟨w.heap.size, 0, none⟩) 0 0) (w.alloc (.cells (madeCells #[.slice none 0 0] 0) 207)) := fun w =>
      Go.run_make_row' 130 207 (.slice none 0 0) 24 Try.underlying130 (by kernel_rfl) rfl .i64 .i64 0 (by omega) (by omega) w
    go_wp2_with fail
    go_loopw [6] (fun i wr => i = .int .i64 0 ∧ Off Old w wr) (fun _ _ => 0)
    case atStart => exact ⟨rfl, by first | exact ho | exact ho.alloc _⟩
    case round =>
      clear ho hmk
      obtain ⟨rfl, ho⟩ := hrel
      go_wp2_with fail
      go_loopw [9] (fun i wr => i = .int .i64 0 ∧ Off Old w wr) (fun _ _ => 0)
      case atStart => exact ⟨rfl, ho⟩
      case round =>
        clear ho
        obtain ⟨rfl, ho⟩ := hrel
        go_wp2_with fail
        go_loopw [11] (fun i wr => i = .int .i64 0 ∧ Off Old w wr) (fun _ _ => 0)
        case atStart => exact ⟨rfl, ho⟩
        case round =>
          clear ho
          obtain ⟨rfl, ho⟩ := hrel
          go_wp2_with fail
          go_loopw [14] (fun i wr => i = .int .i64 0 ∧ Off Old w wr) (fun _ _ => 0)
          case atStart => exact ⟨rfl, ho⟩
          case round =>
            clear ho
            obtain ⟨rfl, ho⟩ := hrel
            have HF := HK.out _ ho
            clear HK
            go_wp2_with fail
            exact HF
set_option maxRecDepth 100000 in
theorem flatEntries_nil (w : World) (R : Ending → World → Prop) (k : ∀ w', Off Old w w' → R (.returned (.bool true)) w') : Calls Try.prog 104 #[.slice none 0 0] w R := by
  have HK := Lib.hid k; clear k
  go_enter Try.func104, Try.ntmps104
  go_wp2_with fail
  go_loopw [3] (fun i wr => i = .int .i64 0 ∧ Off Old w wr) (fun _ _ => 0)
  case atStart => exact ⟨rfl, Off.refl _ _⟩
  case round =>
    obtain ⟨rfl, ho⟩ := hrel
    have hmk : ∀ w, (Instr.makeSlice 131 (.int .i64 0) (.int .i64 0)).run Try.prog w = .ok (.slice (some ⟨w.heap.size, 0, none⟩) 0 0) (w.alloc (.cells (madeCells #[.slice none 0 0] 0) 212)) := fun w =>
      Go.run_make_row' 131 212 (.slice none 0 0) 24 Try.underlying131 (by kernel_rfl) rfl .i64 .i64 0 (by omega) (by omega) w
    go_wp2_with fail
    go_loopw [6] (fun i wr => i = .int .i64 0 ∧ Off Old w wr) (fun _ _ => 0)
    case atStart => exact ⟨rfl, by first | exact ho | exact ho.alloc _⟩
    case round =>
      clear ho hmk
      obtain ⟨rfl, ho⟩ := hrel
      go_wp2_with fail
      go_loopw [9] (fun i wr => i = .int .i64 0 ∧ Off Old w wr) (fun _ _ => 0)
      case atStart => exact ⟨rfl, ho⟩
      case round =>
        clear ho
        obtain ⟨rfl, ho⟩ := hrel
        go_wp2_with fail
        go_loopw [11] (fun i wr => i = .int .i64 0 ∧ Off Old w wr) (fun _ _ => 0)
        case atStart => exact ⟨rfl, ho⟩
        case round =>
          clear ho
          obtain ⟨rfl, ho⟩ := hrel
          go_wp2_with fail
          go_loopw [14] (fun i wr => i = .int .i64 0 ∧ Off Old w wr) (fun _ _ => 0)
          case atStart => exact ⟨rfl, ho⟩
          case round =>
            clear ho
            obtain ⟨rfl, ho⟩ := hrel
            have HF := HK.out _ ho
            clear HK
            go_wp2_with fail
            exact HF
set_option maxRecDepth 100000 in
theorem flatBases_nil (w : World) (R : Ending → World → Prop) (k : ∀ w', Off Old w w' → R (.returned (.bool true)) w') : Calls Try.prog 105 #[.slice none 0 0] w R := by
  have HK := Lib.hid k; clear k
  go_enter Try.func105, Try.ntmps105
  go_wp2_with fail
  go_loopw [3] (fun i wr => i = .int .i64 0 ∧ Off Old w wr) (fun _ _ => 0)
  case atStart => exact ⟨rfl, Off.refl _ _⟩
  case round =>
    obtain ⟨rfl, ho⟩ := hrel
    have hmk : ∀ w, (Instr.makeSlice 132 (.int .i64 0) (.int .i64 0)).run Try.prog w = .ok (.slice (some ⟨w.heap.size, 0, none⟩) 0 0) (w.alloc (.cells (madeCells #[.slice none 0 0] 0) 218)) := fun w =>
      Go.run_make_row' 132 218 (.slice none 0 0) 24 Try.underlying132 (by kernel_rfl) rfl .i64 .i64 0 (by omega) (by omega) w
    go_wp2_with fail
    go_loopw [6] (fun i wr => i = .int .i64 0 ∧ Off Old w wr) (fun _ _ => 0)
    case atStart => exact ⟨rfl, by first | exact ho | exact ho.alloc _⟩
    case round =>
      clear ho hmk
      obtain ⟨rfl, ho⟩ := hrel
      go_wp2_with fail
      go_loopw [9] (fun i wr => i = .int .i64 0 ∧ Off Old w wr) (fun _ _ => 0)
      case atStart => exact ⟨rfl, ho⟩
      case round =>
        clear ho
        obtain ⟨rfl, ho⟩ := hrel
        go_wp2_with fail
        go_loopw [11] (fun i wr => i = .int .i64 0 ∧ Off Old w wr) (fun _ _ => 0)
        case atStart => exact ⟨rfl, ho⟩
        case round =>
          clear ho
          obtain ⟨rfl, ho⟩ := hrel
          go_wp2_with fail
          go_loopw [14] (fun i wr => i = .int .i64 0 ∧ Off Old w wr) (fun _ _ => 0)
          case atStart => exact ⟨rfl, ho⟩
          case round =>
            clear ho
            obtain ⟨rfl, ho⟩ := hrel
            have HF := HK.out _ ho
            clear HK
            go_wp2_with fail
            exact HF
set_option maxRecDepth 100000 in
theorem flatImages_nil (w : World) (R : Ending → World → Prop) (k : ∀ w', Off Old w w' → R (.returned (.bool true)) w') : Calls Try.prog 106 #[.slice none 0 0] w R := by
  have HK := Lib.hid k; clear k
  go_enter Try.func106, Try.ntmps106
  go_wp2_with fail
  go_loopw [3] (fun i wr => i = .int .i64 0 ∧ Off Old w wr) (fun _ _ => 0)
  case atStart => exact ⟨rfl, Off.refl _ _⟩
  case round =>
    obtain ⟨rfl, ho⟩ := hrel
    have hmk : ∀ w, (Instr.makeSlice 133 (.int .i64 0) (.int .i64 0)).run Try.prog w = .ok (.slice (some ⟨w.heap.size, 0, none⟩) 0 0) (w.alloc (.cells (madeCells #[.slice none 0 0] 0) 223)) := fun w =>
      Go.run_make_row' 133 223 (.slice none 0 0) 24 Try.underlying133 (by kernel_rfl) rfl .i64 .i64 0 (by omega) (by omega) w
    go_wp2_with fail
    go_loopw [6] (fun i wr => i = .int .i64 0 ∧ Off Old w wr) (fun _ _ => 0)
    case atStart => exact ⟨rfl, by first | exact ho | exact ho.alloc _⟩
    case round =>
      clear ho hmk
      obtain ⟨rfl, ho⟩ := hrel
      go_wp2_with fail
      go_loopw [9] (fun i wr => i = .int .i64 0 ∧ Off Old w wr) (fun _ _ => 0)
      case atStart => exact ⟨rfl, ho⟩
      case round =>
        clear ho
        obtain ⟨rfl, ho⟩ := hrel
        go_wp2_with fail
        go_loopw [11] (fun i wr => i = .int .i64 0 ∧ Off Old w wr) (fun _ _ => 0)
        case atStart => exact ⟨rfl, ho⟩
        case round =>
          clear ho
          obtain ⟨rfl, ho⟩ := hrel
          go_wp2_with fail
          go_loopw [14] (fun i wr => i = .int .i64 0 ∧ Off Old w wr) (fun _ _ => 0)
          case atStart => exact ⟨rfl, ho⟩
          case round =>
            clear ho
            obtain ⟨rfl, ho⟩ := hrel
            have HF := HK.out _ ho
            clear HK
            go_wp2_with fail
            exact HF
set_option maxRecDepth 100000 in
theorem flatLetters_nil (w : World) (R : Ending → World → Prop) (k : ∀ w', Off Old w w' → R (.returned (.bool true)) w') : Calls Try.prog 107 #[.slice none 0 0] w R := by
  have HK := Lib.hid k; clear k
  go_enter Try.func107, Try.ntmps107
  go_wp2_with fail
  go_loopw [3] (fun i wr => i = .int .i64 0 ∧ Off Old w wr) (fun _ _ => 0)
  case atStart => exact ⟨rfl, Off.refl _ _⟩
  case round =>
    obtain ⟨rfl, ho⟩ := hrel
    have hmk : ∀ w, (Instr.makeSlice 134 (.int .i64 0) (.int .i64 0)).run Try.prog w = .ok (.slice (some ⟨w.heap.size, 0, none⟩) 0 0) (w.alloc (.cells (madeCells #[.slice none 0 0] 0) 228)) := fun w =>
      Go.run_make_row' 134 228 (.slice none 0 0) 24 Try.underlying134 (by kernel_rfl) rfl .i64 .i64 0 (by omega) (by omega) w
    go_wp2_with fail
    go_loopw [6] (fun i wr => i = .int .i64 0 ∧ Off Old w wr) (fun _ _ => 0)
    case atStart => exact ⟨rfl, by first | exact ho | exact ho.alloc _⟩
    case round =>
      clear ho hmk
      obtain ⟨rfl, ho⟩ := hrel
      go_wp2_with fail
      go_loopw [9] (fun i wr => i = .int .i64 0 ∧ Off Old w wr) (fun _ _ => 0)
      case atStart => exact ⟨rfl, ho⟩
      case round =>
        clear ho
        obtain ⟨rfl, ho⟩ := hrel
        go_wp2_with fail
        go_loopw [11] (fun i wr => i = .int .i64 0 ∧ Off Old w wr) (fun _ _ => 0)
        case atStart => exact ⟨rfl, ho⟩
        case round =>
          clear ho
          obtain ⟨rfl, ho⟩ := hrel
          go_wp2_with fail
          go_loopw [14] (fun i wr => i = .int .i64 0 ∧ Off Old w wr) (fun _ _ => 0)
          case atStart => exact ⟨rfl, ho⟩
          case round =>
            clear ho
            obtain ⟨rfl, ho⟩ := hrel
            have HF := HK.out _ ho
            clear HK
            go_wp2_with fail
            exact HF
set_option maxRecDepth 100000 in
theorem flatStretches_nil (w : World) (R : Ending → World → Prop) (k : ∀ w', Off Old w w' → R (.returned (.bool true)) w') : Calls Try.prog 108 #[.slice none 0 0] w R := by
  have HK := Lib.hid k; clear k
  go_enter Try.func108, Try.ntmps108
  go_wp2_with fail
  go_loopw [3] (fun i wr => i = .int .i64 0 ∧ Off Old w wr) (fun _ _ => 0)
  case atStart => exact ⟨rfl, Off.refl _ _⟩
  case round =>
    obtain ⟨rfl, ho⟩ := hrel
    have hmk : ∀ w, (Instr.makeSlice 135 (.int .i64 0) (.int .i64 0)).run Try.prog w = .ok (.slice (some ⟨w.heap.size, 0, none⟩) 0 0) (w.alloc (.cells (madeCells #[.slice none 0 0] 0) 234)) := fun w =>
      Go.run_make_row' 135 234 (.slice none 0 0) 24 Try.underlying135 (by kernel_rfl) rfl .i64 .i64 0 (by omega) (by omega) w
    go_wp2_with fail
    go_loopw [6] (fun i wr => i = .int .i64 0 ∧ Off Old w wr) (fun _ _ => 0)
    case atStart => exact ⟨rfl, by first | exact ho | exact ho.alloc _⟩
    case round =>
      clear ho hmk
      obtain ⟨rfl, ho⟩ := hrel
      go_wp2_with fail
      go_loopw [9] (fun i wr => i = .int .i64 0 ∧ Off Old w wr) (fun _ _ => 0)
      case atStart => exact ⟨rfl, ho⟩
      case round =>
        clear ho
        obtain ⟨rfl, ho⟩ := hrel
        go_wp2_with fail
        go_loopw [11] (fun i wr => i = .int .i64 0 ∧ Off Old w wr) (fun _ _ => 0)
        case atStart => exact ⟨rfl, ho⟩
        case round =>
          clear ho
          obtain ⟨rfl, ho⟩ := hrel
          go_wp2_with fail
          go_loopw [14] (fun i wr => i = .int .i64 0 ∧ Off Old w wr) (fun _ _ => 0)
          case atStart => exact ⟨rfl, ho⟩
          case round =>
            clear ho
            obtain ⟨rfl, ho⟩ := hrel
            have HF := HK.out _ ho
            clear HK
            go_wp2_with fail
            exact HF
set_option maxRecDepth 100000 in
theorem flatPeers_nil (w : World) (R : Ending → World → Prop) (k : ∀ w', Off Old w w' → R (.returned (.bool true)) w') : Calls Try.prog 109 #[.slice none 0 0] w R := by
  have HK := Lib.hid k; clear k
  go_enter Try.func109, Try.ntmps109
  go_wp2_with fail
  go_loopw [3] (fun i wr => i = .int .i64 0 ∧ Off Old w wr) (fun _ _ => 0)
  case atStart => exact ⟨rfl, Off.refl _ _⟩
  case round =>
    obtain ⟨rfl, ho⟩ := hrel
    have hmk : ∀ w, (Instr.makeSlice 136 (.int .i64 0) (.int .i64 0)).run Try.prog w = .ok (.slice (some ⟨w.heap.size, 0, none⟩) 0 0) (w.alloc (.cells (madeCells #[.slice none 0 0] 0) 239)) := fun w =>
      Go.run_make_row' 136 239 (.slice none 0 0) 24 Try.underlying136 (by kernel_rfl) rfl .i64 .i64 0 (by omega) (by omega) w
    go_wp2_with fail
    go_loopw [6] (fun i wr => i = .int .i64 0 ∧ Off Old w wr) (fun _ _ => 0)
    case atStart => exact ⟨rfl, by first | exact ho | exact ho.alloc _⟩
    case round =>
      clear ho hmk
      obtain ⟨rfl, ho⟩ := hrel
      go_wp2_with fail
      go_loopw [9] (fun i wr => i = .int .i64 0 ∧ Off Old w wr) (fun _ _ => 0)
      case atStart => exact ⟨rfl, ho⟩
      case round =>
        clear ho
        obtain ⟨rfl, ho⟩ := hrel
        go_wp2_with fail
        go_loopw [11] (fun i wr => i = .int .i64 0 ∧ Off Old w wr) (fun _ _ => 0)
        case atStart => exact ⟨rfl, ho⟩
        case round =>
          clear ho
          obtain ⟨rfl, ho⟩ := hrel
          go_wp2_with fail
          go_loopw [14] (fun i wr => i = .int .i64 0 ∧ Off Old w wr) (fun _ _ => 0)
          case atStart => exact ⟨rfl, ho⟩
          case round =>
            clear ho
            obtain ⟨rfl, ho⟩ := hrel
            have HF := HK.out _ ho
            clear HK
            go_wp2_with fail
            exact HF
end Go.Proofs.Ytfllejlooaipiaa
