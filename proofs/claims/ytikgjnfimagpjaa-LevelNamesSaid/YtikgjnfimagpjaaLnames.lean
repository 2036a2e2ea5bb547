/- LevelNames: the numbers that the layer leans on: the walk. -/
import Derived.Test.YtikgjnfimagpjaaLwakes
namespace Go.Proofs.Ytikgjnfimagpjaa
open Go.RowKit
theorem names_any (w : World) : Calls Try.prog 6 #[] w fun e w' => e = .returned (.bool true) ∧ Below w.heap.size w w' := by
  have HW := Lib.hid (fun w => wakes_any w)
  go_enter Try.func6, Try.ntmps6
  go_wp2_with (first
    | (go_at_call 17; refine (HW.out _).mono ?_; rintro e w1 ⟨rfl, hb⟩))
  go_ret
  exact ⟨rfl, hb⟩
end Go.Proofs.Ytikgjnfimagpjaa
