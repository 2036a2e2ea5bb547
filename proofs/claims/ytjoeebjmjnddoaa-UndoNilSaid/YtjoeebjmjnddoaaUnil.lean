/- shuttlelaw20: UndoNil (10): the walk. -/
import Derived.Test.YtjoeebjmjnddoaaUworks
namespace Go.Proofs.Ytjoeebjmjnddoaa
open Go.RowKit
set_option maxRecDepth 20000 in
set_option maxHeartbeats 16000000 in
theorem unil_any (a d : Int) (s : ByteArray) (mo : Bool) (w : World) (_ : (⟨a, d, s⟩ : Ed).OK) : Calls Try.prog 10 #[.agg #[.int .i64 a, .int .i64 d, .string s], .bool mo] w fun e w' => e = .returned (.bool true) ∧ Below w.heap.size w w' := by
  obtain ⟨W1, hW1⟩ : ∃ W, W = w.alloc (.cells #[.int .i64 a, .int .i64 d, .string s] 37) := ⟨_, rfl⟩
  have HW1 := Lib.hid hW1
  have HS1 := Lib.hid (show Stay [] w W1 from by rw [hW1]; exact Stay.alloc _ _)
  have hbx : Blk W1 w.heap.size [.int .i64 a, .int .i64 d, .string s] 37 := by rw [hW1]; exact Blk.new w _ _
  have c0 : W1.cell? ⟨w.heap.size, 0, none⟩ = some (.int .i64 a) := hbx.cell 0
  have c1 : W1.cell? ⟨w.heap.size, 1, none⟩ = some (.int .i64 d) := hbx.cell 1
  have c2 : W1.cell? ⟨w.heap.size, 2, none⟩ = some (.string s) := hbx.cell 2
  have H1 := Lib.hid (undo_nil W1)
  have H2 := Lib.hid (redo_nil W1)
  have H3 := Lib.hid (depth_nil W1)
  have H4 := Lib.hid (save_nil W1)
  have H5 := Lib.hid (unew_nil W1)
  have H6 := Lib.hid (udo_nil a d s mo W1)
  clear hW1 hbx
  go_enter Try.func10, Try.ntmps10
  go_upto_region 2 with fail
  rw [← HW1.out]
  go_wp2_with fail
  refine H1.out.mono ?_
  rintro e w' ⟨rfl, hw⟩
  rw [hw]
  clear hw
  go_wp2_with fail
  refine H2.out.mono ?_
  rintro e w' ⟨rfl, hw⟩
  rw [hw]
  clear hw
  go_wp2_with fail
  refine H3.out.mono ?_
  rintro e w' ⟨rfl, hw⟩
  rw [hw]
  clear hw
  go_wp2_with fail
  refine H4.out.mono ?_
  rintro e w' ⟨rfl, hw⟩
  rw [hw]
  clear hw
  go_wp2_with fail
  refine H5.out.mono ?_
  rintro e w' ⟨rfl, hw⟩
  rw [hw]
  clear hw
  go_wp2_with fail
  refine H6.out.mono ?_
  rintro e w2 ⟨rfl, hs2⟩
  have HS2 := Lib.hid (HS1.out.trans hs2)
  have H7 := Lib.hid (changed_nil w2)
  clear hs2
  go_wp2_with fail
  refine H7.out.mono ?_
  rintro e w' ⟨rfl, hw⟩
  rw [hw]
  clear hw
  have H8 := Lib.hid (works_any w2)
  go_wp2_with fail
  refine H8.out.mono ?_
  rintro e w3 ⟨rfl, hb3⟩
  have HB := Lib.hid (show Below w.heap.size w w3 from (HS2.out.toBelow (Nat.le_refl _) (by simp)).trans ((Stay.below (F := []) hb3).toBelow HS2.out.size (by simp)))
  clear hb3
  go_wp2_with fail
  go_ret
  exact ⟨rfl, HB.out⟩
end Go.Proofs.Ytjoeebjmjnddoaa
