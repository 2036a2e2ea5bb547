/- shuttlelaw19: MarksNil (4): the walk. -/
import Derived.Test.YtbnaglkhbgfchaaMwakes
namespace Go.Proofs.Ytbnaglkhbgfchaa
open Go.RowKit
set_option maxRecDepth 20000 in
set_option maxHeartbeats 16000000 in
theorem mnil_any (dd mi ma mn : Int) (mg : Bool) (ms id at_ n ea ed : Int) (es : ByteArray) (w : World) :
    Calls Try.prog 4 #[.agg #[.int .i64 dd, .int .i64 mi, .int .i64 ma, .int .i64 mn, .bool mg, .int .u16 ms, .int .i64 id, .int .i64 at_, .int .i64 n, .int .i64 ea, .int .i64 ed, .string es]] w fun e w' => e = .returned (.bool true) ∧ Below w.heap.size w w' := by
  obtain ⟨W1, hW1⟩ : ∃ W, W = w.alloc (.cells #[.int .i64 dd, .int .i64 mi, .int .i64 ma, .int .i64 mn, .bool mg, .int .u16 ms, .int .i64 id, .int .i64 at_, .int .i64 n, .int .i64 ea, .int .i64 ed, .string es] 39) := ⟨_, rfl⟩
  have HS1 := Lib.hid (show Stay [] w W1 from by rw [hW1]; exact Stay.alloc _ _)
  have hb1 : Blk W1 w.heap.size [.int .i64 dd, .int .i64 mi, .int .i64 ma, .int .i64 mn, .bool mg, .int .u16 ms, .int .i64 id, .int .i64 at_, .int .i64 n, .int .i64 ea, .int .i64 ed, .string es] 39 := by rw [hW1]; exact Blk.new w _ _
  obtain ⟨bS, hbS⟩ : ∃ b, b = w.heap.size := ⟨_, rfl⟩
  rw [← hbS] at hb1
  have HBS := Lib.hid hbS
  have HW1 := Lib.hid hW1
  have HB1 := Lib.hid hb1
  have c1 : W1.cell? ⟨bS, 1, none⟩ = some (.int .i64 mi) := hb1.cell 1
  have c2 : W1.cell? ⟨bS, 2, none⟩ = some (.int .i64 ma) := hb1.cell 2
  have c3 : W1.cell? ⟨bS, 3, none⟩ = some (.int .i64 mn) := hb1.cell 3
  have c4 : W1.cell? ⟨bS, 4, none⟩ = some (.bool mg) := hb1.cell 4
  have c5 : W1.cell? ⟨bS, 5, none⟩ = some (.int .u16 ms) := hb1.cell 5
  have H1 := Lib.hid (madd_nil mi ma mn mg ms W1)
  clear hW1 hb1 hbS
  go_enter Try.func4, Try.ntmps4
  go_upto_region 2 with fail
  rw [← HW1.out, ← HBS.out]
  go_wp2_with fail
  refine H1.out.mono ?_
  rintro e w2 ⟨rfl, hs2⟩
  have HS2 := Lib.hid (HS1.out.trans hs2)
  have HB2 := Lib.hid (HB1.out.stay hs2 (by simp))
  have c6 : w2.cell? ⟨bS, 6, none⟩ = some (.int .i64 id) := HB2.out.cell 6
  have H2 := Lib.hid (get_nil id w2)
  clear hs2 c1 c2 c3 c4 c5 HB1 H1
  go_wp2_with fail
  refine H2.out.mono ?_
  rintro e w3 ⟨rfl, hs3⟩
  obtain ⟨W4, hW4⟩ : ∃ W, W = w3.alloc (.cells #[.int .i64 0, .int .i64 0, .int .i64 0, .bool false, .int .u16 0] 35) := ⟨_, rfl⟩
  have hs4 : Stay [] w3 W4 := by rw [hW4]; exact Stay.alloc _ _
  have hb4 : Blk W4 w3.heap.size [.int .i64 0, .int .i64 0, .int .i64 0, .bool false, .int .u16 0] 35 := by rw [hW4]; exact Blk.new w3 _ _
  obtain ⟨bm, hbm⟩ : ∃ b, b = w3.heap.size := ⟨_, rfl⟩
  rw [← hbm] at hb4
  have HS4 := Lib.hid ((HS2.out.trans hs3).trans hs4)
  have HB4 := Lib.hid ((HB2.out.stay hs3 (by simp)).stay hs4 (by simp))
  have HM4 := Lib.hid hb4
  have HW4 := Lib.hid hW4
  have HBm := Lib.hid hbm
  have c9 : W4.cell? ⟨bS, 9, none⟩ = some (.int .i64 ea) := HB4.out.cell 9
  have c10 : W4.cell? ⟨bS, 10, none⟩ = some (.int .i64 ed) := HB4.out.cell 10
  have c11 : W4.cell? ⟨bS, 11, none⟩ = some (.string es) := HB4.out.cell 11
  have H4 := Lib.hid (edit_nil ea ed es W4)
  clear hs3 hs4 hb4 hW4 hbm c6 HB2 H2
  go_upto_region 4 with fail
  rw [← HW4.out, ← HBm.out]
  go_wp2_with fail
  refine H4.out.mono ?_
  rintro e w5 ⟨rfl, hs5⟩
  have HS5 := Lib.hid (HS4.out.trans hs5)
  have hb5 := HB4.out.stay hs5 (by simp)
  have hm5 := HM4.out.stay hs5 (by simp)
  have d6 : w5.cell? ⟨bS, 6, none⟩ = some (.int .i64 id) := hb5.cell 6
  have d7 : w5.cell? ⟨bS, 7, none⟩ = some (.int .i64 at_) := hb5.cell 7
  have d8 : w5.cell? ⟨bS, 8, none⟩ = some (.int .i64 n) := hb5.cell 8
  have z0 : w5.cell? ⟨bm, 0, none⟩ = some (.int .i64 0) := hm5.cell 0
  have z1 : w5.cell? ⟨bm, 1, none⟩ = some (.int .i64 0) := hm5.cell 1
  have z2 : w5.cell? ⟨bm, 2, none⟩ = some (.int .i64 0) := hm5.cell 2
  have z3 : w5.cell? ⟨bm, 3, none⟩ = some (.bool false) := hm5.cell 3
  have z4 : w5.cell? ⟨bm, 4, none⟩ = some (.int .u16 0) := hm5.cell 4
  have H5 := Lib.hid (drop_nil id w5)
  have H6 := Lib.hid (mover_nil at_ n w5)
  have H7 := Lib.hid (styles_nil at_ n w5)
  have H8 := Lib.hid (wakes_any w5)
  clear hs5 hb5 hm5 c9 c10 c11 H4
  go_wp2_with fail
  refine H5.out.mono ?_
  rintro e w' ⟨rfl, hw⟩
  rw [hw]
  clear hw
  go_wp2_with fail
  refine H6.out.mono ?_
  rintro e w' ⟨rfl, hw⟩
  rw [hw]
  clear hw
  go_wp2_with fail
  refine H7.out.mono ?_
  rintro e w' ⟨rfl, hw⟩
  rw [hw]
  clear hw
  go_wp2_with fail
  refine H8.out.mono ?_
  rintro e w8 ⟨rfl, hb8⟩
  have HF := Lib.hid (show Below w.heap.size w w8 from (HS5.out.toBelow (Nat.le_refl _) (by simp)).trans ((Stay.below (F := []) hb8).toBelow HS5.out.size (by simp)))
  clear hb8
  go_wp2_with fail
  go_ret
  exact ⟨rfl, HF.out⟩
end Go.Proofs.Ytbnaglkhbgfchaa
