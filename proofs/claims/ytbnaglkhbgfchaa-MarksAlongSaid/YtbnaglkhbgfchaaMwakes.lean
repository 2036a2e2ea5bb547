/- shuttlelaw19: wakes (12). -/
import Derived.Test.YtbnaglkhbgfchaaMstyw
import Derived.Test.YtbnaglkhbgfchaaMedit
namespace Go.Proofs.Ytbnaglkhbgfchaa
open Go.RowKit Go.Sort Go.Lib
set_option maxRecDepth 20000 in
set_option maxHeartbeats 16000000 in
theorem wakes_any (w : World) : Calls Try.prog 12 #[] w fun e w' => e = .returned (.bool true) ∧ Below w.heap.size w w' := by
  have HN := Lib.hid (mnew_any w)
  obtain ⟨B, hBe⟩ : ∃ B, B = w.heap.size := ⟨_, rfl⟩
  have HBe := Lib.hid hBe
  clear hBe
  go_enter Try.func12, Try.ntmps12
  go_wp2_with fail
  refine HN.out.mono ?_
  rintro e w1 ⟨sb, mb, rfl, hsb, hmb, h1, hs1⟩
  have HB := Lib.hid (And.intro hsb hmb)
  have HS1 := Lib.hid (hs1.mono (G := [sb, mb]) (by simp))
  have HA := Lib.hid (show Calls Try.prog 13 #[.pointer (some ⟨sb, 0, none⟩), .agg #[.int .i64 0, .int .i64 2, .int .i64 3, .bool false, .int .u16 7]] w1 fun e w' => e = .returned (.tuple #[.int .i64 1, .int .i64 0]) ∧ SetAt w' sb mb [⟨1, ⟨2, 5, false, 7⟩, 0⟩] 1 1 ∧ Stay [sb, mb] w1 w' from
    madd_ok h1 0 2 3 false 7 (by decide) (by decide) (by decide))
  clear hsb hmb h1 hs1 HN
  go_wp2_with fail
  refine HA.out.mono ?_
  rintro e w2 ⟨rfl, h2, hs2⟩
  have HS2 := Lib.hid (HS1.out.trans hs2)
  have HE := Lib.hid (show Calls Try.prog 15 #[.pointer (some ⟨sb, 0, none⟩), .agg #[.int .i64 0, .int .i64 0, .string ⟨#[97, 98]⟩]] w2 fun e w' => e = .returned (.tuple #[]) ∧ SetAt w' sb mb [⟨1, ⟨4, 7, false, 7⟩, 0⟩] 1 1 ∧ Stay [mb] w2 w' from
    medit_any h2 0 0 ⟨#[97, 98]⟩ (by decide) (by decide) (by decide) (by decide))
  clear h2 hs2 HA
  go_wp2_with fail
  refine HE.out.mono ?_
  rintro e w3 ⟨rfl, h3, hs3⟩
  have HS3 := Lib.hid (HS2.out.trans (hs3.mono (by simp)))
  have H3 := Lib.hid h3
  have HG := Lib.hid (show Calls Try.prog 14 #[.pointer (some ⟨sb, 0, none⟩), .int .i64 1] w3 fun e w' => e = .returned (.tuple #[.agg #[.int .i64 1, .int .i64 4, .int .i64 3, .bool false, .int .u16 7], .bool true]) ∧ Stay [] w3 w' from get_there h3 (x := ⟨1, ⟨4, 7, false, 7⟩, 0⟩) (by simp))
  clear h3 hs3 HE
  go_wp2_with fail
  refine HG.out.mono ?_
  rintro e w4 ⟨rfl, hs4⟩
  obtain ⟨W5, hW5⟩ : ∃ W, W = w4.alloc (.cells #[.int .i64 1, .int .i64 4, .int .i64 3, .bool false, .int .u16 7] 35) := ⟨_, rfl⟩
  have hs5 : Stay [] w4 W5 := by rw [hW5]; exact Stay.alloc _ _
  have hb5 : Blk W5 w4.heap.size [.int .i64 1, .int .i64 4, .int .i64 3, .bool false, .int .u16 7] 35 := by rw [hW5]; exact Blk.new w4 _ _
  obtain ⟨bm, hbm⟩ : ∃ b, b = w4.heap.size := ⟨_, rfl⟩
  rw [← hbm] at hb5
  have H5 := Lib.hid ((H3.out.stay0 hs4).stay0 hs5)
  have HS5 := Lib.hid (HS3.out.trans ((hs4.trans hs5).mono (by simp)))
  have HB5 := Lib.hid hb5
  have HO := Lib.hid (mover_any H5.out 4 1 (by decide) (by decide) (by decide))
  have HW5 := Lib.hid hW5
  have HBm := Lib.hid hbm
  clear hs4 hs5 hb5 hW5 hbm HG H3
  go_upto_region 7 with fail
  rw [← HW5.out, ← HBm.out]
  go_wp2_with fail
  refine HO.out.mono ?_
  rintro e w6 ⟨A, c, d, rfl, hperm, _, hmem, hs6⟩
  have hp1 : d.toList.Perm [(⟨1, 4, 3, false, 7⟩ : MK)] := hperm
  have hd : d = #[(⟨1, 4, 3, false, 7⟩ : MK)] := by
    apply Array.toList_inj.1
    exact List.perm_singleton.1 hp1
  subst hd
  obtain ⟨g, o, rfl, hg, hg2, hH⟩ := hmem (by decide)
  have hc0 : w6.cell? ⟨g, o + 0, none⟩ = some (.int .i64 1) := by
    have h9 := (hH 0 (by rw [size_flatK]; decide)).1
    rw [get_flatK MK.cells 5 _ 0 (by decide)] at h9
    exact h9
  rw [Nat.add_zero] at hc0
  have H6 := Lib.hid (H5.out.stay0 hs6)
  have HS6 := Lib.hid (HS5.out.trans (hs6.mono (by simp)))
  have HB6 := Lib.hid (HB5.out.stay hs6 (by simp))
  have HC6 := Lib.hid (And.intro hc0 hg2)
  have HSt := Lib.hid (show Calls Try.prog 18 #[.pointer (some ⟨sb, 0, none⟩), .int .i64 3, .int .i64 2] w6 (Styled w6 3 2 [⟨1, ⟨4, 7, false, 7⟩, 0⟩]) from styles_any H6.out 3 2 (by decide) (by decide))
  clear hperm hp1 hmem hg hg2 hH hs6 hc0 HO H5 HB5
  rw [show (#[(⟨1, 4, 3, false, 7⟩ : MK)]).size = 1 from rfl]
  go_wp2_with fail
  refine HSt.out.mono ?_
  rintro e w7 ⟨b1, O, rfl, hpO, hbO, _, hs7⟩
  have hO : O = [⟨1, ⟨4, 7, false, 7⟩, 0⟩] := List.perm_singleton.1 hpO
  subst hO
  have z0 : w7.cell? ⟨b1, 0, none⟩ = some (.int .u16 0) := hbO.cell 0
  have z1 : w7.cell? ⟨b1, 1, none⟩ = some (.int .u16 7) := hbO.cell 1
  have hb7 := HB6.out.stay hs7 (by simp)
  have y1 : w7.cell? ⟨bm, 1, none⟩ = some (.int .i64 4) := hb7.cell 1
  have y2 : w7.cell? ⟨bm, 2, none⟩ = some (.int .i64 3) := hb7.cell 2
  have x0 : w7.cell? ⟨g, o, none⟩ = some (.int .i64 1) := (hs7.cell_ (a := ⟨g, o, none⟩) HC6.out.2 (by simp)).trans HC6.out.1
  have H7 := Lib.hid (H6.out.stay0 hs7)
  have HS7 := Lib.hid (HS6.out.trans (hs7.mono (by simp)))
  have HDr := Lib.hid (drop_gone H7.out (id := 9) (by simp))
  clear hpO hbO hb7 hs7 HSt HB6 HC6 H6
  go_wp2_with fail
  refine HDr.out.mono ?_
  rintro e w8 ⟨rfl, hs8⟩
  have HF := Lib.hid (show Below w.heap.size w w8 from (HS7.out.trans (hs8.mono (by simp))).toBelow (Nat.le_refl _) (fun f hf => by
    simp only [List.mem_cons, List.not_mem_nil, or_false] at hf
    rcases hf with rfl | rfl
    · exact HB.out.1
    · exact HB.out.2))
  clear hs8
  go_wp2_with fail
  go_ret
  exact ⟨rfl, HF.out⟩
end Go.Proofs.Ytbnaglkhbgfchaa
