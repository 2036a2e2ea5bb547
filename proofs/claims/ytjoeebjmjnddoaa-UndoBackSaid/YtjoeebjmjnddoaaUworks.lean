/- shuttlelaw20: works (28). -/
import Derived.Test.YtjoeebjmjnddoaaUnone
import Derived.Test.YtjoeebjmjnddoaaUdobs
import Derived.Test.YtjoeebjmjnddoaaUhelp
namespace Go.Proofs.Ytjoeebjmjnddoaa
open Go.RowKit
theorem win_new (w : World) (B : Nat) (e : TypeId) (sz n : Nat) (xs : List Value) (hl : xs.length = n * sz) (hB : B ≤ w.heap.size) (hm : n ≤ maxLen) : Win (w.alloc (.cells xs.toArray e)) B e sz (some ⟨w.heap.size, 0, none⟩) n n xs :=
  ⟨hl, Nat.le_refl _, hm, .inr ⟨w.heap.size, 0, xs, rfl, hB, Blk.new w xs e, by omega, by rw [List.drop_zero, ← hl, List.take_length]⟩⟩
set_option maxRecDepth 20000 in
set_option maxHeartbeats 32000000 in
theorem works_any (w : World) : Calls Try.prog 28 #[] w fun e w' => e = .returned (.bool true) ∧ Below w.heap.size w w' := by
  have HN := Lib.hid (show Calls Try.prog 12 #[.string ⟨#[97, 98]⟩] w (Newed w [97, 98]) from new_any [97, 98] w (by decide))
  obtain ⟨B, hBe⟩ : ∃ B, B = w.heap.size := ⟨_, rfl⟩
  have HBe := Lib.hid hBe
  clear hBe
  go_enter Try.func28, Try.ntmps28
  go_wp2_with fail
  refine HN.out.mono ?_
  rintro e w1 ⟨rb, t, rfl, hrb, hR, hx, hb⟩
  have HU := Lib.hid (unew_any rb t 0 w1 hR)
  have HB := Lib.hid (And.intro hR (And.intro hx (And.intro hrb hb)))
  clear hR hx hrb hb HN
  go_wp2_with fail
  refine HU.out.mono ?_
  rintro e w2 ⟨rfl, hb2, hs2⟩
  have H2 := Lib.hid (bs_first HB.out.1 HB.out.2.1 HB.out.2.2.1 HB.out.2.2.2 hb2 hs2)
  rw [← HBe.out] at H2
  obtain ⟨bb, hbb⟩ : ∃ b, b = w1.heap.size := ⟨_, rfl⟩
  rw [← hbb] at H2 ⊢
  clear hb2 hs2 hbb HB HU
  obtain ⟨t2, hR2, ht2⟩ := H2.out.R
  obtain ⟨hun, hrd⟩ := rdo_fits (e := ⟨1, 0, ⟨#[120]⟩⟩) (b := ⟨1, 1, ⟨#[]⟩⟩) (z := [97, 120, 98]) hR2 H2.out.u ht2 (by unfold Fits; decide) rfl (by decide)
  have HUn := Lib.hid hun
  have HD := Lib.hid (show Calls Try.prog 31 #[.pointer (some ⟨bb, 0, none⟩), .agg #[.int .i64 1, .int .i64 0, .string ⟨#[120]⟩], .bool false] w2 (DNew w w2 B bb rb [] [⟨1, 1, ⟨#[]⟩⟩] 0 0 0 0 [97, 120, 98]) from
    bs_new H2.out ⟨1, 0, ⟨#[120]⟩⟩ false (by simp) (by simp [chg]) 1 1 ⟨#[]⟩ _ _ (u64_wrap _) hrd (by decide) (by decide) (by omega) rfl)
  clear hR2 ht2 hun hrd t2 H2
  go_wp2_with fail
  refine HD.out.mono ?_
  rintro e w3 ⟨g, j, DA', dc', rs', F, rfl, hged, hgby, hgbe, hgst, hj, hB3, _, hs3, hF⟩
  obtain rfl : j = 0 := by simpa using hj
  simp only [List.nil_append, List.drop_zero] at hB3
  have H3 := Lib.hid hB3
  have HG := Lib.hid (And.intro hged (And.intro hgby (And.intro hgbe hgst)))
  have HT3 := Lib.hid (show Calls Try.prog 19 #[.pointer (some ⟨rb, 0, none⟩)] w3 fun e w' => e = .returned (.string ⟨#[97, 120, 98]⟩) ∧ Stay [] w3 w' from bs_text hB3)
  clear hged hgby hgbe hgst hj hB3 hs3 hF HD
  go_wp2_with fail
  refine HT3.out.mono ?_
  rintro e w4 ⟨rfl, hs4⟩
  have H4 := Lib.hid (H3.out.stay0 hs4)
  clear hs4 HT3 H3
  have HC4 := Lib.hid (show Calls Try.prog 35 #[.pointer (some ⟨bb, 0, none⟩)] w4 fun e w' => e = .returned (.bool true) ∧ Stay [] w4 w' from bs_changed H4.out)
  go_wp2_with fail
  refine HC4.out.mono ?_
  rintro e w5 ⟨rfl, hs5⟩
  have H5 := Lib.hid (H4.out.stay0 hs5)
  clear hs5 HC4 H4
  have HU5 := Lib.hid (bs_undo (P := []) (x := [97, 98]) H5.out (by rw [HG.out.1]; exact GT.one HUn.out) ⟨by rw [HG.out.1]; decide, by rw [HG.out.1]; decide, by rw [HG.out.2.1]; decide, by rw [HG.out.2.1, HG.out.1]; decide⟩ (by decide))
  go_wp2_with fail
  refine HU5.out.mono ?_
  rintro e w6 ⟨tA, tc, told, g2, DA6, dc6, UA6, uc6, rs6, F6, rfl, hW6, htd, _, hB6, hrf6, hgi6, hbe6, hst6, hone6, _, _⟩
  obtain rfl : told = [⟨1, 1, ⟨#[]⟩⟩] := by rw [htd, HG.out.1]; rfl
  rw [show ([(⟨1, 1, ⟨#[]⟩⟩ : Ed)]).length = 1 from rfl] at hW6 ⊢
  rw [HG.out.2.2.1] at hB6
  have H6 := Lib.hid hB6
  have HG6 := Lib.hid (And.intro (hone6 _ HG.out.1) (And.intro hrf6 (And.intro hgi6 (hst6.trans HG.out.2.2.2))))
  have hs7 : Stay [] w6 (w6.alloc (.cells #[.int .i64 1, .int .i64 1, .string ⟨#[]⟩] 37)) := Stay.alloc _ _
  have HSm := Lib.hid (show Calls Try.prog 37 #[.slice tA 1 tc, .slice (some ⟨w6.heap.size, 0, none⟩) 1 1] (w6.alloc (.cells #[.int .i64 1, .int .i64 1, .string ⟨#[]⟩] 37)) fun e w' => e = .returned (.bool true) ∧ Stay [] (w6.alloc (.cells #[.int .i64 1, .int .i64 1, .string ⟨#[]⟩] 37)) w' from
    same_yes B [⟨1, 1, ⟨#[]⟩⟩] tA (some ⟨w6.heap.size, 0, none⟩) tc 1 _ (by decide) (hW6.stay0 hs7) (win_new w6 B 37 3 1 _ rfl H6.out.sz (by decide)))
  have HS7 := Lib.hid hs7
  clear hW6 htd hB6 hrf6 hgi6 hbe6 hst6 hone6 hs7 HU5 H5 HUn
  go_wp2_with fail
  refine HSm.out.mono ?_
  rintro e w8 ⟨rfl, hs8⟩
  have H8 := Lib.hid (H6.out.stay0 (HS7.out.trans hs8))
  clear hs8 HSm HS7 H6
  have HT8 := Lib.hid (show Calls Try.prog 19 #[.pointer (some ⟨rb, 0, none⟩)] w8 fun e w' => e = .returned (.string ⟨#[97, 98]⟩) ∧ Stay [] w8 w' from bs_text H8.out)
  go_wp2_with fail
  refine HT8.out.mono ?_
  rintro e w9 ⟨rfl, hs9⟩
  have H9 := Lib.hid (H8.out.stay0 hs9)
  clear hs9 HT8 H8
  have HC9 := Lib.hid (show Calls Try.prog 35 #[.pointer (some ⟨bb, 0, none⟩)] w9 fun e w' => e = .returned (.bool false) ∧ Stay [] w9 w' from bs_changed H9.out)
  go_wp2_with fail
  refine HC9.out.mono ?_
  rintro e w10 ⟨rfl, hs10⟩
  have H10 := Lib.hid (H9.out.stay0 hs10)
  clear hs10 HC9 H9
  have HR10 := Lib.hid (bs_redo (Q := []) (g := g2) (y := [97, 120, 98]) H10.out (by have h1 := HG6.out.2.1; exact h1) HG6.out.2.2.1 (by decide))
  go_wp2_with fail
  refine HR10.out.mono ?_
  rintro e w11 ⟨tA2, tc2, told2, g3, DA7, dc7, UA7, uc7, rs7, F7, rfl, hW11, htd2, _, hB11, _, _, _, _, _, _, _⟩
  obtain rfl : told2 = [⟨1, 0, ⟨#[120]⟩⟩] := by rw [htd2, HG6.out.1]; rfl
  rw [show ([(⟨1, 0, ⟨#[120]⟩⟩ : Ed)]).length = 1 from rfl] at hW11 ⊢
  have H11 := Lib.hid hB11
  have HW11 := Lib.hid hW11
  clear hW11 htd2 hB11 HR10 H10 HG6 HG
  have HDp := Lib.hid (show Calls Try.prog 30 #[.pointer (some ⟨bb, 0, none⟩)] w11 fun e w' => e = .returned (.tuple #[.int .i64 1, .int .i64 0]) ∧ Stay [] w11 w' from bs_depth H11.out)
  go_wp2_with fail
  refine HDp.out.mono ?_
  rintro e w12 ⟨rfl, hs12⟩
  have H12 := Lib.hid (H11.out.stay0 hs12)
  have HW12 := Lib.hid (HW11.out.stay0 hs12)
  clear hs12 HDp H11 HW11
  have HRn := Lib.hid (bs_redo_none H12.out)
  go_wp2_with fail
  refine HRn.out.mono ?_
  rintro e w13 ⟨rfl, hs13⟩
  have H13 := Lib.hid (H12.out.stay0 hs13)
  have hs14 : Stay [] w13 (w13.alloc (.cells #[.int .i64 1, .int .i64 0, .string ⟨#[120]⟩] 37)) := Stay.alloc _ _
  have HSm := Lib.hid (show Calls Try.prog 37 #[.slice tA2 1 tc2, .slice (some ⟨w13.heap.size, 0, none⟩) 1 1] (w13.alloc (.cells #[.int .i64 1, .int .i64 0, .string ⟨#[120]⟩] 37)) fun e w' => e = .returned (.bool true) ∧ Stay [] (w13.alloc (.cells #[.int .i64 1, .int .i64 0, .string ⟨#[120]⟩] 37)) w' from
    same_yes B [⟨1, 0, ⟨#[120]⟩⟩] tA2 (some ⟨w13.heap.size, 0, none⟩) tc2 1 _ (by decide) ((HW12.out.stay0 hs13).stay0 hs14) (win_new w13 B 37 3 1 _ rfl H13.out.sz (by decide)))
  have HS14 := Lib.hid hs14
  clear hs13 hs14 HRn H12 HW12
  go_wp2_with fail
  refine HSm.out.mono ?_
  rintro e w15 ⟨rfl, hs15⟩
  have H15 := Lib.hid (H13.out.stay0 (HS14.out.trans hs15))
  clear hs15 HSm HS14 H13
  have HT15 := Lib.hid (show Calls Try.prog 19 #[.pointer (some ⟨rb, 0, none⟩)] w15 fun e w' => e = .returned (.string ⟨#[97, 120, 98]⟩) ∧ Stay [] w15 w' from bs_text H15.out)
  go_wp2_with fail
  refine HT15.out.mono ?_
  rintro e w16 ⟨rfl, hs16⟩
  have H16 := Lib.hid (H15.out.stay0 hs16)
  clear hs16 HT15 H15
  go_wp2_with fail
  go_ret
  exact ⟨rfl, by rw [← HBe.out]; exact H16.out.bel⟩
end Go.Proofs.Ytjoeebjmjnddoaa
