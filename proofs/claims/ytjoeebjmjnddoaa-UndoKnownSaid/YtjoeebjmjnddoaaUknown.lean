/- shuttlelaw20: UndoKnown (11): the walk. -/
import Derived.Test.YtjoeebjmjnddoaaUworks
namespace Go.Proofs.Ytjoeebjmjnddoaa
open Go.RowKit
theorem rdo_place {rb : Nat} {t : Rp} {rs : Int} {e : Ed} {w : World} {T : List UInt8} (hr : RopeAt w rb t rs) (ht : t.text = T) (ok : e.OK) (hb : e.a < 0 ∨ (T.length : Int) < e.a ∨ e.d < 0 ∨ (T.length : Int) - e.a < e.d) :
    ∀ u, Stay [] w u → RDo rb e.a e.d e.s 0 0 ⟨#[]⟩ 180 rs T u := fun u hs => by
  have hll : t.len = T.length := by rw [← ht]; rfl
  refine (do_refused rb t rs e.a e.d e.s u (hr.stay0 hs) ok.a ok.d 180 (.inl ⟨by rw [hll]; exact hb, rfl⟩)).mono ?_
  rintro e' w' ⟨h1, h2⟩
  have h3 := Stay.below h2 (F := [])
  exact ⟨h1, ⟨t, (hr.stay0 hs).stay0 h3, ht⟩, h3.mono (by simp)⟩
set_option maxRecDepth 20000 in
set_option maxHeartbeats 64000000 in
theorem uknown_any (w : World) : Calls Try.prog 11 #[] w fun e w' => e = .returned (.bool true) ∧ Below w.heap.size w w' := by
  have HN := Lib.hid (show Calls Try.prog 12 #[.string ⟨#[97, 98]⟩] w (Newed w [97, 98]) from new_any [97, 98] w (by decide))
  obtain ⟨B, hBe⟩ : ∃ B, B = w.heap.size := ⟨_, rfl⟩
  have HBe := Lib.hid hBe
  clear hBe
  go_enter Try.func11, Try.ntmps11
  go_wp2_with fail
  refine HN.out.mono ?_
  rintro e w1 ⟨rb, t, rfl, hrb, hR, hx, hb⟩
  have HU := Lib.hid (unew_any rb t 0 w1 hR)
  have HB := Lib.hid (And.intro hR (And.intro hx (And.intro hrb hb)))
  clear hR hx hrb hb HN
  go_wp2_with fail
  refine HU.out.mono ?_
  rintro e w2 ⟨rfl, hb2, hs2⟩
  have H2 := Lib.hid (bs_first HB.out.1 HB.out.2.1 HB.out.2.2.1 HB.out.2.2.2 hb2 hs2)
  rw [← HBe.out] at H2
  obtain ⟨bb, hbb⟩ : ∃ b, b = w1.heap.size := ⟨_, rfl⟩
  rw [← hbb] at H2 ⊢
  clear hb2 hs2 hbb HB HU
  obtain ⟨t2, hR2, ht2⟩ := H2.out.R
  obtain ⟨hun2, hrd2⟩ := rdo_fits (e := ⟨0, 1, ⟨#[]⟩⟩) (b := ⟨0, 0, ⟨#[97]⟩⟩) (z := [98]) hR2 H2.out.u ht2 (by unfold Fits; decide) rfl (by decide)
  have HUn1 := Lib.hid hun2
  have HD := Lib.hid (show Calls Try.prog 31 #[.pointer (some ⟨bb, 0, none⟩), .agg #[.int .i64 0, .int .i64 1, .string ⟨#[]⟩], .bool false] w2 (DNew w w2 B bb rb [] [⟨0, 0, ⟨#[97]⟩⟩] 1 0 0 0 [98]) from
    bs_new H2.out ⟨0, 1, ⟨#[]⟩⟩ false (by simp) (by simp [chg]) 0 0 ⟨#[97]⟩ _ _ (u64_wrap _) hrd2 (by decide) (by decide) (by omega) rfl)
  clear hR2 ht2 hun2 hrd2 t2 H2
  go_wp2_with fail
  refine HD.out.mono ?_
  rintro e w3 ⟨g1, j, DA', dc', rs', F, rfl, hged, hgby, hgbe, hgst, hj, hB3, _, hs3, hF⟩
  obtain rfl : j = 0 := by simpa using hj
  simp only [List.nil_append, List.drop_zero] at hB3
  have H3 := Lib.hid hB3
  have HG1 := Lib.hid (And.intro hged (And.intro hgby (And.intro hgbe hgst)))
  clear hged hgby hgbe hgst hj hB3 hs3 hF HD
  obtain ⟨t3, hR3, ht3⟩ := H3.out.R
  obtain ⟨hun3, hrd3⟩ := rdo_fits (e := ⟨0, 0, ⟨#[121]⟩⟩) (b := ⟨0, 1, ⟨#[]⟩⟩) (z := [121, 98]) hR3 H3.out.u ht3 (by unfold Fits; decide) rfl (by decide)
  have HUn2 := Lib.hid hun3
  have HGi1 := Lib.hid (show GI g1 from ⟨by rw [HG1.out.1]; decide, by rw [HG1.out.1]; decide, by rw [HG1.out.2.1]; decide, by rw [HG1.out.2.1, HG1.out.1]; decide⟩)
  have HD := Lib.hid (show Calls Try.prog 31 #[.pointer (some ⟨bb, 0, none⟩), .agg #[.int .i64 0, .int .i64 0, .string ⟨#[121]⟩], .bool true] w3 (DNew w w3 B bb rb [] (g1.ed ++ [⟨0, 1, ⟨#[]⟩⟩]) (g1.by_ + 0) g1.be 0 (0 + 1) [121, 98]) from
    bs_more (g := g1) (Dk := []) H3.out ⟨0, 0, ⟨#[121]⟩⟩ rfl (by
      intro y hy
      rw [List.mem_singleton] at hy
      rw [hy]
      exact HGi1.out) (by
      simp only [chg, List.map_cons, List.map_nil, List.sum_cons, List.sum_nil]
      have := HGi1.out.n1
      omega) (by rw [HG1.out.1]; decide) 0 1 ⟨#[]⟩ _ _ (u64_wrap _) hrd3 (by decide) (by decide) (by omega))
  clear hR3 ht3 hun3 hrd3 t3 H3
  go_wp2_with fail
  refine HD.out.mono ?_
  rintro e w4 ⟨g2, j, DA', dc', rs', F, rfl, hged, hgby, hgbe, hgst, hj, hB4, _, hs4, hF⟩
  obtain rfl : j = 0 := by simpa using hj
  simp only [List.nil_append, List.drop_zero] at hB4
  rw [HG1.out.1] at hged
  rw [HG1.out.2.1] at hgby
  rw [HG1.out.2.2.1] at hgbe
  have H4 := Lib.hid hB4
  have HG2 := Lib.hid (And.intro hged (And.intro hgby (And.intro hgbe hgst)))
  clear hged hgby hgbe hgst hj hB4 hs4 hF HD HG1 HGi1
  have HU4 := Lib.hid (bs_undo (P := []) (x := [97, 98]) H4.out (by rw [HG2.out.1]; exact (GT.one HUn1.out).more HUn2.out) ⟨by rw [HG2.out.1]; decide, by rw [HG2.out.1]; decide, by rw [HG2.out.2.1]; decide, by rw [HG2.out.2.1, HG2.out.1]; decide⟩ (by decide))
  go_wp2_with fail
  refine HU4.out.mono ?_
  rintro e w6 ⟨tA, tc, told, g3, DA6, dc6, UA6, uc6, rs6, F6, rfl, hW6, htd, _, hB6, _, _, _, _, _, _, _⟩
  obtain rfl : told = [⟨0, 1, ⟨#[]⟩⟩, ⟨0, 0, ⟨#[97]⟩⟩] := by rw [htd, HG2.out.1]; rfl
  rw [show ([(⟨0, 1, ⟨#[]⟩⟩ : Ed), ⟨0, 0, ⟨#[97]⟩⟩]).length = 2 from rfl] at hW6 ⊢
  rw [HG2.out.2.2.1] at hB6
  have H6 := Lib.hid hB6
  have hs7 : Stay [] w6 (w6.alloc (.cells #[.int .i64 0, .int .i64 1, .string ⟨#[]⟩, .int .i64 0, .int .i64 0, .string ⟨#[97]⟩] 37)) := Stay.alloc _ _
  have HSm := Lib.hid (show Calls Try.prog 37 #[.slice tA 2 tc, .slice (some ⟨w6.heap.size, 0, none⟩) 2 2] (w6.alloc (.cells #[.int .i64 0, .int .i64 1, .string ⟨#[]⟩, .int .i64 0, .int .i64 0, .string ⟨#[97]⟩] 37)) fun e w' => e = .returned (.bool true) ∧ Stay [] (w6.alloc (.cells #[.int .i64 0, .int .i64 1, .string ⟨#[]⟩, .int .i64 0, .int .i64 0, .string ⟨#[97]⟩] 37)) w' from
    same_yes B [⟨0, 1, ⟨#[]⟩⟩, ⟨0, 0, ⟨#[97]⟩⟩] tA (some ⟨w6.heap.size, 0, none⟩) tc 2 _ (by decide) (hW6.stay0 hs7) (win_new w6 B 37 3 2 _ rfl H6.out.sz (by decide)))
  have HS7 := Lib.hid hs7
  clear hW6 htd hB6 hs7 HU4 H4 HUn1 HUn2 HG2
  go_wp2_with fail
  refine HSm.out.mono ?_
  rintro e w8 ⟨rfl, hs8⟩
  have H8 := Lib.hid (H6.out.stay0 (HS7.out.trans hs8))
  clear hs8 HSm HS7 H6
  have HT8 := Lib.hid (show Calls Try.prog 19 #[.pointer (some ⟨rb, 0, none⟩)] w8 fun e w' => e = .returned (.string ⟨#[97, 98]⟩) ∧ Stay [] w8 w' from bs_text H8.out)
  go_wp2_with fail
  refine HT8.out.mono ?_
  rintro e w9 ⟨rfl, hs9⟩
  have H9 := Lib.hid (H8.out.stay0 hs9)
  clear hs9 HT8 H8
  obtain ⟨t9, hR9, ht9⟩ := H9.out.R
  have HD := Lib.hid (show Calls Try.prog 31 #[.pointer (some ⟨bb, 0, none⟩), .agg #[.int .i64 9, .int .i64 0, .string ⟨#[120]⟩], .bool false] w9 _ from
    bs_bad H9.out ⟨9, 0, ⟨#[120]⟩⟩ false (by simp) (by simp [chg]) ⟨by unfold I64; decide, by unfold I64; decide, by decide⟩ 0 0 ⟨#[]⟩ 180 (rdo_place (e := ⟨9, 0, ⟨#[120]⟩⟩) hR9 ht9 ⟨by unfold I64; decide, by unfold I64; decide, by decide⟩ (by decide)) (by decide))
  clear hR9 ht9 t9
  go_wp2_with fail
  refine HD.out.mono ?_
  rintro e w10 ⟨er, _, her, rs10, F, rfl, hB10, _, _⟩
  obtain rfl := her rfl
  have H10 := Lib.hid hB10
  clear her hB10 HD H9
  obtain ⟨t10, hR10, ht10⟩ := H10.out.R
  obtain ⟨hun10, hrd10⟩ := rdo_fits (e := ⟨0, 0, ⟨#[]⟩⟩) (b := ⟨0, 0, ⟨#[]⟩⟩) (z := [97, 98]) hR10 H10.out.u ht10 (by unfold Fits; decide) rfl (by decide)
  have HD := Lib.hid (show Calls Try.prog 31 #[.pointer (some ⟨bb, 0, none⟩), .agg #[.int .i64 0, .int .i64 0, .string ⟨#[]⟩], .bool false] w10 _ from
    bs_emp H10.out ⟨0, 0, ⟨#[]⟩⟩ false (by simp) (by simp [chg]) ⟨by unfold I64; decide, by unfold I64; decide, by decide⟩ 0 0 ⟨#[]⟩ _ (u64_wrap _) hrd10 ⟨rfl, rfl⟩)
  clear hR10 ht10 hun10 hrd10 t10
  go_wp2_with fail
  refine HD.out.mono ?_
  rintro e w11 ⟨er, her, rs11, F, rfl, hB11, _, _⟩
  obtain rfl := her rfl
  have H11 := Lib.hid hB11
  clear her hB11 HD H10
  have HDp := Lib.hid (show Calls Try.prog 30 #[.pointer (some ⟨bb, 0, none⟩)] w11 fun e w' => e = .returned (.tuple #[.int .i64 0, .int .i64 1]) ∧ Stay [] w11 w' from bs_depth H11.out)
  go_wp2_with fail
  refine HDp.out.mono ?_
  rintro e w12 ⟨rfl, hs12⟩
  have H12 := Lib.hid (H11.out.stay0 hs12)
  clear hs12 HDp H11
  obtain ⟨t12, hR12, ht12⟩ := H12.out.R
  obtain ⟨hun12, hrd12⟩ := rdo_fits (e := ⟨0, 0, ⟨#[120]⟩⟩) (b := ⟨0, 1, ⟨#[]⟩⟩) (z := [120, 97, 98]) hR12 H12.out.u ht12 (by unfold Fits; decide) rfl (by decide)
  have HUn12 := Lib.hid hun12
  have HD := Lib.hid (show Calls Try.prog 31 #[.pointer (some ⟨bb, 0, none⟩), .agg #[.int .i64 0, .int .i64 0, .string ⟨#[120]⟩], .bool false] w12 (DNew w w12 B bb rb [] [⟨0, 1, ⟨#[]⟩⟩] 0 0 0 (0 + 1 + 1) [120, 97, 98]) from
    bs_new H12.out ⟨0, 0, ⟨#[120]⟩⟩ false (by simp) (by simp [chg]) 0 1 ⟨#[]⟩ _ _ (u64_wrap _) hrd12 (by decide) (by decide) (by omega) rfl)
  clear hR12 ht12 hun12 hrd12 t12 H12
  go_wp2_with fail
  refine HD.out.mono ?_
  rintro e w13 ⟨g4, j, DA', dc', rs', F, rfl, hged, hgby, hgbe, hgst, hj, hB3, _, hs3, hF⟩
  obtain rfl : j = 0 := by simpa using hj
  simp only [List.nil_append, List.drop_zero] at hB3
  have H13 := Lib.hid hB3
  have HG12 := Lib.hid (And.intro hged (And.intro hgby (And.intro hgbe hgst)))
  clear hged hgby hgbe hgst hj hB3 hs3 hF HD
  have HSv := Lib.hid (bs_save H13.out)
  go_wp2_with fail
  refine HSv.out.mono ?_
  rintro e w14 ⟨rfl, hB14, _, _⟩
  have H14 := Lib.hid hB14
  clear hB14 HSv H13
  have HC14 := Lib.hid (show Calls Try.prog 35 #[.pointer (some ⟨bb, 0, none⟩)] w14 fun e w' => e = .returned (.bool false) ∧ Stay [] w14 w' from bs_changed H14.out)
  go_wp2_with fail
  refine HC14.out.mono ?_
  rintro e w15 ⟨rfl, hs15⟩
  have H15 := Lib.hid (H14.out.stay0 hs15)
  clear hs15 HC14 H14
  have HU15 := Lib.hid (bs_undo (P := []) (x := [97, 98]) H15.out (by rw [HG12.out.1]; exact GT.one HUn12.out) ⟨by rw [HG12.out.1]; decide, by rw [HG12.out.1]; decide, by rw [HG12.out.2.1]; decide, by rw [HG12.out.2.1, HG12.out.1]; decide⟩ (by decide))
  go_wp2_with fail
  refine HU15.out.mono ?_
  rintro e w16 ⟨tA, tc, told, g5, DA6, dc6, UA6, uc6, rs6, F6, rfl, _, _, _, hB16, hrf, hgi, hbe, hst, _, _, _⟩
  rw [HG12.out.2.2.1] at hB16 hbe
  rw [HG12.out.2.2.2] at hst
  have H16 := Lib.hid hB16
  have HG5 := Lib.hid (And.intro hrf (And.intro hgi (And.intro hbe hst)))
  clear hB16 hrf hgi hbe hst HU15 H15 HG12 HUn12
  have HC16 := Lib.hid (show Calls Try.prog 35 #[.pointer (some ⟨bb, 0, none⟩)] w16 fun e w' => e = .returned (.bool true) ∧ Stay [] w16 w' from bs_changed H16.out)
  go_wp2_with fail
  refine HC16.out.mono ?_
  rintro e w17 ⟨rfl, hs17⟩
  have H17 := Lib.hid (H16.out.stay0 hs17)
  clear hs17 HC16 H16
  have HR17 := Lib.hid (bs_redo (Q := []) (g := g5) (y := [120, 97, 98]) H17.out HG5.out.1 HG5.out.2.1 (by decide))
  go_wp2_with fail
  refine HR17.out.mono ?_
  rintro e w18 ⟨tA2, tc2, told2, g6, DA7, dc7, UA7, uc7, rs7, F7, rfl, _, _, _, hB18, hgt, hgi, hbe, hst, _, _, _⟩
  rw [HG5.out.2.2.2] at hB18
  rw [HG5.out.2.2.1] at hbe
  have H18 := Lib.hid hB18
  have HG6 := Lib.hid (And.intro hgt (And.intro hgi hbe))
  clear hB18 hgt hgi hbe hst HR17 H17 HG5
  have HC18 := Lib.hid (show Calls Try.prog 35 #[.pointer (some ⟨bb, 0, none⟩)] w18 fun e w' => e = .returned (.bool false) ∧ Stay [] w18 w' from bs_changed H18.out)
  go_wp2_with fail
  refine HC18.out.mono ?_
  rintro e w19 ⟨rfl, hs19⟩
  have H19 := Lib.hid (H18.out.stay0 hs19)
  clear hs19 HC18 H18
  have HU19 := Lib.hid (bs_undo (P := []) (g := g6) (x := [97, 98]) H19.out HG6.out.1 HG6.out.2.1 (by decide))
  go_wp2_with fail
  refine HU19.out.mono ?_
  rintro e w20 ⟨tA3, tc3, told3, g7, DA8, dc8, UA8, uc8, rs8, F8, rfl, _, _, _, hB20, _, _, _, _, _, _, _⟩
  rw [HG6.out.2.2] at hB20
  have H20 := Lib.hid hB20
  clear hB20 HU19 H19 HG6
  obtain ⟨t20, hR20, ht20⟩ := H20.out.R
  obtain ⟨hun20, hrd20⟩ := rdo_fits (e := ⟨0, 0, ⟨#[120]⟩⟩) (b := ⟨0, 1, ⟨#[]⟩⟩) (z := [120, 97, 98]) hR20 H20.out.u ht20 (by unfold Fits; decide) rfl (by decide)
  have HUn20 := Lib.hid hun20
  have HD := Lib.hid (show Calls Try.prog 31 #[.pointer (some ⟨bb, 0, none⟩), .agg #[.int .i64 0, .int .i64 0, .string ⟨#[120]⟩], .bool false] w20 (DNew w w20 B bb rb [] [⟨0, 1, ⟨#[]⟩⟩] 0 0 (0 + 1 + 1 + 1) (0 + 1 + 1 + 1) [120, 97, 98]) from
    bs_new H20.out ⟨0, 0, ⟨#[120]⟩⟩ false (by simp) (by simp [chg]) 0 1 ⟨#[]⟩ _ _ (u64_wrap _) hrd20 (by decide) (by decide) (by omega) rfl)
  clear hR20 ht20 hun20 hrd20 t20 H20
  go_wp2_with fail
  refine HD.out.mono ?_
  rintro e w21 ⟨g8, j, DA', dc', rs', F, rfl, hged, hgby, hgbe, hgst, hj, hB3, _, hs3, hF⟩
  obtain rfl : j = 0 := by simpa using hj
  simp only [List.nil_append, List.drop_zero] at hB3
  have H21 := Lib.hid hB3
  have HG20 := Lib.hid (And.intro hged (And.intro hgby (And.intro hgbe hgst)))
  clear hged hgby hgbe hgst hj hB3 hs3 hF HD
  have HC21 := Lib.hid (show Calls Try.prog 35 #[.pointer (some ⟨bb, 0, none⟩)] w21 fun e w' => e = .returned (.bool true) ∧ Stay [] w21 w' from bs_changed H21.out)
  go_wp2_with fail
  refine HC21.out.mono ?_
  rintro e w22 ⟨rfl, hs22⟩
  have HB22 := Lib.hid (H21.out.stay0 hs22).bel
  have HSz := Lib.hid (show B ≤ w22.heap.size from (H21.out.stay0 hs22).sz)
  clear hs22 HC21 H21
  have HWk := Lib.hid (works_any w22)
  go_wp2_with fail
  refine HWk.out.mono ?_
  rintro e w23 ⟨rfl, hb23⟩
  have HFin := Lib.hid (show Below w.heap.size w w23 from by
    rw [← HBe.out]
    exact HB22.out.trans ((Stay.below (F := []) hb23).toBelow HSz.out (by simp)))
  clear hb23
  go_wp2_with fail
  go_ret
  exact ⟨rfl, HFin.out⟩
end Go.Proofs.Ytjoeebjmjnddoaa
