/- shuttlelaw24: GridKnown: the walk. -/
import Derived.Test.YtohkjopdoejedaaGknown0
namespace Go.Proofs.Ytohkjopdoejedaa
open Go.RowKit
set_option maxRecDepth 20000 in
set_option maxHeartbeats 16000000 in
theorem known_any (w : World) : Calls Try.prog 8 #[] w fun e w' => e = .returned (.bool true) ∧ Below w.heap.size w w' := by
  obtain ⟨s, hs⟩ : ∃ s, s = w.heap.size := ⟨_, rfl⟩
  have HSe := Lib.hid hs
  have HO := Lib.hid one_any
  have HC := Lib.hid (show Calls Try.prog 11 #[.int .i64 4, .int .i64 2] w fun e w' => e = .returned (.tuple #[.pointer (some ⟨s, 0, none⟩), .int .i64 0]) ∧ Sm w' s (s + 1) [] kn0 ∧ Below s w w' from by
    rw [hs]
    refine (new_any 4 2 w (by omega) (by omega)).mono ?_
    rintro e w' ⟨rfl, h1, h2, _⟩
    exact ⟨rfl, h1, h2⟩)
  have hfd : ∀ (a0 a1 a2 a3 a4 : Value) (w : World), (Instr.field 40 (.agg #[a0, a1, a2, a3, a4]) 3).run Try.prog w = .ok a3 w := fun _ _ _ _ _ _ => by kernel_rfl
  have hfd2 : ∀ (a0 a1 a2 a3 a4 : Value) (w : World), (Instr.field 40 (.agg #[a0, a1, a2, a3, a4]) 4).run Try.prog w = .ok a4 w := fun _ _ _ _ _ _ => by kernel_rfl
  rw [← hs]
  clear hs
  go_enter Try.func8, Try.ntmps8
  go_wp2_with fail
  refine HC.out.mono ?_
  rintro e w1 ⟨rfl, h1, h2⟩
  have HS1 := Lib.hid h1
  have HB1 := Lib.hid h2
  clear h1 h2 HC
  have HC := Lib.hid (new_bad (-1) 2 w1 (by omega))
  go_wp2_with fail
  refine HC.out.mono ?_
  rintro e w2 ⟨rfl, h2⟩
  have HS2 := Lib.hid (HS1.out.below h2)
  have HB2 := Lib.hid (bup HSe.out HB1.out h2)
  clear h2 HC
  have HC := Lib.hid (new_bad 1025 1 w2 (by omega))
  go_wp2_with fail
  refine HC.out.mono ?_
  rintro e w3 ⟨rfl, h2⟩
  have HS3 := Lib.hid (HS2.out.below h2)
  have HB3 := Lib.hid (bup HSe.out HB2.out h2)
  clear h2 HC HS1 HS2 HB1 HB2
  have HC := Lib.hid (show Calls Try.prog 11 #[.int .i64 0, .int .i64 0] w3 fun e w' => e = .returned (.tuple #[.pointer (some ⟨w3.heap.size, 0, none⟩), .int .i64 0]) ∧ Sm w' w3.heap.size (w3.heap.size + 1) [] (newS 0 0) ∧ Below w3.heap.size w3 w' from by
    refine (new_any 0 0 w3 (by omega) (by omega)).mono ?_
    rintro e w' ⟨rfl, h1, h2, _⟩
    exact ⟨rfl, h1, h2⟩)
  go_wp2_with fail
  refine HC.out.mono ?_
  rintro e w5 ⟨rfl, h1, h2⟩
  have HS5 := Lib.hid (HS3.out.below h2)
  have HB5 := Lib.hid (bup HSe.out HB3.out h2)
  obtain ⟨z, hz⟩ : ∃ z, z = w3.heap.size := ⟨_, rfl⟩
  rw [← hz] at h1 ⊢
  have HC2 := Lib.hid (show Calls Try.prog 17 #[.pointer (some ⟨z, 0, none⟩)] w5 fun e w' => ∃ A c, e = .returned (.slice A 0 c) ∧ Below w5.heap.size w5 w' from by
    refine (damage_any z (z + 1) [] (newS 0 0) w5 h1).mono ?_
    rintro e w' ⟨A, c, rfl, _, hb⟩
    exact ⟨A, c, rfl, hb⟩)
  clear h1 h2 HC HS3 HB3 hz
  go_wp2_with fail
  refine HC2.out.mono ?_
  rintro e w6 ⟨A6, c6, rfl, h2⟩
  have HS6 := Lib.hid (HS5.out.below h2)
  have HB6 := Lib.hid (bup HSe.out HB5.out h2)
  clear h2 HC2 HS5 HB5
  have HC := Lib.hid (wide_any w6)
  go_wp2_with fail
  refine HC.out.mono ?_
  rintro e w7 ⟨rfl, h1, h2⟩
  clear HC
  have HS7 := Lib.hid (HS6.out.stay h2 (by simp))
  have HB7 := Lib.hid (bst HSe.out HB6.out h2 (by simp))
  have HC := Lib.hid (show Calls Try.prog 22 #[.pointer (some ⟨s, 0, none⟩), .int .i64 (3), .int .i64 (0), .slice (some ⟨w6.heap.size, 0, none⟩) 2 2] w7 fun e w' => e = .returned (.tuple #[]) ∧ Sm w' s (s + 1) [] kn1 ∧ Stay (foot s (s + 1) 2) w7 w' from
    put_any s (s + 1) [] kn0 (3) (0) wideL w6.heap.size 0 2 w7 (by unfold I64; omega) (by unfold I64; omega) (by show 2 ≤ 16777216; omega) (partOK_all rfl) ⟨by show 2 ≤ 2; omega, by simp only [maxLen]; omega⟩ h1.cat' h1.lt (fun hm => by have := foot_lt HS6.out _ hm; omega) HS7.out)
  clear h1 h2
  go_wp2_with fail
  clear HS6 HB6
  refine HC.out.mono ?_
  rintro e w8 ⟨rfl, h1, h2⟩
  have HS8 := Lib.hid (show Sm w8 s (s + 1) [] kn1 from h1)
  have HB8 := Lib.hid (bst HSe.out HB7.out h2 foot_ge)
  clear h1 h2 HC HS7 HB7
  have HC := Lib.hid (wide_any w8)
  go_wp2_with fail
  refine HC.out.mono ?_
  rintro e w9 ⟨rfl, h1, h2⟩
  clear HC
  have HS9 := Lib.hid (HS8.out.stay h2 (by simp))
  have HB9 := Lib.hid (bst HSe.out HB8.out h2 (by simp))
  have HC := Lib.hid (show Calls Try.prog 22 #[.pointer (some ⟨s, 0, none⟩), .int .i64 (-1), .int .i64 (1), .slice (some ⟨w8.heap.size, 0, none⟩) 2 2] w9 fun e w' => e = .returned (.tuple #[]) ∧ Sm w' s (s + 1) [] kn2 ∧ Stay (foot s (s + 1) 2) w9 w' from
    put_any s (s + 1) [] kn1 (-1) (1) wideL w8.heap.size 0 2 w9 (by unfold I64; omega) (by unfold I64; omega) (by show 2 ≤ 16777216; omega) (partOK_all rfl) ⟨by show 2 ≤ 2; omega, by simp only [maxLen]; omega⟩ h1.cat' h1.lt (fun hm => by have := foot_lt HS8.out _ hm; omega) HS9.out)
  clear h1 h2
  go_wp2_with fail
  clear HS8 HB8
  refine HC.out.mono ?_
  rintro e w10 ⟨rfl, h1, h2⟩
  have HS10 := Lib.hid (show Sm w10 s (s + 1) [] kn2 from h1)
  have HB10 := Lib.hid (bst HSe.out HB9.out h2 foot_ge)
  clear h1 h2 HC HS9 HB9
  have HC := Lib.hid (show Calls Try.prog 27 #[.pointer (some ⟨s, 0, none⟩), .int .i64 0] w10 fun e w' => e = .returned (.string ⟨#[46, 46, 46, 46, 39]⟩) ∧ Sm w' s (s + 1) [] kn2 ∧ Below w10.heap.size w10 w' from
    row_at s (s + 1) [] kn2 0 w10 _ (by show 0 < 2; omega) kn2_0_t kn2_0_r HS10.out)
  go_wp2_with fail
  refine HC.out.mono ?_
  rintro e w11 ⟨rfl, h1, h2⟩
  have HS11 := Lib.hid h1
  have HB11 := Lib.hid (bup HSe.out HB10.out h2)
  clear h1 h2 HC HS10 HB10
  have HC := Lib.hid (show Calls Try.prog 27 #[.pointer (some ⟨s, 0, none⟩), .int .i64 1] w11 fun e w' => e = .returned (.string ⟨#[46, 39, 46, 46, 46]⟩) ∧ Sm w' s (s + 1) [] kn2 ∧ Below w11.heap.size w11 w' from
    row_at s (s + 1) [] kn2 1 w11 _ (by show 1 < 2; omega) kn2_1_t kn2_1_r HS11.out)
  go_wp2_with fail
  refine HC.out.mono ?_
  rintro e w12 ⟨rfl, h1, h2⟩
  have HS12 := Lib.hid h1
  have HB12 := Lib.hid (bup HSe.out HB11.out h2)
  clear h1 h2 HC HS11 HB11
  go_wp2_with fail
  refine (HO.out _ _).mono ?_
  rintro e w13 ⟨rfl, hst⟩
  have HS13 := Lib.hid (HS12.out.stay hst (by simp))
  have HB13 := Lib.hid (bst HSe.out HB12.out hst (by simp))
  clear hst HS12 HB12
  go_wp2_with fail
  have HC := Lib.hid (put_new s (s + 1) [] kn2 (0) (0) [⟨⟨#[]⟩, 1, 0, 0, false, 2⟩, ⟨⟨#[97]⟩, 0, 0, 0, false, 0⟩] w13 #[.string ⟨#[]⟩, .int .i8 1, .int .i64 0, .int .i64 0, .bool false, .int .u16 2, .string ⟨#[97]⟩, .int .i8 0, .int .i64 0, .int .i64 0, .bool false, .int .u16 0] 2 rfl rfl (by unfold I64; omega) (by unfold I64; omega) (by omega) (partOK_all rfl) HS13.out)
  refine HC.out.mono ?_
  rintro e w14 ⟨rfl, h1, h2⟩
  have HS14 := Lib.hid (show Sm w14 s (s + 1) [] kn3 from h1)
  have HB14 := Lib.hid (bst HSe.out HB13.out h2 foot_ge)
  clear h1 h2 HC HS13 HB13
  have HC := Lib.hid (show Calls Try.prog 27 #[.pointer (some ⟨s, 0, none⟩), .int .i64 0] w14 fun e w' => e = .returned (.string ⟨#[46, 39, 97, 46, 46, 39]⟩) ∧ Sm w' s (s + 1) [] kn3 ∧ Below w14.heap.size w14 w' from
    row_at s (s + 1) [] kn3 0 w14 _ (by show 0 < 2; omega) kn3_0_t kn3_0_r HS14.out)
  go_wp2_with fail
  refine HC.out.mono ?_
  rintro e w15 ⟨rfl, h1, h2⟩
  have HS15 := Lib.hid h1
  have HB15 := Lib.hid (bup HSe.out HB14.out h2)
  clear h1 h2 HC HS14 HB14
  go_wp2_with fail
  refine (HO.out _ _).mono ?_
  rintro e w16 ⟨rfl, hst⟩
  have HS16 := Lib.hid (HS15.out.stay hst (by simp))
  have HB16 := Lib.hid (bst HSe.out HB15.out hst (by simp))
  clear hst HS15 HB15
  go_wp2_with fail
  have HC := Lib.hid (put_new s (s + 1) [] kn3 (0) (9) [⟨⟨#[122]⟩, 0, 0, 0, false, 0⟩] w16 #[.string ⟨#[122]⟩, .int .i8 0, .int .i64 0, .int .i64 0, .bool false, .int .u16 0] 1 rfl rfl (by unfold I64; omega) (by unfold I64; omega) (by omega) (partOK_all rfl) HS16.out)
  refine HC.out.mono ?_
  rintro e w17 ⟨rfl, h1, h2⟩
  have HS17 := Lib.hid (show Sm w17 s (s + 1) [] kn4 from h1)
  have HB17 := Lib.hid (bst HSe.out HB16.out h2 foot_ge)
  clear h1 h2 HC HS16 HB16
  go_wp2_with fail
  refine (HO.out _ _).mono ?_
  rintro e w18 ⟨rfl, hst⟩
  have HS18 := Lib.hid (HS17.out.stay hst (by simp))
  have HB18 := Lib.hid (bst HSe.out HB17.out hst (by simp))
  clear hst HS17 HB17
  go_wp2_with fail
  have HC := Lib.hid (put_new s (s + 1) [] kn4 (9) (0) [⟨⟨#[122]⟩, 0, 0, 0, false, 0⟩] w18 #[.string ⟨#[122]⟩, .int .i8 0, .int .i64 0, .int .i64 0, .bool false, .int .u16 0] 1 rfl rfl (by unfold I64; omega) (by unfold I64; omega) (by omega) (partOK_all rfl) HS18.out)
  refine HC.out.mono ?_
  rintro e w19 ⟨rfl, h1, h2⟩
  have HS19 := Lib.hid (show Sm w19 s (s + 1) [] kn5 from h1)
  have HB19 := Lib.hid (bst HSe.out HB18.out h2 foot_ge)
  clear h1 h2 HC HS18 HB18
  have HC := Lib.hid (caret_sm s (s + 1) [] kn5 (4) (0) w19 HS19.out)
  go_wp2_with fail
  refine HC.out.mono ?_
  rintro e w20 ⟨rfl, h1, h2⟩
  have HS20 := Lib.hid (show Sm w20 s (s + 1) [] kn6 from h1)
  have HB20 := Lib.hid (bst HSe.out HB19.out h2 (by simp))
  clear h1 h2 HC HS19 HB19
  have HC := Lib.hid (show Calls Try.prog 27 #[.pointer (some ⟨s, 0, none⟩), .int .i64 0] w20 fun e w' => e = .returned (.string ⟨#[46, 39, 97, 46, 46, 39]⟩) ∧ Sm w' s (s + 1) [] kn6 ∧ Below w20.heap.size w20 w' from
    row_at s (s + 1) [] kn6 0 w20 _ (by show 0 < 2; omega) kn6_0_t kn6_0_r HS20.out)
  go_wp2_with fail
  refine HC.out.mono ?_
  rintro e w21 ⟨rfl, h1, h2⟩
  have HS21 := Lib.hid h1
  have HB21 := Lib.hid (bup HSe.out HB20.out h2)
  clear h1 h2 HC HS20 HB20
  have HC := Lib.hid (show Calls Try.prog 16 #[.pointer (some ⟨s, 0, none⟩)] w21 fun e w' => ∃ A n c, e = .returned (.agg #[.int .i64 4, .int .i64 2, .slice A n c, .int .i64 (-1), .int .i64 (-1)]) ∧ Below w21.heap.size w21 w' from by
    refine (grid_any s (s + 1) [] kn6 w21 HS21.out).mono ?_
    rintro e w' ⟨A, c, rfl, _, hb⟩
    exact ⟨A, _, c, rfl, hb⟩)
  go_wp2_with fail
  refine HC.out.mono ?_
  rintro e w22 ⟨A22, gn22, gc22, rfl, h2⟩
  have HS22 := Lib.hid (HS21.out.below h2)
  have HB22 := Lib.hid (bup HSe.out HB21.out h2)
  clear h2 HC HS21 HB21
  have HC := Lib.hid (show Calls Try.prog 16 #[.pointer (some ⟨s, 0, none⟩)] w22 fun e w' => ∃ A n c, e = .returned (.agg #[.int .i64 4, .int .i64 2, .slice A n c, .int .i64 (-1), .int .i64 (-1)]) ∧ Below w22.heap.size w22 w' from by
    refine (grid_any s (s + 1) [] kn6 w22 HS22.out).mono ?_
    rintro e w' ⟨A, c, rfl, _, hb⟩
    exact ⟨A, _, c, rfl, hb⟩)
  go_wp2_with fail
  refine HC.out.mono ?_
  rintro e w23 ⟨A23, gn23, gc23, rfl, h2⟩
  have HS23 := Lib.hid (HS22.out.below h2)
  have HB23 := Lib.hid (bup HSe.out HB22.out h2)
  clear h2 HC HS22 HB22
  have HC := Lib.hid (clear_any s (s + 1) [] kn6 (0) (0) (4) (2) w23 (by unfold I64; omega) (by unfold I64; omega) (by unfold I64; omega) (by unfold I64; omega) HS23.out)
  go_wp2_with fail
  refine HC.out.mono ?_
  rintro e w24 ⟨rfl, h1, h2⟩
  have HS24 := Lib.hid (show Sm w24 s (s + 1) [] kn7 from h1)
  have HB24 := Lib.hid (bst HSe.out HB23.out h2 foot_ge)
  clear h1 h2 HC HS23 HB23
  go_wp2_with fail
  refine (HO.out _ _).mono ?_
  rintro e w25 ⟨rfl, hst⟩
  have HS25 := Lib.hid (HS24.out.stay hst (by simp))
  have HB25 := Lib.hid (bst HSe.out HB24.out hst (by simp))
  clear hst HS24 HB24
  go_wp2_with fail
  have HC := Lib.hid (put_new s (s + 1) [] kn7 (0) (0) [⟨⟨#[97]⟩, 0, 0, 0, false, 0⟩] w25 #[.string ⟨#[97]⟩, .int .i8 0, .int .i64 0, .int .i64 0, .bool false, .int .u16 0] 1 rfl rfl (by unfold I64; omega) (by unfold I64; omega) (by omega) (partOK_all rfl) HS25.out)
  refine HC.out.mono ?_
  rintro e w26 ⟨rfl, h1, h2⟩
  have HS26 := Lib.hid (show Sm w26 s (s + 1) [] kn8 from h1)
  have HB26 := Lib.hid (bst HSe.out HB25.out h2 foot_ge)
  clear h1 h2 HC HS25 HB25
  go_wp2_with fail
  refine (HO.out _ _).mono ?_
  rintro e w27 ⟨rfl, hst⟩
  have HS27 := Lib.hid (HS26.out.stay hst (by simp))
  have HB27 := Lib.hid (bst HSe.out HB26.out hst (by simp))
  clear hst HS26 HB26
  go_wp2_with fail
  have HC := Lib.hid (put_new s (s + 1) [] kn8 (0) (1) [⟨⟨#[98]⟩, 0, 0, 0, false, 0⟩] w27 #[.string ⟨#[98]⟩, .int .i8 0, .int .i64 0, .int .i64 0, .bool false, .int .u16 0] 1 rfl rfl (by unfold I64; omega) (by unfold I64; omega) (by omega) (partOK_all rfl) HS27.out)
  refine HC.out.mono ?_
  rintro e w28 ⟨rfl, h1, h2⟩
  have HS28 := Lib.hid (show Sm w28 s (s + 1) [] kn9 from h1)
  have HB28 := Lib.hid (bst HSe.out HB27.out h2 foot_ge)
  clear h1 h2 HC HS27 HB27
  have HC := Lib.hid (scroll_any s (s + 1) [] kn9 (0) (0) (4) (2) (1) w28 (by unfold I64; omega) (by unfold I64; omega) (by unfold I64; omega) (by unfold I64; omega) (by unfold I64; omega) HS28.out)
  go_wp2_with fail
  refine HC.out.mono ?_
  rintro e w29 ⟨rfl, h1, h2⟩
  have HS29 := Lib.hid (show Sm w29 s (s + 1) [] kn10 from h1)
  have HB29 := Lib.hid (bst HSe.out HB28.out h2 foot_ge)
  clear h1 h2 HC HS28 HB28
  have HC := Lib.hid (show Calls Try.prog 27 #[.pointer (some ⟨s, 0, none⟩), .int .i64 0] w29 fun e w' => e = .returned (.string ⟨#[98, 46, 46, 46]⟩) ∧ Sm w' s (s + 1) [] kn10 ∧ Below w29.heap.size w29 w' from
    row_at s (s + 1) [] kn10 0 w29 _ (by show 0 < 2; omega) kn10_0_t kn10_0_r HS29.out)
  go_wp2_with fail
  refine HC.out.mono ?_
  rintro e w30 ⟨rfl, h1, h2⟩
  have HS30 := Lib.hid h1
  have HB30 := Lib.hid (bup HSe.out HB29.out h2)
  clear h1 h2 HC HS29 HB29
  have HC := Lib.hid (show Calls Try.prog 27 #[.pointer (some ⟨s, 0, none⟩), .int .i64 1] w30 fun e w' => e = .returned (.string ⟨#[46, 46, 46, 46]⟩) ∧ Sm w' s (s + 1) [] kn10 ∧ Below w30.heap.size w30 w' from
    row_at s (s + 1) [] kn10 1 w30 _ (by show 1 < 2; omega) kn10_1_t kn10_1_r HS30.out)
  go_wp2_with fail
  refine HC.out.mono ?_
  rintro e w31 ⟨rfl, h1, h2⟩
  have HS31 := Lib.hid h1
  have HB31 := Lib.hid (bup HSe.out HB30.out h2)
  clear h1 h2 HC HS30 HB30
  have HC := Lib.hid (wide_any w31)
  go_wp2_with fail
  refine HC.out.mono ?_
  rintro e w32 ⟨rfl, h1, h2⟩
  clear HC
  have HS32 := Lib.hid (HS31.out.stay h2 (by simp))
  have HB32 := Lib.hid (bst HSe.out HB31.out h2 (by simp))
  have HC := Lib.hid (show Calls Try.prog 22 #[.pointer (some ⟨s, 0, none⟩), .int .i64 (1), .int .i64 (0), .slice (some ⟨w31.heap.size, 0, none⟩) 2 2] w32 fun e w' => e = .returned (.tuple #[]) ∧ Sm w' s (s + 1) [] kn11 ∧ Stay (foot s (s + 1) 2) w32 w' from
    put_any s (s + 1) [] kn10 (1) (0) wideL w31.heap.size 0 2 w32 (by unfold I64; omega) (by unfold I64; omega) (by show 2 ≤ 16777216; omega) (partOK_all rfl) ⟨by show 2 ≤ 2; omega, by simp only [maxLen]; omega⟩ h1.cat' h1.lt (fun hm => by have := foot_lt HS31.out _ hm; omega) HS32.out)
  clear h1 h2
  go_wp2_with fail
  clear HS31 HB31
  refine HC.out.mono ?_
  rintro e w33 ⟨rfl, h1, h2⟩
  have HS33 := Lib.hid (show Sm w33 s (s + 1) [] kn11 from h1)
  have HB33 := Lib.hid (bst HSe.out HB32.out h2 foot_ge)
  clear h1 h2 HC HS32 HB32
  have HC := Lib.hid (scroll_any s (s + 1) [] kn11 (0) (0) (2) (2) (1) w33 (by unfold I64; omega) (by unfold I64; omega) (by unfold I64; omega) (by unfold I64; omega) (by unfold I64; omega) HS33.out)
  go_wp2_with fail
  refine HC.out.mono ?_
  rintro e w34 ⟨rfl, h1, h2⟩
  have HS34 := Lib.hid (show Sm w34 s (s + 1) [] kn12 from h1)
  have HB34 := Lib.hid (bst HSe.out HB33.out h2 foot_ge)
  clear h1 h2 HC HS33 HB33
  have HC := Lib.hid (show Calls Try.prog 27 #[.pointer (some ⟨s, 0, none⟩), .int .i64 0] w34 fun e w' => e = .returned (.string ⟨#[46, 46, 46, 39, 46]⟩) ∧ Sm w' s (s + 1) [] kn12 ∧ Below w34.heap.size w34 w' from
    row_at s (s + 1) [] kn12 0 w34 _ (by show 0 < 2; omega) kn12_0_t kn12_0_r HS34.out)
  go_wp2_with fail
  refine HC.out.mono ?_
  rintro e w35 ⟨rfl, h1, h2⟩
  have HS35 := Lib.hid h1
  have HB35 := Lib.hid (bup HSe.out HB34.out h2)
  clear h1 h2 HC HS34 HB34
  have HC := Lib.hid (show Calls Try.prog 27 #[.pointer (some ⟨s, 0, none⟩), .int .i64 1] w35 fun e w' => e = .returned (.string ⟨#[46, 46, 46, 46]⟩) ∧ Sm w' s (s + 1) [] kn12 ∧ Below w35.heap.size w35 w' from
    row_at s (s + 1) [] kn12 1 w35 _ (by show 1 < 2; omega) kn12_1_t kn12_1_r HS35.out)
  go_wp2_with fail
  refine HC.out.mono ?_
  rintro e w36 ⟨rfl, h1, h2⟩
  have HS36 := Lib.hid h1
  have HB36 := Lib.hid (bup HSe.out HB35.out h2)
  clear h1 h2 HC HS35 HB35
  have HC := Lib.hid (wide_any w36)
  go_wp2_with fail
  refine HC.out.mono ?_
  rintro e w37 ⟨rfl, h1, h2⟩
  clear HC
  have HS37 := Lib.hid (HS36.out.stay h2 (by simp))
  have HB37 := Lib.hid (bst HSe.out HB36.out h2 (by simp))
  have HC := Lib.hid (show Calls Try.prog 22 #[.pointer (some ⟨s, 0, none⟩), .int .i64 (0), .int .i64 (0), .slice (some ⟨w36.heap.size, 0, none⟩) 2 2] w37 fun e w' => e = .returned (.tuple #[]) ∧ Sm w' s (s + 1) [] kn13 ∧ Stay (foot s (s + 1) 2) w37 w' from
    put_any s (s + 1) [] kn12 (0) (0) wideL w36.heap.size 0 2 w37 (by unfold I64; omega) (by unfold I64; omega) (by show 2 ≤ 16777216; omega) (partOK_all rfl) ⟨by show 2 ≤ 2; omega, by simp only [maxLen]; omega⟩ h1.cat' h1.lt (fun hm => by have := foot_lt HS36.out _ hm; omega) HS37.out)
  clear h1 h2
  go_wp2_with fail
  clear HS36 HB36
  refine HC.out.mono ?_
  rintro e w38 ⟨rfl, h1, h2⟩
  have HS38 := Lib.hid (show Sm w38 s (s + 1) [] kn13 from h1)
  have HB38 := Lib.hid (bst HSe.out HB37.out h2 foot_ge)
  clear h1 h2 HC HS37 HB37
  have HC := Lib.hid (wide_any w38)
  go_wp2_with fail
  refine HC.out.mono ?_
  rintro e w39 ⟨rfl, h1, h2⟩
  clear HC
  have HS39 := Lib.hid (HS38.out.stay h2 (by simp))
  have HB39 := Lib.hid (bst HSe.out HB38.out h2 (by simp))
  have HC := Lib.hid (show Calls Try.prog 22 #[.pointer (some ⟨s, 0, none⟩), .int .i64 (2), .int .i64 (0), .slice (some ⟨w38.heap.size, 0, none⟩) 2 2] w39 fun e w' => e = .returned (.tuple #[]) ∧ Sm w' s (s + 1) [] kn14 ∧ Stay (foot s (s + 1) 2) w39 w' from
    put_any s (s + 1) [] kn13 (2) (0) wideL w38.heap.size 0 2 w39 (by unfold I64; omega) (by unfold I64; omega) (by show 2 ≤ 16777216; omega) (partOK_all rfl) ⟨by show 2 ≤ 2; omega, by simp only [maxLen]; omega⟩ h1.cat' h1.lt (fun hm => by have := foot_lt HS38.out _ hm; omega) HS39.out)
  clear h1 h2
  go_wp2_with fail
  clear HS38 HB38
  refine HC.out.mono ?_
  rintro e w40 ⟨rfl, h1, h2⟩
  have HS40 := Lib.hid (show Sm w40 s (s + 1) [] kn14 from h1)
  have HB40 := Lib.hid (bst HSe.out HB39.out h2 foot_ge)
  clear h1 h2 HC HS39 HB39
  have HC := Lib.hid (clear_any s (s + 1) [] kn14 (1) (0) (2) (1) w40 (by unfold I64; omega) (by unfold I64; omega) (by unfold I64; omega) (by unfold I64; omega) HS40.out)
  go_wp2_with fail
  refine HC.out.mono ?_
  rintro e w41 ⟨rfl, h1, h2⟩
  have HS41 := Lib.hid (show Sm w41 s (s + 1) [] kn15 from h1)
  have HB41 := Lib.hid (bst HSe.out HB40.out h2 foot_ge)
  clear h1 h2 HC HS40 HB40
  have HC := Lib.hid (show Calls Try.prog 27 #[.pointer (some ⟨s, 0, none⟩), .int .i64 0] w41 fun e w' => e = .returned (.string ⟨#[46, 39, 46, 46, 46, 39]⟩) ∧ Sm w' s (s + 1) [] kn15 ∧ Below w41.heap.size w41 w' from
    row_at s (s + 1) [] kn15 0 w41 _ (by show 0 < 2; omega) kn15_0_t kn15_0_r HS41.out)
  go_wp2_with fail
  refine HC.out.mono ?_
  rintro e w42 ⟨rfl, h1, h2⟩
  have HS42 := Lib.hid h1
  have HB42 := Lib.hid (bup HSe.out HB41.out h2)
  clear h1 h2 HC HS41 HB41
  go_wp2_with fail
  refine (HO.out _ _).mono ?_
  rintro e w43 ⟨rfl, hst⟩
  have HS43 := Lib.hid (HS42.out.stay hst (by simp))
  have HB43 := Lib.hid (bst HSe.out HB42.out hst (by simp))
  clear hst HS42 HB42
  go_wp2_with fail
  refine (HO.out _ _).mono ?_
  rintro e w44 ⟨rfl, hst⟩
  have HS44 := Lib.hid (HS43.out.stay hst (by simp))
  have HB44 := Lib.hid (bst HSe.out HB43.out hst (by simp))
  clear hst HS43 HB43
  go_wp2_with fail
  refine (HO.out _ _).mono ?_
  rintro e w45 ⟨rfl, hst⟩
  have HS45 := Lib.hid (HS44.out.stay hst (by simp))
  have HB45 := Lib.hid (bst HSe.out HB44.out hst (by simp))
  clear hst HS44 HB44
  go_wp2_with fail
  have HC := Lib.hid (put_new s (s + 1) [] kn15 (0) (0) [⟨⟨#[97]⟩, 0, 0, 0, false, 0⟩, ⟨⟨#[]⟩, 2, 0, 0, false, 2⟩, ⟨⟨#[99]⟩, 0, 0, 0, false, 0⟩, ⟨⟨#[100]⟩, 0, 0, 0, false, 0⟩] w45 #[.string ⟨#[97]⟩, .int .i8 0, .int .i64 0, .int .i64 0, .bool false, .int .u16 0, .string ⟨#[]⟩, .int .i8 2, .int .i64 0, .int .i64 0, .bool false, .int .u16 2, .string ⟨#[99]⟩, .int .i8 0, .int .i64 0, .int .i64 0, .bool false, .int .u16 0, .string ⟨#[100]⟩, .int .i8 0, .int .i64 0, .int .i64 0, .bool false, .int .u16 0] 4 rfl rfl (by unfold I64; omega) (by unfold I64; omega) (by omega) (partOK_all rfl) HS45.out)
  refine HC.out.mono ?_
  rintro e w46 ⟨rfl, h1, h2⟩
  have HS46 := Lib.hid (show Sm w46 s (s + 1) [] kn16 from h1)
  have HB46 := Lib.hid (bst HSe.out HB45.out h2 foot_ge)
  clear h1 h2 HC HS45 HB45
  have HC := Lib.hid (show Calls Try.prog 27 #[.pointer (some ⟨s, 0, none⟩), .int .i64 0] w46 fun e w' => e = .returned (.string ⟨#[97, 46, 39, 99, 100]⟩) ∧ Sm w' s (s + 1) [] kn16 ∧ Below w46.heap.size w46 w' from
    row_at s (s + 1) [] kn16 0 w46 _ (by show 0 < 2; omega) kn16_0_t kn16_0_r HS46.out)
  go_wp2_with fail
  refine HC.out.mono ?_
  rintro e w47 ⟨rfl, h1, h2⟩
  have HS47 := Lib.hid h1
  have HB47 := Lib.hid (bup HSe.out HB46.out h2)
  clear h1 h2 HC HS46 HB46
  have HC := Lib.hid (clear_any s (s + 1) [] kn16 (-1) (-1) (2) (2) w47 (by unfold I64; omega) (by unfold I64; omega) (by unfold I64; omega) (by unfold I64; omega) HS47.out)
  go_wp2_with fail
  refine HC.out.mono ?_
  rintro e w48 ⟨rfl, h1, h2⟩
  have HS48 := Lib.hid (show Sm w48 s (s + 1) [] kn17 from h1)
  have HB48 := Lib.hid (bst HSe.out HB47.out h2 foot_ge)
  clear h1 h2 HC HS47 HB47
  have HC := Lib.hid (show Calls Try.prog 27 #[.pointer (some ⟨s, 0, none⟩), .int .i64 0] w48 fun e w' => e = .returned (.string ⟨#[46, 46, 39, 99, 100]⟩) ∧ Sm w' s (s + 1) [] kn17 ∧ Below w48.heap.size w48 w' from
    row_at s (s + 1) [] kn17 0 w48 _ (by show 0 < 2; omega) kn17_0_t kn17_0_r HS48.out)
  go_wp2_with fail
  refine HC.out.mono ?_
  rintro e w49 ⟨rfl, h1, h2⟩
  have HS49 := Lib.hid h1
  have HB49 := Lib.hid (bup HSe.out HB48.out h2)
  clear h1 h2 HC HS48 HB48
  have HC := Lib.hid (alive_any w49)
  go_wp2_with fail
  refine HC.out.mono ?_
  rintro e wz ⟨rfl, h2⟩
  have HBz := Lib.hid (bup HSe.out HB49.out h2)
  clear h2 HC
  go_wp2_with fail
  exact bodyPost_ret (v := .bool true) (by simp [results, Try.results8, go_sem]) rfl ⟨rfl, HBz.out⟩
end Go.Proofs.Ytohkjopdoejedaa
