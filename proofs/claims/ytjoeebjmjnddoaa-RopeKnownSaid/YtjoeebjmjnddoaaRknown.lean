/- shuttlelaw18: RopeKnown: the walk. (Printed by gen_known.py.) -/
import Derived.Test.YtjoeebjmjnddoaaRknown0
namespace Go.Proofs.Ytjoeebjmjnddoaa
open Go.RowKit Go.Shelf
theorem line_is (rb : Nat) (t : Rp) (st i : Int) (w : World) (h : RopeAt w rb t st) : Calls Try.prog 24 #[.pointer (some ⟨rb, 0, none⟩), .int .i64 i] w fun e w' => e = .returned (.tuple #[.int .i64 (lineL t.text i).1, .int .i64 (lineL t.text i).2]) ∧ Stay [] w w' := by
  by_cases hi : i < 0 ∨ (t.nls : Int) + 1 ≤ i
  · have e : lineL t.text i = (0, 0) := if_pos hi
    rw [e]
    exact line_out rb t st i w h hi
  · obtain ⟨j, rfl⟩ : ∃ j : Nat, i = j := ⟨i.toNat, by omega⟩
    exact line_in rb t st j w h (by omega)
set_option maxRecDepth 100000 in
set_option maxHeartbeats 32000000 in
theorem known_any (w : World) : Calls Try.prog 7 #[] w fun e w' => e = .returned (.bool true) ∧ Below w.heap.size w w' := by
  have HN1 := Lib.hid (show Calls Try.prog 12 #[.string ⟨#[97, 98, 10, 99]⟩] w (Newed w [97, 98, 10, 99]) from new_any [97, 98, 10, 99] w (by decide))
  have HN2 := Lib.hid (show ∀ u, Calls Try.prog 12 #[.string ⟨#[]⟩] u (Newed u []) from fun u => new_any [] u (by decide))
  go_enter Try.func7, Try.ntmps7
  go_wp2_with fail
  refine HN1.out.mono ?_
  rintro e w1 ⟨r1, t1, rfl, hg1, hr1, hx1, hb1⟩
  have HR1 := Lib.hid hr1
  have HX1 := Lib.hid hx1
  have HB1 := Lib.hid hb1
  clear hr1 hx1 hb1 HN1
  go_wp2_with fail
  refine (HN2.out w1).mono ?_
  rintro e w2 ⟨r2, t2, rfl, hg2, hr2, hx2, hb2⟩
  have HL1 := Lib.hid HR1.out.lt
  have HR2 := Lib.hid (HR1.out.below hb2)
  have HQ2 := Lib.hid hr2
  have HX2 := Lib.hid hx2
  have HB2 := Lib.hid (HB1.out.trans (hb2.mono HB1.out.size))
  clear hr2 hx2 hb2 HN2 HR1 HB1
  have HMk := Lib.hid (show ∃ W, W = w2.alloc (.cells (ints .u8 (zerosI 1048577)).toArray 5) ∧ Blk W w2.heap.size (ints .u8 (zerosI 1048577)) 5 ∧ Stay [] w2 W ∧ ∀ u, (u = w2 → (Instr.makeSlice 58 (.int .i64 1048577) (.int .i64 1048577)).run Try.prog u = .ok (.slice (some ⟨w2.heap.size, 0, none⟩) 1048577 1048577) W) from ⟨_, rfl, Blk.new w2 _ 5, Stay.alloc _ _, fun u hu => by
    subst hu
    exact make_zeros u 1048577 (by omega)⟩)
  obtain ⟨w3, -, hbk, hs3, hmk'⟩ := HMk.out
  have hmk := hmk' w2 rfl
  have HBk := Lib.hid hbk
  have hcv : (convert 58 9 (.slice (some ⟨w2.heap.size, 0, none⟩) 1048577 1048577)).run Try.prog w3 = .ok (.string (str (zerosB 1048577))) w3 := conv_zeros w3 _ 1048577 1048577 1048577 hbk (Nat.le_refl _)
  have hcv2 : (convert 58 9 (.slice (some ⟨w2.heap.size, 0, none⟩) 1048576 1048577)).run Try.prog w3 = .ok (.string (str (zerosB 1048576))) w3 := conv_zeros w3 _ 1048577 1048577 1048576 hbk (by omega)
  obtain ⟨Z1, hZ1⟩ : ∃ Z, Z = str (zerosB 1048577) := ⟨_, rfl⟩
  obtain ⟨Z2, hZ2⟩ : ∃ Z, Z = str (zerosB 1048576) := ⟨_, rfl⟩
  have HN3 := Lib.hid (show Calls Try.prog 12 #[.string Z1] w3 fun e w' => e = .returned (.tuple #[.pointer none, .int .i64 3]) ∧ w3 = w' from by
    rw [hZ1]
    exact new_long _ w3 (by rw [zerosB_length]; omega) (by rw [zerosB_length]; omega))
  have HN4 := Lib.hid (show Calls Try.prog 12 #[.string Z2] w3 (Newed w3 (zerosB 1048576)) from by
    rw [hZ2]
    exact new_any _ w3 (by rw [zerosB_length]; omega))
  rw [← hZ1] at hcv
  rw [← hZ2] at hcv2
  obtain ⟨bz, hbz⟩ : ∃ b, b = w2.heap.size := ⟨_, rfl⟩
  rw [← hbz] at hmk hcv hcv2
  have HS3 := Lib.hid hs3
  clear hmk' hbk hs3 HMk hZ1 hZ2 HBk hbz
  go_wp2_with fail
  refine HN3.out.mono ?_
  rintro e w4 ⟨rfl, rfl⟩
  go_wp2_with fail
  refine HN4.out.mono ?_
  rintro e w4 ⟨r3, t3, rfl, hg3, hr3, hx3, hb3⟩
  have HK4 := Lib.hid (show KS w r1 r2 r3 t1 t2 t3 0 0 w4 from by
    have h1 := HL1.out
    have h2 := HQ2.out.lt
    have h3 := HS3.out.size
    exact ⟨(HR2.out.stay0 HS3.out).below hb3, (HQ2.out.stay0 HS3.out).below hb3, hr3, by omega, by omega, by omega, hg1, by have := HB2.out.size; omega, HB2.out.trans ((HS3.out.trans (Stay.below hb3)).toBelow HB2.out.size (by simp))⟩)
  have hl3 : t3.text.length = 1048576 := by rw [hx3, zerosB_length]
  have HX3 := Lib.hid hl3
  clear hr3 hx3 hb3 hl3 HN3 HN4 HR2 HQ2 HB2 HL1 HS3 hcv hcv2 hmk hg1 hg2 hg3
  have HC := Lib.hid (show ∀ u, KS w r1 r2 r3 t1 t2 t3 0 0 u → Calls Try.prog 24 #[.pointer (some ⟨r1, 0, none⟩), .int .i64 0] u fun e w' => e = .returned (.tuple #[.int .i64 0, .int .i64 2]) ∧ Stay [] u w' from fun u hk => by
    have h := line_is r1 t1 0 (0) u hk.R1
    rw [HX1.out] at h
    exact h)
  go_wp2_with fail
  refine (HC.out _ (HK4.out)).mono ?_
  rintro e w5 ⟨rfl, hs⟩
  have HK5 := Lib.hid ((HK4.out).stay0 hs)
  clear hs HC HK4
  have HC := Lib.hid (show ∀ u, KS w r1 r2 r3 t1 t2 t3 0 0 u → Calls Try.prog 24 #[.pointer (some ⟨r1, 0, none⟩), .int .i64 2] u fun e w' => e = .returned (.tuple #[.int .i64 0, .int .i64 0]) ∧ Stay [] u w' from fun u hk => by
    have h := line_is r1 t1 0 (2) u hk.R1
    rw [HX1.out] at h
    exact h)
  go_wp2_with fail
  refine (HC.out _ (HK5.out)).mono ?_
  rintro e w6 ⟨rfl, hs⟩
  have HK6 := Lib.hid ((HK5.out).stay0 hs)
  clear hs HC HK5
  have HC := Lib.hid (show ∀ u, KS w r1 r2 r3 t1 t2 t3 0 0 u → Calls Try.prog 24 #[.pointer (some ⟨r2, 0, none⟩), .int .i64 0] u fun e w' => e = .returned (.tuple #[.int .i64 0, .int .i64 0]) ∧ Stay [] u w' from fun u hk => by
    have h := line_is r2 t2 0 (0) u hk.R2
    rw [HX2.out] at h
    exact h)
  go_wp2_with fail
  refine (HC.out _ (HK6.out)).mono ?_
  rintro e w7 ⟨rfl, hs⟩
  have HK7 := Lib.hid ((HK6.out).stay0 hs)
  clear hs HC HK6
  have HC := Lib.hid (show ∀ u, KS w r1 r2 r3 t1 t2 t3 0 0 u → Calls Try.prog 23 #[.pointer (some ⟨r1, 0, none⟩)] u fun e w' => e = .returned (.int .i64 4) ∧ Stay [] u w' from fun u hk => by
    have h := len_any r1 t1 0 u hk.R1
    rw [Rp.len, HX1.out] at h
    exact h)
  go_wp2_with fail
  refine (HC.out _ (HK7.out)).mono ?_
  rintro e w8 ⟨rfl, hs⟩
  have HK8 := Lib.hid ((HK7.out).stay0 hs)
  clear hs HC HK7
  have HC := Lib.hid (show ∀ u, KS w r1 r2 r3 t1 t2 t3 0 0 u → Calls Try.prog 22 #[.pointer (some ⟨r1, 0, none⟩)] u fun e w' => e = .returned (.int .i64 2) ∧ Stay [] u w' from fun u hk => by
    have h := lines_any r1 t1 0 u hk.R1
    rw [Rp.nls, HX1.out] at h
    exact h)
  go_wp2_with fail
  refine (HC.out _ (HK8.out)).mono ?_
  rintro e w9 ⟨rfl, hs⟩
  have HK9 := Lib.hid ((HK8.out).stay0 hs)
  clear hs HC HK8
  have HC := Lib.hid (show ∀ u, KS w r1 r2 r3 t1 t2 t3 0 0 u → Calls Try.prog 22 #[.pointer (some ⟨r2, 0, none⟩)] u fun e w' => e = .returned (.int .i64 1) ∧ Stay [] u w' from fun u hk => by
    have h := lines_any r2 t2 0 u hk.R2
    rw [Rp.nls, HX2.out] at h
    exact h)
  go_wp2_with fail
  refine (HC.out _ (HK9.out)).mono ?_
  rintro e w10 ⟨rfl, hs⟩
  have HK10 := Lib.hid ((HK9.out).stay0 hs)
  clear hs HC HK9
  have HC := Lib.hid (show ∀ u, KS w r1 r2 r3 t1 t2 t3 0 0 u → Calls Try.prog 26 #[.pointer (some ⟨r1, 0, none⟩), .int .i64 2] u fun e w' => e = .returned (.int .i64 0) ∧ Stay [] u w' from fun u hk => by
    refine (lineat_any r1 t1 0 (2) u hk.R1).mono ?_
    rintro e w' ⟨rfl, hb⟩
    exact ⟨by rw [Rp.len, HX1.out]; rfl, Stay.below hb⟩)
  go_wp2_with fail
  refine (HC.out _ (HK10.out)).mono ?_
  rintro e w11 ⟨rfl, hs⟩
  have HK11 := Lib.hid ((HK10.out).stay0 hs)
  clear hs HC HK10
  have HC := Lib.hid (show ∀ u, KS w r1 r2 r3 t1 t2 t3 0 0 u → Calls Try.prog 26 #[.pointer (some ⟨r1, 0, none⟩), .int .i64 3] u fun e w' => e = .returned (.int .i64 1) ∧ Stay [] u w' from fun u hk => by
    refine (lineat_any r1 t1 0 (3) u hk.R1).mono ?_
    rintro e w' ⟨rfl, hb⟩
    exact ⟨by rw [Rp.len, HX1.out]; rfl, Stay.below hb⟩)
  go_wp2_with fail
  refine (HC.out _ (HK11.out)).mono ?_
  rintro e w12 ⟨rfl, hs⟩
  have HK12 := Lib.hid ((HK11.out).stay0 hs)
  clear hs HC HK11
  have HC := Lib.hid (show ∀ u, KS w r1 r2 r3 t1 t2 t3 0 0 u → Calls Try.prog 26 #[.pointer (some ⟨r1, 0, none⟩), .int .i64 99] u fun e w' => e = .returned (.int .i64 1) ∧ Stay [] u w' from fun u hk => by
    refine (lineat_any r1 t1 0 (99) u hk.R1).mono ?_
    rintro e w' ⟨rfl, hb⟩
    exact ⟨by rw [Rp.len, HX1.out]; rfl, Stay.below hb⟩)
  go_wp2_with fail
  refine (HC.out _ (HK12.out)).mono ?_
  rintro e w13 ⟨rfl, hs⟩
  have HK13 := Lib.hid ((HK12.out).stay0 hs)
  clear hs HC HK12
  have HC := Lib.hid (show ∀ u, KS w r1 r2 r3 t1 t2 t3 0 0 u → Calls Try.prog 26 #[.pointer (some ⟨r1, 0, none⟩), .int .i64 (-4)] u fun e w' => e = .returned (.int .i64 0) ∧ Stay [] u w' from fun u hk => by
    refine (lineat_any r1 t1 0 (-4) u hk.R1).mono ?_
    rintro e w' ⟨rfl, hb⟩
    exact ⟨by rw [Rp.len, HX1.out]; rfl, Stay.below hb⟩)
  go_wp2_with fail
  refine (HC.out _ (HK13.out)).mono ?_
  rintro e w14 ⟨rfl, hs⟩
  have HK14 := Lib.hid ((HK13.out).stay0 hs)
  clear hs HC HK13
  have HC := Lib.hid (show ∀ u, KS w r1 r2 r3 t1 t2 t3 0 0 u → Calls Try.prog 25 #[.pointer (some ⟨r1, 0, none⟩), .int .i64 1, .int .i64 2] u fun e w' => e = .returned (.string ⟨#[98, 10]⟩) ∧ Stay [] u w' from fun u hk => by
    refine (slicer_any r1 t1 0 (1) (2) u hk.R1 (by omega) (by omega)).mono ?_
    rintro e w' ⟨rfl, hb⟩
    exact ⟨by rw [Rp.len, HX1.out]; rfl, Stay.below hb⟩)
  go_wp2_with fail
  refine (HC.out _ (HK14.out)).mono ?_
  rintro e w15 ⟨rfl, hs⟩
  have HK15 := Lib.hid ((HK14.out).stay0 hs)
  clear hs HC HK14
  have HC := Lib.hid (show ∀ u, KS w r1 r2 r3 t1 t2 t3 0 0 u → Calls Try.prog 25 #[.pointer (some ⟨r1, 0, none⟩), .int .i64 (-5), .int .i64 7] u fun e w' => e = .returned (.string ⟨#[97, 98]⟩) ∧ Stay [] u w' from fun u hk => by
    refine (slicer_any r1 t1 0 (-5) (7) u hk.R1 (by omega) (by omega)).mono ?_
    rintro e w' ⟨rfl, hb⟩
    exact ⟨by rw [Rp.len, HX1.out]; rfl, Stay.below hb⟩)
  go_wp2_with fail
  refine (HC.out _ (HK15.out)).mono ?_
  rintro e w16 ⟨rfl, hs⟩
  have HK16 := Lib.hid ((HK15.out).stay0 hs)
  clear hs HC HK15
  have HC := Lib.hid (show ∀ u, KS w r1 r2 r3 t1 t2 t3 0 0 u → Calls Try.prog 25 #[.pointer (some ⟨r1, 0, none⟩), .int .i64 2, .int .i64 (-1)] u fun e w' => e = .returned (.string ⟨#[]⟩) ∧ Stay [] u w' from fun u hk => by
    refine (slicer_any r1 t1 0 (2) (-1) u hk.R1 (by omega) (by omega)).mono ?_
    rintro e w' ⟨rfl, hb⟩
    exact ⟨by rw [Rp.len, HX1.out]; rfl, Stay.below hb⟩)
  go_wp2_with fail
  refine (HC.out _ (HK16.out)).mono ?_
  rintro e w17 ⟨rfl, hs⟩
  have HK17 := Lib.hid ((HK16.out).stay0 hs)
  clear hs HC HK16
  have HC := Lib.hid (show ∀ u, KS w r1 r2 r3 t1 t2 t3 0 0 u → Calls Try.prog 25 #[.pointer (some ⟨r1, 0, none⟩), .int .i64 3, .int .i64 99] u fun e w' => e = .returned (.string ⟨#[99]⟩) ∧ Stay [] u w' from fun u hk => by
    refine (slicer_any r1 t1 0 (3) (99) u hk.R1 (by omega) (by omega)).mono ?_
    rintro e w' ⟨rfl, hb⟩
    exact ⟨by rw [Rp.len, HX1.out]; rfl, Stay.below hb⟩)
  go_wp2_with fail
  refine (HC.out _ (HK17.out)).mono ?_
  rintro e w18 ⟨rfl, hs⟩
  have HK18 := Lib.hid ((HK17.out).stay0 hs)
  clear hs HC HK17
  have HC := Lib.hid (show ∀ u, KS w r1 r2 r3 t1 t2 t3 0 0 u → Calls Try.prog 25 #[.pointer (some ⟨r1, 0, none⟩), .int .i64 99, .int .i64 1] u fun e w' => e = .returned (.string ⟨#[]⟩) ∧ Stay [] u w' from fun u hk => by
    refine (slicer_any r1 t1 0 (99) (1) u hk.R1 (by omega) (by omega)).mono ?_
    rintro e w' ⟨rfl, hb⟩
    exact ⟨by rw [Rp.len, HX1.out]; rfl, Stay.below hb⟩)
  go_wp2_with fail
  refine (HC.out _ (HK18.out)).mono ?_
  rintro e w19 ⟨rfl, hs⟩
  have HK19 := Lib.hid ((HK18.out).stay0 hs)
  clear hs HC HK18
  have HC := Lib.hid (show ∀ u, KS w r1 r2 r3 t1 t2 t3 0 0 u → Calls Try.prog 21 #[.pointer (some ⟨r3, 0, none⟩), .agg #[.int .i64 0, .int .i64 0, .string ⟨#[97]⟩]] u fun e w' => e = .returned (.tuple #[.agg #[.int .i64 0, .int .i64 0, .string ⟨#[]⟩], .int .i64 3]) ∧ Stay [] u w' from fun u hk => by
    refine (do_refused r3 t3 0 (0) (0) ⟨#[97]⟩ u hk.R3 (by omega) (by omega) 3 (.inr ⟨by have := (show (t3.len : Int) = 1048576 from by rw [Rp.len, HX3.out]; rfl); rw [this]; show _ ∧ _ ∧ _ ∧ _ ∧ _ < ((1 : Nat) : Int); omega, rfl⟩)).mono ?_
    rintro e w' ⟨rfl, hb⟩
    exact ⟨rfl, Stay.below hb⟩)
  go_wp2_with fail
  refine (HC.out _ (HK19.out)).mono ?_
  rintro e w20 ⟨rfl, hs⟩
  have HK20 := Lib.hid ((HK19.out).stay0 hs)
  clear hs HC HK19
  have HC := Lib.hid (show ∀ u, KS w r1 r2 r3 t1 t2 t3 0 0 u → Calls Try.prog 21 #[.pointer (some ⟨r3, 0, none⟩), .agg #[.int .i64 5, .int .i64 1, .string ⟨#[97]⟩]] u (DoneAt u r3 t3 0 5 1 [97]) from fun u hk =>
    do_ok r3 t3 0 5 1 [97] u hk.R3 (by omega) (by rw [Rp.len, HX3.out]; omega) (by show 1 + (t3.len - 1) ≤ 1048576; rw [Rp.len, HX3.out]; omega))
  go_wp2_with fail
  refine (HC.out _ (HK20.out.stay0 (Stay.alloc _ _))).mono ?_
  rintro e w21 ⟨rfl, ⟨t4, hr4, _⟩, hs4⟩
  have HK21 := Lib.hid ((HK20.out.stay0 (Stay.alloc _ _)).do3 hs4 hr4)
  clear hr4 hs4 HC HK20
  have HC := Lib.hid (show ∀ u, KS w r1 r2 r3 t1 t2 t4 0 (IntKind.u64.wrap (0 + 1)) u → Calls Try.prog 21 #[.pointer (some ⟨r1, 0, none⟩), .agg #[.int .i64 5, .int .i64 0, .string ⟨#[]⟩]] u fun e w' => e = .returned (.tuple #[.agg #[.int .i64 0, .int .i64 0, .string ⟨#[]⟩], .int .i64 180]) ∧ Stay [] u w' from fun u hk => by
    refine (do_refused r1 t1 0 (5) (0) ⟨#[]⟩ u hk.R1 (by omega) (by omega) 180 (.inl ⟨by have := (show (t1.len : Int) = 4 from by rw [Rp.len, HX1.out]; rfl); omega, rfl⟩)).mono ?_
    rintro e w' ⟨rfl, hb⟩
    exact ⟨rfl, Stay.below hb⟩)
  go_wp2_with fail
  refine (HC.out _ (HK21.out.stay0 (Stay.alloc _ _))).mono ?_
  rintro e w22 ⟨rfl, hs⟩
  have HK22 := Lib.hid ((HK21.out.stay0 (Stay.alloc _ _)).stay0 hs)
  clear hs HC HK21
  have HC := Lib.hid (show ∀ u, KS w r1 r2 r3 t1 t2 t4 0 (IntKind.u64.wrap (0 + 1)) u → Calls Try.prog 21 #[.pointer (some ⟨r1, 0, none⟩), .agg #[.int .i64 (-1), .int .i64 0, .string ⟨#[]⟩]] u fun e w' => e = .returned (.tuple #[.agg #[.int .i64 0, .int .i64 0, .string ⟨#[]⟩], .int .i64 180]) ∧ Stay [] u w' from fun u hk => by
    refine (do_refused r1 t1 0 (-1) (0) ⟨#[]⟩ u hk.R1 (by omega) (by omega) 180 (.inl ⟨by have := (show (t1.len : Int) = 4 from by rw [Rp.len, HX1.out]; rfl); omega, rfl⟩)).mono ?_
    rintro e w' ⟨rfl, hb⟩
    exact ⟨rfl, Stay.below hb⟩)
  go_wp2_with fail
  refine (HC.out _ (HK22.out.stay0 (Stay.alloc _ _))).mono ?_
  rintro e w23 ⟨rfl, hs⟩
  have HK23 := Lib.hid ((HK22.out.stay0 (Stay.alloc _ _)).stay0 hs)
  clear hs HC HK22
  have HC := Lib.hid (show ∀ u, KS w r1 r2 r3 t1 t2 t4 0 (IntKind.u64.wrap (0 + 1)) u → Calls Try.prog 21 #[.pointer (some ⟨r1, 0, none⟩), .agg #[.int .i64 0, .int .i64 (-1), .string ⟨#[]⟩]] u fun e w' => e = .returned (.tuple #[.agg #[.int .i64 0, .int .i64 0, .string ⟨#[]⟩], .int .i64 180]) ∧ Stay [] u w' from fun u hk => by
    refine (do_refused r1 t1 0 (0) (-1) ⟨#[]⟩ u hk.R1 (by omega) (by omega) 180 (.inl ⟨by have := (show (t1.len : Int) = 4 from by rw [Rp.len, HX1.out]; rfl); omega, rfl⟩)).mono ?_
    rintro e w' ⟨rfl, hb⟩
    exact ⟨rfl, Stay.below hb⟩)
  go_wp2_with fail
  refine (HC.out _ (HK23.out.stay0 (Stay.alloc _ _))).mono ?_
  rintro e w24 ⟨rfl, hs⟩
  have HK24 := Lib.hid ((HK23.out.stay0 (Stay.alloc _ _)).stay0 hs)
  clear hs HC HK23
  have HC := Lib.hid (show ∀ u, KS w r1 r2 r3 t1 t2 t4 0 (IntKind.u64.wrap (0 + 1)) u → Calls Try.prog 21 #[.pointer (some ⟨r1, 0, none⟩), .agg #[.int .i64 4, .int .i64 1, .string ⟨#[]⟩]] u fun e w' => e = .returned (.tuple #[.agg #[.int .i64 0, .int .i64 0, .string ⟨#[]⟩], .int .i64 180]) ∧ Stay [] u w' from fun u hk => by
    refine (do_refused r1 t1 0 (4) (1) ⟨#[]⟩ u hk.R1 (by omega) (by omega) 180 (.inl ⟨by have := (show (t1.len : Int) = 4 from by rw [Rp.len, HX1.out]; rfl); omega, rfl⟩)).mono ?_
    rintro e w' ⟨rfl, hb⟩
    exact ⟨rfl, Stay.below hb⟩)
  go_wp2_with fail
  refine (HC.out _ (HK24.out.stay0 (Stay.alloc _ _))).mono ?_
  rintro e w25 ⟨rfl, hs⟩
  have HK25 := Lib.hid ((HK24.out.stay0 (Stay.alloc _ _)).stay0 hs)
  clear hs HC HK24
  have HC := Lib.hid (show ∀ u, KS w r1 r2 r3 t1 t2 t4 0 (IntKind.u64.wrap (0 + 1)) u → Calls Try.prog 16 #[.pointer (some ⟨r1, 0, none⟩)] u fun e w' => ∃ b, e = .returned (.pointer (some ⟨b, 0, none⟩)) ∧ b ≠ r1 ∧ RopeAt w' b t1 0 ∧ Below u.heap.size u w' from fun u hk => by
    refine (twin_any r1 t1 0 u hk.R1).mono ?_
    rintro e w' ⟨b, rfl, hge, h1, h2⟩
    exact ⟨b, rfl, by have := hk.R1.lt; omega, h1, h2⟩)
  go_wp2_with fail
  refine (HC.out _ (HK25.out.stay0 (Stay.alloc _ _))).mono ?_
  rintro e w26 ⟨tb, rfl, hne, htw, hb⟩
  have HTw26 := Lib.hid htw
  have HK26 := Lib.hid ((HK25.out.stay0 (Stay.alloc _ _)).stay0 (Stay.below hb))
  have HTn := Lib.hid (show tb ≠ r1 from hne)
  clear htw hb hne HC HK25
  have HC := Lib.hid (show ∀ u, KS w r1 r2 r3 t1 t2 t4 0 (IntKind.u64.wrap (0 + 1)) u → Calls Try.prog 21 #[.pointer (some ⟨r1, 0, none⟩), .agg #[.int .i64 0, .int .i64 0, .string ⟨#[120]⟩]] u (DoneAt u r1 t1 0 0 0 [120]) from fun u hk =>
    do_ok r1 t1 0 0 0 [120] u hk.R1 (by omega) (by omega) (by show 1 + (t1.len - 0) ≤ 1048576; rw [Rp.len, HX1.out]; decide))
  go_wp2_with fail
  refine (HC.out _ (HK26.out)).mono ?_
  rintro e w27 ⟨rfl, ⟨t5, hr5, hx5⟩, hs5⟩
  rw [HX1.out] at hx5
  have HX5 := Lib.hid (show t5.text = [120, 97, 98, 10, 99] from hx5.trans (by decide))
  have HTw27 := Lib.hid (HTw26.out.stay hs5 ((HK26.out)).R1.noPair (by simpa using HTn.out))
  have HK27 := Lib.hid ((HK26.out).do1 hs5 hr5)
  clear hr5 hx5 hs5 HC HK26 HTw26
  have HC := Lib.hid (show ∀ u, KS w r1 r2 r3 t5 t2 t4 (IntKind.u64.wrap (0 + 1)) (IntKind.u64.wrap (0 + 1)) u → RopeAt u tb t1 0 → Calls Try.prog 19 #[.pointer (some ⟨tb, 0, none⟩)] u fun e w' => e = .returned (.string ⟨#[97, 98, 10, 99]⟩) ∧ Stay [] u w' from fun u hk ht => by
    refine (text_any tb t1 0 u ht).mono ?_
    rintro e w' ⟨rfl, hb⟩
    exact ⟨by rw [HX1.out]; rfl, Stay.below hb⟩)
  go_wp2_with fail
  refine (HC.out _ HK27.out HTw27.out).mono ?_
  rintro e w28 ⟨rfl, hs⟩
  have HK28 := Lib.hid (HK27.out.stay0 hs)
  have HTw28 := Lib.hid (HTw27.out.stay0 hs)
  clear hs HC HK27 HTw27
  have HC := Lib.hid (show ∀ u, KS w r1 r2 r3 t5 t2 t4 (IntKind.u64.wrap (0 + 1)) (IntKind.u64.wrap (0 + 1)) u → RopeAt u tb t1 0 → Calls Try.prog 20 #[.pointer (some ⟨tb, 0, none⟩)] u fun e w' => e = .returned (.int .u64 0) ∧ Stay [] u w' from fun u hk ht => by
    refine (stamp_any tb t1 0 u ht).mono ?_
    rintro e w' ⟨rfl, rfl⟩
    exact ⟨rfl, Stay.refl _ _⟩)
  go_wp2_with fail
  refine (HC.out _ HK28.out HTw28.out).mono ?_
  rintro e w29 ⟨rfl, hs⟩
  have HK29 := Lib.hid (HK28.out.stay0 hs)
  have HTw29 := Lib.hid (HTw28.out.stay0 hs)
  clear hs HC HK28 HTw28
  have HC := Lib.hid (show ∀ u, KS w r1 r2 r3 t5 t2 t4 (IntKind.u64.wrap (0 + 1)) (IntKind.u64.wrap (0 + 1)) u → RopeAt u tb t1 0 → Calls Try.prog 20 #[.pointer (some ⟨r1, 0, none⟩)] u fun e w' => e = .returned (.int .u64 1) ∧ Stay [] u w' from fun u hk ht => by
    refine (stamp_any r1 t5 _ u hk.R1).mono ?_
    rintro e w' ⟨rfl, rfl⟩
    exact ⟨rfl, Stay.refl _ _⟩)
  go_wp2_with fail
  refine (HC.out _ HK29.out HTw29.out).mono ?_
  rintro e w30 ⟨rfl, hs⟩
  have HK30 := Lib.hid (HK29.out.stay0 hs)
  have HTw30 := Lib.hid (HTw29.out.stay0 hs)
  clear hs HC HK29 HTw29
  have HC := Lib.hid (show ∀ u, KS w r1 r2 r3 t5 t2 t4 (IntKind.u64.wrap (0 + 1)) (IntKind.u64.wrap (0 + 1)) u → RopeAt u tb t1 0 → Calls Try.prog 19 #[.pointer (some ⟨r1, 0, none⟩)] u fun e w' => e = .returned (.string ⟨#[120, 97, 98, 10, 99]⟩) ∧ Stay [] u w' from fun u hk ht => by
    refine (text_any r1 t5 _ u hk.R1).mono ?_
    rintro e w' ⟨rfl, hb⟩
    exact ⟨by rw [HX5.out]; rfl, Stay.below hb⟩)
  go_wp2_with fail
  refine (HC.out _ HK30.out HTw30.out).mono ?_
  rintro e w31 ⟨rfl, hs⟩
  have HK31 := Lib.hid (HK30.out.stay0 hs)
  have HTw31 := Lib.hid (HTw30.out.stay0 hs)
  clear hs HC HK30 HTw30
  have HA := Lib.hid (alive_any w31)
  go_wp2_with fail
  refine HA.out.mono ?_
  rintro e wf ⟨rfl, hb⟩
  have HB := Lib.hid (HK31.out.bel.trans (hb.mono HK31.out.bel.size))
  clear hb
  go_wp2_with fail
  go_ret
  exact ⟨rfl, HB.out⟩
end Go.Proofs.Ytjoeebjmjnddoaa
