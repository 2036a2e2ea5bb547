/- shuttlelaw04: wakes: the walk. -/
import Derived.Test.YtlphmcodajookaaDoorNtog
import Derived.Test.YtlphmcodajookaaDoorNAordR
namespace Go.Proofs.YtlphmcodajookaaDoor
open Go.RowKit
theorem toL_str (l : List UInt8) (m : Array UInt8) : (((str l).toList == (⟨m⟩ : ByteArray).toList) : Bool) = decide (l = m.toList) := by
  rw [str_toList, ByteArray.toList_eq, Bool.eq_iff_iff]; simp
set_option maxRecDepth 20000 in
set_option maxHeartbeats 8000000 in
theorem wakes_any (w : World) (hT : Lib.Utf8Tabs 0 1 w) : Calls Tryd.prog 26 #[] w fun e w' => e = .returned (.bool true) ∧ Stay [] w w' := by
  have hA : ∀ (l : List UInt8) W', l.length ≤ 100 → Stay [] w W' → Calls Tryd.prog 29 #[.string (str l)] W' fun e w' => e = .returned (.string (str (apartS l))) ∧ Stay [] W' w' := fun l W' hl hs => apartG_any (str l) W' (by rw [str_size]; omega) (Utf8Tabs_below hT (hs.toBelow (Nat.le_refl _) (by simp)))
  have hG : ∀ (l : List UInt8) W', l.length ≤ 100 → Stay [] w W' → Calls Tryd.prog 31 #[.string (str l)] W' fun e w' => e = .returned (.string (str (togetherS l))) ∧ Stay [] W' w' := fun l W' hl hs => togG_any (str l) W' (by rw [str_size]; omega) (Utf8Tabs_below hT (hs.toBelow (Nat.le_refl _) (by simp)))
  have hS : ∀ (l m : List UInt8) W', l.length ≤ 100 → m.length ≤ 100 → Stay [] w W' → Calls Tryd.prog 33 #[.string (str l), .string (str m)] W' fun e w' => e = .returned (.bool (decide (apartS l = apartS m))) ∧ Stay [] W' w' := fun l m W' hl hm hs => sameG_any (str l) (str m) W' (by rw [str_size]; omega) (by rw [str_size]; omega) (Utf8Tabs_below hT (hs.toBelow (Nat.le_refl _) (by simp)))
  have p1 : splitN 233 = [101, 769] := by decide +kernel
  have p2 : pairN 101 769 = 233 := by decide +kernel
  have p3 : apartS [195, 169] = [101, 204, 129] := by decide +kernel
  have p4 : togetherS [101, 204, 129] = [195, 169] := by decide +kernel
  have p5 : apartS [101, 204, 129] = [101, 204, 129] := by decide +kernel
  have p6 : apartS [97] = [97] := by decide +kernel
  have p7 : apartS [98] = [98] := by decide +kernel
  have p8 : apartS [97, 255] = [97, 255] := by decide +kernel
  have p9 : ordK markN [] [97] = [97] := by decide +kernel
  have HC1 := Lib.hid (fun W' hs => by have := hA [195, 169] W' (by decide) hs; rw [p3] at this; exact this)
  have HC2 := Lib.hid (fun W' hs => by have := hG [101, 204, 129] W' (by decide) hs; rw [p4] at this; exact this)
  have HC3 := Lib.hid (fun W' hs => by have := hS [195, 169] [101, 204, 129] W' (by decide) (by decide) hs; rw [p3, p5, show decide (([101, 204, 129] : List UInt8) = [101, 204, 129]) = true from by decide] at this; exact this)
  have HC4 := Lib.hid (fun W' hs => by have := hS [97] [98] W' (by decide) (by decide) hs; rw [p6, p7, show decide (([97] : List UInt8) = [98]) = false from by decide] at this; exact this)
  have HC5 := Lib.hid (fun W' hs => by have := hA [97, 255] W' (by decide) hs; rw [p8] at this; exact this)
  have HC6 := Lib.hid (fun (W' : World) => by have := pair_any 101 769 W' (by omega) (by omega); rw [p2] at this; exact this)
  have HC7 := Lib.hid (fun (W' : World) (A : Option Addr) (c : Nat) h => by have := order_any [97] A c W' (by simp) h; rw [p9] at this; exact this)
  have h1 := nsplit_any 233 w (by omega)
  rw [p1] at h1
  have H1 := Lib.hid h1
  have q1 : ((str [101, 204, 129]).toList == (⟨#[101, 204, 129]⟩ : ByteArray).toList) = true := by rw [toL_str]; decide
  have q2 : ((str [195, 169]).toList == (⟨#[195, 169]⟩ : ByteArray).toList) = true := by rw [toL_str]; decide
  have q3 : ((str [97, 255]).toList == (⟨#[97, 255]⟩ : ByteArray).toList) = true := by rw [toL_str]; decide
  have r1 : ((str [101, 204, 129]).toList == [101, 204, 129]) = true := by rw [str_toList]; decide
  have r2 : ((str [195, 169]).toList == [195, 169]) = true := by rw [str_toList]; decide
  have r3 : ((str [97, 255]).toList == [97, 255]) = true := by rw [str_toList]; decide
  clear hA hG hS p1 p2 p3 p4 p5 p6 p7 p8 p9 h1 hT
  go_enter Tryd.func26, Tryd.ntmps26
  go_wp2_with fail
  refine H1.out.mono ?_
  rintro e w1 ⟨A, c, rfl, hw, hs⟩
  obtain ⟨g, o, rfl⟩ := hw.addr (by simp)
  have c0 := hw.cell 0 (.int .i32 101) rfl
  have c1 := hw.cell 1 (.int .i32 769) rfl
  rw [Nat.add_zero] at c0
  have HS1 := Lib.hid hs
  clear hw hs H1
  go_wp2_with fail
  refine (HC6.out w1).mono ?_
  rintro e w2 ⟨rfl, hs⟩
  have HS2 := Lib.hid (HS1.out.trans hs)
  clear hs
  go_wp2_with fail
  refine (HC1.out w2 HS2.out).mono ?_
  rintro e w3 ⟨rfl, hs⟩
  have HS3 := Lib.hid (HS2.out.trans hs)
  clear hs
  go_wp2_with fail
  refine (HC2.out w3 HS3.out).mono ?_
  rintro e w4 ⟨rfl, hs⟩
  have HS4 := Lib.hid (HS3.out.trans hs)
  clear hs
  go_wp2_with fail
  refine (HC3.out w4 HS4.out).mono ?_
  rintro e w5 ⟨rfl, hs⟩
  have HS5 := Lib.hid (HS4.out.trans hs)
  clear hs
  go_wp2_with fail
  refine (HC4.out w5 HS5.out).mono ?_
  rintro e w6 ⟨rfl, hs⟩
  have HS6 := Lib.hid (HS5.out.trans hs)
  clear hs
  obtain ⟨W7, hW7⟩ : ∃ W, W = w6.alloc (.cells #[.int .i32 97] 21) := ⟨_, rfl⟩
  have hsl : Sl W7 W7.heap.size (some ⟨w6.heap.size, 0, none⟩) (ints .i32 [97]) := by
    intro j u hj
    match j, hj with
    | 0, hj =>
      simp [ints] at hj
      subst hj
      refine ⟨_, rfl, ?_, ?_⟩
      · rw [hW7]; simp
      · rw [hW7]; exact cells_new w6 [.int .i32 97] 21 _ rfl 0 _ rfl
  have HC7' := Lib.hid (HC7.out W7 _ 1 hsl)
  have HS7 := Lib.hid (show Stay [] w W7 from by rw [hW7]; exact HS6.out.alloc')
  have HW7 := Lib.hid hW7
  clear hW7 hsl
  go_wp2_with fail
  rw [← HW7.out]
  refine HC7'.out.mono ?_
  rintro e w8 ⟨A8, c8, rfl, hw8, hs⟩
  have HS8 := Lib.hid (HS7.out.trans hs)
  clear hs hw8
  go_wp2_with fail
  refine (HC5.out w8 HS8.out).mono ?_
  rintro e w9 ⟨rfl, hs⟩
  have HS9 := Lib.hid (HS8.out.trans hs)
  clear hs
  go_wp2_with fail
  go_ret
  exact ⟨rfl, HS9.out⟩
end Go.Proofs.YtlphmcodajookaaDoor
