/- LevelApart: the walk of the law. -/
import Derived.Test.YtikgjnfimagpjaaLapart2
import Derived.Test.YtikgjnfimagpjaaLapart3
import Derived.Deep.RegionWith
import Derived.Deep.DeepCutAuto
import Derived.Test.YtikgjnfimagpjaaLwakes
namespace Go.Proofs.Ytikgjnfimagpjaa
open Go.RowKit
theorem kf_length (pr : List Int) : ∀ (zs : List Int) (i : Nat), (kf pr i zs).length ≤ zs.length
  | [], _ => Nat.le_refl _
  | z :: zs, i => by
    have := kf_length pr zs (i + 1)
    rw [kf_cons]
    split <;> simp only [List.length_cons] <;> omega
theorem balL_length (xs : List Int) : (balL xs).length ≤ xs.length := by
  have h1 := kf_length (pairsL (plainL xs)) (plainL xs) 0
  have h2 : (plainL xs).length ≤ xs.length := List.length_filter_le _ _
  exact Nat.le_trans h1 h2
/-- the sign, counted round -/
theorem sign_round (sg : Int) : ∃ s : Int, IntKind.i8.wrap (19 + (sg.tmod 3 + 3).tmod 3) = s ∧ IntKind.i8.wrap (sg.tmod 3 + 3) = sg.tmod 3 + 3 ∧ (s = 19 ∨ s = 20 ∨ s = 21) := by
  have h : -2 ≤ sg.tmod 3 ∧ sg.tmod 3 ≤ 2 := by
    rcases Int.le_total 0 sg with hs | hs
    · rw [Int.tmod_eq_emod_of_nonneg hs]; omega
    · have h1 : sg.tmod 3 = -((-sg).tmod 3) := by rw [Int.neg_tmod, Int.neg_neg]
      rw [h1, Int.tmod_eq_emod_of_nonneg (by omega)]
      omega
  have h2 : (sg.tmod 3 + 3).tmod 3 = (sg.tmod 3 + 3) % 3 := Int.tmod_eq_emod_of_nonneg (by omega)
  have h3 : ∀ x : Int, 0 ≤ x ∧ x ≤ 21 → IntKind.i8.wrap x = x := fun x hx => by simp [IntKind.wrap, IntKind.signed, IntKind.bits]; omega
  exact ⟨19 + (sg.tmod 3 + 3).tmod 3, h3 _ (by rw [h2]; omega), h3 _ (by omega), by rw [h2]; omega⟩
theorem sign_opens (s : Int) (h : s = 19 ∨ s = 20 ∨ s = 21) : opensB (clsL s) = true := by
  rcases h with rfl | rfl | rfl <;> decide
theorem levels_at (zs X K : List Int) (n : Nat) (A : Option Addr) (c base : Nat) (w : World) (hn : zs.length = n) (hX : (lto (min base 125 : Nat) zs n).1 = X) (hK : (lto (min base 125 : Nat) zs n).2.1 = K) (lX : X.length = n) (lK : K.length = n) (hl : n < 1048576) (hc : n ≤ c ∧ c ≤ maxLen) (h : Sl w w.heap.size A (ints .i8 zs)) :
    Calls Try.prog 19 #[.slice A n c, .int .u8 base] w fun e w' => ∃ XA xc KA kc, e = .returned (.tuple #[.slice XA n xc, .slice KA n kc]) ∧ Own w' 5 w.heap.size (.slice XA n xc) (ints .u8 X) ∧ Own w' 23 w.heap.size (.slice KA n kc) (ints .i8 K) ∧ Below w.heap.size w w' := by
  subst hn
  refine (levels_any zs A c base w hl hc h).mono ?_
  rintro e w' ⟨lv, kv, rfl, h1, h2, -, hb⟩
  rw [hX] at h1
  rw [hK] at h2
  obtain ⟨XA, xc, rfl⟩ := h1.slice
  obtain ⟨KA, kc, rfl⟩ := h2.slice
  rw [ints_length, lX] at h1 ⊢
  rw [ints_length, lK] at h2 ⊢
  exact ⟨XA, xc, KA, kc, rfl, h1, h2, hb⟩
set_option maxRecDepth 20000 in
set_option maxHeartbeats 8000000 in
theorem apartlaw_any (a u v b : List Int) (A U V Bd : Option Addr) (ca cu cv cb : Nat) (sg : Int) (base : Nat) (w : World) (hl : a.length + u.length + v.length + b.length + 2 < 1048576)
    (ha : Sl w w.heap.size A (ints .i8 a)) (hu : Sl w w.heap.size U (ints .i8 u)) (hv : Sl w w.heap.size V (ints .i8 v)) (hb : Sl w w.heap.size Bd (ints .i8 b)) :
    Calls Try.prog 8 #[.agg #[.slice A a.length ca, .slice U u.length cu, .slice V v.length cv, .slice Bd b.length cb, .int .i8 sg, .int .u8 base]] w fun e w' => e = .returned (.bool true) ∧ Below w.heap.size w w' := by
  obtain ⟨s, hs, hs2, hs3⟩ := sign_round sg
  have HAl := Lib.hid (And.intro (ha.alloc (Nat.le_refl _) (.cells #[.slice A a.length ca, .slice U u.length cu, .slice V v.length cv, .slice Bd b.length cb, .int .i8 sg, .int .u8 base] 47)) (hb.alloc (Nat.le_refl _) (.cells #[.slice A a.length ca, .slice U u.length cu, .slice V v.length cv, .slice Bd b.length cb, .int .i8 sg, .int .u8 base] 47)))
  have HAl2 := Lib.hid (And.intro (hu.alloc (Nat.le_refl _) (.cells #[.slice A a.length ca, .slice U u.length cu, .slice V v.length cv, .slice Bd b.length cb, .int .i8 sg, .int .u8 base] 47)) (hv.alloc (Nat.le_refl _) (.cells #[.slice A a.length ca, .slice U u.length cu, .slice V v.length cv, .slice Bd b.length cb, .int .i8 sg, .int .u8 base] 47)))
  have HBx := Lib.hid (Blk.new w [.slice A a.length ca, .slice U u.length cu, .slice V v.length cv, .slice Bd b.length cb, .int .i8 sg, .int .u8 base] 47)
  have HB0 := Lib.hid (show Below w.heap.size w (w.alloc (.cells #[.slice A a.length ca, .slice U u.length cu, .slice V v.length cv, .slice Bd b.length cb, .int .i8 sg, .int .u8 base] 47)) from (Below.refl _ _).alloc (Nat.le_refl _) _)
  clear ha hu hv hb
  go_enter Try.func8, Try.ntmps8
  go_upto_region 2 with fail
  obtain ⟨w0, hw0⟩ : ∃ w0, w0 = w.alloc (.cells #[.slice A a.length ca, .slice U u.length cu, .slice V v.length cv, .slice Bd b.length cb, .int .i8 sg, .int .u8 base] 47) := ⟨_, rfl⟩
  have hz0 : w0.heap.size = w.heap.size + 1 := by rw [hw0]; simp
  change Hid (_ ∧ _) at HAl
  rw [← hw0] at HAl HAl2 HB0 ⊢
  have HBx0 := Lib.hid (show Blk w0 w.heap.size [.slice A a.length ca, .slice U u.length cu, .slice V v.length cv, .slice Bd b.length cb, .int .i8 sg, .int .u8 base] 47 from by rw [hw0]; exact HBx.out)
  clear HBx hw0
  have hk0 := HBx0.out.cell 0
  have hk1 := HBx0.out.cell 1
  have hk2 := HBx0.out.cell 2
  have hk3 := HBx0.out.cell 3
  simp only [List.getElem?_cons_zero, List.getElem?_cons_succ] at hk0 hk1 hk2 hk3
  go_cut [4] (fun av wx => ∃ AA ac, av = .slice AA (a.length + (1 + ((balL u).length + (1 + b.length)))) ac ∧ Own wx 23 w0.heap.size (.slice AA (a.length + (1 + ((balL u).length + (1 + b.length)))) ac) (ints .i8 (a ++ s :: (balL u ++ 22 :: b))) ∧ Below w0.heap.size w0 wx)
  case first =>
    have HU := Lib.hid (fun wx (hst : Stay [] w0 wx) => balanced_any u U cu wx (by omega) ((HAl2.out.1.below ((hst.toBelow (B := w.heap.size) (by omega) (by simp)))).more (by have := hst.size; omega)))
    go_region_with (first
      | (go_at_call 32; refine (HU.out _ (Stay.drew _)).mono ?_; rintro e w2 ⟨bv, rfl, hbo, hbb⟩
         obtain ⟨BA, bc, rfl⟩ := hbo.slice
         rw [ints_length] at hbo ⊢
         have hz2 := hbb.size
         have hst2 := (Stay.drew (F := []) w0).trans (Stay.below hbb)
         have HBx2 := HBx0.out.stay (F := []) hst2 (by simp)
         have hm0 := HBx2.cell 0
         have hm3 := HBx2.cell 3
         simp only [List.getElem?_cons_zero, List.getElem?_cons_succ] at hm0 hm3
         have HBo := Lib.hid hbo
         have HS2 := Lib.hid hst2
         clear hbo hbb hst2 HBx2)
      | (go_at_call 31
         have HBl := balL_length u
         have hb2 : Below w.heap.size w0 w2 := HS2.out.toBelow (by omega) (by simp)
         refine (join_any a (balL u) b s A BA Bd ca bc cb w2 (by omega) ((HAl.out.1.below hb2).more (by have := hb2.size; omega)) HBo.out.sl ((HAl.out.2.below hb2).more (by have := hb2.size; omega))).mono ?_
         rintro e w3 ⟨jv, rfl, hjo, hjb⟩
         obtain ⟨JA, jc, rfl⟩ := hjo.slice
         have HJl := Lib.hid (show (ints .i8 (a ++ s :: (balL u ++ 22 :: b))).length = a.length + (1 + ((balL u).length + (1 + b.length))) from by simp; omega)
         rw [HJl.out] at hjo ⊢
         have HJ := Lib.hid (And.intro (own_mono hjo (HS2.out.size)) ((HS2.out.toBelow (B := w0.heap.size) (Nat.le_refl _) (by simp)).trans (hjb.mono HS2.out.size)))
         clear hjo hjb hb2))
    all_goals
      go_wp2_with fail
      go_meet
      exact ⟨JA, jc, rfl, HJ.out.1, HJ.out.2⟩
  case rest =>
    obtain ⟨JA, jc, rfl, hjo1, hjb1⟩ := hcut
    have HJ1 := Lib.hid hjo1
    have hst1 : Stay [] w0 wc := Stay.below hjb1
    have HBx1 := Lib.hid (HBx0.out.stay (F := []) hst1 (by simp))
    have HST1 := Lib.hid hst1
    have hz1 := hjb1.size
    have hn0 := HBx1.out.cell 0
    have hn1 := HBx1.out.cell 1
    have hn2 := HBx1.out.cell 2
    have hn3 := HBx1.out.cell 3
    simp only [List.getElem?_cons_zero, List.getElem?_cons_succ] at hn0 hn1 hn2 hn3
    clear hjo1 hjb1 hst1 hk0 hk1 hk2 hk3
    go_upto_region 3 with fail
    go_cut [5] (fun av wx => ∃ AA ac, av = .slice AA (a.length + (1 + ((balL v).length + (1 + b.length)))) ac ∧ Own wx 23 wc.heap.size (.slice AA (a.length + (1 + ((balL v).length + (1 + b.length)))) ac) (ints .i8 (a ++ s :: (balL v ++ 22 :: b))) ∧ Below wc.heap.size wc wx)
    case first =>
      have HU := Lib.hid (fun wx (hst : Stay [] wc wx) => balanced_any v V cv wx (by omega) ((HAl2.out.2.below (((HST1.out.trans hst).toBelow (B := w.heap.size) (by omega) (by simp)))).more (by have := hst.size; omega)))
      go_region_with (first
        | (go_at_call 32; refine (HU.out _ (Stay.drew _)).mono ?_; rintro e w2 ⟨bv, rfl, hbo, hbb⟩
           obtain ⟨BA, bc, rfl⟩ := hbo.slice
           rw [ints_length] at hbo ⊢
           have hz2 := hbb.size
           have hst2 := (Stay.drew (F := []) wc).trans (Stay.below hbb)
           have HBx2 := HBx1.out.stay (F := []) hst2 (by simp)
           have hm0 := HBx2.cell 0
           have hm3 := HBx2.cell 3
           simp only [List.getElem?_cons_zero, List.getElem?_cons_succ] at hm0 hm3
           have HBo := Lib.hid hbo
           have HS2 := Lib.hid hst2
           clear hbo hbb hst2 HBx2)
        | (go_at_call 31
           have HBl := balL_length v
           have hb2 : Below w.heap.size w0 w2 := (HST1.out.trans HS2.out).toBelow (by omega) (by simp)
           refine (join_any a (balL v) b s A BA Bd ca bc cb w2 (by omega) ((HAl.out.1.below hb2).more (by have := hb2.size; omega)) HBo.out.sl ((HAl.out.2.below hb2).more (by have := hb2.size; omega))).mono ?_
           rintro e w3 ⟨jv, rfl, hjo, hjb⟩
           obtain ⟨JB, jd, rfl⟩ := hjo.slice
           have HJl := Lib.hid (show (ints .i8 (a ++ s :: (balL v ++ 22 :: b))).length = a.length + (1 + ((balL v).length + (1 + b.length))) from by simp; omega)
           rw [HJl.out] at hjo ⊢
           have HJ := Lib.hid (And.intro (own_mono hjo (HS2.out.size)) ((HS2.out.toBelow (B := wc.heap.size) (Nat.le_refl _) (by simp)).trans (hjb.mono HS2.out.size)))
           clear hjo hjb hb2))
      all_goals
        go_wp2_with fail
        go_meet
        exact ⟨JB, jd, rfl, HJ.out.1, HJ.out.2⟩
    case rest =>
      obtain ⟨JB, jd, rfl, hjo2, hjb2⟩ := hcut
      have HBx2 := Lib.hid (HBx1.out.stay (F := []) (Stay.below hjb2) (by simp))
      have HST2 := Lib.hid (HST1.out.trans (Stay.below hjb2))
      have HJA := Lib.hid (HJ1.out.below_ hjb2)
      have HJB := Lib.hid (own_mono hjo2 hz1)
      have z2 := hjb2.size
      have HBu := balL_length u
      have HBv := balL_length v
      obtain ⟨X1, K1, X2, K2, hX1, hK1, hX2, hK2, lX1, lK1, lX2, lK2, hfr, hbk⟩ := apart_get ((min base 125 : Nat) : Int) s (sign_opens s hs3) a b (balL u) (balL v) (bal_balL u) (bal_balL v)
      obtain ⟨zs1, hzs1⟩ : ∃ zs1, zs1 = a ++ s :: (balL u ++ 22 :: b) := ⟨_, rfl⟩
      obtain ⟨zs2, hzs2⟩ : ∃ zs2, zs2 = a ++ s :: (balL v ++ 22 :: b) := ⟨_, rfl⟩
      obtain ⟨n1, hn1⟩ : ∃ n1, n1 = a.length + (1 + ((balL u).length + (1 + b.length))) := ⟨_, rfl⟩
      obtain ⟨n2, hn2⟩ : ∃ n2, n2 = a.length + (1 + ((balL v).length + (1 + b.length))) := ⟨_, rfl⟩
      have l1 : zs1.length = n1 := by rw [hzs1, hn1]; simp; omega
      have l2 : zs2.length = n2 := by rw [hzs2, hn2]; simp; omega
      rw [← hzs1] at HJA hX1 hK1
      rw [← hzs2] at HJB hX2 hK2
      rw [← hn1] at HJA hX1 hK1 lX1 lK1 hbk ⊢
      rw [← hn2] at HJB hX2 hK2 lX2 lK2 hbk ⊢
      have HFR := Lib.hid hfr
      have HBK := Lib.hid hbk
      have hb1 : n1 < 1048576 := by omega
      have hb2 : n2 < 1048576 := by omega
      have ha1 : a.length + 1 + b.length + 1 ≤ n1 := by omega
      have ha2 : a.length + 1 + b.length + 1 ≤ n2 := by omega
      have HLA := Lib.hid (fun W (hs : Sl W W.heap.size JA (ints .i8 zs1)) (hc : n1 ≤ jc ∧ jc ≤ maxLen) => levels_at zs1 X1 K1 n1 JA jc base W l1 hX1 hK1 lX1 lK1 hb1 hc hs)
      have HLB := Lib.hid (fun W (hs : Sl W W.heap.size JB (ints .i8 zs2)) (hc : n2 ≤ jd ∧ jd ≤ maxLen) => levels_at zs2 X2 K2 n2 JB jd base W l2 hX2 hK2 lX2 lK2 hb2 hc hs)
      have HLL := Lib.hid (And.intro (And.intro lX1 lK1) (And.intro lX2 lK2))
      have HLZ := Lib.hid (And.intro l1 l2)
      have hm1 := HBx2.out.cell 1
      have hm5 := HBx2.out.cell 5
      simp only [List.getElem?_cons_zero, List.getElem?_cons_succ] at hm1 hm5
      clear hjo2 hjb2 hn0 hn1 hn2 hn3 hzs1 hzs2 hX1 hK1 hX2 hK2 lX1 lK1 lX2 lK2 hfr hbk l1 l2 HJ1 HBx1 HBx0 HAl2 hs hs2 hs3 HBu HBv
      go_wp2_with fail
      refine (HLA.out _ HJA.out.sl (by have := HJA.out.cap; rw [ints_length, HLZ.out.1] at this; exact this)).mono ?_
      rintro e w3 ⟨XA, xc, KA, kc, rfl, ho1, ho2, hb3⟩
      have z3 := hb3.size
      have HBx3 := Lib.hid (HBx2.out.stay (F := []) (Stay.below hb3) (by simp))
      have HST3 := Lib.hid (HST2.out.trans (Stay.below hb3))
      have HJB3 := Lib.hid (HJB.out.below_ hb3)
      have HX1 := Lib.hid (And.intro ho1 ho2)
      have hm5 := HBx3.out.cell 5
      simp only [List.getElem?_cons_zero, List.getElem?_cons_succ] at hm5
      clear ho1 ho2 hb3 HBx2 HJB HJA
      go_wp2_with fail
      refine (HLB.out _ HJB3.out.sl (by have := HJB3.out.cap; rw [ints_length, HLZ.out.2] at this; exact this)).mono ?_
      rintro e w4 ⟨YA, yc, LA, lc, rfl, ho1, ho2, hb4⟩
      have z4 := hb4.size
      have HBx4 := Lib.hid (HBx3.out.stay (F := []) (Stay.below hb4) (by simp))
      have HST4 := Lib.hid (HST3.out.trans (Stay.below hb4))
      have HX1b := Lib.hid (And.intro (HX1.out.1.below_ hb4) (HX1.out.2.below_ hb4))
      have HX2 := Lib.hid (And.intro ho1 ho2)
      clear ho1 ho2 hb4 HBx3 HJB3 HX1
      obtain ⟨gx, rfl, gx1, gx2⟩ := own_is HX1b.out.1 (by rw [HLL.out.1.1]; omega)
      obtain ⟨gk, rfl, gk1, gk2⟩ := own_is HX1b.out.2 (by rw [HLL.out.1.2]; omega)
      obtain ⟨gy, rfl, gy1, gy2⟩ := own_is HX2.out.1 (by rw [HLL.out.2.1]; omega)
      obtain ⟨gl, rfl, gl1, gl2⟩ := own_is HX2.out.2 (by rw [HLL.out.2.2]; omega)
      go_wp2_with fail
      go_loopw [10] (fun i wr => ∃ k : Nat, k ≤ a.length + 1 ∧ i = .int .i64 k ∧ Below w4.heap.size w4 wr)
        (fun i _ => a.length + 1 - (intOf i).toNat)
      case atStart => exact ⟨0, by omega, rfl, Below.refl _ _⟩
      case round =>
        obtain ⟨k, hk, rfl, hbr⟩ := hrel
        have hm0 := (HBx4.out.stay (F := []) (Stay.below hbr) (by simp)).cell 0
        simp only [List.getElem?_cons_zero] at hm0
        have HB := Lib.hid hbr
        by_cases hlt : k ≤ a.length
        · have hk1 := own_at (HX1b.out.1.below_ hbr) (i := k) (by rw [HLL.out.1.1]; omega)
          have hk2 := own_at (HX1b.out.2.below_ hbr) (i := k) (by rw [HLL.out.1.2]; omega)
          have hk3 := own_at (HX2.out.1.below_ hbr) (i := k) (by rw [HLL.out.2.1]; omega)
          have hk4 := own_at (HX2.out.2.below_ hbr) (i := k) (by rw [HLL.out.2.2]; omega)
          rw [← (HFR.out k hlt).1] at hk3
          rw [← (HFR.out k hlt).2] at hk4
          clear hbr
          obtain ⟨x, hx⟩ : ∃ x, x = X1.getD k 0 := ⟨_, rfl⟩
          obtain ⟨y, hy⟩ : ∃ y, y = K1.getD k 0 := ⟨_, rfl⟩
          rw [← hx] at hk1 hk3
          rw [← hy] at hk2 hk4
          clear hx hy
          have hlt' : (k : Int) ≤ a.length := by omega
          have hi1 : (k : Int) < n1 := by omega
          have hi2 : (k : Int) < n2 := by omega
          have hnn : (0 : Int) ≤ k := by omega
          go_wp2_with fail
          go_quiet (fail)
          go_wp2
          go_roundw
          case rel => exact ⟨k + 1, by omega, by go_num, below_drewN' HB.out _⟩
          case measure => simp [intOf]; omega
        · have hk' : k = a.length + 1 := by omega
          subst hk'
          clear hbr
          have hnl : ¬ ((a.length : Int) + 1 ≤ a.length) := by omega
          go_wp2_with fail
          go_loopw [11] (fun i wr => ∃ k : Nat, k ≤ b.length + 1 ∧ i = .int .i64 k ∧ Below w4.heap.size w4 wr)
            (fun i _ => b.length + 1 - (intOf i).toNat)
          case atStart => exact ⟨0, by omega, rfl, HB.out⟩
          case round =>
            obtain ⟨k, hk, rfl, hbr⟩ := hrel
            clear HB
            have hm3 := (HBx4.out.stay (F := []) (Stay.below hbr) (by simp)).cell 3
            simp only [List.getElem?_cons_zero, List.getElem?_cons_succ] at hm3
            have HB := Lib.hid hbr
            by_cases hlt : k ≤ b.length
            · obtain ⟨j1, hj1⟩ : ∃ j1, j1 = n1 - 1 - k := ⟨_, rfl⟩
              obtain ⟨j2, hj2⟩ : ∃ j2, j2 = n2 - 1 - k := ⟨_, rfl⟩
              have hk1 := own_at (HX1b.out.1.below_ hbr) (i := j1) (by rw [HLL.out.1.1]; omega)
              have hk2 := own_at (HX1b.out.2.below_ hbr) (i := j1) (by rw [HLL.out.1.2]; omega)
              have hk3 := own_at (HX2.out.1.below_ hbr) (i := j2) (by rw [HLL.out.2.1]; omega)
              have hk4 := own_at (HX2.out.2.below_ hbr) (i := j2) (by rw [HLL.out.2.2]; omega)
              have hq := HBK.out k j1 j2 hlt hj1 hj2
              rw [← hq.1] at hk3
              rw [← hq.2] at hk4
              clear hbr hq
              obtain ⟨x, hx⟩ : ∃ x, x = X1.getD j1 0 := ⟨_, rfl⟩
              obtain ⟨y, hy⟩ : ∃ y, y = K1.getD j1 0 := ⟨_, rfl⟩
              rw [← hx] at hk1 hk3
              rw [← hy] at hk2 hk4
              clear hx hy
              have hlt' : (k : Int) ≤ b.length := by omega
              have hi1 : (n1 : Int) - 1 - k = j1 := by omega
              have hi2 : (n2 : Int) - 1 - k = j2 := by omega
              have hi3 : (j1 : Int) < n1 := by omega
              have hi4 : (j2 : Int) < n2 := by omega
              have hi5 : (0 : Int) ≤ j1 := by omega
              have hi6 : (0 : Int) ≤ j2 := by omega
              clear hj1 hj2
              go_wp2_with fail
              go_quiet (fail)
              go_wp2
              go_roundw
              case rel => exact ⟨k + 1, by omega, by go_num, below_drewN' HB.out _⟩
              case measure => simp [intOf]; omega
            · have hk' : k = b.length + 1 := by omega
              subst hk'
              clear hbr
              have hnl : ¬ ((b.length : Int) + 1 ≤ b.length) := by omega
              have HBA := Lib.hid (HB0.out.trans ((HST4.out.trans (Stay.below HB.out)).toBelow (B := w.heap.size) (by omega) (by simp)))
              go_wp2_with fail
              refine (wakes_any _).mono ?_
              rintro e w12 ⟨rfl, hb12⟩
              go_wp2_with fail
              go_ret
              exact ⟨rfl, HBA.out.trans (hb12.mono HBA.out.size)⟩
end Go.Proofs.Ytikgjnfimagpjaa
