/- shuttlelaw04: NormPairs: the walk. -/
import Derived.Test.YtlphmcodajookaaDoorNwakes
import Derived.Test.YtlphmcodajookaaDoorNpairsp
import Derived.Test.YtlphmcodajookaaDoorNbad
import Derived.Shelf.SlSortCmp.QuietGrown
namespace Go.Proofs.YtlphmcodajookaaDoor
open Go.RowKit Go.Sort
set_option maxRecDepth 20000 in
set_option maxHeartbeats 40000000 in
theorem pairsl_any (a b : Int) (xs : List Int) (A : Option Addr) (c : Nat) (w : World) (ha : -2147483648 ≤ a ∧ a ≤ 2147483647) (hb : -2147483648 ≤ b ∧ b ≤ 2147483647) (hl : xs.length < 1048576) (h : Sl w w.heap.size A (ints .i32 xs)) (hT : Lib.Utf8Tabs 0 1 w) :
    Calls Tryd.prog 10 #[.int .i32 a, .int .i32 b, .slice A xs.length c] w fun e w' => e = .returned (.bool true) ∧ Stay [] w w' := by
  obtain ⟨p, hp⟩ : ∃ p, p = pairN a b := ⟨_, rfl⟩
  have h24 := pair_any a b w ha hb
  rw [← hp] at h24
  have HC24 := Lib.hid h24
  have hpr : p ≠ 0 → -2147483648 ≤ p ∧ p ≤ 2147483647 := fun h => by
    have := (pair_split (hp ▸ h)).2.2.2.1
    rw [← hp] at this
    unfold okR at this
    omega
  have HC22p := Lib.hid (fun (h : p ≠ 0) W' => nsplit_any p W' (hpr h))
  have HC22a := Lib.hid (fun W' => nsplit_any a W' ha)
  have HSp := Lib.hid (fun h : p ≠ 0 => show splitN p = splitN a ++ [b] from by rw [hp] at h ⊢; exact (pair_split h).1)
  have HLs := Lib.hid (fun r : Int => show (splitN r).length ≤ 8 from Nat.le_trans (splitF_len _ _) (by omega))
  have H26 := Lib.hid (fun W' (hs : Stay [] w W') => wakes_any W' (Utf8Tabs_below hT (hs.toBelow (Nat.le_refl _) (by simp))))
  have HXs := Lib.hid (fun W' (hs : Stay [] w W') => h.stay_ hs)
  obtain ⟨ys, hys⟩ : ∃ ys, ys = ordK markN [] xs := ⟨_, rfl⟩
  have hyl : ys.length = xs.length := by rw [hys, ordK_length]
  have hyy : ordK markN [] ys = ys := by rw [hys]; exact ordK_idem markN_nonneg xs
  have HO1 := Lib.hid (fun W' (hs : Stay [] w W') => by have := order_any xs A c W' (by omega) (h.stay_ hs); rw [← hys] at this; exact this)
  have HO2 := Lib.hid (fun W' Am cm (hw : Sl W' W'.heap.size Am (ints .i32 ys)) => by have := order_any ys Am cm W' (by omega) hw; rw [hyy] at this; exact this)
  have HAt := Lib.hid (fun i x y (hx : xs[i]? = some x) (hy : ys[i]? = some y) => show (markN x = 0 → y = x) ∧ (markN x = 0 ↔ markN y = 0) from by
    rw [hys] at hy
    exact (ordK_at markN xs [] (by simp)).2 i x y hx (by simpa using hy))
  have HTm := Lib.hid (fun r : Int => show timesL ys r = timesL xs r from by
    unfold timesL
    rw [hys]
    have hpm := ordK_perm markN xs []
    rw [List.nil_append] at hpm
    exact (hpm.filter _).length_eq)
  have HYl := Lib.hid hyl
  have HL := Lib.hid hl
  obtain ⟨i21, hi, hz, hsz, hy⟩ := info_parts info21
  have HI := Lib.hid (And.intro hi (And.intro hz (And.intro hsz hy)))
  clear hp h24 hpr h hT hys hyy hyl hl ha hb hi hz hsz hy
  go_enter Tryd.func10, Tryd.ntmps10
  go_wp2_with fail
  refine HC24.out.mono ?_
  rintro e w1 ⟨rfl, hs⟩
  have HSt := Lib.hid hs
  clear hs
  have mixed : Tryd.prog.follows Departure.mixedOrders = true := by kernel_rfl
  by_cases hp0 : p = 0
  rotate_left
  have hp0b : (p != 0) = true := by simpa using hp0
  go_wp2_with fail
  refine (HC22p.out hp0 w1).mono ?_
  rintro e w2 ⟨A1, c1, rfl, hw2, hs⟩
  have HU2 := Lib.hid (HSt.out.trans hs)
  have HW2 := Lib.hid hw2
  clear hs hw2
  go_wp2_with fail
  refine (HC22a.out w2).mono ?_
  rintro e w3 ⟨A2, c2, rfl, hw3, hs⟩
  have HU3 := Lib.hid (HU2.out.trans hs)
  have HSz := Lib.hid (show w2.heap.size ≤ w3.heap.size from hs.size)
  have HX3 := Lib.hid (HW2.out.stay0 hs)
  have HW3 := Lib.hid hw3
  clear hs hw3
  obtain ⟨V, hV⟩ : ∃ V, V = w3.alloc (.cells #[.int .i32 b] 21) := ⟨_, rfl⟩
  have hsv : Stay [] w3 V := by rw [hV]; exact Stay.alloc _ _
  have HV := Lib.hid hV
  have HWv := Lib.hid (HW3.out.stay0 hsv)
  have HXv := Lib.hid (HX3.out.stay0 hsv)
  have HSzv := Lib.hid (Nat.le_trans HSz.out hsv.size)
  have HUv := Lib.hid (HU3.out.trans hsv)
  have HCv := Lib.hid (show ∀ j u, ([Value.int .i32 b] : List Value)[j]? = some u → V.cell? ((⟨w3.heap.size, 0, none⟩ : Addr).add j) = some u from by rw [hV]; exact cells_new w3 [.int .i32 b] 21 w3.heap.size rfl)
  have hla := HLs.out a
  have hlp := HLs.out p
  clear hV hsv
  go_upto_region 5 with fail
  go_wp2_with (rw [← HV.out]; refine wpList_append_win rfl (.tmp 22) (.tmp 24) 22 rfl w2.heap.size 21 1 i21 _ 4 Tryd.underlying22 HI.out.1 HI.out.2.1 HI.out.2.2.1 HI.out.2.2.2 rfl (by omega) A2 (splitN a).length c2 (ints .i32 (splitN a)) rfl HWv.out ⟨w3.heap.size, 0, none⟩ 1 1 rfl [.int .i32 b] rfl (by omega) HCv.out (by simp [Value.oneCell']) (by unfold maxLen; omega) (by omega) HSzv.out ?_; intro A' c' w4 hw4 hs4 _; have hx4 := HXv.out.stay hs4 (fun g hg hg2 => by have h1 := (HW2.out.ab g hg).2.1; have h2 := (HW3.out.ab g hg2).1; omega); have HC40 := Lib.hid (sameR_any (splitN p) (splitN a ++ [b]) A1 A' c1 c' w4 (by omega) (by rw [List.length_append, List.length_singleton]; omega) hx4.sl (by rw [ints_app]; exact hw4.sl)); have HU4 := Lib.hid (HUv.out.trans' hs4 (fun g hg => .inr (Nat.le_trans HU2.out.size (HW3.out.ab g hg).1))); rw [decide_eq_true (HSp.out hp0), List.length_append, List.length_singleton] at HC40; clear hw4 hs4 hx4)
  refine HC40.out.mono ?_
  rintro e w5 ⟨rfl, hb5⟩
  have HSt5 := Lib.hid (HU4.out.trans (Stay.below hb5))
  clear hb5 HSt
  rename Hid (Stay [] w w5) => HSt
  go_wp2_with fail
  all_goals
    first | refine (HO1.out _ HSt.out).mono ?_ | (go_wp2_with fail; refine (HO1.out _ HSt.out).mono ?_)
    rintro e w6 ⟨Am, cm, rfl, hwm, hs⟩
    have HT6 := Lib.hid (HSt.out.trans hs)
    have HSm := Lib.hid hwm.sl
    clear hs hwm
    have hylb : ((ys.length : Int) != (xs.length : Int)) = false := by rw [HYl.out]; simp
    go_wp2_with fail
    refine (HO2.out w6 Am cm HSm.out).mono ?_
    rintro e w7 ⟨A7, c7, rfl, hw7, hs⟩
    have HT7 := Lib.hid (HT6.out.trans hs)
    have HSm7 := Lib.hid (HSm.out.stay_ hs)
    have HC40 := Lib.hid (sameR_any ys ys A7 Am c7 cm w7 (by have := HYl.out; have := HL.out; omega) (by have := HYl.out; have := HL.out; omega) hw7.sl (HSm.out.stay_ hs))
    rw [show decide (ys = ys) = true from by simp] at HC40
    clear hs hw7
    go_wp2_with fail
    refine HC40.out.mono ?_
    rintro e w8 ⟨rfl, hb8⟩
    have hs8 : Stay [] w7 w8 := Stay.below hb8
    have HT8 := Lib.hid (HT7.out.trans hs8)
    have HSm8 := Lib.hid (HSm7.out.stay_ hs8)
    clear hb8 hs8 HC40 hylb
    go_wp2_with fail
    go_loopw [11] (fun v wr => ∃ k : Nat, v = .int .i64 k ∧ k ≤ xs.length ∧ Stay [] w8 wr)
      (fun v _ => (xs.length - intOf v).toNat)
    case atStart => exact ⟨0, rfl, Nat.zero_le _, Stay.refl _ _⟩
    case round =>
      obtain ⟨k, rfl, hk, hst⟩ := hrel
      have HTr := Lib.hid (HT8.out.trans hst)
      by_cases hkn : k = xs.length
      · subst hkn
        clear hst
        go_wp2_with fail
        refine (H26.out _ HTr.out).mono ?_
        rintro e u1 ⟨rfl, hs⟩
        have HU1 := Lib.hid (HTr.out.trans hs)
        clear hs
        go_wp2_with fail
        go_ret
        exact ⟨rfl, HU1.out⟩
      · have hkl : k < xs.length := by omega
        have hkl' : (k : Int) < xs.length := by omega
        have hkly : (k : Int) < ys.length := by have := HYl.out; omega
        have hn64 : xs.length < 1048576 := HL.out
        obtain ⟨x, hx⟩ : ∃ x, xs[k]? = some x := ⟨_, List.getElem?_eq_getElem hkl⟩
        obtain ⟨y, hy⟩ : ∃ y, ys[k]? = some y := ⟨_, List.getElem?_eq_getElem (by have := HYl.out; omega)⟩
        have hat := HAt.out k x y hx hy
        have hxs := HXs.out wr HTr.out
        have hys := HSm8.out.stay_ hst
        obtain ⟨ad, rfl, _, _⟩ := sl_at hxs hkl
        obtain ⟨am, rfl, _, _⟩ := sl_at hys (i := k) (by have := HYl.out; omega)
        have px : ∀ n os, (grow (wr.drewN n) os).cell? (ad.add k) = some (.int .i32 x) := fun n os => sl_get (hxs.stay_ (Stay.grow_ wr n os)) hx
        have py : ∀ n os, (grow (wr.drewN n) os).cell? (am.add k) = some (.int .i32 y) := fun n os => sl_get (hys.stay_ (Stay.grow_ wr n os)) hy
        obtain ⟨tx, htx⟩ : ∃ q, q = timesL xs x := ⟨_, rfl⟩
        obtain ⟨tm, htm⟩ : ∃ q, q = timesL ys x := ⟨_, rfl⟩
        have htt : ((tx : Int) != (tm : Int)) = false := by rw [htx, htm, HTm.out x]; simp
        have HT1 := Lib.hid (fun n os => show Calls Tryd.prog 41 #[.slice (some ad) xs.length c, .int .i32 x] (grow (wr.drewN n) os) fun e w'' => e = .returned (.int .i64 tx) ∧ ∃ p : GrownBy, w'' = grow (wr.drewN p.n) p.os from by
          rw [htx]
          exact (times_any xs x (some ad) c _ (by omega) (hxs.stay_ (Stay.grow_ wr n os))).mono fun e w' ⟨h1, h2⟩ => ⟨h1, ⟨n, os⟩, h2⟩)
        have HT2 := Lib.hid (fun n os => show Calls Tryd.prog 41 #[.slice (some am) ys.length cm, .int .i32 x] (grow (wr.drewN n) os) fun e w'' => e = .returned (.int .i64 tm) ∧ ∃ p : GrownBy, w'' = grow (wr.drewN p.n) p.os from by
          rw [htm]
          exact (times_any ys x (some am) cm _ (by have := HYl.out; omega) (hys.stay_ (Stay.grow_ wr n os))).mono fun e w' ⟨h1, h2⟩ => ⟨h1, ⟨n, os⟩, h2⟩)
        have HMr := Lib.hid (fun r u => mark_grow r u)
        have HSw := Lib.hid (fun n os => hst.trans (Stay.grow_ wr n os))
        have HTw := Lib.hid (fun n os => HTr.out.trans (Stay.grow_ wr n os))
        have HKd := Lib.hid hkn
        clear hx hy hxs hys htx htm hst hk hkn
        by_cases hm0 : markN x = 0
        · have hxy := hat.1 hm0
          have hm1 : (markN x == 0) = true := by simpa using hm0
          have hm2 : (markN y == 0) = true := by simpa using hat.2.1 hm0
          have hn1 : (y != x) = false := by rw [hxy]; simp
          clear hat hm0 hxy
          go_wp2_with fail
          refine wp_region_quiet_grown (by assumption) (by kernel_rfl) (Shy.out ?_)
          iterate 38 (refine quietH_step (fun K HK => ?_); go_simp; first | (refine HK.out _ ?_; clear HK K) | (apply Exists.intro; refine ⟨fun _ => ?_, HK.out _ ?_⟩; (go_at_call 39; exact Calls.grown_of (HMr.out _ _)); clear HK K))
          (refine quietH_step (fun K HK => ?_); go_simp; apply Exists.intro; refine ⟨fun _ => ?_, HK.out _ ?_⟩; (go_at_call 41; exact HT1.out _ _); clear HK K)
          iterate 5 (refine quietH_step (fun K HK => ?_); go_simp; refine HK.out _ ?_; clear HK K)
          (refine quietH_step (fun K HK => ?_); go_simp; apply Exists.intro; refine ⟨fun _ => ?_, HK.out _ ?_⟩; (go_at_call 41; exact HT2.out _ _); clear HK K)
          iterate 2 (refine quietH_step (fun K HK => ?_); go_simp; refine HK.out _ ?_; clear HK K)
          refine quietH_nil ?_
          intro _ hw'
          obtain ⟨⟨nq2, osq⟩, hw''⟩ := hw'
          subst hw''
          clear px py
          by_cases h300 : (300 : Int) ≤ k
          · have h3b : decide ((300 : Int) ≤ (k : Int)) = true := decide_eq_true h300
            go_wp2_with fail
            refine (H26.out _ (HTw.out _ _)).mono ?_
            rintro e u1 ⟨rfl, hs⟩
            have HU1 := Lib.hid ((HTw.out _ _).trans hs)
            clear hs
            go_wp2_with fail
            go_ret
            exact ⟨rfl, HU1.out⟩
          · have h3b : decide ((300 : Int) ≤ (k : Int)) = false := decide_eq_false h300
            go_wp2_with fail
            go_roundw
            case rel => exact ⟨k + 1, by simp, by omega, HSw.out _ _⟩
            case measure => simp [intOf]; omega
        · have hm1 : (markN x == 0) = false := by simpa using hm0
          have hm2 : (markN y == 0) = false := by simpa using fun h => hm0 (hat.2.2 h)
          clear hat hm0
          go_wp2_with fail
          refine wp_region_quiet_grown (by assumption) (by kernel_rfl) (Shy.out ?_)
          iterate 38 (refine quietH_step (fun K HK => ?_); go_simp; first | (refine HK.out _ ?_; clear HK K) | (apply Exists.intro; refine ⟨fun _ => ?_, HK.out _ ?_⟩; (go_at_call 39; exact Calls.grown_of (HMr.out _ _)); clear HK K))
          (refine quietH_step (fun K HK => ?_); go_simp; apply Exists.intro; refine ⟨fun _ => ?_, HK.out _ ?_⟩; (go_at_call 41; exact HT1.out _ _); clear HK K)
          iterate 5 (refine quietH_step (fun K HK => ?_); go_simp; refine HK.out _ ?_; clear HK K)
          (refine quietH_step (fun K HK => ?_); go_simp; apply Exists.intro; refine ⟨fun _ => ?_, HK.out _ ?_⟩; (go_at_call 41; exact HT2.out _ _); clear HK K)
          iterate 2 (refine quietH_step (fun K HK => ?_); go_simp; refine HK.out _ ?_; clear HK K)
          refine quietH_nil ?_
          intro _ hw'
          obtain ⟨⟨nq2, osq⟩, hw''⟩ := hw'
          subst hw''
          clear px py
          by_cases h300 : (300 : Int) ≤ k
          · have h3b : decide ((300 : Int) ≤ (k : Int)) = true := decide_eq_true h300
            go_wp2_with fail
            refine (H26.out _ (HTw.out _ _)).mono ?_
            rintro e u1 ⟨rfl, hs⟩
            have HU1 := Lib.hid ((HTw.out _ _).trans hs)
            clear hs
            go_wp2_with fail
            go_ret
            exact ⟨rfl, HU1.out⟩
          · have h3b : decide ((300 : Int) ≤ (k : Int)) = false := decide_eq_false h300
            go_wp2_with fail
            go_roundw
            case rel => exact ⟨k + 1, by simp, by omega, HSw.out _ _⟩
            case measure => simp [intOf]; omega
end Go.Proofs.YtlphmcodajookaaDoor
