/- shuttlelaw04: NormOnce: the walk. -/
import Derived.Test.YtlphmcodajookaaDoorNwakes
import Derived.Test.YtlphmcodajookaaDoorNbad
import Derived.Shelf.SlSortCmp.QuietGrown
namespace Go.Proofs.YtlphmcodajookaaDoor
open Go.RowKit Go.Sort
theorem togetherS_len (s : List UInt8) : (togetherS s).length ≤ s.length * 32 := by
  have h1 := apart_len s
  have h2 := tt_len (apartI s) (apartI s).length (Nat.le_refl _)
  rw [List.take_length] at h2
  have h3 := textI_le (togetherI (apartI s))
  have h4 : (togetherI (apartI s)).length ≤ (apartI s).length := h2
  unfold togetherS
  omega
set_option maxRecDepth 20000 in
set_option maxHeartbeats 40000000 in
theorem once_any (s : ByteArray) (w : World) (hs : s.size ≤ 1048576) (hT : Lib.Utf8Tabs 0 1 w) :
    Calls Tryd.prog 11 #[.string s] w fun e w' => e = .returned (.bool true) ∧ Stay [] w w' := by
  have tT : ∀ {W'}, Stay [] w W' → Lib.Utf8Tabs 0 1 W' := fun hs => Utf8Tabs_below hT (hs.toBelow (Nat.le_refl _) (by simp))
  obtain ⟨b, hb⟩ : ∃ b, b = s.data.toList := ⟨_, rfl⟩
  have hbl : b.length ≤ 1048576 := by rw [hb]; exact hs
  have hsb : s = str b := by rw [hb]; rfl
  subst hsb
  clear hb hs
  have hA : ∀ (l : List UInt8), l.length ≤ 1099511627776 → ∀ W', Stay [] w W' → Calls Tryd.prog 29 #[.string (str l)] W' fun e w' => e = .returned (.string (str (apartS l))) ∧ Stay [] W' w' := fun l hl W' h => apartG_any (str l) W' (by rw [str_size]; exact hl) (tT h)
  have hG : ∀ (l : List UInt8), l.length ≤ 1099511627776 → ∀ W', Stay [] w W' → Calls Tryd.prog 31 #[.string (str l)] W' fun e w' => e = .returned (.string (str (togetherS l))) ∧ Stay [] W' w' := fun l hl W' h => togG_any (str l) W' (by rw [str_size]; exact hl) (tT h)
  have hB : ∀ (l : List UInt8), l.length ≤ 1099511627776 → ∀ W', Stay [] w W' → Calls Tryd.prog 42 #[.string (str l)] W' fun e w' => e = .returned (.string (str (badsS l))) ∧ Stay [] W' w' := fun l hl W' h => bytesG_any (str l) W' (by rw [str_size]; exact hl) (tT h)
  have hS : ∀ (l m : List UInt8), l.length ≤ 1099511627776 → m.length ≤ 1099511627776 → apartS l = apartS m → ∀ W', Stay [] w W' → Calls Tryd.prog 33 #[.string (str l), .string (str m)] W' fun e w' => e = .returned (.bool true) ∧ Stay [] W' w' := fun l m hl hm he W' h => by
    have := sameG_any (str l) (str m) W' (by rw [str_size]; exact hl) (by rw [str_size]; exact hm) (tT h)
    rw [str_list, str_list, decide_eq_true he] at this
    exact this
  have hpl := apartS_len b
  have htl := togetherS_len b
  obtain ⟨pa, hpa⟩ : ∃ p, p = apartS b := ⟨_, rfl⟩
  obtain ⟨ta, hta⟩ : ∃ p, p = togetherS b := ⟨_, rfl⟩
  rw [← hpa] at hpl
  rw [← hta] at htl
  have e1 : apartS pa = pa := by rw [hpa]; exact apart_apart b
  have e2 : togetherS ta = ta := by rw [hta]; exact together_together b
  have e3 : apartS ta = pa := by rw [hta, hpa]; exact apartS_together b
  have e4 : togetherS pa = ta := by rw [hta, hpa]; exact together_apart b
  obtain ⟨bb, hbb⟩ : ∃ p, p = badsS b := ⟨_, rfl⟩
  have e5 : badsS pa = bb := by rw [hpa, hbb]; exact badsS_apart b
  have e6 : badsS ta = bb := by rw [hta, hbb]; exact badsS_together b
  have HA1 := Lib.hid (show ∀ W', Stay [] w W' → Calls Tryd.prog 29 #[.string (str b)] W' fun e w' => e = .returned (.string (str pa)) ∧ Stay [] W' w' from by rw [hpa]; exact hA b (by omega))
  have HG1 := Lib.hid (show ∀ W', Stay [] w W' → Calls Tryd.prog 31 #[.string (str b)] W' fun e w' => e = .returned (.string (str ta)) ∧ Stay [] W' w' from by rw [hta]; exact hG b (by omega))
  have HA2 := Lib.hid (show ∀ W', Stay [] w W' → Calls Tryd.prog 29 #[.string (str pa)] W' fun e w' => e = .returned (.string (str pa)) ∧ Stay [] W' w' from by have := hA pa (by omega); rw [e1] at this; exact this)
  have HG2 := Lib.hid (show ∀ W', Stay [] w W' → Calls Tryd.prog 31 #[.string (str ta)] W' fun e w' => e = .returned (.string (str ta)) ∧ Stay [] W' w' from by have := hG ta (by omega); rw [e2] at this; exact this)
  have HA3 := Lib.hid (show ∀ W', Stay [] w W' → Calls Tryd.prog 29 #[.string (str ta)] W' fun e w' => e = .returned (.string (str pa)) ∧ Stay [] W' w' from by have := hA ta (by omega); rw [e3] at this; exact this)
  have HG3 := Lib.hid (show ∀ W', Stay [] w W' → Calls Tryd.prog 31 #[.string (str pa)] W' fun e w' => e = .returned (.string (str ta)) ∧ Stay [] W' w' from by have := hG pa (by omega); rw [e4] at this; exact this)
  have HB1 := Lib.hid (show ∀ W', Stay [] w W' → Calls Tryd.prog 42 #[.string (str pa)] W' fun e w' => e = .returned (.string (str bb)) ∧ Stay [] W' w' from by have := hB pa (by omega); rw [e5] at this; exact this)
  have HB2 := Lib.hid (show ∀ W', Stay [] w W' → Calls Tryd.prog 42 #[.string (str b)] W' fun e w' => e = .returned (.string (str bb)) ∧ Stay [] W' w' from by have := hB b (by omega); rw [← hbb] at this; exact this)
  have HB3 := Lib.hid (show ∀ W', Stay [] w W' → Calls Tryd.prog 42 #[.string (str ta)] W' fun e w' => e = .returned (.string (str bb)) ∧ Stay [] W' w' from by have := hB ta (by omega); rw [e6] at this; exact this)
  have HS1 := Lib.hid (hS b ta (by omega) (by omega) (by rw [e3, hpa]))
  have HS2 := Lib.hid (hS b pa (by omega) (by omega) (by rw [e1, hpa]))
  have HS3 := Lib.hid (hS pa ta (by omega) (by omega) (by rw [e1, e3]))
  have H26 := Lib.hid (fun W' (h : Stay [] w W') => wakes_any W' (tT h))
  obtain ⟨zs, hzs⟩ : ∃ z, z = runesL pa := ⟨_, rfl⟩
  have HRn := Lib.hid (show ∀ W', Calls Tryd.prog 43 #[.string (str pa)] W' fun e w' => ∃ A c, e = .returned (.slice A zs.length c) ∧ Sl w' w'.heap.size A (ints .i32 zs) ∧ Stay [] W' w' from fun W' => by have := runesG_any (str pa) W' (by rw [str_size]; omega); rw [str_list, ← hzs] at this; exact this)
  have HSp := Lib.hid (show ∀ z ∈ zs, splitN z = [z] from fun z hz => by rw [hzs, hpa] at hz; exact runes_split hz)
  have HOr := Lib.hid (show ∀ (i : Nat) (h : i + 1 < zs.length), markN zs[i + 1] ≠ 0 → markN (zs[i]'(by omega)) ≤ markN zs[i + 1] from by
    rw [hzs, hpa]
    exact fun i h h0 => runes_order i h h0)
  have HZr := Lib.hid (show ∀ z ∈ zs, -2147483648 ≤ z ∧ z ≤ 2147483647 from fun z hz => by
    rw [hzs] at hz
    have hz2 := runes_places (str pa)
    rw [str_list] at hz2
    rw [hz2] at hz
    obtain ⟨q, _, rfl⟩ := List.mem_map.1 hz
    have := dL_range (restS (str pa) q)
    unfold okR at this
    omega)
  have HZl := Lib.hid (show zs.length ≤ 1099511627776 from by
    have hz2 := runes_places (str pa)
    rw [str_list] at hz2
    rw [hzs, hz2, List.length_map]
    have := places_le (str pa) (str pa).size 0 (by omega)
    rw [str_size] at this
    omega)
  clear hA hG hB hS hpl htl hpa hta e1 e2 e3 e4 hbb e5 e6 hzs tT hT hbl
  have mixed : Tryd.prog.follows Departure.mixedOrders = true := by kernel_rfl
  go_enter Tryd.func11, Tryd.ntmps11
  go_wp2_with fail
  refine (HA1.out w (Stay.refl _ _)).mono ?_
  rintro e w1 ⟨rfl, hs⟩
  have HT1 := Lib.hid hs
  clear hs
  go_wp2_with fail
  refine (HG1.out w1 HT1.out).mono ?_
  rintro e w2 ⟨rfl, hs⟩
  have HT2 := Lib.hid (HT1.out.trans hs)
  clear hs
  go_wp2_with fail
  refine (HA2.out w2 HT2.out).mono ?_
  rintro e w3 ⟨rfl, hs⟩
  have HT3 := Lib.hid (HT2.out.trans hs)
  clear hs
  go_wp2_with fail
  refine (HG2.out w3 HT3.out).mono ?_
  rintro e w4 ⟨rfl, hs⟩
  have HT4 := Lib.hid (HT3.out.trans hs)
  clear hs
  go_wp2_with fail
  refine (HA3.out w4 HT4.out).mono ?_
  rintro e w5 ⟨rfl, hs⟩
  have HT5 := Lib.hid (HT4.out.trans hs)
  clear hs
  go_wp2_with fail
  refine (HG3.out w5 HT5.out).mono ?_
  rintro e w6 ⟨rfl, hs⟩
  have HT6 := Lib.hid (HT5.out.trans hs)
  clear hs
  go_wp2_with fail
  refine (HB1.out w6 HT6.out).mono ?_
  rintro e w7 ⟨rfl, hs⟩
  have HT7 := Lib.hid (HT6.out.trans hs)
  clear hs
  go_wp2_with fail
  refine (HB2.out w7 HT7.out).mono ?_
  rintro e w8 ⟨rfl, hs⟩
  have HT8 := Lib.hid (HT7.out.trans hs)
  clear hs
  go_wp2_with fail
  refine (HB3.out w8 HT8.out).mono ?_
  rintro e w9 ⟨rfl, hs⟩
  have HT9 := Lib.hid (HT8.out.trans hs)
  clear hs
  go_wp2_with fail
  refine (HB2.out w9 HT9.out).mono ?_
  rintro e w10 ⟨rfl, hs⟩
  have HT10 := Lib.hid (HT9.out.trans hs)
  clear hs
  go_wp2_with fail
  refine (HRn.out w10).mono ?_
  rintro e w11 ⟨A, c, rfl, hsl, hs⟩
  have HT11 := Lib.hid (HT10.out.trans hs)
  have HSl := Lib.hid hsl
  clear hs hsl
  go_wp2_with fail
  go_loopw [6] (fun v6 wr => ∃ k : Nat, v6 = .int .i64 k ∧ k ≤ zs.length ∧ Stay [] w11 wr)
    (fun v6 _ => (zs.length - intOf v6).toNat)
  case atStart => exact ⟨0, rfl, Nat.zero_le _, Stay.refl _ _⟩
  case round =>
    obtain ⟨k, rfl, hk, hst⟩ := hrel
    have HTr := Lib.hid (HT11.out.trans hst)
    by_cases hkn : k = zs.length
    · subst hkn
      clear hst
      go_wp2_with fail
      refine (HS1.out _ HTr.out).mono ?_
      rintro e u1 ⟨rfl, hs⟩
      have HU1 := Lib.hid (HTr.out.trans hs)
      clear hs
      go_wp2_with fail
      refine (HS2.out u1 HU1.out).mono ?_
      rintro e u2 ⟨rfl, hs⟩
      have HU2 := Lib.hid (HU1.out.trans hs)
      clear hs
      go_wp2_with fail
      refine (HS3.out u2 HU2.out).mono ?_
      rintro e u3 ⟨rfl, hs⟩
      have HU3 := Lib.hid (HU2.out.trans hs)
      clear hs
      go_wp2_with fail
      refine (H26.out u3 HU3.out).mono ?_
      rintro e u4 ⟨rfl, hs⟩
      have HU4 := Lib.hid (HU3.out.trans hs)
      clear hs
      go_wp2_with fail
      go_ret
      exact ⟨rfl, HU4.out⟩
    · have hkl : k < zs.length := by omega
      have hkl' : (k : Int) < zs.length := by omega
      have hn64 : zs.length ≤ 1099511627776 := HZl.out
      have hslr : Sl wr wr.heap.size A (ints .i32 zs) := (HSl.out.below (hst.toBelow (Nat.le_refl _) (by simp))).more hst.size
      obtain ⟨ad, rfl, hadb, hcell⟩ := sl_at hslr hkl
      obtain ⟨z, hz⟩ : ∃ z, z = zs.getD k 0 := ⟨_, rfl⟩
      have hzg : zs[k]? = some z := by rw [hz, List.getD_eq_getElem?_getD, List.getElem?_eq_getElem hkl]; rfl
      rw [← hz] at hcell
      have hsp := nsplit_any z wr (HZr.out z (List.mem_of_getElem? hzg))
      rw [HSp.out z (List.mem_of_getElem? hzg)] at hsp
      have HSpl := Lib.hid hsp
      have HZg := Lib.hid hzg
      have HSt := Lib.hid hst
      have HSlr := Lib.hid hslr
      clear hsp hz hzg hst hslr hk hkn
      go_wp2_with fail
      refine HSpl.out.mono ?_
      rintro e u1 ⟨Am, cm, rfl, hwm, hs⟩
      obtain ⟨gm, om, rfl⟩ := hwm.addr (by simp)
      have m0 := hwm.cell 0 (.int .i32 z) rfl
      rw [Nat.add_zero] at m0
      have HWm := Lib.hid hwm
      obtain ⟨zm, hzm⟩ : ∃ x, x = z := ⟨_, rfl⟩
      have z1 : (zm != z) = false := by rw [hzm]; simp
      have z2 : (zm == z) = true := by rw [hzm]; simp
      have z3 : decide (zm = z) = true := by rw [hzm]; simp
      rw [← hzm] at m0
      clear hzm
      have hslu := HSlr.out.stay_ hs
      have hcell1 := sl_get hslu HZg.out
      have HSu := Lib.hid (HSt.out.trans hs)
      have HSlu := Lib.hid hslu
      clear hs hwm hslu hadb hcell
      go_wp2_with fail
      go_quiet (fail)
      go_wp2_with fail
      obtain ⟨U, hU⟩ : ∃ U, U = u1.drewN nq := ⟨_, rfl⟩
      rw [← hU]
      have hsU : Stay [] u1 U := by rw [hU]; exact Stay.drewN _ _
      have HSU := Lib.hid (HSu.out.trans hsU)
      have hslU := HSlu.out.stay_ hsU
      have HSlU := Lib.hid hslU
      clear hU hsU hcell1 m0 z1 z2 z3
      by_cases hk0 : (0 : Int) < k
      · have hkb1 : decide ((0 : Int) < (k : Int)) = true := decide_eq_true hk0
        have hk0n : 0 < k := by omega
        have hkb2 : decide (0 < k) = true := decide_eq_true hk0n
        obtain ⟨kp, hkp⟩ : ∃ kp, kp = k - 1 := ⟨_, rfl⟩
        have hk1 : ((k : Nat) : Int) - 1 = (kp : Int) := by omega
        have hkpl : (kp : Int) < zs.length := by omega
        have hkp0 : (0 : Int) ≤ kp := by omega
        have hwk : wrap64 (kp : Int) = kp := by unfold wrap64; omega
        have hwk2 : IntKind.i64.wrap (kp : Int) = kp := by simp only [IntKind.wrap, IntKind.bits, IntKind.signed]; simp; omega
        obtain ⟨y, hy⟩ : ∃ y, zs[kp]? = some y := ⟨_, List.getElem?_eq_getElem (by omega)⟩
        have hor := HOr.out kp (by omega)
        have hzk : zs[kp + 1]'(by omega) = z := by
          have := HZg.out
          rw [show k = kp + 1 by omega, List.getElem?_eq_getElem (by omega)] at this
          exact Option.some.inj this
        have hyk : zs[kp]'(by omega) = y := by
          rw [List.getElem?_eq_getElem (by omega)] at hy
          exact Option.some.inj hy
        rw [hzk, hyk] at hor
        have pz : ∀ n os, (grow (U.drewN n) os).cell? (ad.add k) = some (.int .i32 z) := fun n os => sl_get (HSlU.out.stay_ (Stay.grow_ U n os)) HZg.out
        have py : ∀ n os, (grow (U.drewN n) os).cell? (ad.add kp) = some (.int .i32 y) := fun n os => sl_get (HSlU.out.stay_ (Stay.grow_ U n os)) hy
        have HMr := Lib.hid (fun r u => mark_grow r u)
        have HSw := Lib.hid (fun n os => HSU.out.trans (Stay.grow_ U n os))
        clear hzk hyk hy hslU hkp
        by_cases hm0 : markN z = 0
        · have hmb : (markN z != 0) = false := by simpa using hm0
          clear hor hm0
          refine wp_region_quiet_grown (by assumption) (by kernel_rfl) (Shy.out ?_)
          iterate 24 (refine quietH_step (fun K HK => ?_); go_simp; first | (refine HK.out _ ?_; clear HK K) | (apply Exists.intro; refine ⟨fun _ => ?_, HK.out _ ?_⟩; (go_at_call 39; exact Calls.grown_of (HMr.out _ _)); clear HK K))
          refine quietH_nil ?_
          intro _ hw'
          obtain ⟨⟨nq2, osq⟩, hw''⟩ := hw'
          subst hw''
          go_wp2_with fail
          go_roundw
          case rel => exact ⟨k + 1, by simp, by omega, HSw.out _ _⟩
          case measure => simp [intOf]; omega
        · have hmb : (markN z != 0) = true := by simpa using hm0
          have hlt : ¬ markN z < markN y := by have := hor hm0; omega
          have hltb : decide (markN z < markN y) = false := decide_eq_false hlt
          clear hor hm0 hlt
          refine wp_region_quiet_grown (by assumption) (by kernel_rfl) (Shy.out ?_)
          iterate 24 (refine quietH_step (fun K HK => ?_); go_simp; first | (refine HK.out _ ?_; clear HK K) | (apply Exists.intro; refine ⟨fun _ => ?_, HK.out _ ?_⟩; (go_at_call 39; exact Calls.grown_of (HMr.out _ _)); clear HK K))
          refine quietH_nil ?_
          intro _ hw'
          obtain ⟨⟨nq2, osq⟩, hw''⟩ := hw'
          subst hw''
          go_wp2_with fail
          go_roundw
          case rel => exact ⟨k + 1, by simp, by omega, HSw.out _ _⟩
          case measure => simp [intOf]; omega
      · obtain rfl : k = 0 := by omega
        go_quiet (fail)
        go_wp2_with fail
        go_roundw
        case rel => exact ⟨1, rfl, by omega, HSU.out.trans (Stay.drewN _ _)⟩
        case measure => simp [intOf]; omega
end Go.Proofs.YtlphmcodajookaaDoor
