/- LevelRuns: the walk of the law. -/
import Derived.Test.YtikgjnfimagpjaaLspoil
import Derived.Test.YtikgjnfimagpjaaLrruns
import Derived.Test.YtikgjnfimagpjaaLwakes
import Derived.Laws.BytesArg
import Derived.Deep.CutBlock
namespace Go.Proofs.Ytikgjnfimagpjaa
open Go.RowKit
theorem ur32 : Try.prog.underlying 32 = some (.slice 5) := by kernel_rfl
theorem ur5 : Try.prog.underlying 5 = some (.int .u8) := by kernel_rfl
theorem ur9 : Try.prog.underlying 9 = some .string := by kernel_rfl
theorem conv_sl {w : World} {B n c : Nat} {A : Option Addr} {xs : List Int} (h : Sl w B A (ints .u8 xs)) (hn : xs.length = n) : (Go.convert 32 9 (.slice A n c)).run Try.prog w = .ok (.string (strOfNums xs)) w := by
  cases A with
  | none =>
    have hx : xs = [] := by
      cases xs with
      | nil => rfl
      | cons z r =>
        obtain ⟨ad, h, _⟩ := h 0 _ rfl
        cases h
    subst hx
    exact run_convert_bytes_nil w 32 5 ur32 ur5 n c 9 ur9
  | some ad =>
    have hl : (loadCells ad n).run Try.prog w = .ok (xs.map (Value.int .u8)).toArray w := by
      have := run_loadCells_list (P := Try.prog) w ad (xs.map (Value.int .u8)) (fun j v hj => by
        obtain ⟨ad', had, -, hc⟩ := h j v hj
        injection had with had
        subst had
        exact hc)
      simpa [hn] using this
    rw [run_convert_bytes_string w 32 9 5 ad n c ur32 ur5 ur9, run_bytesToString w _ n c xs hl, foldl_push_bytes]
    simp [strOfNums, ByteArray.empty, ByteArray.emptyWithCapacity]
    rfl
theorem samelevels_sl {w : World} {B B2 n c c2 : Nat} {A A2 : Option Addr} {xs : List Int} (h : Sl w B A (ints .u8 xs)) (h2 : Sl w B2 A2 (ints .u8 xs)) (hn : xs.length = n) :
    Calls Try.prog 20 #[.slice A n c, .slice A2 n c2] w fun e w' => e = .returned (.bool true) ∧ w = w' := by
  have e1 := conv_sl (c := c) h hn
  have e2 := conv_sl (c := c2) h2 hn
  clear h h2
  go_enter Try.func20, Try.ntmps20
  go_wp2
  go_ret
  exact ⟨rfl, rfl⟩
theorem Mem.under {w : World} {B : Nat} {F G : List Nat} {ov : Value} {rvs : List Value} {rows : List (List Int)} (h : Mem w B F ov rvs rows) (hG : ∀ g ∈ G, g < B) : Mem w B G ov rvs rows :=
  ⟨h.own, h.len, h.row, fun j v hv x hx => ⟨(h.far j v hv x hx).1, fun hg => by
    have := ((h.row j v hv).lt x hx).1; have := hG x hg; omega⟩, h.apart, fun x hx hg => by
    have := (h.own.lt x hx).1; have := hG x hg; omega⟩
set_option maxRecDepth 20000 in
set_option maxHeartbeats 8000000 in
theorem runslaw_any (zs lv odd : List Int) (A A2 A3 : Option Addr) (c c2 c3 : Nat) (w : World) (hl : zs.length < 1048576) (hl2 : lv.length < 1048576) (hl3 : odd.length < 1048576) (hc : zs.length ≤ c ∧ c ≤ maxLen) (hc2 : lv.length ≤ c2 ∧ c2 ≤ maxLen)
    (h : Sl w w.heap.size A (ints .i8 zs)) (h2 : Sl w w.heap.size A2 (ints .u8 lv)) (h3 : Sl w w.heap.size A3 (ints .i64 odd)) (hlv : ∀ i, 0 ≤ lv.getD i 0 ∧ lv.getD i 0 < 256) :
    Calls Try.prog 5 #[.slice A zs.length c, .slice A2 lv.length c2, .slice A3 odd.length c3] w fun e w' => e = .returned (.bool true) ∧ Below w.heap.size w w' := by
  obtain ⟨i3, hi3, hz30, hz31, hz32⟩ := info_parts info3
  obtain ⟨i5, hi5, hz50, hz51, hz52⟩ := info_parts info5
  have HS := Lib.hid h
  have HS2 := Lib.hid h2
  have HS3 := Lib.hid h3
  have HLV := Lib.hid hlv
  have hmx : maxLen = 9223372036854775807 ∨ 1048577 < maxLen := by unfold maxLen; omega
  have HRL := Lib.hid (show (runsL zs lv).length ≤ min zs.length lv.length ∧ ∀ a, a < (runsL zs lv).length → ((runsL zs lv).getD a []).length ≤ min zs.length lv.length from
    ⟨(rto_good zs lv _ _).len, (rto_good zs lv _ _).each⟩)
  have HLe := Lib.hid (fun w => lent_any zs A c w (by omega))
  have HRr := Lib.hid (fun W (hb : Below w.heap.size w W) => rruns_any zs lv A A2 c c2 W hl hc2 hc ((h.below hb).more hb.size) ((h2.below hb).more hb.size))
  have HRn := Lib.hid (fun W gm cm gr cr (hcm : zs.length ≤ cm ∧ cm ≤ maxLen) (h1 : Sl W W.heap.size (some ⟨gm, 0, none⟩) (ints .i8 zs)) (h2 : Sl W W.heap.size (some ⟨gr, 0, none⟩) (ints .u8 lv)) => runs_any zs lv (some ⟨gm, 0, none⟩) (some ⟨gr, 0, none⟩) cm cr W hl (by unfold maxLen; omega) hcm h1 h2)
  clear h h2 h3 hlv
  go_enter Try.func5, Try.ntmps5
  go_wp2_with fail
  refine (HLe.out w HS.out).mono ?_
  rintro e w1 ⟨gm, cm, rfl, hcm1, hcm2, hmo, hb1⟩
  have HM1 := Lib.hid hmo
  have HB1 := Lib.hid hb1
  have hsz1 := hb1.size
  have hs2 := Lib.hid (HS2.out.below hb1)
  clear hmo hb1 HLe
  go_upto_region 3 with (first
    | (at_builtin; refine wpList_append_sl2 _ rfl (.tmp 23) (.tmp 24) 32 rfl w1.heap.size 5 i5 _ 1 Try.underlying32 hi5 hz50 hz51 hz52 rfl (.slice (some ⟨w1.heap.size, 0, none⟩) 0 0) 0 [] rfl rfl (own_empty w1 5) w.heap.size A2 c2 lv.length (ints .u8 lv) (by simp) rfl (hs2.out.alloc hsz1 _) (ints_one _ _) (by unfold maxLen; omega) (by omega) (by simp) ?_; intro A1 cr1 w2 ho2 ha2
       rw [Nat.zero_add] at *
       have HB2 := Lib.hid (((Below.refl w1.heap.size w1).alloc (Nat.le_refl _) (.cells #[] 5)).trans (appended_below ha2 (by simp) (fun g hg => Nat.le_of_eq (by simpa [Value.ownBlock] using hg))))
       have HO2 := Lib.hid (show Own w2 5 w1.heap.size (.slice A1 lv.length cr1) (ints .u8 lv) from by simpa using ho2)
       clear ho2 ha2)
    | (at_builtin; refine wpList_append_sl2 _ rfl (.tmp 25) (.tmp 26) 32 rfl w1.heap.size 5 i5 _ 1 Try.underlying32 hi5 hz50 hz51 hz52 rfl (.slice A1 lv.length cr1) lv.length (ints .u8 lv) (by simp) rfl (HO2.out.alloc _) _ _ _ 1 [.int .u8 99] rfl rfl (sl_one' _ _ _ _ (by simp)) (one_int _ _) (by unfold maxLen; omega) (by omega) (by rw [size_alloc']; have := HB2.out.size; omega) ?_; intro A4 cr w3 ho3 ha3
       have HB3 := Lib.hid (show Below w1.heap.size w1 w3 from (HB2.out.alloc HB2.out.size _).trans (appended_below ha3 (by rw [size_alloc']; have := HB2.out.size; omega) (fun g hg => (HO2.out.lt g hg).1)))
       rw [ints_snoc] at ho3
       obtain ⟨-, gr, rfl, hBg, hgl⟩ := ho3.form (by simp)
       have hcap := ho3.cap
       have HO3 := Lib.hid ho3
       simp only [ints_length, List.length_append, List.length_cons, List.length_nil] at hcap
       clear ho3 ha3))
  have hrc : (lv.length : Int) ≤ cr := by omega
  have hmc : (zs.length : Int) ≤ cm := by omega
  have HBr := Lib.hid hBg
  have HB3' := Lib.hid (HB1.out.trans (HB3.out.mono HB1.out.size))
  have HMI := Lib.hid (HM1.out.below_ (HB3.out))
  have HRO := Lib.hid (own_mono HO3.out HB1.out.size)
  clear HM1 HO2 HO3 HB1 HB2 HB3 hs2 hBg hgl hcap
  -- the document's runs
  go_wp2_with fail
  refine (HRr.out w3 HB3'.out).mono ?_
  rintro e w4 ⟨WA, wc, wv, rfl, hmw, hb4⟩
  obtain ⟨R, hR⟩ : ∃ R, R = runsL zs lv := ⟨_, rfl⟩
  rw [← hR] at hmw HRn HRL ⊢
  have HB4 := Lib.hid (HB3'.out.trans (hb4.mono HB3'.out.size))
  have HMI4 := Lib.hid (HMI.out.below_ hb4)
  have HRO4 := Lib.hid (HRO.out.below_ hb4)
  have HW4 := Lib.hid hmw
  have hz34 := hb4.size
  clear hb4 hmw HMI HRO HRr hR
  have hmine : ∀ W, Below w4.heap.size w4 W → Sl W W.heap.size (some ⟨gm, 0, none⟩) (ints .i8 zs) := fun W hb => by
    have := (HMI4.out.below_ hb).sl
    rw [ints_app] at this
    exact sl_prefix this
  have hroom : ∀ W, Below w4.heap.size w4 W → Sl W W.heap.size (some ⟨gr, 0, none⟩) (ints .u8 lv) := fun W hb => by
    have := (HRO4.out.below_ hb).sl
    rw [ints_app] at this
    exact sl_prefix this
  have HMn := Lib.hid hmine
  have HRm := Lib.hid hroom
  clear hmine hroom
  go_wp2_with fail
  refine (HRn.out w4 gm cm gr cr ⟨by omega, hcm2⟩ (HMn.out w4 (Below.refl _ _)) (HRm.out w4 (Below.refl _ _))).mono ?_
  rintro e w5 ⟨av, ars, rfl, hma, hb5⟩
  obtain ⟨AA, ac, rfl⟩ := hma.own.slice
  rw [hma.len] at hma ⊢
  have HA5 := Lib.hid hma
  have HB5 := Lib.hid hb5
  have hz45 := hb5.size
  clear hma hb5
  go_wp2_with fail
  refine (HRn.out w5 gm cm gr cr ⟨by omega, hcm2⟩ (HMn.out w5 HB5.out) (HRm.out w5 HB5.out)).mono ?_
  rintro e w6 ⟨bv, brs, rfl, hmb, hb6⟩
  obtain ⟨BA, bc, rfl⟩ := hmb.own.slice
  rw [hmb.len] at hmb ⊢
  have HBb6 := Lib.hid hmb
  have HB6 := Lib.hid (HB5.out.trans (hb6.mono hz45))
  have HA6 := Lib.hid (HA5.out.keep (G := []) (Stay.below hb6) (by simp))
  have HW6 := Lib.hid (HW4.out.keep (G := []) (Stay.below (HB5.out.trans (hb6.mono hz45))) (by simp))
  have hz56 := hb6.size
  have HR1 := Lib.hid (show R.length ≤ 1048576 from by have := HRL.out.1; omega)
  have HR2 := Lib.hid (show ∀ a, a < R.length → (R.getD a []).length ≤ 1048576 from fun a ha => by have := HRL.out.2 a ha; omega)
  -- the blocks of a's rows
  obtain ⟨G, hG⟩ : ∃ G, G = ars.filterMap Value.ownBlock := ⟨_, rfl⟩
  have HG := Lib.hid (show ∀ g ∈ G, w4.heap.size ≤ g ∧ g < w5.heap.size from fun g hg => by
    rw [hG] at hg
    obtain ⟨v, hv, hvg⟩ := List.mem_filterMap.1 hg
    obtain ⟨q, hq, hqv⟩ := List.mem_iff_getElem.1 hv
    exact (HA5.out.row q v (by rw [← hqv]; exact List.getElem?_eq_getElem _)).lt g hvg)
  have HGe := Lib.hid hG
  have HBb7 := Lib.hid (HBb6.out.under (G := G) (fun g hg => (HG.out g hg).2))
  have HW7 := Lib.hid (show Mem w6 w3.heap.size G (.slice WA R.length wc) wv R from (HW4.out.others (G := G) (fun g hg => .inr (HG.out g hg).1)).keep (G := []) (Stay.below (HB5.out.trans (hb6.mono hz45))) (by simp))
  clear hmb hb6 hG HA5 HRn HRL HBb6
  go_wp2_with fail
  refine (sameruns_any R _ _ _ _ ars wv AA WA ac wc w6 HR1.out HR2.out HA6.out HW6.out).mono ?_
  rintro e w7 ⟨rfl, q7, hw7⟩
  have hst7 : Stay [] w6 w7 := by rw [hw7]; exact Stay.drewN _ _
  have HS7 := Lib.hid hst7
  clear hw7 hst7
  go_wp2_with fail
  refine (sameruns_any R _ _ _ _ brs wv BA WA bc wc w7 HR1.out HR2.out (HBb7.out.keep (G := []) HS7.out (by simp)) (HW7.out.keep (G := []) HS7.out (by simp))).mono ?_
  rintro e w8 ⟨rfl, q8, hw8⟩
  have hst8 : Stay [] w7 w8 := by rw [hw8]; exact Stay.drewN _ _
  have HS8 := Lib.hid (HS7.out.trans hst8)
  clear hw8 hst8 HS7
  go_wp2_with fail
  refine (spoil_any R w4.heap.size [] ars AA ac w8 HR1.out HR2.out (HA6.out.keep (G := []) HS8.out (by simp)) (by have := HS8.out.size; omega)).mono ?_
  rintro e w9 ⟨rfl, hst9⟩
  rw [← HGe.out] at hst9
  have HS9 := Lib.hid ((HS8.out.mono (G := G) (by simp)).trans hst9)
  clear hst9 HS8 HA6 HGe
  go_wp2_with fail
  refine (sameruns_any R _ _ _ _ brs wv BA WA bc wc w9 HR1.out HR2.out (HBb7.out.keep (G := G) HS9.out (fun g hg => hg)) (HW7.out.keep (G := G) HS9.out (fun g hg => hg))).mono ?_
  rintro e w10 ⟨rfl, q10, hw10⟩
  have hst10 : Stay [] w9 w10 := by rw [hw10]; exact Stay.drewN _ _
  have HS10 := Lib.hid (show Stay G w6 w10 from HS9.out.trans (hst10.mono (by simp)))
  have HB10 := Lib.hid (show Below w4.heap.size w4 w10 from HB6.out.trans (HS10.out.toBelow (by omega) (fun g hg => (HG.out g hg).1)))
  have HMI10 := Lib.hid (HMI4.out.below_ HB10.out)
  have HRO10 := Lib.hid (HRO4.out.below_ HB10.out)
  have HW10 := Lib.hid (HW7.out.keep (G := G) HS10.out (fun g hg => hg))
  have HBw := Lib.hid (HB4.out.trans (HB10.out.mono HB4.out.size))
  clear hw10 hst10 HS9 HS10 HB10 HMI4 HRO4 HW7 HBb7 HW6 HB6 HB5 HB4 HB3' HG HMn HRm HW4
  obtain ⟨W, hW⟩ : ∃ W, W = w10 := ⟨_, rfl⟩
  rw [← hW] at HMI10 HRO10 HW10 HBw ⊢
  clear hW
  have hmine : ∀ wx, Below W.heap.size W wx → Sl wx wx.heap.size (some ⟨gm, 0, none⟩) (ints .i8 zs) := fun wx hb => by
    have := (HMI10.out.below_ hb).sl
    rw [ints_app] at this
    exact sl_prefix this
  have hroom : ∀ wx, Below W.heap.size W wx → Sl wx wx.heap.size (some ⟨gr, 0, none⟩) (ints .u8 lv) := fun wx hb => by
    have := (HRO10.out.below_ hb).sl
    rw [ints_app] at this
    exact sl_prefix this
  have HMn := Lib.hid hmine
  have HRm := Lib.hid hroom
  clear hmine hroom
  go_upto_block 0 with fail
  go_cut [13] (fun _ wx => Below W.heap.size W wx)
  case first => as_aux_lemma =>
    go_wp2_with fail
    go_loopw [13] (fun iv wr => ∃ i : Nat, i ≤ 300 ∧ iv = .int .i64 i ∧ Below W.heap.size W wr) (fun iv _ => 300 - (intOf iv).toNat)
    case atStart => exact ⟨0, by omega, rfl, Below.refl _ _⟩
    case round =>
      obtain ⟨i, hi, rfl, hbr⟩ := hrel
      have HB := Lib.hid hbr
      clear hbr
      by_cases h1 : i ≤ R.length
      · have h1' : (i : Int) ≤ R.length := by omega
        by_cases h2 : i < 300
        · have h2' : (i : Int) < 300 := by omega
          go_upto_if 76 with fail
          go_cut [14] (fun rv wx => ∃ (RA : Option Addr) (rc : Nat) (xs : List Int), rv = .slice RA xs.length rc ∧ Sl wx wx.heap.size RA (ints .i64 xs) ∧ xs.length ≤ 1048576 ∧ wx = wr)
          case first =>
            by_cases h3 : i < R.length
            · have h3' : (i : Int) < R.length := by omega
              have hi0 : (0 : Int) ≤ i := by omega
              obtain ⟨g, RA, rl, rc, rfl, -, hcO, -, -, hrl, hoR, -⟩ := (HW10.out.keep (G := []) (Stay.below HB.out) (by simp)).at_ i h3
              have HSl := Lib.hid hoR.sl
              have hle := HR2.out i h3
              have HRl := Lib.hid hrl
              clear hoR hrl
              go_wp2_with fail
              go_meet
              exact ⟨RA, rc, R.getD i [], by rw [HRl.out], HSl.out, hle, rfl⟩
            · have h3' : ¬ (i : Int) < R.length := by omega
              go_wp2_with fail
              go_meet
              exact ⟨A3, c3, odd, rfl, (HS3.out.below (HBw.out.trans (HB.out.mono HBw.out.size))).more (HBw.out.trans (HB.out.mono HBw.out.size)).size, by omega, rfl⟩
          case rest =>
            obtain ⟨RA, rc, xs, rfl, hxs, hxl, hwc⟩ := hcut
            have hwc' := hwc.symm
            subst hwc'
            have HXs := Lib.hid hxs
            clear hxs
            have hszW := HB.out.size
            go_wp2_with (first
              | (at_builtin; refine wpList_append_sl2 _ rfl (.tmp 81) (.tmp 82) 25 rfl wr.heap.size 3 i3 _ 8 Try.underlying25 hi3 hz30 hz31 hz32 rfl (.slice (some ⟨wr.heap.size, 0, none⟩) 0 0) 0 [] rfl rfl (own_empty wr 3) wr.heap.size RA rc xs.length (ints .i64 xs) (by simp) rfl (HXs.out.alloc (Nat.le_refl _) _) (ints_one _ _) (by unfold maxLen; omega) (by omega) (by simp) ?_; intro P1 pc1 w2 ho2 ha2
                 rw [Nat.zero_add] at *
                 have HP2 := Lib.hid (((Below.refl wr.heap.size wr).alloc (Nat.le_refl _) (.cells #[] 3)).trans (appended_below ha2 (by simp) (fun g hg => Nat.le_of_eq (by simpa [Value.ownBlock] using hg))))
                 have HQ2 := Lib.hid (show Own w2 3 wr.heap.size (.slice P1 xs.length pc1) (ints .i64 xs) from by simpa using ho2)
                 clear ho2 ha2)
              | (at_builtin; refine wpList_append_sl2 _ rfl (.tmp 83) (.tmp 84) 25 rfl wr.heap.size 3 i3 _ 8 Try.underlying25 hi3 hz30 hz31 hz32 rfl (.slice P1 xs.length pc1) xs.length (ints .i64 xs) (by simp) rfl (HQ2.out.alloc _) _ _ _ 1 [.int .i64 7] rfl rfl (sl_one' _ _ _ _ (by simp)) (one_int _ _) (by unfold maxLen; omega) (by omega) (by rw [size_alloc']; have := HP2.out.size; omega) ?_; intro P3 pc w3 ho3 ha3
                 have HP3 := Lib.hid (show Below wr.heap.size wr w3 from (HP2.out.alloc HP2.out.size _).trans (appended_below ha3 (by rw [size_alloc']; have := HP2.out.size; omega) (fun g hg => (HQ2.out.lt g hg).1)))
                 rw [ints_snoc] at ho3
                 obtain ⟨-, gp, rfl, hBg, hgl⟩ := ho3.form (by simp)
                 have hcap := ho3.cap
                 have HQ3 := Lib.hid ho3
                 simp only [ints_length, List.length_append, List.length_cons, List.length_nil] at hcap
                 clear ho3 ha3))
            have hpc : (xs.length : Int) ≤ pc := by omega
            have HXs3 := Lib.hid ((HXs.out.below HP3.out).more HP3.out.size)
            have HB3 := Lib.hid (HB.out.trans (HP3.out.mono hszW))
            have HPP := Lib.hid HP3.out
            clear HP2 HP3 HQ2 HXs hBg hgl hcap
            go_loopw [16] (fun bv wx => ∃ bs : Nat, bs ≤ 2 ∧ bv = .int .u8 bs ∧ Below w3.heap.size w3 wx) (fun bv _ => 2 - (intOf bv).toNat)
            case atStart => exact ⟨0, by omega, rfl, Below.refl _ _⟩
            case round =>
              obtain ⟨bs, hbs, rfl, hbu⟩ := hrel
              have hbW := HB3.out.trans (hbu.mono HB3.out.size)
              have hbw := HBw.out.trans (hbW.mono HBw.out.size)
              by_cases hb2 : bs < 2
              · have hb2' : (bs : Int) < 2 := by omega
                have HSi := Lib.hid (rsides_any zs lv xs bs A A2 RA c c2 rc wr hl (by unfold maxLen; omega) (by omega) hc ((HS.out.below hbw).more hbw.size) ((HS2.out.below hbw).more hbw.size) ((HXs3.out.below hbu).more hbu.size) ⟨by omega, by omega⟩ HLV.out)
                have HQw := Lib.hid (HQ3.out.below_ hbu)
                have HBu := Lib.hid hbu
                have HBW := Lib.hid hbW
                have HXw := Lib.hid ((HXs3.out.below hbu).more hbu.size)
                clear hbu hbW hbw
                obtain ⟨sd, hsd⟩ : ∃ sd, sd = sidesL zs lv bs xs := ⟨_, rfl⟩
                rw [← hsd] at HSi
                have HSD := Lib.hid hsd
                clear hsd
                go_wp2_with fail
                refine HSi.out.mono ?_
                rintro e w4 ⟨rfl, hb4⟩
                have hz4 := hb4.size
                have HQ4 := Lib.hid (HQw.out.below_ hb4)
                have HB4 := Lib.hid (HBu.out.trans (hb4.mono HBu.out.size))
                have HX4 := Lib.hid ((HXw.out.below hb4).more hb4.size)
                have hbW4 := HBW.out.trans (hb4.mono HBW.out.size)
                have hpl : Sl w4 w4.heap.size (some ⟨gp, 0, none⟩) (ints .i64 xs) := by
                  have := HQ4.out.sl
                  rw [ints_app] at this
                  exact sl_prefix this
                have HSj := Lib.hid (sides_any zs lv xs bs (some ⟨gm, 0, none⟩) (some ⟨gr, 0, none⟩) (some ⟨gp, 0, none⟩) cm cr pc w4 hl (by unfold maxLen; omega) (by omega) ⟨by omega, hcm2⟩ (HMn.out w4 hbW4) (HRm.out w4 hbW4) hpl ⟨by omega, by omega⟩ HLV.out)
                rw [← HSD.out] at HSj
                clear hb4 hbW4 hpl HQw HBu HXw HSi HBW
                go_wp2_with fail
                refine HSj.out.mono ?_
                rintro e w5 ⟨rfl, hb5⟩
                have HQ5 := Lib.hid (HQ4.out.below_ hb5)
                have HB5 := Lib.hid (HB4.out.trans (hb5.mono HB4.out.size))
                have hpl : Sl w5 w5.heap.size (some ⟨gp, 0, none⟩) (ints .i64 xs) := by
                  have := HQ5.out.sl
                  rw [ints_app] at this
                  exact sl_prefix this
                have HSm := Lib.hid (sameints_quiet xs (some ⟨gp, 0, none⟩) RA pc rc w5 (by omega) hpl ((HX4.out.below hb5).more hb5.size))
                clear hb5 hpl HQ4 HB4 HX4 HSj
                obtain ⟨s1, s2⟩ := sd
                go_wp2_with fail
                refine HSm.out.mono ?_
                rintro e w6 ⟨rfl, q6, hw6⟩
                have hb6 : Below w5.heap.size w5 w6 := by rw [hw6]; exact below_drewN' (Below.refl _ _) _
                have hk7 := own_at (HQ5.out.below_ hb6) (i := xs.length) (by simp)
                rw [show (xs ++ [(7 : Int)]).getD xs.length 0 = 7 from getD_app2 xs [7] 0] at hk7
                have HB6 := Lib.hid (HB5.out.trans (hb6.mono HB5.out.size))
                have hxn : (xs.length : Int) < (xs.length : Int) + 1 := by omega
                clear hw6 hb6 HSm
                go_wp2_with fail
                go_roundw
                case rel => exact ⟨bs + 1, by omega, by go_num, HB6.out⟩
                case measure => simp [intOf]; omega
              · have hb2' : ¬ (bs : Int) < 2 := by omega
                have HBW := Lib.hid hbW
                clear hbu hbW hbw
                go_wp2_with fail
                go_roundw
                case rel => exact ⟨i + 1, by omega, by go_num, HBW.out⟩
                case measure => simp [intOf]; omega
        · have h2' : ¬ (i : Int) < 300 := by omega
          go_wp2_with fail
          go_meet
          exact HB.out
      · have h1' : ¬ (i : Int) ≤ R.length := by omega
        go_wp2_with fail
        go_meet
        exact HB.out
  case rest =>
    have hbr := hcut
    have hbw := HBw.out.trans (hbr.mono HBw.out.size)
    have HKe := Lib.hid (kept_any zs gm w.heap.size A c cm wc (by omega) (HMI10.out.below_ hbr) ((HS.out.below hbw).more hbw.size))
    have HBx := Lib.hid hbr
    have HBy := Lib.hid hbw
    have hL1 : (lv.length : Int) < (lv.length : Int) + 1 := by omega
    clear hbr hbw hcut
    go_wp2_with fail
    refine HKe.out.mono ?_
    rintro e w11 ⟨rfl, hb11⟩
    have HB11 := Lib.hid (HBx.out.trans (hb11.mono HBx.out.size))
    have HB11w := Lib.hid (HBy.out.trans (hb11.mono HBy.out.size))
    have HSL := Lib.hid (samelevels_sl (c := cr) (c2 := c2) (HRm.out w11 HB11.out) ((HS2.out.below HB11w.out)) rfl)
    clear hb11 HKe
    go_wp2_with fail
    refine HSL.out.mono ?_
    rintro e w12 ⟨rfl, hw12⟩
    have hw12' := hw12.symm
    subst hw12'
    clear hw12
    have hk9 := own_at (HRO10.out.below_ HB11.out) (i := lv.length) (by simp)
    rw [show (lv ++ [(99 : Int)]).getD lv.length 0 = 99 from getD_app2 lv [99] 0] at hk9
    go_wp2_with fail
    refine (wakes_any _).mono ?_
    rintro e w13 ⟨rfl, hb13⟩
    go_wp2_with fail
    go_ret
    exact ⟨rfl, HB11w.out.trans (hb13.mono HB11w.out.size)⟩
end Go.Proofs.Ytikgjnfimagpjaa
