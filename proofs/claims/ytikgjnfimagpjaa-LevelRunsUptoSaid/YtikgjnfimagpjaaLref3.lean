/- package level: lent, kept; the document's Pairs. -/
import Derived.Test.YtikgjnfimagpjaaLref2
namespace Go.Proofs.Ytikgjnfimagpjaa
open Go.RowKit
theorem own_in {w : World} {e : TypeId} {B g n c : Nat} {xs : List Value} (h : Own w e B (.slice (some ⟨g, 0, none⟩) n c) xs) : B ≤ g ∧ g < w.heap.size := h.lt g rfl
set_option maxHeartbeats 2000000 in
theorem lent_any (zs : List Int) (A : Option Addr) (c : Nat) (w : World) (hl : zs.length ≤ 2097152) (h : Sl w w.heap.size A (ints .i8 zs)) :
    Calls Try.prog 10 #[.slice A zs.length c] w fun e w' => ∃ g c', e = .returned (.slice (some ⟨g, 0, none⟩) zs.length c') ∧ zs.length + 2 ≤ c' ∧ c' ≤ maxLen ∧
      Own w' 23 w.heap.size (.slice (some ⟨g, 0, none⟩) (zs.length + 2) c') (ints .i8 (zs ++ [77, 78])) ∧ Below w.heap.size w w' := by
  obtain ⟨i0, hi0, hz0, hz1, hz2⟩ := info_parts info23
  have HE := Lib.hid (own_empty w 23)
  have HA := Lib.hid (h.alloc (Nat.le_refl _) (.cells #[] 23))
  go_enter Try.func10, Try.ntmps10
  go_wp2_with (first
    | (at_builtin; refine wpList_append_sl2 _ rfl (.tmp 3) (.tmp 4) 22 rfl w.heap.size 23 i0 _ 1 Try.underlying22 hi0 hz0 hz1 hz2 rfl (.slice (some ⟨w.heap.size, 0, none⟩) 0 0) 0 [] rfl rfl HE.out w.heap.size A c zs.length (ints .i8 zs) (by simp) rfl HA.out (ints_one _ _) (by unfold maxLen; omega) (by omega) (by simp) ?_; intro A1 c1 w2 ho2 ha2
       rw [Nat.zero_add] at *
       have HB2 := Lib.hid (((Below.refl w.heap.size w).alloc (Nat.le_refl _) (.cells #[] 23)).trans (appended_below ha2 (by simp) (fun g hg => Nat.le_of_eq (by simpa [Value.ownBlock] using hg))))
       have HO2 := Lib.hid (show Own w2 23 w.heap.size (.slice A1 zs.length c1) (ints .i8 zs) from by simpa using ho2)
       clear ho2 ha2)
    | (at_builtin; refine wpList_append_sl2 _ rfl (.tmp 5) (.tmp 6) 22 rfl w.heap.size 23 i0 _ 1 Try.underlying22 hi0 hz0 hz1 hz2 rfl (.slice A1 zs.length c1) zs.length (ints .i8 zs) (by simp) rfl (HO2.out.alloc _) (w2.heap.size + 1) (some ⟨w2.heap.size, 0, none⟩) 2 2 (ints .i8 [77, 78]) rfl rfl (sl_new w2 .i8 [77, 78] 23) (ints_one _ _) (by unfold maxLen; omega) (by omega) (by rw [size_alloc']; have := HB2.out.size; omega) ?_; intro A3 c3 w3 ho3 ha3
       have HB3 := Lib.hid (show Below w.heap.size w w3 from (HB2.out.alloc HB2.out.size _).trans (appended_below ha3 (by rw [size_alloc']; have := HB2.out.size; omega) (fun g hg => (HO2.out.lt g hg).1)))
       rw [← ints_app] at ho3
       obtain ⟨-, g, rfl, hBg, hgl⟩ := ho3.form (by simp)
       have hcap := ho3.cap
       have HO3 := Lib.hid ho3
       simp only [ints_length, List.length_append, List.length_cons, List.length_nil] at hcap
       have hn1 : (zs.length : Int) ≤ c3 := by omega
       clear ho3 ha3))
  exact bodyPost_ret (v := .slice (some ⟨g, 0, none⟩) zs.length c3) (by simp [results, Try.results10, go_sem]) rfl ⟨g, c3, rfl, by omega, hcap.2, HO3.out, HB3.out⟩
set_option maxHeartbeats 2000000 in
theorem kept_any (zs : List Int) (g B : Nat) (A : Option Addr) (c c' : Nat) (w : World) (hl : zs.length ≤ 2097152) (hx : Own w 23 B (.slice (some ⟨g, 0, none⟩) (zs.length + 2) c') (ints .i8 (zs ++ [77, 78]))) (h : Sl w w.heap.size A (ints .i8 zs)) :
    Calls Try.prog 16 #[.slice (some ⟨g, 0, none⟩) zs.length c', .slice A zs.length c] w fun e w' => e = .returned (.bool true) ∧ Below w.heap.size w w' := by
  have hsl : Sl w w.heap.size (some ⟨g, 0, none⟩) (ints .i8 zs) := by
    have := hx.sl
    rw [ints_app] at this
    exact sl_prefix this
  have hs := samedirs_any zs zs (some ⟨g, 0, none⟩) A c' c w (by omega) (by omega) hsl h
  rw [decide_eq_true (rfl : zs = zs)] at hs
  have HS := Lib.hid hs
  clear hs
  have hcap := hx.cap
  simp only [ints_length, List.length_append, List.length_cons, List.length_nil] at hcap
  have hc1 : (zs.length : Int) + 2 ≤ c' := by omega
  have HX := Lib.hid hx
  have E77 := Lib.hid (show ((zs ++ [77, 78]).getD zs.length (0 : Int)) = (77 : Int) from getD_app2 zs [77, 78] 0)
  have E78 := Lib.hid (show ((zs ++ [77, 78]).getD (zs.length + 1) (0 : Int)) = (78 : Int) from getD_app2 zs [77, 78] 1)
  have hn1 : (zs.length : Int) < (zs.length : Int) + 2 := by omega
  have hn2 : (zs.length : Int) + 1 < (zs.length : Int) + 2 := by omega
  have hn3 : (0 : Int) ≤ (zs.length : Int) + 1 := by omega
  clear hx h hsl
  go_enter Try.func16, Try.ntmps16
  go_wp2_with (first
    | (go_at_call 21; refine HS.out.mono ?_; rintro e w1 ⟨rfl, hb⟩
       have hk1 := own_at (HX.out.below_ hb) (i := zs.length) (by simp)
       have hk2 := own_at (HX.out.below_ hb) (i := zs.length + 1) (by simp)
       rw [E77.out] at hk1
       rw [E78.out] at hk2
       have HB := Lib.hid hb
       clear hb))
  go_ret
  exact ⟨rfl, HB.out⟩
theorem set_take_snoc (l : List Int) (k : Nat) (v : Int) (hk : k < l.length) : l.take k ++ [v] = (l.set k v).take (k + 1) := by
  have h1 : k < (l.set k v).length := by simpa using hk
  rw [List.take_succ_eq_append_getElem h1, List.take_set_of_le (Nat.le_refl k)]
  simp
theorem set_take_lt (l : List Int) (k i : Nat) (v : Int) : (l.take k).set i v = (l.set i v).take k := by
  rw [List.take_set]
theorem sorted_len : ∀ (l : List Nat) (k : Nat), l.Pairwise (· < ·) → (∀ x ∈ l, x < k) → l.length ≤ k
  | [], _, _, _ => Nat.zero_le _
  | a :: l, k, hp, hk => by
    rw [List.pairwise_cons] at hp
    have hk0 := hk a (by simp)
    have ih := sorted_len (l.map (· - 1)) (k - 1) (by
      rw [List.pairwise_map]
      exact hp.2.imp_of_mem fun {x y} hx hy hxy => by
        have := hp.1 x hx
        omega) (by
      intro x hx
      simp at hx
      obtain ⟨y, hy, rfl⟩ := hx
      have h1 := hp.1 y hy
      have h2 := hk y (by simp [hy])
      omega)
    simp at ih
    simp
    omega
set_option maxRecDepth 20000 in
set_option maxHeartbeats 8000000 in
theorem rpairs_any (zs : List Int) (A : Option Addr) (c : Nat) (w : World) (hl : zs.length ≤ 2097152) (h : Sl w w.heap.size A (ints .i8 zs)) :
    Calls Try.prog 11 #[.slice A zs.length c] w fun e w' => ∃ A' c', e = .returned (.slice A' zs.length c') ∧ Own w' 3 w.heap.size (.slice A' zs.length c') (ints .i64 (pairsL zs)) ∧ Below w.heap.size w w' := by
  obtain ⟨i0, hi0, hz0, hz1, hz2⟩ := info_parts info3
  have HC := Lib.hid (classes_any zs A c w hl h)
  clear h
  go_enter Try.func11, Try.ntmps11
  go_wp2_with (first
    | (go_at_call 33; refine HC.out.mono ?_; rintro e w1 ⟨CA, cc, rfl, hco, hcb⟩
       have HCO := Lib.hid hco
       have HCB := Lib.hid hcb
       clear hco hcb))
  go_loopw [4, 5, 6] (fun ov op iv wr => ∃ (k : Nat) (X : Option Addr) (xc : Nat) (Y : Option Addr) (m yc : Nat), k ≤ zs.length ∧ ov = .slice X k xc ∧ op = .slice Y m yc ∧ iv = .int .i64 k ∧ Hid ((pto zs k).2.length = m) ∧
      Own wr 3 w1.heap.size (.slice X k xc) (ints .i64 ((pto zs k).1.take k)) ∧ Own wr 3 w1.heap.size (.slice Y m yc) (ints .i64 (castL (pto zs k).2)) ∧ (∀ g, (Value.slice X k xc).ownBlock = some g → (Value.slice Y m yc).ownBlock ≠ some g) ∧ Below w1.heap.size w1 wr)
    (fun _ _ i _ => zs.length - (intOf i).toNat)
  case atStart => exact ⟨0, none, 0, none, 0, 0, by omega, rfl, rfl, rfl, rfl, by rw [show ((pto zs 0).1.take 0) = [] from rfl]; exact Own.nil_ _ _ _, Own.nil_ _ _ _, by simp [Value.ownBlock], Below.refl _ _⟩
  case round =>
    obtain ⟨k, X, xc, Y, m, yc, hk, rfl, rfl, rfl, HM, hx, hy, hn, hb⟩ := hrel
    by_cases hlt : k < zs.length
    · have hpl := pto_length zs k
      obtain ⟨-, gc, rfl, hgc1, hgc2⟩ := HCO.out.form (by rw [ints_length, List.length_map]; omega)
      have hcl := own_at (HCO.out.below_ hb) (i := k) (by simpa using hlt)
      have HCL := Lib.hid (show (zs.map clsL).getD k 0 = clsL (zs.getD k 0) from by simp [List.getD_eq_getElem?_getD, hlt])
      rw [HCL.out] at hcl
      have HXL := Lib.hid (show (ints .i64 ((pto zs k).1.take k)).length = k from by simp; omega)
      have HYL := Lib.hid (show (ints .i64 (castL (pto zs k).2)).length = m from by simp [HM.out])
      have HE : Hid (pto zs (k + 1) = pstep k (zs.getD k 0) (pto zs k)) := rfl
      have HPK := Lib.hid (show k < (pto zs k).1.length from by omega)
      have HMEM := Lib.hid (pto_open zs k)
      have hmk : m ≤ k := by
        obtain ⟨hpw, -⟩ := pto_inv zs k hk
        rw [← HM.out]
        exact sorted_len _ k hpw HMEM.out
      have HO := Lib.hid (fun w => begins_any (clsL (zs.getD k 0)) w)
      have HX := Lib.hid hx
      have HY := Lib.hid hy
      have HN := Lib.hid hn
      have HB := Lib.hid hb
      obtain ⟨d, hd⟩ : ∃ d, d = clsL (zs.getD k 0) := ⟨_, rfl⟩
      rw [← hd] at hcl HCL HO
      have HD := Lib.hid hd
      clear hx hy hn hb hd hpl
      have hk1 : (k : Int) < (k : Int) + 1 := by omega
      have hk2 : (k : Int) < zs.length := by omega
      cases hop : opensB d with
      | true =>
        rw [hop] at HO
        have HE2 := Lib.hid (HE.out.trans (by unfold pstep; rw [← HD.out, if_pos hop] : _ = ((pto zs k).1.set k (-1), (pto zs k).2 ++ [k])))
        clear hop
        go_wp2_with (first
          | (at_builtin; refine wpList_append_sl2 _ rfl (.tmp 16) (.tmp 17) 25 rfl w1.heap.size 3 i0 _ 8 Try.underlying25 hi0 hz0 hz1 hz2 rfl (.slice X k xc) k _ HXL.out rfl (HX.out.alloc _) _ _ _ 1 [.int .i64 (-1)] rfl rfl (sl_one' _ _ _ _ (by simp)) (one_int _ _) (by unfold maxLen; omega) (by omega) (by rw [size_alloc']; have := HB.out.size; omega) ?_; intro X2 xc2 w2 ho2 ha2; have HX2 := Lib.hid (show Own w2 3 w1.heap.size (.slice X2 (k + 1) xc2) (ints .i64 (((pto zs k).1.set k (-1)).take (k + 1))) from by rw [ints_snoc, set_take_snoc _ _ _ HPK.out] at ho2; exact ho2); have hy2 := appended_other ha2 (HY.out.alloc _) (fun g hg => fun e => HN.out g e hg); have HY2 := Lib.hid hy2; have HB2 := Lib.hid (show Below w1.heap.size w1 w2 from (HB.out.alloc HB.out.size _).trans (appended_below ha2 (by rw [size_alloc']; have := HB.out.size; omega) (fun g hg => (HX.out.lt g hg).1))); have hcl2 := own_at (HCO.out.below_ HB2.out) (i := k) (by simpa using hlt); rw [HCL.out] at hcl2; clear ho2 ha2 hy2)
          | (go_at_call 34; refine (HO.out _).mono ?_; rintro e w' ⟨rfl, rfl⟩)
          | (at_builtin; refine wpList_append_sl2 _ rfl (.tmp 25) (.tmp 27) 25 rfl w1.heap.size 3 i0 _ 8 Try.underlying25 hi0 hz0 hz1 hz2 rfl (.slice Y m yc) m _ HYL.out rfl (HY2.out.1.alloc _) _ _ _ 1 [.int .i64 k] rfl rfl (sl_one' _ _ _ _ (by simp)) (one_int _ _) (by unfold maxLen; omega) (by omega) (by rw [size_alloc']; have := HB2.out.size; omega) ?_; intro Y3 yc3 w3 ho3 ha3
             have hx3 := appended_other ha3 (HX2.out.alloc _) (fun g hg => fun e => HY2.out.2 g e hg)
             have HX3 := Lib.hid hx3
             have HY3 := Lib.hid (show Own w3 3 w1.heap.size (.slice Y3 (m + 1) yc3) (ints .i64 (castL ((pto zs k).2 ++ [k]))) from by rw [ints_snoc] at ho3; simpa [castL] using ho3)
             have HB3 := Lib.hid (show Below w1.heap.size w1 w3 from (HB2.out.alloc HB2.out.size _).trans (appended_below ha3 (by rw [size_alloc']; have := HB2.out.size; omega) (fun g hg => (HY2.out.1.lt g hg).1)))
             clear ho3 ha3 hx3))
        go_roundw
        case rel => exact ⟨k + 1, X2, xc2, Y3, m + 1, yc3, by omega, rfl, rfl, by go_num, by show (pto zs (k + 1)).2.length = _; rw [HE2.out]; simp [HM.out], by rw [HE2.out]; exact HX3.out.1, by rw [HE2.out]; exact HY3.out, HX3.out.2, HB3.out⟩
        case measure => simp [intOf]; omega
      | false =>
        rw [hop] at HO
        by_cases h10 : d = 10
        · have b10 : (d == 10) = true := by simpa using h10
          have b22 : (d == 22) = false := by
            have : d ≠ 22 := by omega
            simpa using this
          have HE2 := Lib.hid (HE.out.trans (by unfold pstep; rw [← HD.out, if_neg (by rw [hop]; simp), if_pos h10] : _ = ((pto zs k).1.set k (-1), [])))
          clear hop h10
          go_wp2_with (first
            | (at_builtin; refine wpList_append_sl2 _ rfl (.tmp 16) (.tmp 17) 25 rfl w1.heap.size 3 i0 _ 8 Try.underlying25 hi0 hz0 hz1 hz2 rfl (.slice X k xc) k _ HXL.out rfl (HX.out.alloc _) _ _ _ 1 [.int .i64 (-1)] rfl rfl (sl_one' _ _ _ _ (by simp)) (one_int _ _) (by unfold maxLen; omega) (by omega) (by rw [size_alloc']; have := HB.out.size; omega) ?_; intro X2 xc2 w2 ho2 ha2; have HX2 := Lib.hid (show Own w2 3 w1.heap.size (.slice X2 (k + 1) xc2) (ints .i64 (((pto zs k).1.set k (-1)).take (k + 1))) from by rw [ints_snoc, set_take_snoc _ _ _ HPK.out] at ho2; exact ho2); have hy2 := appended_other ha2 (HY.out.alloc _) (fun g hg => fun e => HN.out g e hg); have HY2 := Lib.hid hy2; have HB2 := Lib.hid (show Below w1.heap.size w1 w2 from (HB.out.alloc HB.out.size _).trans (appended_below ha2 (by rw [size_alloc']; have := HB.out.size; omega) (fun g hg => (HX.out.lt g hg).1))); have hcl2 := own_at (HCO.out.below_ HB2.out) (i := k) (by simpa using hlt); rw [HCL.out] at hcl2; clear ho2 ha2 hy2)
            | (go_at_call 34; refine (HO.out _).mono ?_; rintro e w' ⟨rfl, rfl⟩))
          go_roundw
          case rel => exact ⟨k + 1, X2, xc2, none, 0, 0, by omega, rfl, rfl, by go_num, by show (pto zs (k + 1)).2.length = _; rw [HE2.out]; rfl, by rw [HE2.out]; exact HX2.out, by rw [HE2.out]; exact Own.nil_ _ _ _, by simp [Value.ownBlock], HB2.out⟩
          case measure => simp [intOf]; omega
        · have b10 : (d == 10) = false := by simpa using h10
          by_cases h22 : d = 22
          · have b22 : (d == 22) = true := by simpa using h22
            cases m with
            | zero =>
              have HE2 := Lib.hid (HE.out.trans (by unfold pstep; rw [← HD.out, if_neg (by rw [hop]; simp), if_neg h10, if_neg (by rw [HM.out]; omega)] : _ = ((pto zs k).1.set k (-1), (pto zs k).2)))
              clear hop h10 h22
              go_wp2_with (first
                | (at_builtin; refine wpList_append_sl2 _ rfl (.tmp 16) (.tmp 17) 25 rfl w1.heap.size 3 i0 _ 8 Try.underlying25 hi0 hz0 hz1 hz2 rfl (.slice X k xc) k _ HXL.out rfl (HX.out.alloc _) _ _ _ 1 [.int .i64 (-1)] rfl rfl (sl_one' _ _ _ _ (by simp)) (one_int _ _) (by unfold maxLen; omega) (by omega) (by rw [size_alloc']; have := HB.out.size; omega) ?_; intro X2 xc2 w2 ho2 ha2; have HX2 := Lib.hid (show Own w2 3 w1.heap.size (.slice X2 (k + 1) xc2) (ints .i64 (((pto zs k).1.set k (-1)).take (k + 1))) from by rw [ints_snoc, set_take_snoc _ _ _ HPK.out] at ho2; exact ho2); have hy2 := appended_other ha2 (HY.out.alloc _) (fun g hg => fun e => HN.out g e hg); have HY2 := Lib.hid hy2; have HB2 := Lib.hid (show Below w1.heap.size w1 w2 from (HB.out.alloc HB.out.size _).trans (appended_below ha2 (by rw [size_alloc']; have := HB.out.size; omega) (fun g hg => (HX.out.lt g hg).1))); have hcl2 := own_at (HCO.out.below_ HB2.out) (i := k) (by simpa using hlt); rw [HCL.out] at hcl2; clear ho2 ha2 hy2)
                | (go_at_call 34; refine (HO.out _).mono ?_; rintro e w' ⟨rfl, rfl⟩))
              go_roundw
              case rel => exact ⟨k + 1, X2, xc2, Y, 0, yc, by omega, rfl, rfl, by go_num, by show (pto zs (k + 1)).2.length = _; rw [HE2.out]; exact HM.out, by rw [HE2.out]; exact HX2.out, by rw [HE2.out]; exact HY2.out.1, fun g hg e => HY2.out.2 g e hg, HB2.out⟩
              case measure => simp [intOf]; omega
            | succ m' =>
              obtain ⟨t, ht⟩ : ∃ t, t = (pto zs k).2.getD m' 0 := ⟨_, rfl⟩
              have htk : t < k := by
                rw [ht]
                exact HMEM.out _ (getD_mem_nat (by rw [HM.out]; omega))
              have HE2 := Lib.hid (HE.out.trans (by unfold pstep; rw [← HD.out, if_neg (by rw [hop]; simp), if_neg h10, if_pos ⟨h22, by rw [HM.out]; omega⟩, HM.out, Nat.add_sub_cancel, ← ht] : _ = ((((pto zs k).1.set k (-1)).set k (t : Nat)).set t k, (pto zs k).2.take m')))
              have hct : (castL (pto zs k).2).getD m' 0 = (t : Int) := by
                rw [ht]
                have h1 : m' < (pto zs k).2.length := by rw [HM.out]; omega
                simp [castL, h1]
              have HCT := Lib.hid hct
              obtain ⟨-, gy, rfl, hgy1, hgy2⟩ := HY.out.form (by rw [ints_length, castL_length, HM.out]; omega)
              have hm1 : (m' : Int) < (m' : Int) + 1 := by omega
              have hm0 : (0 : Int) ≤ m' := by omega
              have hmw : IntKind.i64.wrap (m' : Int) = m' := by simp [IntKind.wrap, IntKind.signed, IntKind.bits]; omega
              have hm2 : (0 : Int) < (m' : Int) + 1 := by omega
              have hyc := HY.out.cap.1
              rw [ints_length, castL_length, HM.out] at hyc
              have hyc2 : (m' : Int) ≤ yc := by omega
              have htk1 : (t : Int) < (k : Int) + 1 := by omega
              clear hop h10 h22 ht hct
              go_wp2_with (first
                | (at_builtin; refine wpList_append_sl2 _ rfl (.tmp 16) (.tmp 17) 25 rfl w1.heap.size 3 i0 _ 8 Try.underlying25 hi0 hz0 hz1 hz2 rfl (.slice X k xc) k _ HXL.out rfl (HX.out.alloc _) _ _ _ 1 [.int .i64 (-1)] rfl rfl (sl_one' _ _ _ _ (by simp)) (one_int _ _) (by unfold maxLen; omega) (by omega) (by rw [size_alloc']; have := HB.out.size; omega) ?_; intro X2 xc2 w2 ho2 ha2; have HX2 := Lib.hid (show Own w2 3 w1.heap.size (.slice X2 (k + 1) xc2) (ints .i64 (((pto zs k).1.set k (-1)).take (k + 1))) from by rw [ints_snoc, set_take_snoc _ _ _ HPK.out] at ho2; exact ho2); have hy2 := appended_other ha2 (HY.out.alloc _) (fun g hg => fun e => HN.out g e hg); have HY2 := Lib.hid hy2; have HB2 := Lib.hid (show Below w1.heap.size w1 w2 from (HB.out.alloc HB.out.size _).trans (appended_below ha2 (by rw [size_alloc']; have := HB.out.size; omega) (fun g hg => (HX.out.lt g hg).1))); have hcl2 := own_at (HCO.out.below_ HB2.out) (i := k) (by simpa using hlt); rw [HCL.out] at hcl2; clear ho2 ha2 hy2; have hcy := own_at HY2.out.1 (i := m') (by rw [castL_length, HM.out]; omega); rw [HCT.out] at hcy; obtain ⟨-, gx, rfl, hgx1, hgx2⟩ := HX2.out.form (by rw [ints_length, List.length_take, List.length_set]; have := HPK.out; omega); have HXlen := Lib.hid (show (((pto zs k).1.set k (-1)).take (k + 1)).length = k + 1 from by rw [List.length_take, List.length_set]; have := HPK.out; omega); have hcx := own_at HX2.out (i := k) (by rw [HXlen.out]; omega); have hfx := HX2.out.free k; have HX3 := Lib.hid (own_put HX2.out k (t : Int)); have hcx2 := own_at HX3.out (i := t) (by rw [List.length_set, HXlen.out]; omega); have hfx2 := HX3.out.free t; have HX4 := Lib.hid (own_put HX3.out t (k : Int)); have hsx : (w2.setCell ⟨gx, k, none⟩ (.int .i64 t)).heap.size = w2.heap.size := by simp [World.setCell])
                | (go_at_call 34; refine (HO.out _).mono ?_; rintro e w' ⟨rfl, rfl⟩))
              have hgg : gy ≠ gx := fun e => HY2.out.2 gy rfl (by rw [e]; rfl)
              have hyo := own_short ((HY2.out.1.set_far (p := ⟨gx, k, none⟩) (fun e => hgg (by injection e)) (.int .i64 (t : Int))).set_far (p := ⟨gx, t, none⟩) (fun e => hgg (by injection e)) (.int .i64 (k : Int))) m' (by omega)
              have HYO := Lib.hid hyo
              have HB4 := Lib.hid ((HB2.out.setCell (p := ⟨gx, k, none⟩) hgx1 (.int .i64 (t : Int))).setCell (p := ⟨gx, t, none⟩) hgx1 (.int .i64 (k : Int)))
              clear hyo
              go_roundw
              case rel => exact ⟨k + 1, some ⟨gx, 0, none⟩, xc2, some ⟨gy, 0, none⟩, m', yc, by omega, rfl, rfl, by go_num, by show (pto zs (k + 1)).2.length = _; rw [HE2.out]; simp [HM.out], by rw [HE2.out]; simp only; rw [← set_take_lt, ← set_take_lt]; exact HX4.out, by
                rw [HE2.out]
                have h2 : ints .i64 (castL ((pto zs k).2.take m')) = (ints .i64 (castL (pto zs k).2)).take m' := by simp [castL, ints, List.map_take]
                simp only
                rw [h2]
                exact HYO.out, fun g hg e => hgg (by injection hg with hg; injection e with e; exact e.trans hg.symm), HB4.out⟩
              case measure => simp [intOf]; omega
          · have b22 : (d == 22) = false := by simpa using h22
            have HE2 := Lib.hid (HE.out.trans (by unfold pstep; rw [← HD.out, if_neg (by rw [hop]; simp), if_neg h10, if_neg (fun h => h22 h.1)] : _ = ((pto zs k).1.set k (-1), (pto zs k).2)))
            clear hop h10 h22
            go_wp2_with (first
              | (at_builtin; refine wpList_append_sl2 _ rfl (.tmp 16) (.tmp 17) 25 rfl w1.heap.size 3 i0 _ 8 Try.underlying25 hi0 hz0 hz1 hz2 rfl (.slice X k xc) k _ HXL.out rfl (HX.out.alloc _) _ _ _ 1 [.int .i64 (-1)] rfl rfl (sl_one' _ _ _ _ (by simp)) (one_int _ _) (by unfold maxLen; omega) (by omega) (by rw [size_alloc']; have := HB.out.size; omega) ?_; intro X2 xc2 w2 ho2 ha2; have HX2 := Lib.hid (show Own w2 3 w1.heap.size (.slice X2 (k + 1) xc2) (ints .i64 (((pto zs k).1.set k (-1)).take (k + 1))) from by rw [ints_snoc, set_take_snoc _ _ _ HPK.out] at ho2; exact ho2); have hy2 := appended_other ha2 (HY.out.alloc _) (fun g hg => fun e => HN.out g e hg); have HY2 := Lib.hid hy2; have HB2 := Lib.hid (show Below w1.heap.size w1 w2 from (HB.out.alloc HB.out.size _).trans (appended_below ha2 (by rw [size_alloc']; have := HB.out.size; omega) (fun g hg => (HX.out.lt g hg).1))); have hcl2 := own_at (HCO.out.below_ HB2.out) (i := k) (by simpa using hlt); rw [HCL.out] at hcl2; clear ho2 ha2 hy2)
              | (go_at_call 34; refine (HO.out _).mono ?_; rintro e w' ⟨rfl, rfl⟩))
            go_roundw
            case rel => exact ⟨k + 1, X2, xc2, Y, m, yc, by omega, rfl, rfl, by go_num, by show (pto zs (k + 1)).2.length = _; rw [HE2.out]; exact HM.out, by rw [HE2.out]; exact HX2.out, by rw [HE2.out]; exact HY2.out.1, fun g hg e => HY2.out.2 g e hg, HB2.out⟩
            case measure => simp [intOf]; omega
    · have hk' : k = zs.length := by omega
      subst hk'
      have hpl := pto_length zs zs.length
      have HX := Lib.hid (show Own wr 3 w1.heap.size (.slice X zs.length xc) (ints .i64 (pairsL zs)) from by
        have h1 := hx
        rw [List.take_of_length_le (by omega)] at h1
        exact h1)
      have HB := Lib.hid hb
      clear hx hy hn hb hpl
      go_wp2
      exact bodyPost_ret (v := .slice X zs.length xc) (by simp [results, Try.results11, go_sem]) rfl ⟨X, xc, rfl, own_mono HX.out HCB.out.size, HCB.out.trans (HB.out.mono HCB.out.size)⟩
end Go.Proofs.Ytikgjnfimagpjaa
