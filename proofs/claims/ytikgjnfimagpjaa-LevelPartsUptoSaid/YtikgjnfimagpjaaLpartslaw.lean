/- LevelParts: the walk of the law. -/
import Derived.Test.YtikgjnfimagpjaaLapart1
import Derived.Test.YtikgjnfimagpjaaLlevat
import Derived.Test.YtikgjnfimagpjaaLlevelslaw
import Derived.Test.YtikgjnfimagpjaaLparts2
import Derived.Deep.CutBlock
import Derived.Laws.Concat
namespace Go.Proofs.Ytikgjnfimagpjaa
open Go.RowKit
theorem str_app (a b : List Int) : strOfNums (a ++ b) = strOfNums a ++ strOfNums b := by
  unfold strOfNums
  apply ByteArray.ext
  simp [ByteArray.data_append]
theorem endB_last (T zs : List Int) (p : Nat) (h : EndB T) (hT : T = zs.take (p + 1)) (hp : p < zs.length) : clsL (zs.getD p 0) = 10 := by
  have e : (zs.take (p + 1)).getD p 0 = zs.getD p 0 := take_getD zs (p + 1) p (by omega)
  have l : (zs.take (p + 1)).length = p + 1 := by simp; omega
  rcases h with h | ⟨A', z, h, hz⟩
  · rw [← hT, h] at l; simp at l
  · rw [← hT, h] at l e
    simp only [List.length_append, List.length_singleton] at l
    have : A'.length = p := by omega
    rw [← this] at e
    have e0 : (A' ++ [z]).getD A'.length 0 = z := by simp
    rw [e0] at e
    rw [← this, ← e]
    exact hz
theorem runs_bound (zs lv : List Int) (rows : List (List Int)) (n : Nat) (hn : zs.length = n) (hl : lv.length = n) (hr : runsL zs lv = rows) : ∀ a, ∀ x ∈ rows.getD a [], 0 ≤ x ∧ x < (n : Int) := by
  intro a x hx
  have h := rto_bound zs lv (pairsL (zs.take (min zs.length lv.length))) (min zs.length lv.length)
  have e : min zs.length lv.length = n := by omega
  unfold runsL at hr
  rw [hr, e] at h
  by_cases ha : a < rows.length
  · rw [List.getD_eq_getElem?_getD, List.getElem?_eq_getElem ha] at hx
    exact h _ (List.getElem_mem ha) x hx
  · rw [List.getD_eq_getElem?_getD, List.getElem?_eq_none (by omega)] at hx
    simp at hx
theorem runs_len (zs lv : List Int) (rows : List (List Int)) (n : Nat) (hn : zs.length = n) (hl : lv.length = n) (hr : runsL zs lv = rows) : rows.length ≤ n := by
  have h := (rto_good zs lv (pairsL (zs.take (min zs.length lv.length))) (min zs.length lv.length)).len
  have e : min zs.length lv.length = n := by omega
  unfold runsL at hr
  rw [hr, e] at h
  exact h
theorem part1 (r1 r2 : List (List Int)) (p t : Nat) (h : t < r1.length) : (r1 ++ r2.map (·.map (· + (p : Int)))).getD t [] = (r1.getD t []).map (· + ((0 : Nat) : Int)) := by
  rw [List.getD_eq_getElem?_getD, List.getElem?_append_left h, List.getD_eq_getElem?_getD]
  simp
theorem part2 (r1 r2 : List (List Int)) (p t : Nat) : (r1 ++ r2.map (·.map (· + (p : Int)))).getD (r1.length + t) [] = (r2.getD t []).map (· + (p : Int)) := by
  rw [Nat.add_comm]
  exact getD_parts r1 r2 p t
theorem runs_each (zs lv : List Int) (rows : List (List Int)) (n : Nat) (hn : zs.length = n) (hl : lv.length = n) (hr : runsL zs lv = rows) : ∀ a, a < rows.length → (rows.getD a []).length ≤ n := by
  have h := (rto_good zs lv (pairsL (zs.take (min zs.length lv.length))) (min zs.length lv.length)).each
  have e : min zs.length lv.length = n := by omega
  unfold runsL at hr
  rw [hr, e] at h
  exact h
theorem endB_take (zs : List Int) (p : Nat) (hp : p < zs.length) (h : clsL (zs.getD p 0) = 10) : EndB (zs.take (p + 1)) :=
  .inr ⟨zs.take p, zs.getD p 0, (take_snoc' zs p hp).symm, h⟩
set_option maxRecDepth 20000 in
set_option maxHeartbeats 8000000 in
theorem partslaw_any (zs : List Int) (A : Option Addr) (c base : Nat) (k : Int) (w : World) (hl : zs.length < 1048576) (hc : zs.length ≤ c ∧ c ≤ maxLen)
    (h : Sl w w.heap.size A (ints .i8 zs)) :
    Calls Try.prog 9 #[.slice A zs.length c, .int .u8 base, .int .i64 k] w fun e w' => e = .returned (.bool true) ∧ Below w.heap.size w w' := by
  have HS := Lib.hid h
  clear h
  go_enter Try.func9, Try.ntmps9
  go_upto_block 0 with fail
  go_cut [7] (fun pv wx => ∃ p : Nat, p ≤ zs.length ∧ pv = .int .i64 p ∧ (EndB (zs.take p) ∨ p = zs.length) ∧ wx = w)
  case first => as_aux_lemma =>
    go_wp2_with fail
    go_loop [7, 8] (fun pv qv => ∃ p q : Nat, p ≤ zs.length ∧ q ≤ p ∧ pv = .int .i64 p ∧ qv = .int .i64 q ∧ Hid ((q : Int) ≤ k ∨ EndB (zs.take p))) (fun pv _ => zs.length - (intOf pv).toNat)
    case atStart => exact ⟨0, 0, by omega, by omega, rfl, rfl, .inr (.inl rfl)⟩
    case round => as_aux_lemma =>
      obtain ⟨p, q, hp, hq, rfl, rfl, HE⟩ := hrel
      by_cases hlt : p < zs.length
      · have hlt' : (p : Int) < zs.length := by omega
        by_cases hqk : (q : Int) ≤ k
        · obtain ⟨ad, rfl, hadb, hcell⟩ := sl_at HS.out hlt
          have HK := Lib.hid (lclass_any (zs.getD p 0) w)
          have HZ := Lib.hid (endB_take zs p hlt)
          obtain ⟨d, hd⟩ : ∃ d, d = clsL (zs.getD p 0) := ⟨_, rfl⟩
          rw [← hd] at HK HZ
          clear hd
          obtain ⟨z, hz⟩ : ∃ z, z = zs.getD p 0 := ⟨_, rfl⟩
          rw [← hz] at HK hcell
          clear hz
          clear HE
          have hp0 : (0 : Int) ≤ p := by omega
          by_cases h10 : d = 10
          · subst h10
            go_wp2_with (first | (go_at_call 28; refine HK.out.mono ?_; rintro e w' ⟨rfl, rfl⟩))
            go_round
            case rel => exact ⟨p + 1, q + 1, by omega, by omega, by go_num, by go_num, .inr (HZ.out trivial)⟩
            case measure => simp [intOf]; omega
          · have h10' : (d == 10) = false := by simpa using h10
            go_wp2_with (first | (go_at_call 28; refine HK.out.mono ?_; rintro e w' ⟨rfl, rfl⟩))
            go_round
            case rel => exact ⟨p + 1, q, by omega, by omega, by go_num, rfl, .inl hqk⟩
            case measure => simp [intOf]; omega
        · go_wp2_with fail
          go_meet
          exact ⟨p, by omega, rfl, .inl (HE.out.resolve_left (by omega)), rfl⟩
      · have hp' : p = zs.length := by omega
        have hlt' : ¬ (p : Int) < zs.length := by omega
        go_wp2_with fail
        go_meet
        exact ⟨p, by omega, by rw [hp'], .inr hp', rfl⟩
  case rest =>
    obtain ⟨p, hp, rfl, hE, hwc⟩ := hcut
    have hwc' := hwc.symm
    subst hwc'
    clear hwc
    obtain ⟨T, hT⟩ : ∃ T, T = zs.take p := ⟨_, rfl⟩
    obtain ⟨D, hD⟩ : ∃ D, D = zs.drop p := ⟨_, rfl⟩
    obtain ⟨n, hn⟩ : ∃ n, n = zs.length := ⟨_, rfl⟩
    obtain ⟨m, hm⟩ : ∃ m, m = n - p := ⟨_, rfl⟩
    have hzs : zs = T ++ D := by rw [hT, hD, List.take_append_drop]
    have lT : T.length = p := by rw [hT]; simp; omega
    have lD : D.length = m := by rw [hD, hm, hn]; simp
    have hEB : EndB T ∨ D = [] := by
      rcases hE with h | h
      · exact .inl (by rw [hT]; exact h)
      · exact .inr (by rw [hD, h]; simp)
    have hsT : Sl w w.heap.size A (ints .i8 T) := by
      have := sl_take HS.out p
      rw [hT]
      simpa [ints, List.map_take] using this
    have hsD : Sl w w.heap.size (if c = p then A else A.map (·.add p)) (ints .i8 D) := by
      have := sl_cut (c := c) HS.out (i := p) (by simpa using hp) (by simpa using hc.1)
      rw [hD]
      simpa [ints, List.map_drop] using this
    have hX0 := lto_parts ((min base 125 : Nat) : Int) T D hEB
    have hL0 := lto_length ((min base 125 : Nat) : Int) zs n
    have hL1 := lto_length ((min base 125 : Nat) : Int) T p
    have hL2 := lto_length ((min base 125 : Nat) : Int) D m
    rw [← hzs, ← hn, lT, lD] at hX0
    obtain ⟨X, hX⟩ : ∃ X, (lto ((min base 125 : Nat) : Int) zs n).1 = X := ⟨_, rfl⟩
    obtain ⟨P, hP⟩ : ∃ P, (lto ((min base 125 : Nat) : Int) zs n).2.1 = P := ⟨_, rfl⟩
    obtain ⟨Y, hY⟩ : ∃ Y, (lto ((min base 125 : Nat) : Int) T p).1 = Y := ⟨_, rfl⟩
    obtain ⟨Q, hQ⟩ : ∃ Q, (lto ((min base 125 : Nat) : Int) T p).2.1 = Q := ⟨_, rfl⟩
    obtain ⟨Z, hZ⟩ : ∃ Z, (lto ((min base 125 : Nat) : Int) D m).1 = Z := ⟨_, rfl⟩
    obtain ⟨R, hR⟩ : ∃ R, (lto ((min base 125 : Nat) : Int) D m).2.1 = R := ⟨_, rfl⟩
    rw [hX, hP, hY, hQ, hZ, hR] at hX0
    rw [hX, hP] at hL0
    rw [hY, hQ] at hL1
    rw [hZ, hR] at hL2
    have hl' : n < 1048576 := by omega
    have hzl := hn.symm
    have hmp : p + m = n := by omega
    have HRn := Lib.hid (show runsL zs X = runsL T Y ++ (runsL D Z).map (·.map (· + (p : Int))) from by
      rw [hzs, hX0.1, ← lT]; exact runs_parts T D Y Z (by omega) (by omega) hEB)
    have HX0 := Lib.hid hX0
    have HLs := Lib.hid (And.intro hL0 (And.intro hL1 hL2))
    have HC1 := Lib.hid (fun W (hb : Below w.heap.size w W) => levels_is zs X P n A c base W hn.symm hX hP hL0.1 hL0.2 hl' (by omega) ((HS.out.below hb).more hb.size))
    have HC2 := Lib.hid (fun W (hb : Below w.heap.size w W) => levels_is T Y Q p A c base W lT hY hQ hL1.1 hL1.2 (by omega) (by omega) ((hsT.below hb).more hb.size))
    have HC3 := Lib.hid (fun W cc (hcc : m ≤ cc ∧ cc ≤ maxLen) (hb : Below w.heap.size w W) => levels_is D Z R m (if c = p then A else A.map (·.add p)) cc base W lD hZ hR hL2.1 hL2.2 (by omega) hcc ((hsD.below hb).more hb.size))
    have HSS := Lib.hid (And.intro hsT hsD)
    have HEB := Lib.hid (And.intro hEB (And.intro hT hzs))
    have hpn : (p : Int) ≤ n := by omega
    have hcn : (n : Int) ≤ c := by omega
    have hnc := hc.2
    have HLN := Lib.hid (And.intro lT lD)
    rw [← hn] at hp hc ⊢
    clear hX0 hL0 hL1 hL2 hX hP hY hQ hZ hR hsT hsD hE hEB hzs hT hD lT lD hn hl
    have HMP := Lib.hid hmp
    have HZL := Lib.hid hzl
    clear hzl
    have HM := Lib.hid hm
    clear hmp hm
    go_wp2_with fail
    refine (HC1.out w (Below.refl _ _)).mono ?_
    rintro e w1 ⟨XA, xc, PA, pc, rfl, ho1, ho2, hb1⟩
    have HB1 := Lib.hid hb1
    have HX := Lib.hid (And.intro ho1 ho2)
    clear hb1 ho1 ho2
    go_wp2_with fail
    refine (HC2.out w1 HB1.out).mono ?_
    rintro e w2 ⟨YA, yc, QA, qc, rfl, ho1, ho2, hb2⟩
    have HB2 := Lib.hid (HB1.out.trans (hb2.mono HB1.out.size))
    have HX2 := Lib.hid (And.intro (own_mono (HX.out.1.below_ hb2) (Nat.le_refl _)) (own_mono (HX.out.2.below_ hb2) (Nat.le_refl _)))
    have HY2 := Lib.hid (And.intro (own_mono ho1 HB1.out.size) (own_mono ho2 HB1.out.size))
    clear hb2 ho1 ho2 HX HB1
    go_upto_region 9 with fail
    go_cut [13, 14] (fun zv rv wx => ∃ ZA zc RA rc, zv = .slice ZA m zc ∧ rv = .slice RA m rc ∧ Own wx 5 w2.heap.size (.slice ZA m zc) (ints .u8 Z) ∧ Own wx 23 w2.heap.size (.slice RA m rc) (ints .i8 R) ∧ Below w2.heap.size w2 wx)
    case first => as_aux_lemma =>
      by_cases hcp : c = p
      · subst hcp
        have hm0 : m = 0 := by have := HM.out; omega
        subst hm0
        have hq := HC3.out w2 0 (by unfold maxLen; omega) HB2.out
        rw [if_pos rfl] at hq
        have HQ := Lib.hid hq
        clear hq
        go_wp2_with fail
        refine HQ.out.mono ?_
        rintro e w3 ⟨ZA, zc, RA, rc, rfl, ho1, ho2, hb3⟩
        have HH := Lib.hid (And.intro ho1 (And.intro ho2 hb3))
        clear ho1 ho2 hb3
        go_wp2_with fail
        go_meet
        exact ⟨ZA, zc, RA, rc, rfl, rfl, HH.out.1, HH.out.2.1, HH.out.2.2⟩
      · have hq := HC3.out w2 (c - p) (by have := HMP.out; omega) HB2.out
        rw [if_neg hcp] at hq
        have HQ := Lib.hid hq
        clear hq
        go_wp2_with fail
        rw [← HM.out]
        refine HQ.out.mono ?_
        rintro e w3 ⟨ZA, zc, RA, rc, rfl, ho1, ho2, hb3⟩
        have HH := Lib.hid (And.intro ho1 (And.intro ho2 hb3))
        clear ho1 ho2 hb3
        go_wp2_with fail
        go_meet
        exact ⟨ZA, zc, RA, rc, rfl, rfl, HH.out.1, HH.out.2.1, HH.out.2.2⟩
    case rest =>
      obtain ⟨ZA, zc, RA, rc, rfl, rfl, ho1, ho2, hb3⟩ := hcut
      have HB3 := Lib.hid (HB2.out.trans (hb3.mono HB2.out.size))
      have HX3 := Lib.hid (And.intro (HX2.out.1.below_ hb3) (HX2.out.2.below_ hb3))
      have HY3 := Lib.hid (And.intro (HY2.out.1.below_ hb3) (HY2.out.2.below_ hb3))
      have HZ3 := Lib.hid (And.intro (own_mono ho1 HB2.out.size) (own_mono ho2 HB2.out.size))
      clear hb3 ho1 ho2 HX2 HY2 HB2
      go_upto_region 10 with fail
      go_cut [81] (fun bv wx => bv = .bool false ∧ wx = wc)
      case first => as_aux_lemma =>
        by_cases hp0 : p = 0
        · subst hp0
          go_wp2_with fail
          go_meet
          exact ⟨rfl, rfl⟩
        · have h0 : (0 : Int) < p := by omega
          by_cases hpn' : p = n
          · subst hpn'
            go_wp2_with fail
            go_meet
            exact ⟨rfl, rfl⟩
          · have h1 : (p : Int) < n := by omega
            obtain ⟨p1, hp1⟩ : ∃ p1, p = p1 + 1 := ⟨p - 1, by omega⟩
            have hz := HZL.out
            obtain ⟨ad, rfl, hadb, hcell⟩ := sl_at ((HS.out.below HB3.out)) (i := p1) (by omega)
            have hE : EndB T := HEB.out.1.resolve_right (by intro e; have h2 := HLN.out.2; rw [e] at h2; simp only [List.length_nil] at h2; have := HMP.out; omega)
            have hcl := endB_last T zs p1 hE (by rw [← hp1]; exact HEB.out.2.1) (by omega)
            have HK := Lib.hid (lclass_any (zs.getD p1 0) wc)
            rw [hcl] at HK
            obtain ⟨z, hz'⟩ : ∃ z, z = zs.getD p1 0 := ⟨_, rfl⟩
            rw [← hz'] at HK hcell
            have e1 : (p : Int) - 1 = p1 := by omega
            have e2 : (p1 : Int) < n := by omega
            have e3 : (0 : Int) ≤ p1 := by omega
            clear hz' hz hcl hE hp1
            go_wp2_with (first | (go_at_call 28; refine HK.out.mono ?_; rintro e w' ⟨rfl, rfl⟩))
            go_meet
            exact ⟨rfl, rfl⟩
      case rest =>
        obtain ⟨rfl, hwc⟩ := hcut
        have hwc' := hwc.symm
        subst hwc'
        have e1 := conv_own HX3.out.1
        have e2 := conv_own HY3.out.1
        have e3 := conv_own HZ3.out.1
        rw [HX0.out.1, str_app] at e1
        have e4 : (p : Int) + m = n := by have := HMP.out; omega
        have e5 : (strOfNums Y).size + (strOfNums Z).size ≤ 9223372036854775807 := by
          have := HLs.out
          rw [strOfNums_size, strOfNums_size]
          omega
        obtain ⟨sy, hsy⟩ : ∃ sy, sy = strOfNums Y := ⟨_, rfl⟩
        obtain ⟨sz, hsz⟩ : ∃ sz, sz = strOfNums Z := ⟨_, rfl⟩
        rw [← hsy, ← hsz] at e1 e5
        rw [← hsy] at e2
        rw [← hsz] at e3
        clear hsy hsz
        go_upto_region 12 with fail
        go_cut [113] (fun bv wx => bv = .bool false ∧ wx = wc)
        case first => as_aux_lemma =>
          go_wp2_with fail
          go_meet
          exact ⟨rfl, rfl⟩
        case rest =>
          obtain ⟨rfl, hwc⟩ := hcut
          have hwc' := hwc.symm
          subst hwc'
          clear e1 e2 e3 e5
          go_wp2_with fail
          go_loopw [15] (fun i wr => ∃ j : Nat, j ≤ n ∧ i = .int .i64 j ∧ Below wc.heap.size wc wr) (fun i _ => n - (intOf i).toNat)
          case atStart => exact ⟨0, by omega, rfl, Below.refl _ _⟩
          case round => as_aux_lemma =>
            obtain ⟨j, hj, rfl, hbr⟩ := hrel
            have HB := Lib.hid hbr
            by_cases hlt : j < n
            · have hlt' : (j : Int) < n := by omega
              have hj0 : (0 : Int) ≤ j := by omega
              obtain ⟨gp, rfl, -, -⟩ := own_is HX3.out.2 (by rw [HLs.out.1.2]; omega)
              have hk1 := own_at (HX3.out.2.below_ hbr) (i := j) (by rw [HLs.out.1.2]; omega)
              rw [HX0.out.2] at hk1
              by_cases hjp : j < p
              · have hjp' : (j : Int) < p := by omega
                have hjp2 : ¬ (p : Int) ≤ j := by omega
                have hjp3 : decide (p ≤ j) = false := by simp; omega
                obtain ⟨gq, rfl, -, -⟩ := own_is HY3.out.2 (by rw [HLs.out.2.1.2]; omega)
                have hk2 := own_at (HY3.out.2.below_ hbr) (i := j) (by rw [HLs.out.2.1.2]; omega)
                rw [getD_app1 Q R j (by rw [HLs.out.2.1.2]; omega)] at hk1
                obtain ⟨x, hx⟩ : ∃ x, x = Q.getD j 0 := ⟨_, rfl⟩
                rw [← hx] at hk1 hk2
                clear hx hbr
                go_wp2_with fail
                go_quiet (fail)
                go_wp2
                go_roundw
                case rel => exact ⟨j + 1, by omega, by go_num, below_drewN' HB.out _⟩
                case measure => simp [intOf]; omega
              · have hjp' : ¬ (j : Int) < p := by omega
                have hjp2 : (p : Int) ≤ j := by omega
                have hjp3 : decide ((j : Int) < p) = false := by simp; omega
                obtain ⟨j1, hj1⟩ : ∃ j1, j = p + j1 := ⟨j - p, by omega⟩
                have hmp := HMP.out
                obtain ⟨gq, rfl, -, -⟩ := own_is HZ3.out.2 (by rw [HLs.out.2.2.2]; omega)
                have hk2 := own_at (HZ3.out.2.below_ hbr) (i := j1) (by rw [HLs.out.2.2.2]; omega)
                have hq := getD_app2 Q R j1
                rw [HLs.out.2.1.2, ← hj1] at hq
                rw [hq] at hk1
                obtain ⟨x, hx⟩ : ∃ x, x = R.getD j1 0 := ⟨_, rfl⟩
                rw [← hx] at hk1 hk2
                have e5 : (j : Int) - p = j1 := by omega
                have e6 : (j1 : Int) < m := by omega
                have e7 : (0 : Int) ≤ j1 := by omega
                clear hx hbr hq hj1 hmp
                go_wp2_with fail
                go_quiet (fail)
                go_wp2
                go_roundw
                case rel => exact ⟨j + 1, by omega, by go_num, below_drewN' HB.out _⟩
                case measure => simp [intOf]; omega
            · have hj' : j = n := by omega
              subst hj'
              have HB4 := Lib.hid (HB3.out.trans (hbr.mono HB3.out.size))
              have HX4 := Lib.hid (HX3.out.1.below_ hbr)
              have HY4 := Lib.hid (HY3.out.1.below_ hbr)
              have HZ4 := Lib.hid (HZ3.out.1.below_ hbr)
              clear HB hbr HB3 HX3 HY3 HZ3
              obtain ⟨rows0, hr0⟩ : ∃ r, runsL zs X = r := ⟨_, rfl⟩
              obtain ⟨rows1, hr1⟩ : ∃ r, runsL T Y = r := ⟨_, rfl⟩
              obtain ⟨rows2, hr2⟩ : ∃ r, runsL D Z = r := ⟨_, rfl⟩
              have hrn := HRn.out
              rw [hr0, hr1, hr2] at hrn
              have HRn := Lib.hid hrn
              have hlen : (rows1.length : Int) + rows2.length = rows0.length := by rw [hrn]; simp
              have HQ1 := Lib.hid (fun W (hb : Below w.heap.size w W) X2 c2 (hs : Sl W W.heap.size X2 (ints .u8 X)) => runs_is zs X j rows0 A X2 c c2 W HZL.out HLs.out.1.1 hr0 hl' (by omega) ((HS.out.below hb).more hb.size) hs)
              have HQ2 := Lib.hid (fun W (hb : Below w.heap.size w W) X2 c2 (hs : Sl W W.heap.size X2 (ints .u8 Y)) => runs_is T Y p rows1 A X2 c c2 W HLN.out.1 HLs.out.2.1.1 hr1 (by omega) (by omega) ((HSS.out.1.below hb).more hb.size) hs)
              have HQ3 := Lib.hid (fun W cc (hcc : m ≤ cc ∧ cc ≤ maxLen) (hb : Below w.heap.size w W) X2 c2 (hs : Sl W W.heap.size X2 (ints .u8 Z)) => runs_is D Z m rows2 (if c = p then A else A.map (·.add p)) X2 cc c2 W HLN.out.2 HLs.out.2.2.1 hr2 (by have := HMP.out; omega) hcc ((HSS.out.2.below hb).more hb.size) hs)
              have HBD := Lib.hid (And.intro (runs_bound T Y rows1 p HLN.out.1 HLs.out.2.1.1 hr1) (runs_bound D Z rows2 m HLN.out.2 HLs.out.2.2.1 hr2))
              have HEA := Lib.hid (And.intro (runs_each T Y rows1 p HLN.out.1 HLs.out.2.1.1 hr1) (runs_each D Z rows2 m HLN.out.2 HLs.out.2.2.1 hr2))
              have hn0 := runs_len zs X rows0 j HZL.out HLs.out.1.1 hr0
              have hlen1 : (rows1.length : Int) ≤ 1048576 := by omega
              have hlen2 : (rows2.length : Int) ≤ 1048576 := by omega
              clear hr0 hr1 hr2 hrn
              go_wp2_with fail
              refine (HQ1.out _ HB4.out _ _ HX4.out.sl).mono ?_
              rintro e w5 ⟨OA, oc, ov, rfl, hm, hb5⟩
              have HM1 := Lib.hid (hm)
              have HB5 := Lib.hid (HB4.out.trans (hb5.mono HB4.out.size))
              have HY5 := Lib.hid (HY4.out.below_ hb5)
              have HZ5 := Lib.hid (HZ4.out.below_ hb5)
              have z5 := hb5.size
              clear hm hb5 HX4 HY4 HZ4 HQ1
              go_wp2_with fail
              refine (HQ2.out _ HB5.out _ _ HY5.out.sl).mono ?_
              rintro e w6 ⟨SA, sc, sv, rfl, hm, hb6⟩
              have HM2 := Lib.hid (And.intro (HM1.out.keep (G := []) (Stay.below hb6) (by simp)) hm)
              have HB6 := Lib.hid (HB5.out.trans (hb6.mono HB5.out.size))
              have HZ6 := Lib.hid (HZ5.out.below_ hb6)
              clear hm hb6 HY5 HZ5 HQ2 HM1
              go_upto_region 21 with fail
              go_cut [18] (fun zv wx => ∃ UA uc uv, zv = .slice UA rows2.length uc ∧ Mem wx w6.heap.size [] (.slice UA rows2.length uc) uv rows2 ∧ Below w6.heap.size w6 wx)
              case first => as_aux_lemma =>
                by_cases hcp : c = p
                · subst hcp
                  have hm0 : m = 0 := by have := HMP.out; omega
                  subst hm0
                  have hq := HQ3.out w6 0 (by unfold maxLen; omega) HB6.out _ zc HZ6.out.sl
                  rw [if_pos rfl] at hq
                  have HQ := Lib.hid hq
                  clear hq
                  go_wp2_with fail
                  refine HQ.out.mono ?_
                  rintro e w3 ⟨UA, uc, uv, rfl, hm, hb3⟩
                  have HH := Lib.hid (And.intro hm hb3)
                  clear hm hb3
                  go_wp2_with fail
                  go_meet
                  exact ⟨UA, uc, uv, rfl, HH.out.1, HH.out.2⟩
                · have hq := HQ3.out w6 (c - p) (by have := HMP.out; omega) HB6.out _ zc HZ6.out.sl
                  rw [if_neg hcp] at hq
                  have HQ := Lib.hid hq
                  clear hq
                  go_wp2_with fail
                  rw [← HM.out]
                  refine HQ.out.mono ?_
                  rintro e w3 ⟨UA, uc, uv, rfl, hm, hb3⟩
                  have HH := Lib.hid (And.intro hm hb3)
                  clear hm hb3
                  go_wp2_with fail
                  go_meet
                  exact ⟨UA, uc, uv, rfl, HH.out.1, HH.out.2⟩
              case rest =>
                obtain ⟨UA, uc, uv, rfl, hm, hb7⟩ := hcut
                have HB7 := Lib.hid (HB6.out.trans (hb7.mono HB6.out.size))
                have HM7 := Lib.hid (And.intro (HM2.out.1.keep (G := []) (Stay.below hb7) (by simp)) (And.intro (HM2.out.2.keep (G := []) (Stay.below hb7) (by simp)) hm))
                clear hm hb7 HM2 HB6 HZ6 HQ3
                go_wp2_with fail
                go_loopw [19] (fun i wr => ∃ j : Nat, j ≤ rows0.length ∧ i = .int .i64 j ∧ Below wc.heap.size wc wr) (fun i _ => rows0.length - (intOf i).toNat)
                case atStart => exact ⟨0, by omega, rfl, Below.refl _ _⟩
                case round => as_aux_lemma =>
                  obtain ⟨t, ht, rfl, hbr⟩ := hrel
                  by_cases hlt : t < rows0.length
                  · have hlt' : (t : Int) < rows0.length := by omega
                    go_upto_if 184 with fail
                    go_cut [20, 21, 22] (fun mvv pv nv wx => ∃ (N mv : Nat) (SB : Option Addr) (sd : Nat) (rs : List (List Int)) (rv : List Value) (B0 : Nat), mvv = .int .i64 mv ∧ pv = .slice SB rs.length sd ∧ nv = .int .i64 N ∧ N < rs.length ∧ mv ≤ p ∧ Mem wc B0 [] (.slice SB rs.length sd) rv rs ∧ rows0.getD t [] = (rs.getD N []).map (· + (mv : Int)) ∧ (∀ x ∈ rs.getD N [], 0 ≤ x ∧ x < 1048576) ∧ (rs.getD N []).length ≤ 1048576 ∧ wx = wr)
                    case first => as_aux_lemma =>
                      by_cases ht1 : t < rows1.length
                      · have h1 : ¬ (rows1.length : Int) ≤ t := by omega
                        go_wp2_with fail
                        go_meet
                        exact ⟨t, 0, SA, sc, rows1, sv, _, rfl, rfl, rfl, ht1, by omega, HM7.out.2.1, by rw [HRn.out]; exact part1 rows1 rows2 p t ht1, fun x hx => by have := HBD.out.1 t x hx; omega, by have := HEA.out.1 t ht1; omega, rfl⟩
                      · have h1 : (rows1.length : Int) ≤ t := by omega
                        obtain ⟨t1, ht2⟩ : ∃ t1, t = rows1.length + t1 := ⟨t - rows1.length, by omega⟩
                        have h2 : (t : Int) - rows1.length = t1 := by omega
                        have HT2 := Lib.hid ht2
                        clear ht2
                        go_wp2_with fail
                        go_meet
                        exact ⟨t1, p, UA, uc, rows2, uv, _, rfl, rfl, rfl, by have := HT2.out; omega, by omega, HM7.out.2.2, by rw [HRn.out, HT2.out]; exact part2 rows1 rows2 p t1, fun x hx => by have := HBD.out.2 t1 x hx; have := HMP.out; omega, by have := HEA.out.2 t1 (by have := HT2.out; omega); have := HMP.out; omega, rfl⟩
                    case rest =>
                      obtain ⟨N, mv, SB, sd, rs, rv, B0, rfl, rfl, rfl, hN, hmv, hmem, hrow, hbd, heach, hwc⟩ := hcut
                      have hwc' := hwc.symm
                      subst hwc'
                      obtain ⟨g0, A0, L0, c0, rfl, -, hcA, -, hg0, hL0, ho0, -⟩ := (HM7.out.1.keep (G := []) (Stay.below hbr) (by simp)).at_ t hlt
                      obtain ⟨g1, A1, L1, c1, rfl, -, hcB, -, hg1, hL1, ho1, -⟩ := (hmem.keep (G := []) (Stay.below hbr) (by simp)).at_ N hN
                      have hLL : L0 = L1 := by rw [hL0, hL1, hrow]; simp
                      subst hLL
                      have HR := Lib.hid (And.intro ho0 ho1)
                      have HRW := Lib.hid hrow
                      have HBE := Lib.hid hbd
                      have HLn := Lib.hid (And.intro hL0 hL1)
                      have hN' : (N : Int) < rs.length := by omega
                      have hN0 : (0 : Int) ≤ N := by omega
                      have ht0 : (0 : Int) ≤ t := by omega
                      have HCW := Lib.hid (fun wx (h : Below wr.heap.size wr wx) => And.intro ((h.cell (p := ⟨g0, t, none⟩) hg0).trans hcA) ((h.cell (p := ⟨g1, N, none⟩) hg1).trans hcB))
                      have HBR := Lib.hid hbr
                      have hmv' : (mv : Int) < 1048576 := by omega
                      have hL9 : (L0 : Int) ≤ 1048576 := by omega
                      clear ho0 ho1 hrow hbd hL0 hL1 hmem hbr hg0 hg1
                      go_wp2_with fail
                      go_quiet (fail)
                      go_wp2_with fail
                      clear hcA hcB
                      go_loopw [23] (fun i wx => ∃ u : Nat, u ≤ L0 ∧ i = .int .i64 u ∧ Below wr.heap.size wr wx) (fun i _ => L0 - (intOf i).toNat)
                      case atStart => exact ⟨0, by omega, rfl, below_drewN' (Below.refl _ _) _⟩
                      case round => as_aux_lemma =>
                        obtain ⟨u, hu, rfl, hbu⟩ := hrel
                        obtain ⟨hcA, hcB⟩ := HCW.out _ hbu
                        have HBU := Lib.hid hbu
                        by_cases hul : u < L0
                        · have hul' : (u : Int) < L0 := by omega
                          have hu0 : (0 : Int) ≤ u := by omega
                          obtain ⟨ga, rfl, -, -⟩ := own_is HR.out.1 (by rw [← HLn.out.1]; omega)
                          obtain ⟨gb, rfl, -, -⟩ := own_is HR.out.2 (by rw [← HLn.out.2]; omega)
                          have hk1 := own_at (HR.out.1.below_ hbu) (i := u) (by rw [← HLn.out.1]; exact hul)
                          have hk2 := own_at (HR.out.2.below_ hbu) (i := u) (by rw [← HLn.out.2]; exact hul)
                          rw [HRW.out, getD_row _ _ _ (by rw [← HLn.out.2]; exact hul)] at hk1
                          have hxb := HBE.out _ (getD_mem' (rs.getD N []) u (by rw [← HLn.out.2]; exact hul))
                          obtain ⟨x, hx⟩ : ∃ x, x = (rs.getD N []).getD u 0 := ⟨_, rfl⟩
                          rw [← hx] at hk1 hk2 hxb
                          obtain ⟨hx0, hx1⟩ := hxb
                          clear hx hbu
                          go_wp2_with fail
                          go_quiet (fail)
                          go_wp2
                          go_roundw
                          case rel => exact ⟨u + 1, by omega, by go_num, below_drewN' HBU.out _⟩
                          case measure => simp [intOf]; omega
                        · have hu' : u = L0 := by omega
                          subst hu'
                          clear hbu
                          go_wp2_with fail
                          go_roundw
                          case rel => exact ⟨t + 1, by omega, by go_num, HBR.out.trans (HBU.out.mono HBR.out.size)⟩
                          case measure => simp [intOf]; omega
                  · have ht' : t = rows0.length := by omega
                    subst ht'
                    have HBA := Lib.hid (HB7.out.trans (hbr.mono HB7.out.size))
                    clear hbr
                    go_wp2_with fail
                    refine (wakes_any _).mono ?_
                    rintro e w12 ⟨rfl, hb12⟩
                    go_wp2_with fail
                    go_ret
                    exact ⟨rfl, HBA.out.trans (hb12.mono HBA.out.size)⟩
end Go.Proofs.Ytikgjnfimagpjaa
