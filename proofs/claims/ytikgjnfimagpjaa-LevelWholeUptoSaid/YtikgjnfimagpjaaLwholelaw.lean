/- LevelWhole: the walk of the law. -/
import Derived.Test.YtikgjnfimagpjaaLapart1
import Derived.Test.YtikgjnfimagpjaaLwhole3
import Derived.Test.YtikgjnfimagpjaaLlevat
import Derived.Test.YtikgjnfimagpjaaLwakes
import Derived.Deep.RegionWith
import Derived.Deep.DeepCutAuto
namespace Go.Proofs.Ytikgjnfimagpjaa
open Go.RowKit
theorem lout_any (d : Int) (w : World) : Calls Try.prog 29 #[.int .i8 d] w fun e w' => e = .returned (.bool (leftB d)) ∧ w = w' := by
  by_cases h1 : 14 ≤ d
  · have b1 : decide (d ≥ 14) = true := by simpa using h1
    by_cases h2 : d ≤ 18
    · have e : Hid (leftB d = true) := (leftB_iff d).2 (.inr ⟨h1, h2⟩)
      go_enter Try.func29, Try.ntmps29
      go_wp2
      go_ret
      exact ⟨ret_bool' e.out, rfl⟩
    · have b2 : (d == 9) = false := by
        have : d ≠ 9 := by omega
        simpa using this
      have e : Hid (leftB d = false) := by
        show _ = _
        cases h : leftB d with
        | false => rfl
        | true => have := (leftB_iff d).1 h; omega
      go_enter Try.func29, Try.ntmps29
      go_wp2
      go_ret
      exact ⟨ret_bool' e.out, rfl⟩
  · have e : Hid (leftB d = (d == 9)) := by
      show _ = _
      unfold leftB
      rw [show decide (14 ≤ d) = false from by simpa using h1]
      simp
    go_enter Try.func29, Try.ntmps29
    go_wp2
    go_ret
    exact ⟨ret_bool' e.out, rfl⟩
theorem runs_lenW (zs lv : List Int) (rows : List (List Int)) (n : Nat) (hn : zs.length = n) (hl : lv.length = n) (hr : runsL zs lv = rows) : rows.length ≤ n := by
  have h := (rto_good zs lv (pairsL (zs.take (min zs.length lv.length))) (min zs.length lv.length)).len
  have e : min zs.length lv.length = n := by omega
  unfold runsL at hr
  rw [hr, e] at h
  exact h
theorem runs_eachW (zs lv : List Int) (rows : List (List Int)) (n : Nat) (hn : zs.length = n) (hl : lv.length = n) (hr : runsL zs lv = rows) : ∀ a, a < rows.length → (rows.getD a []).length ≤ n := by
  have h := (rto_good zs lv (pairsL (zs.take (min zs.length lv.length))) (min zs.length lv.length)).each
  have e : min zs.length lv.length = n := by omega
  unfold runsL at hr
  rw [hr, e] at h
  exact h
theorem same_symm {f : FuncId} {args : Array Value} {w : World} {v : Value} (h : Calls Try.prog f args w fun e w' => e = .returned v ∧ w = w') : Calls Try.prog f args w fun e w' => e = .returned v ∧ w' = w :=
  h.mono fun _ _ h => ⟨h.1, h.2.symm⟩
theorem rows_drop (rows : List (List Int)) (a : Nat) (ha : a < rows.length) : rows.drop a = rows.getD a [] :: rows.drop (a + 1) := by
  rw [List.drop_eq_getElem_cons ha, List.getD_eq_getElem?_getD, List.getElem?_eq_getElem ha]; rfl
theorem take_flat (rows : List (List Int)) (a : Nat) (ha : a < rows.length) : (rows.take (a + 1)).flatten = (rows.take a).flatten ++ rows.getD a [] := by
  rw [List.take_succ_eq_append_getElem ha, List.flatten_append, List.getD_eq_getElem?_getD, List.getElem?_eq_getElem ha]
  simp
theorem part_count (rows : List (List Int)) (a m : Nat) (ha : a < rows.length) (x : Int) : ((rows.take a).flatten ++ (rows.getD a []).take m).count x ≤ rows.flatten.count x := by
  have e : rows.flatten = (rows.take a).flatten ++ ((rows.getD a []).take m ++ ((rows.getD a []).drop m ++ (rows.drop (a + 1)).flatten)) := by
    rw [← List.append_assoc ((rows.getD a []).take m), List.take_append_drop, ← List.flatten_cons, ← rows_drop rows a ha, ← List.flatten_append, List.take_append_drop]
  rw [e]
  simp only [List.count_append]
  omega
theorem asc_next (row : List Int) (h : row.Pairwise (· < ·)) (m : Nat) (hm : m + 1 < row.length) : row.getD m 0 < row.getD (m + 1) 0 := by
  have := List.pairwise_iff_getElem.1 h m (m + 1) (by omega) hm (by omega)
  rw [List.getD_eq_getElem?_getD, List.getD_eq_getElem?_getD, List.getElem?_eq_getElem (by omega), List.getElem?_eq_getElem hm]
  exact this
/-- how often each place has been met -/
structure Seen (w0 wx : World) (gs n : Nat) (L : List Int) (sl : List Int) : Prop where
  own : Own wx 3 w0.heap.size (.slice (some ⟨gs, 0, none⟩) n n) (ints .i64 sl)
  len : sl.length = n
  cnt : ∀ i : Nat, i < n → sl.getD i 0 = (L.count (i : Int) : Int)
  below : Below w0.heap.size w0 wx
theorem Seen.quiet {w0 wx wy : World} {gs n : Nat} {L sl : List Int} (h : Seen w0 wx gs n L sl) (hb : Below wx.heap.size wx wy) : Seen w0 wy gs n L sl :=
  ⟨h.own.below_ hb, h.len, h.cnt, h.below.trans (hb.mono h.below.size)⟩
theorem Seen.put {w0 wx : World} {gs n : Nat} {L sl : List Int} (h : Seen w0 wx gs n L sl) (y : Nat) (hy : y < n) : Seen w0 (wx.setCell ⟨gs, y, none⟩ (.int .i64 (sl.getD y 0 + 1))) gs n (L ++ [(y : Int)]) (sl.set y (sl.getD y 0 + 1)) := by
  refine ⟨own_put h.own y _, by simp [h.len], fun i hi => ?_, h.below.setCell (p := ⟨gs, y, none⟩) (by exact (h.own.lt gs rfl).1) _⟩
  rw [getD_set _ _ _ _ (by rw [h.len]; exact hy), List.count_append, List.count_singleton]
  by_cases e : i = y
  · subst e
    rw [if_pos rfl, h.cnt i hi]
    simp
  · rw [if_neg e, h.cnt i hi]
    have : ¬ (y : Int) = (i : Int) := by omega
    simp [this]
set_option maxRecDepth 20000 in
set_option maxHeartbeats 8000000 in
theorem wholelaw_any (zs : List Int) (A : Option Addr) (c base : Nat) (w : World) (hl : zs.length < 1048576) (hc : zs.length ≤ c ∧ c ≤ maxLen) (h : Sl w w.heap.size A (ints .i8 zs)) :
    Calls Try.prog 7 #[.slice A zs.length c, .int .u8 base] w fun e w' => e = .returned (.bool true) ∧ Below w.heap.size w w' := by
  obtain ⟨i3, hi3, hz30, hz31, hz32⟩ := info_parts info3
  obtain ⟨n, hn⟩ : ∃ n, zs.length = n := ⟨_, rfl⟩
  obtain ⟨low, hlow⟩ : ∃ low : Int, low = ((min base 125 : Nat) : Int) := ⟨_, rfl⟩
  have hlow2 : 0 ≤ low ∧ low ≤ 125 := by omega
  have hmin := Lib.hid (fun ts t w => (min_u8 (P := Try.prog) base ts t w).trans (by rw [← hlow]) : ∀ (ts : Array TypeId) (t : TypeId) (w : World), (Builtin.min_ ts t #[.int .u8 base, .int .u8 125]).run Try.prog w = .ok (.int .u8 low) w)
  obtain ⟨X, hX⟩ : ∃ X, (lto low zs n).1 = X := ⟨_, rfl⟩
  obtain ⟨K, hK⟩ : ∃ K, (lto low zs n).2.1 = K := ⟨_, rfl⟩
  obtain ⟨rows, hr⟩ : ∃ r, runsL zs X = r := ⟨_, rfl⟩
  have hLn := lto_length low zs n
  rw [hX, hK] at hLn
  have hPl := pairsL_length zs
  obtain ⟨pr, hpr⟩ : ∃ pr, pairsL zs = pr := ⟨_, rfl⟩
  rw [hpr] at hPl
  have HPL := Lib.hid (fun i (hi : i < n) => whole_place low hlow2 zs i X K n hi hX hK _ rfl)
  have HPM := Lib.hid (fun i (hi : i < n) => (show pr.getD i 0 = -1 ∨ ∃ j, j < n ∧ (Matched zs pr i j ∨ Matched zs pr j i) from by rw [← hpr, ← hn]; exact pairs_matched zs i (by omega)))
  have HRW := Lib.hid (whole_runs low zs X n rows hn hX hr)
  have HRL := Lib.hid (And.intro (runs_lenW zs X rows n hn hLn.1 hr) (runs_eachW zs X rows n hn hLn.1 hr))
  have HLv := Lib.hid (show Calls Try.prog 19 #[.slice A n c, .int .u8 base] w _ from levels_is zs X K n A c base w hn (by rw [← hlow]; exact hX) (by rw [← hlow]; exact hK) hLn.1 hLn.2 (by omega) (by omega) h)
  have HPa := Lib.hid (fun W (hb : Below w.heap.size w W) => (show Calls Try.prog 12 #[.slice A n c] W fun e w' => e = .returned (.slice (some ⟨W.heap.size, 0, none⟩) n n) ∧ Own w' 3 W.heap.size (.slice (some ⟨W.heap.size, 0, none⟩) n n) (ints .i64 pr) ∧ Below W.heap.size W w' from by
    have := pairs_any zs A c W hl ((h.below hb).more hb.size)
    rw [hn, hpr] at this
    exact this))
  have HRu := Lib.hid (fun W (hb : Below w.heap.size w W) X2 c2 (hs : Sl W W.heap.size X2 (ints .u8 X)) => runs_is zs X n rows A X2 c c2 W hn hLn.1 hr (by omega) (by omega) ((h.below hb).more hb.size) hs)
  have HS := Lib.hid h
  have HLn := Lib.hid (And.intro hLn (And.intro (hPl.trans hn) (And.intro hpr hn)))
  rw [hn] at hl hc ⊢
  clear h hX hK hr hLn hPl hpr hn hlow
  obtain ⟨hlow3, hlow4⟩ := hlow2
  go_enter Try.func7, Try.ntmps7
  go_wp2_with (first | (refine wpList_min rfl (.tmp 22) (.const (.int .u8 125)) #[5, 5] rfl (.int .u8 base) (.int .u8 125) (.int .u8 low) rfl rfl hmin.out ?_))
  refine HLv.out.mono ?_
  rintro e w1 ⟨XA, xc, KA, kc, rfl, ho1, ho2, hb1⟩
  have HB1 := Lib.hid hb1
  have HX := Lib.hid (And.intro ho1 ho2)
  clear hb1 ho1 ho2 HLv hmin
  go_wp2_with fail
  refine (HPa.out w1 HB1.out).mono ?_
  rintro e w2 ⟨rfl, ho3, hb2⟩
  have HB2 := Lib.hid (HB1.out.trans (hb2.mono HB1.out.size))
  have HX2 := Lib.hid (And.intro (own_mono (HX.out.1.below_ hb2) (Nat.le_refl _)) (HX.out.2.below_ hb2))
  have HP2 := Lib.hid (own_mono ho3 HB1.out.size)
  obtain ⟨gp, hgp⟩ : ∃ gp, gp = w1.heap.size := ⟨_, rfl⟩
  rw [← hgp] at HP2 ⊢
  clear hb2 ho3 HB1 HX HPa hgp
  go_wp2_with fail
  go_loopw [9, 10] (fun sv iv wr => ∃ k : Nat, k ≤ n ∧ iv = .int .i64 k ∧ sv = .bool (saidB zs k) ∧ Below w2.heap.size w2 wr) (fun _ i _ => n - (intOf i).toNat)
  case atStart => exact ⟨0, by omega, rfl, rfl, Below.refl _ _⟩
  case round =>
    obtain ⟨k, hk, rfl, rfl, hbr⟩ := hrel
    by_cases hlt : k < n
    · have hlt' : (k : Int) < n := by omega
      have hk0 : (0 : Int) ≤ k := by omega
      have hbw := HB2.out.trans (hbr.mono HB2.out.size)
      obtain ⟨ad, rfl, hadb, hcell⟩ := sl_at (HS.out.below hbw) (i := k) (by rw [HLn.out.2.2.2]; exact hlt)
      obtain ⟨gx, rfl, -, -⟩ := own_is HX2.out.1 (by rw [HLn.out.1.1]; omega)
      obtain ⟨gk, rfl, -, -⟩ := own_is HX2.out.2 (by rw [HLn.out.1.2]; omega)
      have hk1 := own_at (HX2.out.1.below_ hbr) (i := k) (by rw [HLn.out.1.1]; exact hlt)
      have hk2 := own_at (HX2.out.2.below_ hbr) (i := k) (by rw [HLn.out.1.2]; exact hlt)
      have hk3 := own_at (HP2.out.below_ hbr) (i := k) (by rw [HLn.out.2.1]; exact hlt)
      obtain ⟨q1, q2, q3, q4, q5⟩ := HPL.out k hlt
      have hM := HPM.out k hlt
      have hMd : ∀ i, (i = k → opensB (clsL (zs.getD i 0)) = opensB (clsL (zs.getD k 0))) := fun i e => by rw [e]
      have hPb : -1 ≤ pr.getD k 0 ∧ pr.getD k 0 < n := by
        have := pairsL_bound zs k (by rw [HLn.out.2.2.2]; exact hlt)
        rw [HLn.out.2.2.1, HLn.out.2.2.2] at this
        exact this
      have hsn : saidB zs (k + 1) = ((saidB zs k || decide (14 ≤ clsL (zs.getD k 0))) && !(clsL (zs.getD k 0) == 10)) := rfl
      have HKc := Lib.hid (fun W => lclass_any (zs.getD k 0) W)
      obtain ⟨d, hd⟩ : ∃ d, d = clsL (zs.getD k 0) := ⟨_, rfl⟩
      rw [← hd] at q3 q4 q5 hsn HKc hMd
      obtain ⟨z, hz⟩ : ∃ z, z = zs.getD k 0 := ⟨_, rfl⟩
      rw [← hz] at HKc hcell hd
      obtain ⟨x, hx⟩ : ∃ x, x = X.getD k 0 := ⟨_, rfl⟩
      rw [← hx] at hk1 q1 q2 q4 q5
      obtain ⟨ka, hka⟩ : ∃ ka, ka = K.getD k 0 := ⟨_, rfl⟩
      rw [← hka] at hk2 q3 q4 q5
      obtain ⟨p, hp⟩ : ∃ p, p = pr.getD k 0 := ⟨_, rfl⟩
      rw [← hp] at hk3 hM hPb
      obtain ⟨b, hb⟩ : ∃ b, b = saidB zs k := ⟨_, rfl⟩
      rw [← hb] at q5 hsn ⊢
      have hq3 : (ka == 9) = leftB d := by
        cases hlb : leftB d with
        | true => simpa using q3.1 hlb
        | false =>
          have : ka ≠ 9 := fun e => by have := q3.2 e; rw [hlb] at this; cases this
          simpa using this
      have hMc : p = -1 ∨ ∃ j : Nat, j < n ∧ p = j ∧ pr.getD j 0 = k ∧ ((k < j ∧ opensB d = true) ∨ (j < k ∧ d = 22 ∧ opensB d = false)) := by
        rcases hM with hM | ⟨j, hj, hM | hM⟩
        · exact .inl hM
        · exact .inr ⟨j, hj, hp.trans hM.fwd, hM.back, .inl ⟨hM.lt, by rw [hd, hz]; exact hM.opens⟩⟩
        · exact .inr ⟨j, hj, hp.trans hM.back, hM.fwd, .inr ⟨hM.lt, by rw [hd, hz]; exact hM.ends, by rw [hd, hz, hM.ends]; decide⟩⟩
      have HSN := Lib.hid hsn
      have HQ5 := Lib.hid q5
      have HQ4 := Lib.hid q4
      have HMc := Lib.hid hMc
      have HBR := Lib.hid hbr
      have HBg := Lib.hid (fun W => lbegins_any d W)
      have HOu := Lib.hid (fun W => lout_any d W)
      have HZd := Lib.hid (And.intro hd hz)
      have hqx1 : ¬ x < low := by omega
      have hqx2 : ¬ 125 < x := by omega
      have hqx3 : decide (x < low) = false := by simp; omega
      have hqx4 : decide (125 < x) = false := by simp; omega
      obtain ⟨lb, hlb⟩ : ∃ lb, lb = leftB d := ⟨_, rfl⟩
      rw [← hlb] at hq3 HOu
      obtain ⟨hPb1, hPb2⟩ := hPb
      have HPp := Lib.hid hp
      have HBb := Lib.hid hb
      clear hd hz hx hka hp hb hM hMd q1 q2 q3 q4 q5 hsn hMc hbr hbw hlb
      go_upto_region 11 with (first | (go_at_call 28; refine (HKc.out _).mono ?_; rintro e w' ⟨rfl, rfl⟩))
      go_cut [103] (fun bv wx => bv = .bool false ∧ Below wr.heap.size wr wx)
      case first => as_aux_lemma =>
        by_cases h10 : d = 10
        · have hq4 := HQ4.out h10
          have hq41 : (ka != 10) = false := by simp [hq4.1]
          have hq42 : (x != low) = false := by simp [hq4.2]
          have h10' : (d == 10) = true := by simpa using h10
          clear hq4 h10
          go_wp2_with fail
          go_quiet ((go_at_call 29; exact Calls.quiet_of_same (same_symm (HOu.out _))))
          go_wp2_with fail
          go_meet
          exact ⟨rfl, below_drewN' (Below.refl _ _) _⟩
        · have h10' : (d == 10) = false := by simpa using h10
          clear h10
          go_wp2_with fail
          go_quiet ((go_at_call 29; exact Calls.quiet_of_same (same_symm (HOu.out _))))
          go_wp2_with fail
          go_meet
          exact ⟨rfl, below_drewN' (Below.refl _ _) _⟩
      case rest =>
        obtain ⟨rfl, hbx⟩ := hcut
        have hk1' := own_at ((HX2.out.1.below_ HBR.out).below_ hbx) (i := k) (by rw [HLn.out.1.1]; exact hlt)
        have hk2' := own_at ((HX2.out.2.below_ HBR.out).below_ hbx) (i := k) (by rw [HLn.out.1.2]; exact hlt)
        have hk3' := own_at ((HP2.out.below_ HBR.out).below_ hbx) (i := k) (by rw [HLn.out.2.1]; exact hlt)
        have ek1 := hk1.symm.trans (own_at (HX2.out.1.below_ HBR.out) (i := k) (by rw [HLn.out.1.1]; exact hlt))
        have ek2 := hk2.symm.trans (own_at (HX2.out.2.below_ HBR.out) (i := k) (by rw [HLn.out.1.2]; exact hlt))
        rw [← ek1] at hk1'
        rw [← ek2] at hk2'
        rw [← HPp.out] at hk3'
        have HP3 := Lib.hid ((HP2.out.below_ HBR.out).below_ hbx)
        have HBW := Lib.hid (HBR.out.trans (hbx.mono HBR.out.size))
        clear hk1 hk2 hk3 ek1 ek2 hbx hcell
        go_upto_region 14 with fail
        go_cut [144] (fun bv wx => bv = .bool false ∧ wx = wc)
        case first => as_aux_lemma =>
          rcases HMc.out with hp1 | ⟨j, hj, hp1, hback, hdir⟩
          · subst hp1
            go_wp2_with fail
            go_meet
            exact ⟨by first | rfl | (simp; done) | (simp; omega), rfl⟩
          · subst hp1
            have hj' : (j : Int) < n := by omega
            have hj0 : (0 : Int) ≤ j := by omega
            have hk4 := own_at HP3.out (i := j) (by rw [HLn.out.2.1]; exact hj)
            rw [hback] at hk4
            rcases hdir with ⟨hkj, ho⟩ | ⟨hkj, h22, ho⟩
            · rw [ho] at HBg
              have h1 : (k : Int) < j := by omega
              have h2 : ¬ (j : Int) < -1 := by omega
              have h22 : (d != 22) = true := by
                have := (opensB_iff d).1 ho
                simp; omega
              clear ho hkj hback
              go_wp2_with (first | (go_at_call 30; refine (HBg.out _).mono ?_; rintro e w' ⟨rfl, rfl⟩))
              go_meet
              exact ⟨by first | rfl | (simp; done) | (simp; omega), rfl⟩
            · subst h22
              rw [ho] at HBg
              have h1 : ¬ (k : Int) < j := by omega
              have h2 : ¬ (j : Int) < -1 := by omega
              clear ho hkj hback
              go_wp2_with (first | (go_at_call 30; refine (HBg.out _).mono ?_; rintro e w' ⟨rfl, rfl⟩))
              go_meet
              exact ⟨by first | rfl | (simp; done) | (simp; omega), rfl⟩
        case rest =>
          obtain ⟨rfl, hwc⟩ := hcut
          have hwc' := hwc.symm
          subst hwc'
          go_upto_region 16 with fail
          go_cut [9] (fun sv wx => sv = .bool (b || decide (14 ≤ d)) ∧ wx = wc)
          case first => as_aux_lemma =>
            cases b with
            | false =>
              go_wp2_with fail
              go_meet
              exact ⟨by simp, rfl⟩
            | true =>
              go_wp2_with fail
              go_meet
              exact ⟨by simp, rfl⟩
          case rest =>
            obtain ⟨rfl, hwc⟩ := hcut
            have hwc' := hwc.symm
            subst hwc'
            obtain ⟨sd, hsd⟩ : ∃ sd, sd = (b || decide (14 ≤ d)) := ⟨_, rfl⟩
            rw [← hsd] at HSN HQ5 ⊢
            clear hsd
            go_upto_region 17 with fail
            go_cut [171] (fun bv wx => bv = .bool false ∧ wx = wc)
            case first => as_aux_lemma =>
              cases sd with
              | true =>
                go_wp2_with fail
                go_meet
                exact ⟨rfl, rfl⟩
              | false =>
                rcases HQ5.out rfl with ⟨h1, h2⟩ | h9
                · have e1 : (x != low) = false := by simp [h1]
                  have e2 : (ka != d) = false := by simp [h2]
                  clear h1 h2
                  go_wp2_with fail
                  go_meet
                  exact ⟨rfl, rfl⟩
                · subst h9
                  go_wp2_with fail
                  all_goals
                    go_meet
                    exact ⟨rfl, rfl⟩
            case rest =>
              obtain ⟨rfl, hwc⟩ := hcut
              have hwc' := hwc.symm
              subst hwc'
              have hfin : ∀ e : Bool, e = (d == 10) → saidB zs (k + 1) = (sd && !e) := fun e he => by rw [he]; exact HSN.out
              cases sd with
              | false =>
                have HF := Lib.hid (hfin _ rfl)
                clear hfin
                go_wp2_with fail
                go_roundw
                case rel => exact ⟨k + 1, by omega, by go_num, by rw [HF.out]; simp, HBW.out⟩
                case measure => simp [intOf]; omega
              | true =>
                have HF := Lib.hid (hfin _ rfl)
                clear hfin
                go_wp2_with fail
                go_roundw
                case rel => exact ⟨k + 1, by omega, by go_num, by rw [HF.out]; simp [bne], HBW.out⟩
                case measure => simp [intOf]; omega
    · have hk' : k = n := by omega
      subst hk'
      have hnl : ¬ (k : Int) < k := by omega
      have HBL := Lib.hid (HB2.out.trans (hbr.mono HB2.out.size))
      have HX3 := Lib.hid (HX2.out.1.below_ hbr)
      clear hbr HPL HPM HX2 HP2 HB2
      go_wp2_with fail
      refine (HRu.out _ HBL.out _ _ HX3.out.sl).mono ?_
      rintro e w5 ⟨OA, oc, ov, rfl, hm, hb5⟩
      have HM5 := Lib.hid hm
      have HB5 := Lib.hid (HBL.out.trans (hb5.mono HBL.out.size))
      have HX5 := Lib.hid (HX3.out.below_ hb5)
      clear hm hb5 HX3 HBL HRu
      go_wp2_with (first
        | (at_make; refine wpList_make_full _ rfl (.tmp 181) (.tmp 181) 25 rfl w5.heap.size 3 i3 _ 1 Try.underlying25 hi3 hz30 hz31 .i64 .i64 k k k rfl rfl rfl rfl (by rw [hz32]; omega) (by unfold maxLen; omega) (Nat.le_refl _) ?_; intro w6 hown hg))
      rw [show (Value.int IntKind.i64 0).cells = #[Value.int .i64 0] from rfl, Nat.mul_one, toList_madeCells_one] at hown
      have HS6 := Lib.hid (show Seen w5 w6 w5.heap.size k [] (List.replicate k 0) from ⟨by simpa [Own, ints] using hown, by simp, fun i hi => by rw [getD_rep]; simp, (Below.refl _ _).grown hg (Nat.le_refl _) (by simp)⟩)
      clear hown hg
      go_wp2_with fail
      obtain ⟨gs, hgs⟩ : ∃ gs, gs = w5.heap.size := ⟨_, rfl⟩
      rw [← hgs] at HS6 ⊢
      have HGs := Lib.hid hgs
      clear hgs
      go_loopw [15, 16] (fun fv iv wx => ∃ (a : Nat) (fp : Int) (sl : List Int), a ≤ rows.length ∧ iv = .int .i64 a ∧ fv = .int .i64 fp ∧ Hid (a < rows.length → fp < (rows.getD a []).getD 0 0) ∧ Hid (Seen w5 wx gs k (rows.take a).flatten sl)) (fun _ i _ => rows.length - (intOf i).toNat)
      case atStart =>
        refine ⟨0, -1, List.replicate k 0, by omega, rfl, rfl, fun hr => ?_, HS6.out⟩
        have := HRW.out.2.2.1 0 _ (getD_mem' (rows.getD 0 []) 0 (HRW.out.2.1 0 hr))
        omega
      case round =>
        obtain ⟨a, fp, sl, ha, rfl, rfl, HFP, HSE⟩ := hrel
        by_cases hal : a < rows.length
        · have hal' : (a : Int) < rows.length := by omega
          have hrl : (rows.length : Int) ≤ 1048576 := by have := HRL.out.1; omega
          have ha0 : (0 : Int) ≤ a := by omega
          obtain ⟨go, A0, L0, c0, hOA, -, hcA, -, hgo, hL0, ho0, -⟩ := HM5.out.at_ a hal
          subst hOA
          obtain ⟨row, hrow⟩ : ∃ row, row = rows.getD a [] := ⟨_, rfl⟩
          have hLp := HRW.out.2.1 a hal
          have hAs := HRW.out.1 a
          have hEl := HRW.out.2.2.1 a
          have hLe := HRL.out.2 a hal
          have hfp := HFP.out hal
          rw [← hrow] at hL0 ho0 hLp hAs hEl hLe hfp
          obtain ⟨gr, rfl, -, -⟩ := own_is ho0 hLp
          obtain ⟨f0, hf0⟩ : ∃ f0 : Nat, row.getD 0 0 = f0 := ⟨(row.getD 0 0).toNat, by have := hEl _ (getD_mem' row 0 hLp); omega⟩
          have hf0n : f0 < k := by have := hEl _ (getD_mem' row 0 hLp); omega
          rw [hf0] at hfp
          have HRr := Lib.hid (fun wx (hb : Below w5.heap.size w5 wx) => And.intro ((hb.cell (p := ⟨go, a, none⟩) hgo).trans hcA) (ho0.below_ hb))
          have HEl := Lib.hid hEl
          have HAs := Lib.hid hAs
          have HRo := Lib.hid hrow
          have HL0 := Lib.hid hL0
          have HF0 := Lib.hid hf0
          have hLp' : 0 < L0 := by omega
          have hLe' : (L0 : Int) ≤ 1048576 := by omega
          clear hcA ho0 hrow hLp hAs hEl hLe hL0 hgo HFP hf0
          go_wp2_with fail
          go_loopw [17, 18] (fun lv iv wx => ∃ (m : Nat) (la : Int) (sl : List Int), m ≤ L0 ∧ iv = .int .i64 m ∧ lv = .int .i64 la ∧ Hid ((m < L0 → la < row.getD m 0) ∧ (0 < m → 0 ≤ la)) ∧ Hid (Seen w5 wx gs k ((rows.take a).flatten ++ row.take m) sl)) (fun _ i _ => L0 - (intOf i).toNat)
          case atStart =>
            refine ⟨0, -1, sl, by omega, rfl, rfl, ⟨fun _ => ?_, fun h => absurd h (by omega)⟩, ?_⟩
            · have := HF0.out; omega
            · show Seen _ _ _ _ _ _
              rw [List.take_zero, List.append_nil]; exact HSE.out
          case round =>
            obtain ⟨m, la, sm, hm, rfl, rfl, HLA, HSM⟩ := hrel
            obtain ⟨hcA, hro⟩ := HRr.out _ HSM.out.below
            by_cases hml : m < L0
            · have hml' : (m : Int) < L0 := by omega
              have hm0 : (0 : Int) ≤ m := by omega
              have hcr := own_at hro (i := m) (by rw [← HL0.out]; exact hml)
              have hE := HEl.out _ (getD_mem' row m (by rw [← HL0.out]; exact hml))
              have hla := HLA.out.1 hml
              obtain ⟨y, hy⟩ : ∃ y : Nat, row.getD m 0 = y := ⟨(row.getD m 0).toNat, by omega⟩
              rw [hy] at hcr hE hla
              rw [HF0.out] at hE
              simp only [Int.toNat_natCast] at hE
              obtain ⟨-, hyn, hlf, hxx⟩ := hE
              have hyk : y < k := by omega
              have HY := Lib.hid (And.intro hy hyk)
              have HLF := Lib.hid hlf
              have HXX := Lib.hid hxx
              clear hy hlf hxx
              go_upto_region 31 with fail
              go_cut [237] (fun bv wy => bv = .bool false ∧ Below wr.heap.size wr wy)
              case first => as_aux_lemma =>
                have hcr0 := own_at hro (i := 0) (by rw [← HL0.out]; exact hLp')
                rw [HF0.out] at hcr0
                obtain ⟨ad, rfl, hadb, hcell⟩ := sl_at ((HS.out.below (HB5.out.trans (HSM.out.below.mono HB5.out.size)))) (i := y) (by rw [HLn.out.2.2.2]; exact hyk)
                obtain ⟨gx, rfl, -, -⟩ := own_is HX5.out (by rw [HLn.out.1.1]; omega)
                have hx1 := own_at (HX5.out.below_ HSM.out.below) (i := y) (by rw [HLn.out.1.1]; exact hyk)
                have hx2 := own_at (HX5.out.below_ HSM.out.below) (i := f0) (by rw [HLn.out.1.1]; exact hf0n)
                rw [HXX.out] at hx1
                obtain ⟨xv, hxv⟩ : ∃ xv, xv = X.getD f0 0 := ⟨_, rfl⟩
                rw [← hxv] at hx1 hx2
                have HKc := Lib.hid (fun W => lclass_any (zs.getD y 0) W)
                have HOu := Lib.hid (fun W => lout_any (clsL (zs.getD y 0)) W)
                have hlf : leftB (clsL (zs.getD y 0)) = false := HLF.out
                rw [hlf] at HOu
                obtain ⟨d, hd⟩ : ∃ d, d = clsL (zs.getD y 0) := ⟨_, rfl⟩
                rw [← hd] at HKc HOu
                obtain ⟨z, hz⟩ : ∃ z, z = zs.getD y 0 := ⟨_, rfl⟩
                rw [← hz] at HKc hcell
                have e1 : decide ((y : Int) ≤ la) = false := by simp; omega
                have e2 : decide (k ≤ y) = false := by simp; omega
                have e3 : (y : Int) < k := by omega
                have e4 : (0 : Int) ≤ y := by omega
                have e5 : (f0 : Int) < k := by omega
                have e6 : (0 : Int) ≤ f0 := by omega
                have e7 : (0 : Int) < L0 := by omega
                clear hxv hd hz hlf hadb
                go_wp2_with fail
                go_quiet ((first | (go_at_call 28; exact Calls.quiet_of_same (same_symm (HKc.out _))) | (go_at_call 29; exact Calls.quiet_of_same (same_symm (HOu.out _)))))
                go_wp2_with fail
                go_meet
                exact ⟨rfl, below_drewN' (Below.refl _ _) _⟩
              case rest =>
                obtain ⟨rfl, hbx⟩ := hcut
                have HSN := Lib.hid (HSM.out.quiet hbx)
                have hsc := own_at HSN.out.own (i := y) (by rw [HSN.out.len]; exact hyk)
                have hsf := HSN.out.own.free y
                have hsv : 0 ≤ sm.getD y 0 ∧ sm.getD y 0 ≤ 1 := by
                  rw [HSN.out.cnt y hyk]
                  have h1 := part_count rows a m hal (y : Int)
                  rw [← HRo.out, HRW.out.2.2.2.2 y] at h1
                  split at h1 <;> omega
                have HPut := Lib.hid (HSN.out.put y hyk)
                obtain ⟨v, hv⟩ : ∃ v, v = sm.getD y 0 := ⟨_, rfl⟩
                rw [← hv] at hsc hsv HPut
                obtain ⟨hsv1, hsv2⟩ := hsv
                have e3 : (y : Int) < k := by omega
                have e4 : (0 : Int) ≤ y := by omega
                have HNx := Lib.hid (show (m + 1 < L0 → (y : Int) < row.getD (m + 1) 0) from fun h => by
                  rw [← HY.out.1]; exact asc_next row HAs.out m (by rw [← HL0.out]; exact h))
                have HTk := Lib.hid (show row.take (m + 1) = row.take m ++ [(y : Int)] from by
                  rw [← take_snoc' row m (by rw [← HL0.out]; exact hml), HY.out.1])
                clear hv hbx hcA hro hcr
                go_wp2_with fail
                go_roundw
                case rel => exact ⟨m + 1, y, _, by omega, by go_num, rfl, ⟨HNx.out, fun _ => by omega⟩, by show Seen _ _ _ _ _ _; rw [HTk.out, ← List.append_assoc]; exact HPut.out⟩
                case measure => simp [intOf]; omega
            · have hml' : m = L0 := by omega
              subst hml'
              have hcr0 := own_at hro (i := 0) (by rw [← HL0.out]; exact hLp')
              rw [HF0.out] at hcr0
              have hla := HLA.out.2 hLp'
              have e1 : decide (la < 0) = false := by simp; omega
              have e2 : decide ((f0 : Int) ≤ fp) = false := by simp; omega
              have e3 : ¬ la < 0 := by omega
              have e4 : ¬ (f0 : Int) ≤ fp := by omega
              have e7 : (0 : Int) < m := by omega
              have HNF := Lib.hid (show a + 1 < rows.length → (f0 : Int) < (rows.getD (a + 1) []).getD 0 0 from fun h => by
                have := HRW.out.2.2.2.1 a (a + 1) (by omega) h
                rw [← HRo.out, HF0.out] at this
                exact this)
              have HFl := Lib.hid (show (rows.take (a + 1)).flatten = (rows.take a).flatten ++ row.take m from by
                rw [take_flat rows a hal, ← HRo.out, HL0.out, List.take_length])
              clear hro hla
              go_wp2_with fail
              go_roundw
              case rel => exact ⟨a + 1, f0, _, by omega, by go_num, rfl, HNF.out, by show Seen _ _ _ _ _ _; rw [HFl.out]; exact HSM.out⟩
              case measure => simp [intOf]; omega
        · have ha' : a = rows.length := by omega
          subst ha'
          have hSf := HSE.out
          rw [List.take_length] at hSf
          have HSf := Lib.hid hSf
          clear hSf HSE
          go_wp2_with fail
          go_loopw [20] (fun iv wx => ∃ i : Nat, i ≤ k ∧ iv = .int .i64 i ∧ Hid (Seen w5 wx gs k rows.flatten sl)) (fun i _ => k - (intOf i).toNat)
          case atStart => exact ⟨0, by omega, rfl, HSf.out⟩
          case round =>
            obtain ⟨i, hi, rfl, HSe⟩ := hrel
            by_cases hik : i < k
            · have hik' : (i : Int) < k := by omega
              have hi0 : (0 : Int) ≤ i := by omega
              have hsc := own_at HSe.out.own (i := i) (by rw [HSe.out.len]; exact hik)
              rw [HSe.out.cnt i hik, HRW.out.2.2.2.2 i] at hsc
              obtain ⟨ad, rfl, hadb, hcell⟩ := sl_at ((HS.out.below (HB5.out.trans (HSe.out.below.mono HB5.out.size)))) (i := i) (by rw [HLn.out.2.2.2]; exact hik)
              have HKc := Lib.hid (fun W => lclass_any (zs.getD i 0) W)
              have HOu := Lib.hid (fun W => lout_any (clsL (zs.getD i 0)) W)
              obtain ⟨lb, hlb⟩ : ∃ lb, lb = lf zs i := ⟨_, rfl⟩
              have hlb2 : leftB (clsL (zs.getD i 0)) = lb := hlb.symm
              rw [hlb2] at HOu
              rw [← hlb] at hsc
              obtain ⟨d, hd⟩ : ∃ d, d = clsL (zs.getD i 0) := ⟨_, rfl⟩
              rw [← hd] at HKc HOu
              obtain ⟨z, hz⟩ : ∃ z, z = zs.getD i 0 := ⟨_, rfl⟩
              rw [← hz] at HKc hcell
              clear hd hz hlb hlb2 hadb
              cases lb with
              | true =>
                rw [if_neg (by simp)] at hsc
                go_wp2_with (first | (go_at_call 28; refine (HKc.out _).mono ?_; rintro e w' ⟨rfl, rfl⟩) | (go_at_call 29; refine (HOu.out _).mono ?_; rintro e w' ⟨rfl, rfl⟩))
                go_roundw
                case rel => exact ⟨i + 1, by omega, by go_num, HSe.out⟩
                case measure => simp [intOf]; omega
              | false =>
                rw [if_pos ⟨hik, rfl⟩] at hsc
                go_wp2_with (first | (go_at_call 28; refine (HKc.out _).mono ?_; rintro e w' ⟨rfl, rfl⟩) | (go_at_call 29; refine (HOu.out _).mono ?_; rintro e w' ⟨rfl, rfl⟩))
                go_roundw
                case rel => exact ⟨i + 1, by omega, by go_num, HSe.out⟩
                case measure => simp [intOf]; omega
            · have hi' : i = k := by omega
              subst hi'
              have HBA := Lib.hid (HB5.out.trans (HSe.out.below.mono HB5.out.size))
              clear HSe
              go_wp2_with fail
              refine (wakes_any _).mono ?_
              rintro e w12 ⟨rfl, hb12⟩
              go_wp2_with fail
              go_ret
              exact ⟨rfl, HBA.out.trans (hb12.mono HBA.out.size)⟩
end Go.Proofs.Ytikgjnfimagpjaa
