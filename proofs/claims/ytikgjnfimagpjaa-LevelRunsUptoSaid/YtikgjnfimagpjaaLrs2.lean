/- the document's answer: Sides. -/
import Derived.Test.YtikgjnfimagpjaaLrs1
import Derived.Test.YtikgjnfimagpjaaLref3
import Derived.Deep.RegionWith
import Derived.Deep.DeepCutAuto
namespace Go.Proofs.Ytikgjnfimagpjaa
open Go.RowKit
theorem max_u8 {P : Program} (a b : Int) (ts : Array TypeId) (t : TypeId) (w : World) : (Builtin.max_ ts t #[.int .u8 a, .int .u8 b]).run P w = .ok (.int .u8 (maxI a b)) w := by
  unfold maxI
  by_cases h : a < b
  · simp [Builtin.max_, Builtin.max2, go_sem, h]
  · simp [Builtin.max_, Builtin.max2, go_sem, h]
theorem wpList_max {P : Program} {w : World} {ops : Array Oper} {rest : List Oper} {o : Oper} {ac : Act} {Q : Exit → Act → World → Prop} (hgd : o.guard = none) (s x : Operand) (ts : Array TypeId)
    (ho : o.op = .call { callee := .builtin .max, args := #[s, x], argTypes := ts }) (v u r : Value) (hs : ac.eval s = v) (hx : ac.eval x = u)
    (hr : ∀ (ts : Array TypeId) (t : TypeId) (w : World), (Builtin.max_ ts t #[v, u]).run P w = .ok r w)
    (h : wpList P ops Q rest (ac.put o.dst r) w) : wpList P ops Q (o :: rest) ac w := by
  refine wpList_plain hgd fun K hK => ?_
  unfold Oper.wp execOp
  simp only [ho, resolve, invoke, builtin, Sem.run_bind, Sem.run_pure, Result.andThen_ok, List.map_toArray, List.map_cons, List.map_nil, hs, hx, hr]
  exact hK _ _ h
theorem pto_map (zs : List Int) : ∀ k, k ≤ zs.length → pto (zs.map clsL) k = pto zs k
  | 0, _ => by simp [pto]
  | k + 1, hk => by
    simp only [pto]
    rw [pto_map zs k (by omega)]
    have e : (zs.map clsL).getD k 0 = clsL (zs.getD k 0) := by
      rw [List.getD_eq_getElem?_getD, List.getElem?_map, List.getElem?_eq_getElem (by omega), List.getD_eq_getElem?_getD, List.getElem?_eq_getElem (by omega)]
      rfl
    rw [e]
    unfold pstep
    rw [clsL_twice]
theorem pairsL_map (zs : List Int) : pairsL (zs.map clsL) = pairsL zs := by
  unfold pairsL
  rw [List.length_map, pto_map zs zs.length (Nat.le_refl _)]
def fstK : List Int → Int
  | [] => -1
  | x :: _ => x
def lstK (l : List Int) : Int := if l = [] then -1 else l.getD (l.length - 1) 0
theorem fstK_snoc (l : List Int) (x : Int) : fstK (l ++ [x]) = if l = [] then x else fstK l := by
  cases l <;> rfl
theorem lstK_snoc (l : List Int) (x : Int) : lstK (l ++ [x]) = x := by
  unfold lstK
  simp
theorem same_symm {f : FuncId} {args : Array Value} {w : World} {v : Value} (h : Calls Try.prog f args w fun e w' => e = .returned v ∧ w = w') : Calls Try.prog f args w fun e w' => e = .returned v ∧ w' = w :=
  h.mono fun _ _ h => ⟨h.1, h.2.symm⟩
theorem maxI_bd (a b : Int) (ha : 0 ≤ a ∧ a < 256) (hb : 0 ≤ b ∧ b < 256) : 0 ≤ maxI a b ∧ maxI a b < 256 := by
  unfold maxI
  split
  · exact hb
  · exact ha
set_option maxRecDepth 20000 in
set_option maxHeartbeats 8000000 in
theorem rsides_any (zs lv run : List Int) (base : Int) (A A2 A3 : Option Addr) (c c2 c3 : Nat) (w : World) (hl : zs.length < 1048576) (hl2 : lv.length ≤ maxLen) (hl3 : run.length ≤ 2097152) (hc : zs.length ≤ c ∧ c ≤ maxLen)
    (h : Sl w w.heap.size A (ints .i8 zs)) (h2 : Sl w w.heap.size A2 (ints .u8 lv)) (h3 : Sl w w.heap.size A3 (ints .i64 run)) (hb : 0 ≤ base ∧ base < 256) (hlv : ∀ i, 0 ≤ lv.getD i 0 ∧ lv.getD i 0 < 256) :
    Calls Try.prog 26 #[.slice A zs.length c, .slice A2 lv.length c2, .int .u8 base, .slice A3 run.length c3] w fun e w' => e = .returned (.tuple #[.int .i8 (sidesL zs lv base run).1, .int .i8 (sidesL zs lv base run).2]) ∧ Below w.heap.size w w' := by
  obtain ⟨n, hn⟩ : ∃ n : Nat, n = min zs.length lv.length := ⟨_, rfl⟩
  have hmin := Lib.hid (fun ts t w => (min_int (P := Try.prog) zs.length lv.length ts t w).trans (by rw [← hn]) : ∀ (ts : Array TypeId) (t : TypeId) (w : World), (Builtin.min_ ts t #[.int .i64 zs.length, .int .i64 lv.length]).run Try.prog w = .ok (.int .i64 n) w)
  have hn1 : n ≤ zs.length ∧ n ≤ lv.length := by omega
  obtain ⟨hn1, hn2⟩ := hn1
  have HX := Lib.hid (show sidesL zs lv base run = if keepL n run = [] then (base % 2, base % 2)
      else (maxI (lv.getD ((keepL n run).getD 0 0).toNat 0) (aheadL zs lv base ((keepL n run).getD 0 0).toNat) % 2, maxI (lv.getD ((keepL n run).getD ((keepL n run).length - 1) 0).toNat 0) (nextL zs lv base n ((keepL n run).getD ((keepL n run).length - 1) 0).toNat) % 2) from by unfold sidesL; rw [← hn])
  have hnl : (zs.take n).length = n := by simp; omega
  have HCl := Lib.hid (show Calls Try.prog 33 #[.slice A n c] w fun e w' => ∃ A' c', e = .returned (.slice A' n c') ∧ Own w' 23 w.heap.size (.slice A' n c') (ints .i8 (clsN zs n)) ∧ Below w.heap.size w w' from by
    have := classes_any (zs.take n) A c w (by omega) (by
      have h5 := sl_take h n
      simpa [ints, List.map_take] using h5)
    rw [hnl] at this
    exact this)
  have HPa := Lib.hid (fun W A' c' (hs : Sl W W.heap.size A' (ints .i8 (clsN zs n))) => (show Calls Try.prog 11 #[.slice A' n c'] W fun e w' => ∃ A' c', e = .returned (.slice A' n c') ∧ Own w' 3 W.heap.size (.slice A' n c') (ints .i64 (pairsL (zs.take n))) ∧ Below W.heap.size W w' from by
    have := rpairs_any (clsN zs n) A' c' W (by rw [clsN_length zs n hn1]; omega) hs
    rw [clsN_length zs n hn1] at this
    unfold clsN at this
    rw [pairsL_map] at this
    exact this))
  have HS2 := Lib.hid h2
  have HS3 := Lib.hid h3
  have HLV := Lib.hid hlv
  have HKM := Lib.hid (keepL_mem n run)
  have hnc : (n : Int) ≤ c := by omega
  have hcc := hc.2
  clear hn h h2 h3 hlv hnl hc
  go_enter Try.func26, Try.ntmps26
  go_wp2_with (first | (refine wpList_min rfl (.tmp 19) (.tmp 21) #[3, 3] rfl (.int .i64 zs.length) (.int .i64 lv.length) (.int .i64 n) rfl rfl hmin.out ?_))
  refine HCl.out.mono ?_
  rintro e w1 ⟨CA, cc, rfl, ho1, hb1⟩
  have HB1 := Lib.hid hb1
  have HC1 := Lib.hid ho1
  clear hb1 ho1 HCl
  go_wp2_with fail
  refine (HPa.out w1 CA cc HC1.out.sl).mono ?_
  rintro e w2 ⟨PA, pc, rfl, ho2, hb2⟩
  have HB2 := Lib.hid (HB1.out.trans (hb2.mono HB1.out.size))
  have HC2 := Lib.hid (HC1.out.below_ hb2)
  have HP2 := Lib.hid ho2
  clear hb2 ho2 HPa HC1 HB1
  go_wp2_with fail
  go_loop [13, 14, 15] (fun fv lv' iv => ∃ k : Nat, ∃ fi la : Int, k ≤ run.length ∧ iv = .int .i64 k ∧ fv = .int .i64 fi ∧ lv' = .int .i64 la ∧ Hid (fi = fstK (keepL n (run.take k)) ∧ la = lstK (keepL n (run.take k)))) (fun _ _ iv => run.length - (intOf iv).toNat)
  case atStart => exact ⟨0, -1, -1, by omega, rfl, rfl, rfl, rfl, rfl⟩
  case round =>
    obtain ⟨k, fi, la, hk, rfl, rfl, rfl, HR⟩ := hrel
    by_cases hlt : k < run.length
    · obtain ⟨ad, rfl, hadb, hcell⟩ := sl_at (HS3.out.below HB2.out) hlt
      have HKs := Lib.hid (keepL_snoc n run k hlt)
      have hfn : fi < 0 ↔ keepL n (run.take k) = [] := by
        rw [HR.out.1]
        have hm := keepL_mem n (run.take k) 0
        cases hq : keepL n (run.take k) with
        | nil => simp [fstK]
        | cons x l =>
          rw [hq] at hm
          have := hm (by simp)
          simp only [List.getD_cons_zero] at this
          simp only [fstK, reduceCtorEq, iff_false]
          omega
      obtain ⟨r, hr⟩ : ∃ r, r = run.getD k 0 := ⟨_, rfl⟩
      rw [← hr] at HKs hcell
      clear hr
      have hlt' : (k : Int) < run.length := by omega
      have hk0 : (0 : Int) ≤ k := by omega
      by_cases hr0 : r < 0
      · have HE := Lib.hid (show keepL n (run.take (k + 1)) = keepL n (run.take k) from by rw [HKs.out]; simp [offB, hr0])
        go_wp2_with fail
        go_round
        case rel => exact ⟨k + 1, fi, la, by omega, by go_num, rfl, rfl, by rw [HE.out]; exact HR.out⟩
        case measure => simp [intOf]; omega
      · by_cases hrn : (n : Int) ≤ r
        · have HE := Lib.hid (show keepL n (run.take (k + 1)) = keepL n (run.take k) from by rw [HKs.out]; simp [offB, hrn])
          go_wp2_with fail
          go_round
          case rel => exact ⟨k + 1, fi, la, by omega, by go_num, rfl, rfl, by rw [HE.out]; exact HR.out⟩
          case measure => simp [intOf]; omega
        · have HE := Lib.hid (show keepL n (run.take (k + 1)) = keepL n (run.take k) ++ [r] from by rw [HKs.out]; simp [offB, hrn, hr0])
          by_cases hfi : fi < 0
          · have HN := Lib.hid (hfn.1 hfi)
            clear hfn
            go_wp2_with fail
            go_round
            case rel => exact ⟨k + 1, r, r, by omega, by go_num, rfl, rfl, by rw [HE.out, fstK_snoc, lstK_snoc, if_pos HN.out]; exact ⟨rfl, rfl⟩⟩
            case measure => simp [intOf]; omega
          · have HN := Lib.hid (fun e => hfi (hfn.2 e))
            clear hfn
            go_wp2_with fail
            go_round
            case rel => exact ⟨k + 1, fi, r, by omega, by go_num, rfl, rfl, by rw [HE.out, fstK_snoc, lstK_snoc, if_neg HN.out]; exact ⟨HR.out.1, rfl⟩⟩
            case measure => simp [intOf]; omega
    · have hk' : k = run.length := by omega
      subst hk'
      have hRr := HR.out
      rw [List.take_length] at hRr
      have HR2 := Lib.hid hRr
      clear HR hRr
      obtain ⟨pl, hpl⟩ : ∃ pl, pl = keepL n run := ⟨_, rfl⟩
      rw [← hpl] at HR2 HX HKM
      clear hpl
      by_cases hpl0 : pl = []
      · have HV := Lib.hid (HX.out.trans (if_pos hpl0))
        have hf : fi = -1 := by rw [HR2.out.1, hpl0]; rfl
        subst hf
        have HD := Lib.hid (fun W => direction_any base hb W)
        clear hpl0
        go_wp2_with (first | (go_at_call 51; refine (HD.out _).mono ?_; rintro e w' ⟨rfl, rfl⟩))
        exact bodyPost_ret (v := .tuple #[.int .i8 (base % 2), .int .i8 (base % 2)]) (by simp [results, Try.results26, go_sem]) rfl ⟨by rw [HV.out], HB2.out⟩
      · have hlp : 0 < pl.length := List.length_pos_iff.2 hpl0
        have HV := Lib.hid (HX.out.trans (if_neg hpl0))
        obtain ⟨f, hf⟩ : ∃ f : Nat, pl.getD 0 0 = f := ⟨(pl.getD 0 0).toNat, by have := HKM.out 0 hlp; omega⟩
        obtain ⟨t, ht⟩ : ∃ t : Nat, pl.getD (pl.length - 1) 0 = t := ⟨(pl.getD (pl.length - 1) 0).toNat, by have := HKM.out (pl.length - 1) (by omega); omega⟩
        have hfn : f < n := by have := HKM.out 0 hlp; omega
        have htn : t < n := by have := HKM.out (pl.length - 1) (by omega); omega
        have hfi : fi = f := by
          rw [HR2.out.1, ← hf]
          cases pl with
          | nil => exact absurd rfl hpl0
          | cons x l => rfl
        have hla : la = t := by
          rw [HR2.out.2, ← ht]
          unfold lstK
          rw [if_neg hpl0]
        have hV2 := HV.out
        rw [hf, ht] at hV2
        simp only [Int.toNat_natCast] at hV2
        have HV2 := Lib.hid hV2
        subst hfi hla
        clear HV HR2 HX HKM hV2 hf ht hpl0 hlp
        have hf0 : ¬ ((f : Nat) : Int) < 0 := by omega
        have hlf := HLV.out f
        have hav := aheadL_bd zs lv base hb HLV.out f
        have HAh := Lib.hid (fun W (hb' : Below w.heap.size w W) (hc' : Sl W W.heap.size CA (ints .i8 (clsN zs n))) => rahead_any zs lv n f base CA A2 cc c2 W hn1 hn2 (by omega) (by omega) hc' ((HS2.out.below hb').more hb'.size))
        obtain ⟨av, hav'⟩ : ∃ av, av = aheadL zs lv base f := ⟨_, rfl⟩
        rw [← hav'] at hav HAh HV2
        clear hav'
        obtain ⟨ad2, rfl, had2, hcell2⟩ := sl_at (HS2.out.below HB2.out) (show f < lv.length by omega)
        obtain ⟨lf, hlf'⟩ : ∃ lf, lf = lv.getD f 0 := ⟨_, rfl⟩
        rw [← hlf'] at hlf hcell2 HV2
        clear hlf'
        have hsv := maxI_bd lf av hlf hav
        have hmx := Lib.hid (fun ts t w => max_u8 (P := Try.prog) lf av ts t w)
        obtain ⟨sv, hsv'⟩ : ∃ sv, sv = maxI lf av := ⟨_, rfl⟩
        rw [← hsv'] at hsv hmx HV2
        clear hsv'
        have hfl : (f : Int) < lv.length := by omega
        have hf00 : (0 : Int) ≤ f := by omega
        go_upto_region 15 with fail
        go_cut [16] (fun mv wx => mv = .int .u8 sv ∧ Below w2.heap.size w2 wx)
        case first => as_aux_lemma =>
          have hmx2 := hmx.out
          go_wp2_with fail
          go_quiet ((go_at_call 52; exact Calls.quiet_of_same (same_symm (HAh.out _ (below_drewN' HB2.out _) (HC2.out.below_ (below_drewN' (Below.refl _ _) _)).sl))))
          go_wp2_with fail
          go_meet
          exact ⟨rfl, below_drewN' (Below.refl _ _) _⟩
        case rest =>
          obtain ⟨rfl, hbx⟩ := hcut
          have HB3 := Lib.hid (HB2.out.trans (hbx.mono HB2.out.size))
          have HC3 := Lib.hid (HC2.out.below_ hbx)
          have HP3 := Lib.hid (HP2.out.below_ hbx)
          have hnl : (pairsL (zs.take n)).length = n := by simp; omega
          have hct := own_is HC3.out (by rw [clsN_length zs n hn1]; omega)
          obtain ⟨gc, rfl, -, -⟩ := hct
          obtain ⟨gp, rfl, -, -⟩ := own_is HP3.out (by rw [hnl]; omega)
          have hk1 := own_at HC3.out (i := t) (by rw [clsN_length zs n hn1]; exact htn)
          have hk2 := own_at HP3.out (i := t) (by rw [hnl]; exact htn)
          rw [clsN_at zs n t htn hn1] at hk1
          have HN := Lib.hid (show nextL zs lv base n t = if opensB (clsL (zs.getD t 0)) = true ∧ (pairsL (zs.take n)).getD t 0 < 0 then base
            else if clsL (zs.getD t 0) = 10 then base else behindL zs lv base n (n - (t + 1)) from rfl)
          have HBe := Lib.hid (rbehind_any zs lv n t base (some ⟨gc, 0, none⟩) (some ad2) cc c2 wc hn1 hn2 htn (by omega) HC3.out.sl ((HS2.out.below HB3.out).more HB3.out.size))
          obtain ⟨d, hd⟩ : ∃ d, d = clsL (zs.getD t 0) := ⟨_, rfl⟩
          rw [← hd] at hk1 HN HBe
          obtain ⟨y, hy⟩ : ∃ y, y = (pairsL (zs.take n)).getD t 0 := ⟨_, rfl⟩
          rw [← hy] at hk2 HN
          clear hd hy hnl hbx hcell2
          have HO := Lib.hid (fun W => begins_any d W)
          obtain ⟨ob, hob⟩ : ∃ ob, ob = opensB d := ⟨_, rfl⟩
          rw [← hob] at HO HN
          clear hob
          obtain ⟨bv, hbv⟩ : ∃ bv, bv = (if d = 10 then base else behindL zs lv base n (n - (t + 1))) := ⟨_, rfl⟩
          rw [← hbv] at HN HBe
          clear hbv
          have htn' : (t : Int) < n := by omega
          have ht0 : (0 : Int) ≤ t := by omega
          have hcase : (ob = true ∧ y < 0) ∨ (ob = true ∧ 0 ≤ y) ∨ ob = false := by
            cases ob with
            | false => exact .inr (.inr rfl)
            | true => by_cases hy0 : y < 0
                      · exact .inl ⟨rfl, hy0⟩
                      · exact .inr (.inl ⟨rfl, by omega⟩)
          rcases hcase with ⟨rfl, hy0⟩ | ⟨rfl, hy0⟩ | rfl
          · have HNV := Lib.hid (show nextL zs lv base n t = base from by rw [HN.out, if_pos ⟨rfl, hy0⟩])
            have hy1 : ¬ 0 ≤ y := by omega
            have HNb := Lib.hid (nextL_bd zs lv base n t hb HLV.out)
            rw [HNV.out] at HNb
            have hnb := HNb.out
            have hlt := HLV.out t
            obtain ⟨ad3, had3, -, hcell3⟩ := sl_at (HS2.out.below HB3.out) (show t < lv.length by omega)
            injection had3 with had3
            subst had3
            obtain ⟨lt, hlt'⟩ : ∃ lt, lt = lv.getD t 0 := ⟨_, rfl⟩
            have hV3 := HV2.out
            rw [HNV.out, ← hlt'] at hV3
            have HV3 := Lib.hid hV3
            rw [← hlt'] at hlt hcell3
            clear hlt' hV3
            have hmv := maxI_bd lt base hlt hnb
            have hmx3 := fun ts t w => max_u8 (P := Try.prog) lt base ts t w
            obtain ⟨mv, hmv'⟩ : ∃ mv, mv = maxI lt base := ⟨_, rfl⟩
            rw [← hmv'] at hmv hmx3 HV3
            clear hmv'
            have HD1 := Lib.hid (fun W => direction_any sv hsv W)
            have HD2 := Lib.hid (fun W => direction_any mv hmv W)
            have htl : (t : Int) < lv.length := by omega
            go_wp2_with (first | (go_at_call 34; refine (HO.out _).mono ?_; rintro e w' ⟨rfl, rfl⟩))
            go_quiet ((first | (go_at_call 51; exact Calls.quiet_of_same (same_symm (HD1.out _))) | (go_at_call 51; exact Calls.quiet_of_same (same_symm (HD2.out _)))))
            go_wp2_with fail
            exact bodyPost_ret (v := .tuple #[.int .i8 (sv % 2), .int .i8 (mv % 2)]) (by simp [results, Try.results26, go_sem]) rfl ⟨by rw [HV3.out], below_drewN' HB3.out _⟩
          · have HNV := Lib.hid (show nextL zs lv base n t = bv from by rw [HN.out, if_neg (by omega)])
            have HNb := Lib.hid (nextL_bd zs lv base n t hb HLV.out)
            rw [HNV.out] at HNb
            have hnb := HNb.out
            have hlt := HLV.out t
            obtain ⟨ad3, had3, -, hcell3⟩ := sl_at (HS2.out.below HB3.out) (show t < lv.length by omega)
            injection had3 with had3
            subst had3
            obtain ⟨lt, hlt'⟩ : ∃ lt, lt = lv.getD t 0 := ⟨_, rfl⟩
            have hV3 := HV2.out
            rw [HNV.out, ← hlt'] at hV3
            have HV3 := Lib.hid hV3
            rw [← hlt'] at hlt hcell3
            clear hlt' hV3
            have hmv := maxI_bd lt bv hlt hnb
            have hmx3 := fun ts t w => max_u8 (P := Try.prog) lt bv ts t w
            obtain ⟨mv, hmv'⟩ : ∃ mv, mv = maxI lt bv := ⟨_, rfl⟩
            rw [← hmv'] at hmv hmx3 HV3
            clear hmv'
            have HD1 := Lib.hid (fun W => direction_any sv hsv W)
            have HD2 := Lib.hid (fun W => direction_any mv hmv W)
            have htl : (t : Int) < lv.length := by omega
            go_wp2_with (first | (go_at_call 34; refine (HO.out _).mono ?_; rintro e w' ⟨rfl, rfl⟩) | (go_at_call 53; refine HBe.out.mono ?_; rintro e w' ⟨rfl, rfl⟩))
            go_quiet ((first | (go_at_call 51; exact Calls.quiet_of_same (same_symm (HD1.out _))) | (go_at_call 51; exact Calls.quiet_of_same (same_symm (HD2.out _)))))
            go_wp2_with fail
            exact bodyPost_ret (v := .tuple #[.int .i8 (sv % 2), .int .i8 (mv % 2)]) (by simp [results, Try.results26, go_sem]) rfl ⟨by rw [HV3.out], below_drewN' HB3.out _⟩
          · have HNV := Lib.hid (show nextL zs lv base n t = bv from by rw [HN.out, if_neg (by simp)])
            have HNb := Lib.hid (nextL_bd zs lv base n t hb HLV.out)
            rw [HNV.out] at HNb
            have hnb := HNb.out
            have hlt := HLV.out t
            obtain ⟨ad3, had3, -, hcell3⟩ := sl_at (HS2.out.below HB3.out) (show t < lv.length by omega)
            injection had3 with had3
            subst had3
            obtain ⟨lt, hlt'⟩ : ∃ lt, lt = lv.getD t 0 := ⟨_, rfl⟩
            have hV3 := HV2.out
            rw [HNV.out, ← hlt'] at hV3
            have HV3 := Lib.hid hV3
            rw [← hlt'] at hlt hcell3
            clear hlt' hV3
            have hmv := maxI_bd lt bv hlt hnb
            have hmx3 := fun ts t w => max_u8 (P := Try.prog) lt bv ts t w
            obtain ⟨mv, hmv'⟩ : ∃ mv, mv = maxI lt bv := ⟨_, rfl⟩
            rw [← hmv'] at hmv hmx3 HV3
            clear hmv'
            have HD1 := Lib.hid (fun W => direction_any sv hsv W)
            have HD2 := Lib.hid (fun W => direction_any mv hmv W)
            have htl : (t : Int) < lv.length := by omega
            go_wp2_with (first | (go_at_call 34; refine (HO.out _).mono ?_; rintro e w' ⟨rfl, rfl⟩) | (go_at_call 53; refine HBe.out.mono ?_; rintro e w' ⟨rfl, rfl⟩))
            go_quiet ((first | (go_at_call 51; exact Calls.quiet_of_same (same_symm (HD1.out _))) | (go_at_call 51; exact Calls.quiet_of_same (same_symm (HD2.out _)))))
            go_wp2_with fail
            exact bodyPost_ret (v := .tuple #[.int .i8 (sv % 2), .int .i8 (mv % 2)]) (by simp [results, Try.results26, go_sem]) rfl ⟨by rw [HV3.out], below_drewN' HB3.out _⟩
end Go.Proofs.Ytikgjnfimagpjaa
