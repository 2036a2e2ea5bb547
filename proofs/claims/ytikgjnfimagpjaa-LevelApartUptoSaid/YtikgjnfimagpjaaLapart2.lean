/- package level: the law's balanced. -/
import Derived.Test.YtikgjnfimagpjaaLapart1
namespace Go.Proofs.Ytikgjnfimagpjaa
open Go.RowKit
set_option maxRecDepth 20000 in
set_option maxHeartbeats 8000000 in
theorem balanced_any (xs : List Int) (A : Option Addr) (c : Nat) (w : World) (hl : xs.length < 1048576) (h : Sl w w.heap.size A (ints .i8 xs)) :
    Calls Try.prog 32 #[.slice A xs.length c] w fun e w' => ∃ v, e = .returned v ∧ Own w' 23 w.heap.size v (ints .i8 (balL xs)) ∧ Below w.heap.size w w' := by
  obtain ⟨i0, hi0, hz0, hz1, hz2⟩ := info_parts info23
  have HS := Lib.hid h
  clear h
  go_enter Try.func32, Try.ntmps32
  go_wp2
  go_loopw [3, 4] (fun pv iv wr => ∃ (k m : Nat) (PA : Option Addr) (pc : Nat), k ≤ xs.length ∧ pv = .slice PA m pc ∧ iv = .int .i64 k ∧ Hid ((plainL (xs.take k)).length = m) ∧ m ≤ k ∧ Own wr 23 w.heap.size (.slice PA m pc) (ints .i8 (plainL (xs.take k))) ∧ Below w.heap.size w wr)
    (fun _ i _ => xs.length - (intOf i).toNat)
  case atStart => exact ⟨0, 0, none, 0, by omega, rfl, rfl, rfl, Nat.le_refl _, Own.nil_ _ _ _, Below.refl _ _⟩
  case round =>
    obtain ⟨k, m, PA, pc, hk, rfl, rfl, HM, hmk, ho, hb⟩ := hrel
    by_cases hlt : k < xs.length
    · obtain ⟨ad, rfl, hadb, hcell⟩ := sl_at (HS.out.below hb) hlt
      have HE := Lib.hid (plainL_snoc xs k hlt)
      have HK := Lib.hid (fun w => lclass_any (xs.getD k 0) w)
      obtain ⟨z, hz⟩ : ∃ z, z = xs.getD k 0 := ⟨_, rfl⟩
      rw [← hz] at HE HK hcell
      obtain ⟨d, hd⟩ : ∃ d, d = clsL z := ⟨_, rfl⟩
      rw [← hd] at HE HK
      have HO := Lib.hid ho
      have HB := Lib.hid hb
      have HLn := Lib.hid (show (ints .i8 (plainL (xs.take k))).length = m from by rw [ints_length]; exact HM.out)
      clear ho hb hz hd
      by_cases h10 : d = 10
      · have b10 : (d != 10) = false := by simpa using h10
        have HE2 := Lib.hid (HE.out.trans (by rw [if_pos h10, List.append_nil]))
        clear h10
        go_wp2_with (first
          | (go_at_call 28; refine (HK.out _).mono ?_; rintro e w' ⟨rfl, rfl⟩))
        go_roundw
        case rel => exact ⟨k + 1, m, PA, pc, by omega, rfl, by go_num, by show _ = _; rw [HE2.out]; exact HM.out, by omega, by rw [HE2.out]; exact HO.out, HB.out⟩
        case measure => simp [intOf]; omega
      · have b10 : (d != 10) = true := by simpa using h10
        have HE2 := Lib.hid (HE.out.trans (by rw [if_neg h10]))
        clear h10
        go_wp2_with (first
          | (go_at_call 28; refine (HK.out _).mono ?_; rintro e w' ⟨rfl, rfl⟩)
          | (at_builtin; refine wpList_append_sl2 _ rfl (.tmp 21) (.tmp 26) 22 rfl w.heap.size 23 i0 _ 1 Try.underlying22 hi0 hz0 hz1 hz2 rfl (.slice PA m pc) m _ HLn.out rfl (HO.out.alloc _) _ _ _ 1 [.int .i8 z] rfl rfl (sl_one' _ _ _ _ (by simp)) (one_int _ _) (by unfold maxLen; omega) (by omega) (by rw [size_alloc']; have := HB.out.size; omega) ?_; intro A2 c2 w2 ho2 ha2
             have HB2 := Lib.hid (own_step (HB.out.alloc HB.out.size _) (HO.out.alloc _) ha2)
             have HO2 := Lib.hid ho2
             rw [ints_snoc] at HO2
             clear ho2 ha2))
        go_roundw
        case rel => exact ⟨k + 1, m + 1, A2, c2, by omega, rfl, by go_num, by show _ = _; rw [HE2.out]; simp [HM.out], by omega, by rw [HE2.out]; exact HO2.out, HB2.out⟩
        case measure => simp [intOf]; omega
    · have hk' : k = xs.length := by omega
      subst hk'
      rw [List.take_length] at ho HM
      obtain ⟨zs, hzs⟩ : ∃ zs, zs = plainL xs := ⟨_, rfl⟩
      rw [← hzs] at ho HM
      have HBal := Lib.hid (show balL xs = kf (pairsL zs) 0 zs from by rw [hzs]; rfl)
      have hp0 := pairs_any zs PA pc wr (by rw [HM.out]; omega) (by rw [← HM.out] at ho; exact ho.sl)
      rw [HM.out] at hp0
      have HP := Lib.hid hp0
      have HO := Lib.hid ho
      have HB := Lib.hid hb
      have hml := HM.out
      clear ho hb hp0 hzs
      go_wp2_with (first
        | (go_at_call 12; refine HP.out.mono ?_; rintro e w3 ⟨rfl, hpo, hpb⟩
           have HPO := Lib.hid hpo
           have HPB := Lib.hid hpb
           have HO3 := Lib.hid (HO.out.below_ hpb)
           clear hpo hpb))
      obtain ⟨pb, hpb⟩ : ∃ pb, pb = wr.heap.size := ⟨_, rfl⟩
      rw [← hpb] at HPO ⊢
      obtain ⟨pr, hpr⟩ : ∃ pr, pr = pairsL zs := ⟨_, rfl⟩
      rw [← hpr] at HBal HPO
      have hprl : pr.length = m := by rw [hpr, pairsL_length, hml]
      have HPl := Lib.hid hprl
      have HB3 := Lib.hid (HB.out.trans (HPB.out.mono HB.out.size))
      clear hpb hpr hprl hml HP HO HB HPB
      go_loopw [6, 7] (fun lv iv wr2 => ∃ (j q : Nat) (LA : Option Addr) (lc : Nat), j ≤ m ∧ iv = .int .i64 j ∧ lv = .slice LA q lc ∧ Hid ((kt pr zs j).length = q) ∧ q ≤ j ∧ Own wr2 23 w3.heap.size (.slice LA q lc) (ints .i8 (kt pr zs j)) ∧ Below w3.heap.size w3 wr2)
        (fun _ i _ => m - (intOf i).toNat)
      case atStart => exact ⟨0, 0, none, 0, by omega, rfl, rfl, rfl, Nat.le_refl _, Own.nil_ _ _ _, Below.refl _ _⟩
      case round =>
        obtain ⟨j, q, LA, lc, hj, rfl, rfl, HQ, hqj, ho, hb⟩ := hrel
        by_cases hlj : j < m
        · have hO4 := HO3.out.below_ hb
          have hP4 := HPO.out.below_ hb
          obtain ⟨-, ga, rfl, hga1, hga2⟩ := hO4.form (by rw [ints_length, HM.out]; omega)
          have hcell := own_at hO4 (i := j) (by rw [HM.out]; exact hlj)
          have hcellp := own_at hP4 (i := j) (by rw [HPl.out]; exact hlj)
          have HE := Lib.hid (show kt pr zs (j + 1) = if 0 ≤ pr.getD j 0 ∨ (opensB (clsL (zs.getD j 0)) = false ∧ clsL (zs.getD j 0) ≠ 22) then kt pr zs j ++ [zs.getD j 0] else kt pr zs j from rfl)
          have HK := Lib.hid (fun w => lclass_any (zs.getD j 0) w)
          obtain ⟨z, hz⟩ : ∃ z, z = zs.getD j 0 := ⟨_, rfl⟩
          rw [← hz] at HE HK hcell
          obtain ⟨d, hd⟩ : ∃ d, d = clsL z := ⟨_, rfl⟩
          rw [← hd] at HE HK
          obtain ⟨y, hy⟩ : ∃ y, y = pr.getD j 0 := ⟨_, rfl⟩
          rw [← hy] at HE hcellp
          have HBg := Lib.hid (fun w => lbegins_any d w)
          have HO5 := Lib.hid ho
          have HB5 := Lib.hid hb
          have HLn := Lib.hid (show (ints .i8 (kt pr zs j)).length = q from by rw [ints_length]; exact HQ.out)
          have hj1 : (j : Int) < m := by omega
          clear ho hb hz hd hy hO4 hP4
          by_cases hy0 : 0 ≤ y
          · have by1 : decide (y ≥ 0) = true := by simpa using hy0
            have HV := Lib.hid (HE.out.trans (if_pos (.inl hy0)))
            go_wp2_with (first
              | (go_at_call 28; refine (HK.out _).mono ?_; rintro e w' ⟨rfl, rfl⟩)
              | (go_at_call 30; refine (HBg.out _).mono ?_; rintro e w' ⟨rfl, rfl⟩)
              | (at_builtin; refine wpList_append_sl2 _ rfl (.tmp 62) (.tmp 67) 22 rfl w3.heap.size 23 i0 _ 1 Try.underlying22 hi0 hz0 hz1 hz2 rfl (.slice LA q lc) q _ HLn.out rfl (HO5.out.alloc _) _ _ _ 1 [.int .i8 z] rfl rfl (sl_one' _ _ _ _ (by simp)) (one_int _ _) (by unfold maxLen; omega) (by omega) (by rw [size_alloc']; have := HB5.out.size; omega) ?_; intro A6 c6 w6 ho6 ha6; have HB6 := Lib.hid (own_step (HB5.out.alloc HB5.out.size _) (HO5.out.alloc _) ha6); have HO6 := Lib.hid ho6; rw [ints_snoc] at HO6; clear ho6 ha6))
            go_roundw
            case rel => exact ⟨j + 1, q + 1, A6, c6, by omega, by go_num, rfl, by show _ = _; rw [HV.out]; simp [HQ.out], by omega, by rw [HV.out]; exact HO6.out, HB6.out⟩
            case measure => simp [intOf]; omega
          · have by1 : decide (y ≥ 0) = false := by simpa using hy0
            cases hop : opensB d with
            | true =>
              rw [hop] at HBg HE
              have HV := Lib.hid (HE.out.trans (if_neg (fun h => by
                rcases h with h | h
                · exact hy0 h
                · exact absurd h.1 (by decide))))
              clear hop
              go_wp2_with (first
                | (go_at_call 28; refine (HK.out _).mono ?_; rintro e w' ⟨rfl, rfl⟩)
                | (go_at_call 30; refine (HBg.out _).mono ?_; rintro e w' ⟨rfl, rfl⟩))
              go_roundw
              case rel => exact ⟨j + 1, q, LA, lc, by omega, by go_num, rfl, by show _ = _; rw [HV.out]; exact HQ.out, by omega, by rw [HV.out]; exact HO5.out, HB5.out⟩
              case measure => simp [intOf]; omega
            | false =>
              rw [hop] at HBg HE
              by_cases h22 : d = 22
              · have b22 : (d != 22) = false := by simpa using h22
                have HV := Lib.hid (HE.out.trans (if_neg (fun h => by
                  rcases h with h | h
                  · exact hy0 h
                  · exact h.2 h22)))
                clear hop h22
                go_wp2_with (first
                  | (go_at_call 28; refine (HK.out _).mono ?_; rintro e w' ⟨rfl, rfl⟩)
                  | (go_at_call 30; refine (HBg.out _).mono ?_; rintro e w' ⟨rfl, rfl⟩))
                go_roundw
                case rel => exact ⟨j + 1, q, LA, lc, by omega, by go_num, rfl, by show _ = _; rw [HV.out]; exact HQ.out, by omega, by rw [HV.out]; exact HO5.out, HB5.out⟩
                case measure => simp [intOf]; omega
              · have b22 : (d != 22) = true := by simpa using h22
                have HV := Lib.hid (HE.out.trans (if_pos (.inr ⟨rfl, h22⟩)))
                clear hop h22
                go_wp2_with (first
                  | (go_at_call 28; refine (HK.out _).mono ?_; rintro e w' ⟨rfl, rfl⟩)
                  | (go_at_call 30; refine (HBg.out _).mono ?_; rintro e w' ⟨rfl, rfl⟩)
                  | (at_builtin; refine wpList_append_sl2 _ rfl (.tmp 62) (.tmp 67) 22 rfl w3.heap.size 23 i0 _ 1 Try.underlying22 hi0 hz0 hz1 hz2 rfl (.slice LA q lc) q _ HLn.out rfl (HO5.out.alloc _) _ _ _ 1 [.int .i8 z] rfl rfl (sl_one' _ _ _ _ (by simp)) (one_int _ _) (by unfold maxLen; omega) (by omega) (by rw [size_alloc']; have := HB5.out.size; omega) ?_; intro A6 c6 w6 ho6 ha6; have HB6 := Lib.hid (own_step (HB5.out.alloc HB5.out.size _) (HO5.out.alloc _) ha6); have HO6 := Lib.hid ho6; rw [ints_snoc] at HO6; clear ho6 ha6))
                go_roundw
                case rel => exact ⟨j + 1, q + 1, A6, c6, by omega, by go_num, rfl, by show _ = _; rw [HV.out]; simp [HQ.out], by omega, by rw [HV.out]; exact HO6.out, HB6.out⟩
                case measure => simp [intOf]; omega
        · have hj' : j = m := by omega
          subst hj'
          have HF := Lib.hid (show kt pr zs j = balL xs from by
            have := kt_kf pr zs j (by rw [HM.out]; exact Nat.le_refl _)
            rw [HBal.out, ← this, List.drop_eq_nil_of_le (by rw [HM.out]; exact Nat.le_refl _)]
            simp [kf])
          have HO5 := Lib.hid ho
          have HB5 := Lib.hid hb
          clear ho hb
          go_wp2
          exact bodyPost_ret (v := .slice LA q lc) (by simp [results, Try.results32, go_sem]) rfl ⟨_, rfl, by rw [← HF.out]; exact own_mono HO5.out HB3.out.size, HB3.out.trans (HB5.out.mono HB3.out.size)⟩
end Go.Proofs.Ytikgjnfimagpjaa
