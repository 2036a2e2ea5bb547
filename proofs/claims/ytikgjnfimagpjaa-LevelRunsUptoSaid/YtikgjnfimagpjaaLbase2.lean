/- package level: Base. -/
import Derived.Test.YtikgjnfimagpjaaLbase
namespace Go.Proofs.Ytikgjnfimagpjaa
open Go.RowKit
def baseL (zs : List Int) (want : Int) : Int := if want = 1 then 0 else if want = 2 then 1 else strongP 0 zs
set_option maxHeartbeats 4000000 in
theorem base_auto (m : Nat) : ∀ (zs : List Int) (A : Option Addr) (c : Nat) (want : Int) (w : World), zs.length ≤ m → (want == 1) = false → (want == 2) = false → zs.length ≤ 140737488351232 → zs.length ≤ c → c ≤ maxLen → Sl w w.heap.size A (ints .i8 zs) →
    Calls Try.prog 14 #[.slice A zs.length c, .int .i8 want] w fun e w' => e = .returned (.int .u8 (strongP 0 zs)) ∧ w = w' := by
  induction m with
  | zero =>
    intro zs A c want w hm w1 w2 hl hc hcm h
    have hz : zs = [] := List.eq_nil_of_length_eq_zero (by omega)
    subst hz
    go_enter Try.func14, Try.ntmps14
    go_wp2_with fail
    refine wp_loop_rounds 1 ?_
    rw [rounds_succ]
    go_wp2_with fail
    go_ret
    exact ⟨rfl, rfl⟩
  | succ m ih =>
    intro zs A c want w hm w1 w2 hl hc hcm h
    unfold maxLen at hcm
    have IH := Lib.hid ih
    clear ih
    go_enter Try.func14, Try.ntmps14
    go_wp2_with fail
    go_loop [16] (fun i => ∃ k : Nat, k ≤ zs.length ∧ i = .int .i64 k ∧ Hid (strongP 0 zs = strongP 0 (zs.drop k))) (fun i => zs.length - (intOf i).toNat)
    case atStart => exact ⟨0, by omega, rfl, rfl⟩
    case round =>
      obtain ⟨k, hk, rfl, HF⟩ := hrel
      by_cases hlt : k < zs.length
      · obtain ⟨ad, rfl, hadb, hcell⟩ := sl_at h hlt
        have hcut := sl_cut (c := c) h (i := k) (by simpa using hk) (by simpa using hc)
        rw [if_neg (by omega), Option.map_some] at hcut
        have hcut' : Sl w w.heap.size (some (ad.add k)) (ints .i8 (zs.drop k)) := by simpa [ints, List.map_drop] using hcut
        have F := first_any (zs.drop k) (some (ad.add k)) (c - k) w (by simp; omega) hcut'
        rw [List.length_drop] at F
        have HFi := Lib.hid F
        have HAf := Lib.hid (after_any zs (some ad) c k w hl hk h)
        have HE := Lib.hid (HF.out.trans (by rw [drop_cons zs k hlt, strongP_cons] : _ = _))
        have H13 := Lib.hid (strongP_after (zs.drop k) 0 k)
        have H00 := Lib.hid (strongP_first (zs.drop k) 0)
        have HG := Lib.hid (afterL_ge (zs.drop k) 0 k)
        have HS := Lib.hid h
        have HK := Lib.hid (fun w => known_any (zs.getD k 0) w)
        clear F hcut hcut' h
        obtain ⟨z, hz⟩ : ∃ z, z = zs.getD k 0 := ⟨_, rfl⟩
        rw [← hz] at hcell HE HK
        have HZ := Lib.hid hz
        clear hz
        obtain ⟨f, hf⟩ : ∃ f, f = firstL 0 (zs.drop k) := ⟨_, rfl⟩
        rw [← hf] at HFi H13 H00
        clear hf
        obtain ⟨p, hp⟩ : ∃ p, p = afterL 0 k (zs.drop k) := ⟨_, rfl⟩
        rw [← hp] at HAf H13 HG
        clear hp
        obtain ⟨d, hd⟩ : ∃ d, d = clsL z := ⟨_, rfl⟩
        rw [← hd] at HE HK
        clear hd
        by_cases h22 : d = 22
        · subst h22
          go_wp2_with (first | (go_at_call 35; refine (HK.out _).mono ?_; rintro e w' ⟨rfl, rfl⟩))
          go_round
          case rel => exact ⟨k + 1, by omega, by go_num, HE.out⟩
          case measure => simp [intOf]; omega
        · by_cases h10 : d = 10
          · subst h10
            go_wp2_with (first | (go_at_call 35; refine (HK.out _).mono ?_; rintro e w' ⟨rfl, rfl⟩))
            go_ret
            exact ⟨ret_int' (HE.out.trans (by simp [opensB])), rfl⟩
          · have b22 : (d == 22) = false := by simpa using h22
            have b10 : (d == 10) = false := by simpa using h10
            have hck : (c == k) = false := by simp; omega
            clear h22 h10
            by_cases h13 : f = 13
            · subst h13
              rcases HG.out with hp1 | ⟨hp1, hp2⟩
              · subst hp1
                have hneg : ¬ ((k : Int) < -1) := by omega
                have HV := Lib.hid (HF.out.trans ((H13.out rfl).trans (if_pos (by omega))))
                go_wp2_with (first | (go_at_call 35; refine (HK.out _).mono ?_; rintro e w' ⟨rfl, rfl⟩) | (go_at_call 37; refine HFi.out.mono ?_; rintro e w' ⟨rfl, rfl⟩) | (go_at_call 38; refine HAf.out.mono ?_; rintro e w' ⟨rfl, rfl⟩))
                go_ret
                exact ⟨ret_int' HV.out, rfl⟩
              · obtain ⟨q, rfl⟩ : ∃ q : Nat, p = (q : Int) := ⟨p.toNat, by omega⟩
                rw [List.length_drop] at hp2
                have hq1 : k < q := by omega
                have hq2 : q ≤ zs.length := by omega
                have hcut2 := sl_cut (c := c) HS.out (i := q) (by simpa using hq2) (by simpa using hc)
                have hcut3 : Sl w w.heap.size (if c = q then some ad else some (ad.add q)) (ints .i8 (zs.drop q)) := by simpa [ints, List.map_drop] using hcut2
                have R := IH.out (zs.drop q) _ (c - q) want w (by simp; omega) w1 w2 (by simp; omega) (by simp; omega) (by unfold maxLen; omega) hcut3
                rw [List.length_drop] at R
                have HR := Lib.hid R
                have HQ := Lib.hid (HF.out.trans ((H13.out rfl).trans (by rw [if_neg (by omega), Int.toNat_natCast, List.drop_drop, show k + (q - k) = q from by omega] : _ = strongP 0 (zs.drop q))))
                clear R hcut2 hcut3 hp1 hp2
                go_wp2_with (first | (go_at_call 35; refine (HK.out _).mono ?_; rintro e w' ⟨rfl, rfl⟩) | (go_at_call 37; refine HFi.out.mono ?_; rintro e w' ⟨rfl, rfl⟩) | (go_at_call 38; refine HAf.out.mono ?_; rintro e w' ⟨rfl, rfl⟩) | (go_at_call 14; refine HR.out.mono ?_; rintro e w' ⟨rfl, rfl⟩))
                all_goals
                  go_ret
                  exact ⟨ret_int' HQ.out, rfl⟩
            · have b13 : (f == 13) = false := by simpa using h13
              have HV := Lib.hid (HF.out.trans (H00.out h13))
              clear h13
              by_cases hf0 : f = 0
              · subst hf0
                go_wp2_with (first | (go_at_call 35; refine (HK.out _).mono ?_; rintro e w' ⟨rfl, rfl⟩) | (go_at_call 37; refine HFi.out.mono ?_; rintro e w' ⟨rfl, rfl⟩))
                go_ret
                exact ⟨ret_int' (HV.out.trans (by simp)), rfl⟩
              · have bf0 : (f != 0) = true := by simpa using hf0
                have HN := Lib.hid hf0
                clear hf0
                go_wp2_with (first | (go_at_call 35; refine (HK.out _).mono ?_; rintro e w' ⟨rfl, rfl⟩) | (go_at_call 37; refine HFi.out.mono ?_; rintro e w' ⟨rfl, rfl⟩))
                go_ret
                exact ⟨ret_int' (HV.out.trans (if_neg HN.out)), rfl⟩
      · have hk' : k = zs.length := by omega
        subst hk'
        have HE := Lib.hid (HF.out.trans (by rw [List.drop_length]; rfl : _ = (0 : Int)))
        clear HF
        go_wp2_with fail
        go_ret
        exact ⟨ret_int' HE.out, rfl⟩
theorem base_any (zs : List Int) (A : Option Addr) (c : Nat) (want : Int) (w : World) (hl : zs.length ≤ 140737488351232) (hc : zs.length ≤ c) (hcm : c ≤ maxLen) (h : Sl w w.heap.size A (ints .i8 zs)) :
    Calls Try.prog 14 #[.slice A zs.length c, .int .i8 want] w fun e w' => e = .returned (.int .u8 (baseL zs want)) ∧ w = w' := by
  by_cases h1 : want = 1
  · subst h1
    go_enter Try.func14, Try.ntmps14
    go_wp2_with fail
    go_ret
    exact ⟨rfl, rfl⟩
  · by_cases h2 : want = 2
    · subst h2
      go_enter Try.func14, Try.ntmps14
      go_wp2_with fail
      go_ret
      exact ⟨rfl, rfl⟩
    · have e : baseL zs want = strongP 0 zs := by unfold baseL; rw [if_neg h1, if_neg h2]
      rw [e]
      exact base_auto zs.length zs A c want w (Nat.le_refl _) (by simpa using h1) (by simpa using h2) hl hc hcm h
end Go.Proofs.Ytikgjnfimagpjaa
