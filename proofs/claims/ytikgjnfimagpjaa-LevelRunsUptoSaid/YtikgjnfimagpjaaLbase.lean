/- package level: known, opens, left, first, after, Base: the walks. -/
import Derived.Test.YtikgjnfimagpjaaProg
import Derived.Test.YtikgjnfimagpjaaLspec
namespace Go.Proofs.Ytikgjnfimagpjaa
open Go.RowKit
theorem known_any (z : Int) (w : World) : Calls Try.prog 35 #[.int .i8 z] w fun e w' => e = .returned (.int .i8 (clsL z)) ∧ w = w' := by
  by_cases h : z < 0
  · have e : Hid (clsL z = 13) := by show _ = _; unfold clsL; rw [if_pos (.inl h)]
    go_enter Try.func35, Try.ntmps35
    go_wp2
    go_ret
    exact ⟨ret_int' e.out, rfl⟩
  · by_cases h2 : 22 < z
    · have e : Hid (clsL z = 13) := by show _ = _; unfold clsL; rw [if_pos (.inr h2)]
      go_enter Try.func35, Try.ntmps35
      go_wp2
      go_ret
      exact ⟨ret_int' e.out, rfl⟩
    · have e : Hid (clsL z = z) := by show _ = _; unfold clsL; rw [if_neg (by omega)]
      go_enter Try.func35, Try.ntmps35
      go_wp2
      go_ret
      exact ⟨ret_int' e.out, rfl⟩
theorem opens_any (d : Int) (w : World) : Calls Try.prog 36 #[.int .i8 d] w fun e w' => e = .returned (.bool (opensB d)) ∧ w = w' := by
  by_cases h : 19 ≤ d
  · have e : Hid (opensB d = decide (d ≤ 21)) := by show _ = _; simp [opensB, h]
    go_enter Try.func36, Try.ntmps36
    go_wp2
    go_ret
    exact ⟨ret_bool' e.out, rfl⟩
  · have e : Hid (opensB d = false) := by show _ = _; simp [opensB]; omega
    go_enter Try.func36, Try.ntmps36
    go_wp2
    go_ret
    exact ⟨ret_bool' e.out, rfl⟩
theorem left_any (d : Int) (w : World) : Calls Try.prog 50 #[.int .i8 d] w fun e w' => e = .returned (.bool (leftB d)) ∧ w = w' := by
  by_cases h9 : d = 9
  · subst h9
    go_enter Try.func50, Try.ntmps50
    go_wp2
    go_ret
    exact ⟨rfl, rfl⟩
  · have b9 : (d == 9) = false := by simpa using h9
    by_cases h : 14 ≤ d
    · have e : Hid (leftB d = decide (d ≤ 18)) := by show _ = _; simp [leftB, h, h9]
      go_enter Try.func50, Try.ntmps50
      go_wp2
      go_ret
      exact ⟨ret_bool' e.out, rfl⟩
    · have e : Hid (leftB d = false) := by show _ = _; simp [leftB, h9]; omega
      go_enter Try.func50, Try.ntmps50
      go_wp2
      go_ret
      exact ⟨ret_bool' e.out, rfl⟩
theorem opens_yes {d : Int} (h : opensB d = true) (w : World) : Calls Try.prog 36 #[.int .i8 d] w fun e w' => e = .returned (.bool true) ∧ w = w' := by have := opens_any d w; rwa [h] at this
theorem opens_no {d : Int} (h : opensB d = false) (w : World) : Calls Try.prog 36 #[.int .i8 d] w fun e w' => e = .returned (.bool false) ∧ w = w' := by have := opens_any d w; rwa [h] at this
theorem left_yes {d : Int} (h : leftB d = true) (w : World) : Calls Try.prog 50 #[.int .i8 d] w fun e w' => e = .returned (.bool true) ∧ w = w' := by have := left_any d w; rwa [h] at this
theorem left_no {d : Int} (h : leftB d = false) (w : World) : Calls Try.prog 50 #[.int .i8 d] w fun e w' => e = .returned (.bool false) ∧ w = w' := by have := left_any d w; rwa [h] at this
/-- a number as a class: what the ways of the rules tell apart -/
inductive Sort7 (d : Int) : Prop where
  | opens (h : opensB d = true) (a : (d == 22) = false) (b : (d == 10) = false) : Sort7 d
  | pdi (h : d = 22) (o : opensB d = false) : Sort7 d
  | b (h : d = 10) (o : opensB d = false) : Sort7 d
  | strong (h : d = 0 ∨ d = 1 ∨ d = 2) (o : opensB d = false) : Sort7 d
  | other (o : opensB d = false) (a : (d == 22) = false) (b : (d == 10) = false) (c0 : (d == 0) = false) (c1 : (d == 1) = false) (c2 : (d == 2) = false) : Sort7 d
theorem sort7 (d : Int) : Sort7 d := by
  cases ho : opensB d with
  | true =>
    have := (opensB_iff d).1 ho
    exact .opens ho (by simp; omega) (by simp; omega)
  | false =>
    by_cases h1 : d = 22
    · exact .pdi h1 ho
    by_cases h2 : d = 10
    · exact .b h2 ho
    by_cases h3 : d = 0 ∨ d = 1 ∨ d = 2
    · exact .strong h3 ho
    · exact .other ho (by simpa using h1) (by simpa using h2) (by simp; omega) (by simp; omega) (by simp; omega)
set_option maxHeartbeats 4000000 in
theorem first_any (zs : List Int) (A : Option Addr) (c : Nat) (w : World) (hl : zs.length ≤ 140737488351232) (h : Sl w w.heap.size A (ints .i8 zs)) :
    Calls Try.prog 37 #[.slice A zs.length c] w fun e w' => e = .returned (.int .i8 (firstL 0 zs)) ∧ w = w' := by
  go_enter Try.func37, Try.ntmps37
  go_wp2
  go_loop [3, 8] (fun d i => ∃ (k deep : Nat), k ≤ zs.length ∧ deep ≤ k ∧ i = .int .i64 k ∧ d = .int .i64 deep ∧ Hid (firstL 0 zs = firstL deep (zs.drop k))) (fun _ i => zs.length - (intOf i).toNat)
  case atStart => exact ⟨0, 0, by omega, by omega, rfl, rfl, rfl⟩
  case round =>
    obtain ⟨k, deep, hk, hdk, rfl, rfl, HF⟩ := hrel
    by_cases hlt : k < zs.length
    · obtain ⟨ad, rfl, hadb, hcell⟩ := sl_at h hlt
      have HE := Lib.hid (HF.out.trans (by rw [drop_cons zs k hlt, firstL_cons]))
      clear HF h
      generalize zs.getD k 0 = z at *
      have HK := Lib.hid (fun w => known_any z w)
      generalize clsL z = d at *
      rcases sort7 d with ⟨ho, a, b⟩ | ⟨rfl, ho⟩ | ⟨rfl, ho⟩ | ⟨hs, ho⟩ | ⟨ho, a, b, c0, c1, c2⟩
      · have HO := Lib.hid ho
        clear ho
        go_wp2_with (first | (go_at_call 35; refine (HK.out _).mono ?_; rintro e w' ⟨rfl, rfl⟩) | (go_at_call 36; refine (opens_yes HO.out _).mono ?_; rintro e w' ⟨rfl, rfl⟩))
        go_round
        case rel => exact ⟨k + 1, deep + 1, by omega, by omega, by go_num, by go_num, HE.out.trans (if_pos HO.out)⟩
        case measure => simp [intOf]; omega
      · have HO := Lib.hid ho
        clear ho
        rcases Nat.eq_zero_or_pos deep with h0 | h0
        · subst h0
          go_wp2_with (first | (go_at_call 35; refine (HK.out _).mono ?_; rintro e w' ⟨rfl, rfl⟩) | (go_at_call 36; refine (opens_no HO.out _).mono ?_; rintro e w' ⟨rfl, rfl⟩))
          go_ret
          exact ⟨ret_int' (HE.out.trans (by rw [HO.out]; simp)), rfl⟩
        · have hg : (0 : Int) < (deep : Int) := by omega
          go_wp2_with (first | (go_at_call 35; refine (HK.out _).mono ?_; rintro e w' ⟨rfl, rfl⟩) | (go_at_call 36; refine (opens_no HO.out _).mono ?_; rintro e w' ⟨rfl, rfl⟩))
          go_round
          case rel => exact ⟨k + 1, deep - 1, by omega, by omega, by go_num, by rw [show ((deep - 1 : Nat) : Int) = (deep : Int) - 1 from by omega], HE.out.trans (by rw [HO.out]; simp [h0])⟩
          case measure => simp [intOf]; omega
      · have HO := Lib.hid ho
        clear ho
        go_wp2_with (first | (go_at_call 35; refine (HK.out _).mono ?_; rintro e w' ⟨rfl, rfl⟩) | (go_at_call 36; refine (opens_no HO.out _).mono ?_; rintro e w' ⟨rfl, rfl⟩))
        go_ret
        exact ⟨ret_int' (HE.out.trans (by rw [HO.out]; simp)), rfl⟩
      · have HO := Lib.hid ho
        clear ho
        rcases Nat.eq_zero_or_pos deep with h0 | h0
        · subst h0
          rcases hs with rfl | rfl | rfl
          all_goals
            go_wp2_with (first | (go_at_call 35; refine (HK.out _).mono ?_; rintro e w' ⟨rfl, rfl⟩) | (go_at_call 36; refine (opens_no HO.out _).mono ?_; rintro e w' ⟨rfl, rfl⟩))
            go_ret
            exact ⟨ret_int' (HE.out.trans (by rw [HO.out]; simp)), rfl⟩
        · have hg : ((deep : Int) == 0) = false := by simp; omega
          rcases hs with rfl | rfl | rfl
          all_goals
            go_wp2_with (first | (go_at_call 35; refine (HK.out _).mono ?_; rintro e w' ⟨rfl, rfl⟩) | (go_at_call 36; refine (opens_no HO.out _).mono ?_; rintro e w' ⟨rfl, rfl⟩))
            go_round
            case rel => exact ⟨k + 1, deep, by omega, by omega, by go_num, rfl, HE.out.trans (by rw [HO.out]; simp; omega)⟩
            case measure => simp [intOf]; omega
      · have HO := Lib.hid ho
        have HA := Lib.hid (show d ≠ 22 ∧ d ≠ 10 ∧ d ≠ 0 ∧ d ≠ 1 ∧ d ≠ 2 from ⟨by simpa using a, by simpa using b, by simpa using c0, by simpa using c1, by simpa using c2⟩)
        clear ho
        go_wp2_with (first | (go_at_call 35; refine (HK.out _).mono ?_; rintro e w' ⟨rfl, rfl⟩) | (go_at_call 36; refine (opens_no HO.out _).mono ?_; rintro e w' ⟨rfl, rfl⟩))
        all_goals
          go_round
          case rel => exact ⟨k + 1, deep, by omega, by omega, by go_num, congrArg (Value.int IntKind.i64) (by omega), HE.out.trans (by rw [HO.out]; simp [HA.out.1, HA.out.2.1, HA.out.2.2.1, HA.out.2.2.2.1, HA.out.2.2.2.2])⟩
          case measure => simp [intOf]; omega
    · have hk' : k = zs.length := by omega
      subst hk'
      have HE := Lib.hid (HF.out.trans (by rw [List.drop_length]; rfl : _ = (13 : Int)))
      clear HF
      go_wp2
      go_ret
      exact ⟨ret_int' HE.out, rfl⟩
set_option maxHeartbeats 4000000 in
theorem after_any (zs : List Int) (A : Option Addr) (c from_ : Nat) (w : World) (hl : zs.length ≤ 140737488351232) (hf : from_ ≤ zs.length) (h : Sl w w.heap.size A (ints .i8 zs)) :
    Calls Try.prog 38 #[.slice A zs.length c, .int .i64 from_] w fun e w' => e = .returned (.int .i64 (afterL 0 from_ (zs.drop from_))) ∧ w = w' := by
  go_enter Try.func38, Try.ntmps38
  go_wp2
  go_loop [5, 6] (fun d i => ∃ (k deep : Nat), k ≤ zs.length ∧ deep ≤ k ∧ i = .int .i64 k ∧ d = .int .i64 deep ∧ Hid (afterL 0 from_ (zs.drop from_) = afterL deep k (zs.drop k))) (fun _ i => zs.length - (intOf i).toNat)
  case atStart => exact ⟨from_, 0, by omega, by omega, rfl, rfl, rfl⟩
  case round =>
    obtain ⟨k, deep, hk, hdk, rfl, rfl, HF⟩ := hrel
    by_cases hlt : k < zs.length
    · obtain ⟨ad, rfl, hadb, hcell⟩ := sl_at h hlt
      have HE := Lib.hid (HF.out.trans (by rw [drop_cons zs k hlt, afterL_cons]))
      clear HF h
      generalize zs.getD k 0 = z at *
      have HK := Lib.hid (fun w => known_any z w)
      generalize clsL z = d at *
      rcases sort7 d with ⟨ho, a, b⟩ | ⟨rfl, ho⟩ | ⟨rfl, ho⟩ | ⟨hs, ho⟩ | ⟨ho, a, b, c0, c1, c2⟩
      · have HO := Lib.hid ho
        clear ho
        go_wp2_with (first | (go_at_call 35; refine (HK.out _).mono ?_; rintro e w' ⟨rfl, rfl⟩) | (go_at_call 36; refine (opens_yes HO.out _).mono ?_; rintro e w' ⟨rfl, rfl⟩))
        go_round
        case rel => exact ⟨k + 1, deep + 1, by omega, by omega, by go_num, by go_num, HE.out.trans (if_pos HO.out)⟩
        case measure => simp [intOf]; omega
      · have HO := Lib.hid ho
        clear ho
        rcases Nat.eq_zero_or_pos deep with h0 | h0
        · subst h0
          go_wp2_with (first | (go_at_call 35; refine (HK.out _).mono ?_; rintro e w' ⟨rfl, rfl⟩) | (go_at_call 36; refine (opens_no HO.out _).mono ?_; rintro e w' ⟨rfl, rfl⟩))
          go_ret
          exact ⟨ret_int' (HE.out.trans (by rw [HO.out]; simp)), rfl⟩
        · have hg : ((deep : Int) == 0) = false := by simp; omega
          go_wp2_with (first | (go_at_call 35; refine (HK.out _).mono ?_; rintro e w' ⟨rfl, rfl⟩) | (go_at_call 36; refine (opens_no HO.out _).mono ?_; rintro e w' ⟨rfl, rfl⟩))
          go_round
          case rel => exact ⟨k + 1, deep - 1, by omega, by omega, by go_num, by rw [show ((deep - 1 : Nat) : Int) = (deep : Int) - 1 from by omega], HE.out.trans (by rw [HO.out]; simp; omega)⟩
          case measure => simp [intOf]; omega
      · have HO := Lib.hid ho
        clear ho
        go_wp2_with (first | (go_at_call 35; refine (HK.out _).mono ?_; rintro e w' ⟨rfl, rfl⟩) | (go_at_call 36; refine (opens_no HO.out _).mono ?_; rintro e w' ⟨rfl, rfl⟩))
        go_ret
        exact ⟨ret_int' (HE.out.trans (by rw [HO.out]; simp)), rfl⟩
      · have HO := Lib.hid ho
        clear ho
        rcases hs with rfl | rfl | rfl
        all_goals
          go_wp2_with (first | (go_at_call 35; refine (HK.out _).mono ?_; rintro e w' ⟨rfl, rfl⟩) | (go_at_call 36; refine (opens_no HO.out _).mono ?_; rintro e w' ⟨rfl, rfl⟩))
          go_round
          case rel => exact ⟨k + 1, deep, by omega, by omega, by go_num, rfl, HE.out.trans (by rw [HO.out]; simp)⟩
          case measure => simp [intOf]; omega
      · have HO := Lib.hid ho
        have HA := Lib.hid (show d ≠ 22 ∧ d ≠ 10 from ⟨by simpa using a, by simpa using b⟩)
        clear ho
        go_wp2_with (first | (go_at_call 35; refine (HK.out _).mono ?_; rintro e w' ⟨rfl, rfl⟩) | (go_at_call 36; refine (opens_no HO.out _).mono ?_; rintro e w' ⟨rfl, rfl⟩))
        go_round
        case rel => exact ⟨k + 1, deep, by omega, by omega, by go_num, rfl, HE.out.trans (by rw [HO.out]; simp [HA.out.1, HA.out.2])⟩
        case measure => simp [intOf]; omega
    · have hk' : k = zs.length := by omega
      subst hk'
      have HE := Lib.hid (HF.out.trans (by rw [List.drop_length]; rfl : _ = (-1 : Int)))
      clear HF
      go_wp2
      go_ret
      exact ⟨ret_int' HE.out, rfl⟩
end Go.Proofs.Ytikgjnfimagpjaa
