/- the document's answer: what is beside a run: direction, ahead, behind. -/
import Derived.Test.YtikgjnfimagpjaaLref1
import Derived.Test.YtikgjnfimagpjaaLsides
namespace Go.Proofs.Ytikgjnfimagpjaa
open Go.RowKit
theorem direction_any (x : Int) (h : 0 ≤ x ∧ x < 256) (w : World) : Calls Try.prog 51 #[.int .u8 x] w fun e w' => e = .returned (.int .i8 (x % 2)) ∧ w = w' := by
  obtain ⟨y, hy⟩ : ∃ y, y = x % 2 := ⟨_, rfl⟩
  have h1 : x.tmod 2 = y := by rw [Int.tmod_eq_emod_of_nonneg h.1, hy]
  have h2 : 0 ≤ y ∧ y < 2 := by omega
  obtain ⟨h3, h4⟩ := h2
  rw [← hy]
  clear hy
  go_enter Try.func51, Try.ntmps51
  go_wp2
  go_ret
  exact ⟨rfl, rfl⟩
/-- the classes below n -/
def clsN (zs : List Int) (n : Nat) : List Int := (zs.take n).map clsL
theorem clsN_at (zs : List Int) (n i : Nat) (hi : i < n) (hn : n ≤ zs.length) : (clsN zs n).getD i 0 = clsL (zs.getD i 0) := by
  unfold clsN
  rw [List.getD_eq_getElem?_getD, List.getElem?_map, List.getElem?_take, if_pos hi, List.getElem?_eq_getElem (by omega), List.getD_eq_getElem?_getD, List.getElem?_eq_getElem (by omega)]
  rfl
theorem clsN_length (zs : List Int) (n : Nat) (hn : n ≤ zs.length) : (clsN zs n).length = n := by unfold clsN; simp; omega
set_option maxHeartbeats 2000000 in
theorem rahead_any (zs lv : List Int) (n t : Nat) (base : Int) (A A2 : Option Addr) (c c2 : Nat) (w : World) (hn : n ≤ zs.length) (hn2 : n ≤ lv.length) (ht : t ≤ n) (hl : n < 1048576)
    (h : Sl w w.heap.size A (ints .i8 (clsN zs n))) (h2 : Sl w w.heap.size A2 (ints .u8 lv)) :
    Calls Try.prog 52 #[.slice A n c, .slice A2 lv.length c2, .int .u8 base, .int .i64 t] w fun e w' => e = .returned (.int .u8 (aheadL zs lv base t)) ∧ w = w' := by
  have hcl := clsN_length zs n hn
  go_enter Try.func52, Try.ntmps52
  go_wp2_with fail
  go_loopg [9] t (fun gk iv wr => ∃ j : Nat, j ≤ t ∧ gk = j ∧ iv = .int .i64 (predI j) ∧ wr = w ∧ Hid (aheadL zs lv base t = aheadL zs lv base j))
  case atStart =>
    refine ⟨t, Nat.le_refl _, rfl, ?_, rfl, rfl⟩
    rw [predI_sub]
  case round =>
    obtain ⟨j, hj, hgk, rfl, rfl, HA⟩ := hrel
    cases j with
    | zero =>
      unfold predI
      go_wp2_with fail
      go_ret
      exact ⟨by rw [HA.out]; rfl, rfl⟩
    | succ j =>
      unfold predI
      obtain ⟨ad, rfl, hadb, hcell⟩ := sl_at h (show j < (clsN zs n).length by omega)
      obtain ⟨ad2, rfl, had2, hcell2⟩ := sl_at h2 (show j < lv.length by omega)
      rw [clsN_at zs n j (by omega) hn] at hcell
      have HE := Lib.hid (HA.out.trans (show aheadL zs lv base (j + 1) = if clsL (zs.getD j 0) = 10 then base else if leftB (clsL (zs.getD j 0)) = true then aheadL zs lv base j else lv.getD j 0 from rfl))
      obtain ⟨d, hd⟩ : ∃ d, d = clsL (zs.getD j 0) := ⟨_, rfl⟩
      obtain ⟨lj, hlj⟩ : ∃ lj, lj = lv.getD j 0 := ⟨_, rfl⟩
      rw [← hd, ← hlj] at HE
      rw [← hd] at hcell
      rw [← hlj] at hcell2
      have HLF := Lib.hid (fun w => out_any d w)
      have hj1 : (j : Int) < n := by omega
      have hj2 : (j : Int) < lv.length := by omega
      have hj0 : (0 : Int) ≤ j := by omega
      clear hd hlj HA
      by_cases h10 : d = 10
      · have b10 : (d != 10) = false := by simpa using h10
        have HV := Lib.hid (HE.out.trans (if_pos h10))
        clear h10
        go_wp2_with fail
        go_ret
        exact ⟨by rw [HV.out]; rfl, rfl⟩
      · have b10 : (d != 10) = true := by simpa using h10
        have HV := Lib.hid (HE.out.trans (if_neg h10))
        clear h10
        cases hlf : leftB d with
        | true =>
          rw [hlf] at HLF HV
          clear hlf
          go_wp2_with (first | (go_at_call 65; refine (HLF.out _).mono ?_; rintro e w' ⟨rfl, rfl⟩))
          go_roundg j
          case measure => omega
          case rel =>
            refine ⟨j, by omega, rfl, ?_, rfl, Lib.hid (by rw [HV.out]; simp)⟩
            rw [predI_sub]
        | false =>
          rw [hlf] at HLF HV
          clear hlf
          go_wp2_with (first | (go_at_call 65; refine (HLF.out _).mono ?_; rintro e w' ⟨rfl, rfl⟩))
          go_ret
          exact ⟨by rw [HV.out]; rfl, rfl⟩
set_option maxHeartbeats 2000000 in
theorem rbehind_any (zs lv : List Int) (n t : Nat) (base : Int) (A A2 : Option Addr) (c c2 : Nat) (w : World) (hn : n ≤ zs.length) (hn2 : n ≤ lv.length) (ht : t < n) (hl : n < 1048576)
    (h : Sl w w.heap.size A (ints .i8 (clsN zs n))) (h2 : Sl w w.heap.size A2 (ints .u8 lv)) :
    Calls Try.prog 53 #[.slice A n c, .slice A2 lv.length c2, .int .u8 base, .int .i64 t] w fun e w' => e = .returned (.int .u8 (if clsL (zs.getD t 0) = 10 then base else behindL zs lv base n (n - (t + 1)))) ∧ w = w' := by
  have hcl := clsN_length zs n hn
  obtain ⟨ad, rfl, hadb, hct⟩ := sl_at h (show t < (clsN zs n).length by omega)
  rw [clsN_at zs n t ht hn] at hct
  obtain ⟨dt, hdt⟩ : ∃ dt, dt = clsL (zs.getD t 0) := ⟨_, rfl⟩
  rw [← hdt] at hct ⊢
  clear hdt
  have ht1 : (t : Int) < n := by omega
  have ht0 : (0 : Int) ≤ t := by omega
  by_cases hB : dt = 10
  · have bB : (dt != 10) = false := by simpa using hB
    rw [if_pos hB]
    clear hB
    by_cases hlast : t + 1 < n
    · have h1 : (t : Int) + 1 < n := by omega
      go_enter Try.func53, Try.ntmps53
      go_wp2_with fail
      go_loopg [9] 0 (fun gk iv wr => gk = 0 ∧ iv = .int .i64 ((t : Int) + 1) ∧ wr = w)
      case atStart => exact ⟨rfl, rfl, rfl⟩
      case round =>
        obtain ⟨hgk, rfl, rfl⟩ := hrel
        go_wp2_with fail
        go_ret
        exact ⟨rfl, rfl⟩
    · have h1 : ¬ (t : Int) + 1 < n := by omega
      go_enter Try.func53, Try.ntmps53
      go_wp2_with fail
      go_loopg [9] 0 (fun gk iv wr => gk = 0 ∧ iv = .int .i64 ((t : Int) + 1) ∧ wr = w)
      case atStart => exact ⟨rfl, rfl, rfl⟩
      case round =>
        obtain ⟨hgk, rfl, rfl⟩ := hrel
        go_wp2_with fail
        go_ret
        exact ⟨rfl, rfl⟩
  · have bB : (dt != 10) = true := by simpa using hB
    rw [if_neg hB]
    clear hB
    go_enter Try.func53, Try.ntmps53
    go_wp2_with fail
    go_loopg [9] (n - (t + 1)) (fun gk iv wr => ∃ j : Nat, j ≤ n - (t + 1) ∧ gk = j ∧ iv = .int .i64 ((n - j : Nat) : Int) ∧ wr = w ∧ Hid (behindL zs lv base n (n - (t + 1)) = behindL zs lv base n j))
    case atStart =>
      refine ⟨n - (t + 1), Nat.le_refl _, rfl, ?_, rfl, rfl⟩
      congr 1
      omega
    case round =>
      obtain ⟨j, hj, hgk, rfl, rfl, HA⟩ := hrel
      cases j with
      | zero =>
        have h1 : ¬ ((n - 0 : Nat) : Int) < n := by omega
        go_wp2_with fail
        go_ret
        exact ⟨by rw [HA.out]; rfl, rfl⟩
      | succ j =>
        obtain ⟨p, hp⟩ : ∃ p, p = n - (j + 1) := ⟨_, rfl⟩
        have HE := Lib.hid (HA.out.trans (show behindL zs lv base n (j + 1) = if leftB (clsL (zs.getD (n - (j + 1)) 0)) = true then behindL zs lv base n j else lv.getD (n - (j + 1)) 0 from rfl))
        rw [← hp] at HE ⊢
        have hpn : p < n := by omega
        have hcell := (sl_at h (show p < (clsN zs n).length by omega))
        obtain ⟨ad', had', -, hcell⟩ := hcell
        injection had' with had'
        subst had'
        obtain ⟨ad2, rfl, had2, hcell2⟩ := sl_at h2 (show p < lv.length by omega)
        rw [clsN_at zs n p hpn hn] at hcell
        obtain ⟨d, hd⟩ : ∃ d, d = clsL (zs.getD p 0) := ⟨_, rfl⟩
        obtain ⟨lj, hlj⟩ : ∃ lj, lj = lv.getD p 0 := ⟨_, rfl⟩
        rw [← hd, ← hlj] at HE
        rw [← hd] at hcell
        rw [← hlj] at hcell2
        have HLF := Lib.hid (fun w => out_any d w)
        have hj1 : (p : Int) < n := by omega
        have hj2 : (p : Int) < lv.length := by omega
        have hj0 : (0 : Int) ≤ p := by omega
        have HP := Lib.hid hp
        clear hd hlj HA hp
        cases hlf : leftB d with
        | true =>
          rw [hlf] at HLF HE
          clear hlf
          go_wp2_with (first | (go_at_call 65; refine (HLF.out _).mono ?_; rintro e w' ⟨rfl, rfl⟩))
          go_roundg j
          case measure => omega
          case rel =>
            have := HP.out
            refine ⟨j, by omega, rfl, ?_, rfl, Lib.hid (by rw [HE.out]; simp)⟩
            congr 1
            omega
        | false =>
          rw [hlf] at HLF HE
          clear hlf
          go_wp2_with (first | (go_at_call 65; refine (HLF.out _).mono ?_; rintro e w' ⟨rfl, rfl⟩))
          go_ret
          exact ⟨by rw [HE.out]; rfl, rfl⟩
end Go.Proofs.Ytikgjnfimagpjaa
