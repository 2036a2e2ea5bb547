/- WeakStays: the walk. -/
import Derived.Test.YtlomcnmijfiihaaWorks
import Derived.Test.YtlomcnmijfiihaaLaws
namespace Go.Proofs.Ytlomcnmijfiihaa
open Go.RowKit
set_option maxHeartbeats 400000 in
theorem stays_any (s : Int) (w : World) : Calls Try.prog 18 #[.int .i8 s] w fun e w' => e = .returned (.bool (staysB s)) ∧ w = w' := by
  go_enter Try.func18, Try.ntmps18
  go_wp2
  all_goals
    go_ret
    refine ⟨congrArg (fun b => Ending.returned (Value.bool b)) (a₂ := staysB s) ?_, rfl⟩
    rw [Bool.eq_iff_iff, staysB_iff]
    simp_all
    try omega
theorem stays_yes {s : Int} (h : staysB s = true) (w : World) : Calls Try.prog 18 #[.int .i8 s] w fun e w' => e = .returned (.bool true) ∧ w = w' := by
  have := stays_any s w
  rwa [h] at this
theorem stays_no {s : Int} (h : staysB s = false) (w : World) : Calls Try.prog 18 #[.int .i8 s] w fun e w' => e = .returned (.bool false) ∧ w = w' := by
  have := stays_any s w
  rwa [h] at this
/-- what is found at one place: the class, what Resolve and Step make of it -/
theorem stays_place (n : Int) (zs : List Int) (s : Int) (i : Nat) (hi : i < zs.length) :
    (staysB (clsL (zs.getD i 0)) = true → (resolveL zs s).getD i 0 = clsL (zs.getD i 0) ∧ (stepL n zs s).getD i 0 = clsL (zs.getD i 0)) ∧ (n < 1 ∨ 7 < n → (stepL n zs s).getD i 0 = clsL (zs.getD i 0)) := by
  refine ⟨fun h => ⟨resolveL_stays zs s i hi h, stepL_stays n zs s i hi h⟩, fun h => ?_⟩
  rw [stepL_none h, map_cls_getD zs i hi]
set_option maxRecDepth 100000 in
set_option maxHeartbeats 4000000 in
theorem staysLaw_any (n : Int) (zs : List Int) (A : Option Addr) (c : Nat) (s : Int) (w : World) (hl : zs.length ≤ 140737488351232) (h : Sl w w.heap.size A (i8s zs)) :
    Calls Try.prog 6 #[.int .i64 n, .slice A zs.length c, .int .i8 s] w fun e w' => e = .returned (.bool true) ∧ Below w.heap.size w w' := by
  go_enter Try.func6, Try.ntmps6
  go_wp2_with fail
  refine (works_any w).mono ?_
  rintro e w1 ⟨rfl, hb1⟩
  have h1 := (h.below hb1).more hb1.size
  have B1 := Lib.hid hb1
  have z1 := hb1.size
  clear hb1
  go_wp2_with fail
  refine (resolve_any zs A c s w1 hl h1).mono ?_
  rintro e w2 ⟨A2, c2, rfl, ho2, hb2⟩
  have B2 := Lib.hid (B1.out.trans (hb2.mono z1))
  have h2 := (h1.below hb2).more hb2.size
  have O2 := Lib.hid ho2.sl
  have z2 := Nat.le_trans z1 hb2.size
  clear hb2 ho2 h1 h
  go_wp2_with fail
  refine (step_any n zs A c s w2 hl h2).mono ?_
  rintro e w3 ⟨A3, c3, rfl, ho3, hb3⟩
  have B3 := Lib.hid (B2.out.trans (hb3.mono z2))
  have H3 := Lib.hid ((h2.below hb3).more hb3.size)
  have P2 := Lib.hid ((O2.out.below hb3).more hb3.size)
  have P3 := Lib.hid ho3.sl
  clear hb3 ho3 h2 O2
  go_wp2_with fail
  go_loop [22] (fun i => ∃ k : Nat, k ≤ zs.length ∧ i = .int .i64 k) (fun i => zs.length - (intOf i).toNat)
  case atStart => exact ⟨0, by omega, rfl⟩
  case round =>
    obtain ⟨k, hk, rfl⟩ := hrel
    by_cases hlk : k < zs.length
    · obtain ⟨ad, rfl, hadb, hcell⟩ := sl_get H3.out hlk
      obtain ⟨ad2, rfl, hadb2, hcell2⟩ := sl_get P2.out (k := k) (by simpa using hlk)
      obtain ⟨ad3, rfl, hadb3, hcell3⟩ := sl_get P3.out (k := k) (by simpa using hlk)
      have hp := stays_place n zs s k hlk
      generalize (resolveL zs s).getD k 0 = a at *
      generalize (stepL n zs s).getD k 0 = o at *
      generalize zs.getD k 0 = x at *
      obtain ⟨cx, hcx⟩ : ∃ cx, cx = clsL x := ⟨_, rfl⟩
      rw [← hcx] at hp
      have hx : (x < 0 ∧ cx = 13) ∨ (0 ≤ x ∧ 22 < x ∧ cx = 13) ∨ (0 ≤ x ∧ x ≤ 22 ∧ cx = x) := by
        rw [hcx]; unfold clsL; split <;> omega
      clear hcx
      obtain ⟨hp1, hp2⟩ := hp
      cases hst : staysB cx with
      | true =>
        obtain ⟨rfl, rfl⟩ := hp1 hst
        clear hp1 hp2
        have HST := Lib.hid hst
        clear hst
        rcases hx with ⟨hx1, rfl⟩ | ⟨hx0, hx1, rfl⟩ | ⟨hx0, hx1, rfl⟩
        all_goals
          by_cases hn : n < 1
          all_goals
            by_cases hn2 : 7 < n
            all_goals
              first
                | (exfalso; omega)
                | (go_wp2_with (go_at_call 18; refine (stays_yes HST.out _).mono ?_; rintro e w' ⟨rfl, rfl⟩)
                   all_goals
                     go_round
                     case rel => exact ⟨k + 1, by omega, by go_num⟩
                     case measure => simp [intOf] <;> omega)
      | false =>
        clear hp1
        have HST := Lib.hid hst
        clear hst
        have hcx13 : cx ≠ 13 := by
          rintro rfl
          exact absurd HST.out (by decide)
        have hx' : 0 ≤ x ∧ x ≤ 22 ∧ cx = x := by omega
        clear hx hcx13
        obtain ⟨hx0, hx1, rfl⟩ := hx'
        by_cases hn : n < 1
        · obtain rfl := hp2 (.inl hn)
          clear hp2
          go_wp2_with (go_at_call 18; refine (stays_no HST.out _).mono ?_; rintro e w' ⟨rfl, rfl⟩)
          all_goals
            go_round
            case rel => exact ⟨k + 1, by omega, by go_num⟩
            case measure => simp [intOf] <;> omega
        · by_cases hn2 : 7 < n
          · obtain rfl := hp2 (.inr hn2)
            clear hp2
            go_wp2_with (go_at_call 18; refine (stays_no HST.out _).mono ?_; rintro e w' ⟨rfl, rfl⟩)
            all_goals
              go_round
              case rel => exact ⟨k + 1, by omega, by go_num⟩
              case measure => simp [intOf] <;> omega
          · clear hp2
            go_wp2_with (go_at_call 18; refine (stays_no HST.out _).mono ?_; rintro e w' ⟨rfl, rfl⟩)
            all_goals
              go_round
              case rel => exact ⟨k + 1, by omega, by go_num⟩
              case measure => simp [intOf] <;> omega
    · have hb1 : (zs.length == zs.length) = true := by simp
      go_wp2
      go_ret
      exact ⟨rfl, B3.out⟩
end Go.Proofs.Ytlomcnmijfiihaa
