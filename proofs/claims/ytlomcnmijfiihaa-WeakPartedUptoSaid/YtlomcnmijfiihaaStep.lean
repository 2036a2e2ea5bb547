/- package weak: Step. -/
import Derived.Test.YtlomcnmijfiihaaResolve
namespace Go.Proofs.Ytlomcnmijfiihaa
open Go.RowKit
theorem stepL_rule (k : Nat) (zs : List Int) (s : Int) : ruleL ((k : Int) + 1) (zs.map clsL) (sosL s) = stepL ((k : Int) + 1) zs s := rfl
theorem stepL_none {n : Int} (h : n < 1 ∨ 7 < n) (zs : List Int) (s : Int) : stepL n zs s = zs.map clsL := by
  unfold stepL ruleL
  repeat (rw [if_neg (by omega)])
set_option maxHeartbeats 2000000 in
theorem step_any (n : Int) (zs : List Int) (A : Option Addr) (c : Nat) (s : Int) (w : World) (hl : zs.length ≤ 140737488351232) (h : Sl w w.heap.size A (i8s zs)) :
    Calls Try.prog 17 #[.int .i64 n, .slice A zs.length c, .int .i8 s] w fun e w' => ∃ A' c', e = .returned (.slice A' zs.length c') ∧ Own w' 23 w.heap.size (.slice A' zs.length c') (i8s (stepL n zs s)) ∧ Below w.heap.size w w' := by
  have B0 := began_any zs A c s w hl h
  have HB0 := Lib.hid B0
  clear B0
  have hi0 := index_rules0
  have hi1 := index_rules1
  have hi2 := index_rules2
  have hi3 := index_rules3
  have hi4 := index_rules4
  have hi5 := index_rules5
  have hi6 := index_rules6
  by_cases hn : 1 ≤ n ∧ n ≤ 7
  · obtain ⟨k, hk, hnk⟩ : ∃ k : Nat, k < 7 ∧ n = (k : Int) + 1 := ⟨(n - 1).toNat, by omega, by omega⟩
    subst hnk
    have HE := Lib.hid (stepL_rule k zs s)
    rw [← stepL_rule]
    have HR0 := Lib.hid (rule_at k hk)
    obtain rfl | rfl | rfl | rfl | rfl | rfl | rfl : k = 0 ∨ k = 1 ∨ k = 2 ∨ k = 3 ∨ k = 4 ∨ k = 5 ∨ k = 6 := by omega
    all_goals
      go_enter Try.func17, Try.ntmps17
      go_wp2_with fail
      refine HB0.out.mono ?_
      rintro e w1 ⟨A', c', rfl, hown, hb⟩
      rw [List.length_map] at *
      have HO := Lib.hid hown
      have HB := Lib.hid hb
      have h1 := hb.size
      clear hown hb
      go_wp2_with fail
      refine (rules_any w1).mono ?_
      rintro e w2 ⟨rfl, hb2⟩
      have HO2 := Lib.hid (HO.out.below_ hb2)
      have HB2 := Lib.hid (HB.out.trans (hb2.mono h1))
      have HR := Lib.hid (Rule.call HR0.out (zs.map clsL) A' zs.length c' (sosL s) w2 w.heap.size (by simp) hl HB2.out.size HO2.out)
      clear hb2 HO HB
      go_wp2_with fail
      refine HR.out.mono ?_
      rintro e w4 ⟨rfl, ho4, hb4, _⟩
      have HO4 := Lib.hid ho4
      have HB4 := Lib.hid (HB2.out.trans hb4)
      clear ho4 hb4
      go_wp2
      go_ret
      exact ⟨_, _, rfl, HO4.out, HB4.out⟩
  · have HE := Lib.hid (stepL_none (n := n) (by omega) zs s)
    rw [HE.out]
    by_cases hn1 : 1 ≤ n
    all_goals
      go_enter Try.func17, Try.ntmps17
      go_wp2_with fail
      refine HB0.out.mono ?_
      rintro e w1 ⟨A', c', rfl, hown, hb⟩
      rw [List.length_map] at *
      have HO := Lib.hid hown
      have HB := Lib.hid hb
      have h1 := hb.size
      clear hown hb
      go_wp2
      go_ret
      exact ⟨_, _, rfl, HO.out, HB.out⟩
end Go.Proofs.Ytlomcnmijfiihaa
