/- WeakByStep: the walk. -/
import Derived.Test.YtlomcnmijfiihaaWorks
import Derived.Test.YtlomcnmijfiihaaLaws
namespace Go.Proofs.Ytlomcnmijfiihaa
open Go.RowKit
theorem ruleL_range (n : Int) (zs : List Int) (s : Int) (hs : s = 0 ∨ s = 1) (h : ∀ z ∈ zs, 0 ≤ z ∧ z ≤ 22) : ∀ z ∈ ruleL n zs s, 0 ≤ z ∧ z ≤ 22 := by
  unfold ruleL
  split
  · exact fun z hz => ⟨(rule1_ok zs s hs h z hz).1, (rule1_ok zs s hs h z hz).2.1⟩
  split
  · exact scan_all (Q := fun _ => True) (R := fun z => 0 ≤ z ∧ z ≤ 22) (fun s z _ hz => by
      simp only [fArabic]
      repeat' split
      all_goals simp only [and_true]; omega) zs s trivial h
  split
  · exact scan_all (Q := fun _ => True) (R := fun z => 0 ≤ z ∧ z ≤ 22) (fun s z _ hz => by
      simp only [fLetters]
      repeat' split
      all_goals simp only [and_true]; omega) zs s trivial h
  split
  · intro z hz
    rcases sepL_mem hz with h1 | h1 | h1
    · exact h z h1
    · omega
    · omega
  split
  · intro z hz
    rcases termL_mem hz with h1 | h1
    · exact h z h1
    · omega
  split
  · exact scan_all (Q := fun _ => True) (R := fun z => 0 ≤ z ∧ z ≤ 22) (fun s z _ hz => by
      simp only [fOthers]
      repeat' split
      all_goals simp only [and_true]; omega) zs s trivial h
  split
  · exact scan_all (Q := fun _ => True) (R := fun z => 0 ≤ z ∧ z ≤ 22) (fun s z _ hz => by
      simp only [fDigits]
      repeat' split
      all_goals simp only [and_true]; omega) zs s trivial h
  exact h
/-- rule by rule, each through Step -/
def bySteps (zs : List Int) (s : Int) : Nat → List Int
  | 0 => zs
  | k + 1 => stepL ((k : Int) + 1) (bySteps zs s k) s
theorem bySteps_length (zs : List Int) (s : Int) (k : Nat) : (bySteps zs s k).length = zs.length := by
  induction k with
  | zero => rfl
  | succ k ih => simp [bySteps, ih]
theorem map_cls_range (zs : List Int) (h : ∀ z ∈ zs, 0 ≤ z ∧ z ≤ 22) : zs.map clsL = zs := by
  conv => rhs; rw [← List.map_id zs]
  exact List.map_congr_left fun z hz => clsL_id (h z hz)
theorem bySteps_eq (zs : List Int) (s : Int) (k : Nat) : bySteps zs s (k + 1) = rulesTo (k + 1) (zs.map clsL) (sosL s) ∧ ∀ z ∈ bySteps zs s (k + 1), 0 ≤ z ∧ z ≤ 22 := by
  induction k with
  | zero =>
    have e : bySteps zs s (0 + 1) = ruleL ((0 : Nat) + 1) (zs.map clsL) (sosL s) := rfl
    refine ⟨by rw [e, rulesTo_succ]; rfl, ?_⟩
    rw [e]
    exact ruleL_range _ _ _ (sosL_01 s) (fun z hz => by
      obtain ⟨y, _, rfl⟩ := List.mem_map.1 hz
      exact clsL_range y)
  | succ k ih =>
    have e : bySteps zs s (k + 1 + 1) = ruleL ((k + 1 : Nat) + 1) ((bySteps zs s (k + 1)).map clsL) (sosL s) := rfl
    rw [map_cls_range _ ih.2] at e
    refine ⟨by rw [e, rulesTo_succ, ih.1], ?_⟩
    rw [e]
    exact ruleL_range _ _ _ (sosL_01 s) ih.2
theorem bySteps_seven (zs : List Int) (s : Int) : bySteps zs s 7 = resolveL zs s := (bySteps_eq zs s 6).1
set_option maxRecDepth 100000 in
set_option maxHeartbeats 4000000 in
theorem byStep_any (zs : List Int) (A : Option Addr) (c : Nat) (s : Int) (w : World) (hl : zs.length ≤ 140737488351232) (h : Sl w w.heap.size A (i8s zs)) :
    Calls Try.prog 5 #[.slice A zs.length c, .int .i8 s] w fun e w' => e = .returned (.bool true) ∧ Below w.heap.size w w' := by
  go_enter Try.func5, Try.ntmps5
  go_wp2_with fail
  refine (works_any w).mono ?_
  rintro e w1 ⟨rfl, hb1⟩
  have h1 := (h.below hb1).more hb1.size
  have B1 := Lib.hid hb1
  have z1 := hb1.size
  clear hb1
  go_wp2_with fail
  refine (resolve_any zs A c s w1 hl h1).mono ?_
  rintro e w2 ⟨A2, c2, rfl, ho2, hb2⟩
  have B2 := Lib.hid (B1.out.trans (hb2.mono z1))
  have H2 := Lib.hid ((h1.below hb2).more hb2.size)
  have O2 := Lib.hid ho2.sl
  have z2 := Nat.le_trans z1 hb2.size
  clear hb2 ho2 h1 h
  go_wp2_with fail
  go_loopw [6, 7] (fun v i wr => ∃ (k : Nat) (A' : Option Addr) (c' : Nat), k ≤ 7 ∧ v = .slice A' zs.length c' ∧ i = .int .i64 ((k : Int) + 1) ∧ Sl wr wr.heap.size A' (i8s (bySteps zs s k)) ∧ Sl wr wr.heap.size A2 (i8s (resolveL zs s)) ∧ Below w.heap.size w wr)
    (fun _ i _ => 8 - (intOf i).toNat)
  case atStart => exact ⟨0, A, c, by omega, rfl, rfl, H2.out, O2.out, B2.out⟩
  case round =>
    obtain ⟨k, A', c', hk, rfl, rfl, hs, ha, hb⟩ := hrel
    have HB := Lib.hid hb
    have zr := hb.size
    clear hb
    by_cases hlt : k < 7
    · have HA := Lib.hid ha
      have L := bySteps_length zs s k
      have SA := step_any ((k : Int) + 1) (bySteps zs s k) A' c' s wr (by rw [L]; exact hl) hs
      rw [L] at SA
      have HSA := Lib.hid SA
      clear hs ha L SA
      go_wp2_with fail
      refine HSA.out.mono ?_
      rintro e w3 ⟨A3, c3, rfl, ho3, hb3⟩
      have R := Lib.hid (show Sl w3 w3.heap.size A3 (i8s (bySteps zs s (k + 1))) ∧ Sl w3 w3.heap.size A2 (i8s (resolveL zs s)) ∧ Below w.heap.size w w3 from ⟨ho3.sl, (HA.out.below hb3).more hb3.size, HB.out.trans (hb3.mono zr)⟩)
      clear ho3 hb3
      go_wp2_with fail
      go_roundw
      case rel => exact ⟨k + 1, A3, c3, by omega, rfl, by go_num, R.out.1, R.out.2.1, R.out.2.2⟩
      case measure => simp [intOf]; omega
    · have hk' : k = 7 := by omega
      subst hk'
      rw [bySteps_seven] at hs
      have HS := Lib.hid hs
      have HA := Lib.hid ha
      clear hs ha
      have S1 := same_any (resolveL zs s) (resolveL zs s) A' A2 c' c2 wr (by simpa using hl) (by simpa using hl) HS.out HA.out
      simp only [decide_true, resolveL_length] at S1
      have HS1 := Lib.hid S1
      clear S1
      go_wp2_with fail
      refine HS1.out.mono ?_
      rintro e w3 ⟨rfl, hb3⟩
      have B3 := Lib.hid (HB.out.trans (hb3.mono zr))
      have HA3 := Lib.hid ((HA.out.below hb3).more hb3.size)
      have z3 := Nat.le_trans zr hb3.size
      have R1 := resolve_any (resolveL zs s) A2 c2 s w3 (by simpa using hl) HA3.out
      simp only [resolveL_length, resolveL_twice] at R1
      have HR1 := Lib.hid R1
      clear R1 hb3
      go_wp2_with fail
      refine HR1.out.mono ?_
      rintro e w4 ⟨A4, c4, rfl, ho4, hb4⟩
      have B4 := Lib.hid (B3.out.trans (hb4.mono z3))
      have HA4 := Lib.hid ((HA3.out.below hb4).more hb4.size)
      have z4 := Nat.le_trans z3 hb4.size
      have S2 := same_any (resolveL zs s) (resolveL zs s) A4 A2 c4 c2 w4 (by simpa using hl) (by simpa using hl) ho4.sl HA4.out
      simp only [decide_true, resolveL_length] at S2
      have HS2 := Lib.hid S2
      clear S2 hb4 ho4
      go_wp2_with fail
      refine HS2.out.mono ?_
      rintro e w5 ⟨rfl, hb5⟩
      have B5 := Lib.hid (B4.out.trans (hb5.mono z4))
      have HA5 := Lib.hid ((HA4.out.below hb5).more hb5.size)
      clear hb5
      go_wp2_with fail
      go_loop [44] (fun i => ∃ k : Nat, k ≤ zs.length ∧ i = .int .i64 k) (fun i => zs.length - (intOf i).toNat)
      case atStart => exact ⟨0, by omega, rfl⟩
      case round =>
        obtain ⟨k, hk, rfl⟩ := hrel
        by_cases hlk : k < zs.length
        · have hlk2 : k < (resolveL zs s).length := by simpa using hlk
          obtain ⟨ad, ha, hadb, hcell⟩ := sl_at8 HA5.out hlk2
          have hx := resolveL_clean zs s _ (List.getElem_mem hlk2)
          subst ha
          generalize (resolveL zs s)[k] = x at *
          obtain ⟨x0, x1, x8, x2, x4, x5, x7⟩ := hx
          have b8 : (x == 8) = false := by simpa using x8
          have b2 : (x == 2) = false := by simpa using x2
          have b4 : (x == 4) = false := by simpa using x4
          have b5 : (x == 5) = false := by simpa using x5
          have b7 : (x == 7) = false := by simpa using x7
          clear x8 x2 x4 x5 x7
          go_wp2
          go_round
          case rel => exact ⟨k + 1, by omega, by go_num⟩
          case measure => simp [intOf]; omega
        · go_wp2
          go_ret
          exact ⟨rfl, B5.out⟩
end Go.Proofs.Ytlomcnmijfiihaa
