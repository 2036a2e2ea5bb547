/- the reference: listed, begins, strong, ahead, separators. -/
import Derived.Test.YtlomcnmijfiihaaWorks
import Derived.Test.YtlomcnmijfiihaaLaws
import Derived.Test.YtlomcnmijfiihaaAppend
import Derived.Test.YtlomcnmijfiihaaParted
namespace Go.Proofs.Ytlomcnmijfiihaa
open Go.RowKit
theorem begins_any (s : Int) (w : World) : Calls Try.prog 35 #[.int .i8 s] w fun e w' => e = .returned (.int .i8 (sosL s)) ∧ w = w' := by
  by_cases h : s = 1
  · subst h
    go_enter Try.func35, Try.ntmps35
    go_wp2
    go_ret
    exact ⟨rfl, rfl⟩
  · go_enter Try.func35, Try.ntmps35
    go_wp2
    go_ret
    exact ⟨by simp [sosL, h], rfl⟩
theorem i8s_snoc (l : List Int) (x : Int) : i8s l ++ [.int .i8 x] = i8s (l ++ [x]) := by simp [i8s]
theorem take_map_snoc (zs : List Int) (f : Int → Int) (k : Nat) (hk : k < zs.length) : (zs.take k).map f ++ [f (zs.getD k 0)] = (zs.take (k + 1)).map f := by
  rw [List.take_succ_eq_append_getElem hk, List.map_append]; simp [hk]
theorem one_int (k : IntKind) (x : Int) : ∀ u ∈ [Value.int k x], u.oneCell' = true := by intro u hu; simp at hu; subst hu; rfl
set_option maxHeartbeats 2000000 in
theorem listed_any (zs : List Int) (A : Option Addr) (c : Nat) (w : World) (hl : zs.length ≤ 140737488351232) (h : Sl w w.heap.size A (i8s zs)) :
    Calls Try.prog 20 #[.slice A zs.length c] w fun e w' => ∃ A' c', e = .returned (.slice A' zs.length c') ∧ Own w' 23 w.heap.size (.slice A' zs.length c') (i8s (zs.map clsL)) ∧ Below w.heap.size w w' := by
  obtain ⟨i0, hi0, hz0, hz1, hz2⟩ := info_parts info23
  go_enter Try.func20, Try.ntmps20
  go_wp2
  go_loopw [3, 4] (fun v i wr => ∃ (k : Nat) (A' : Option Addr) (c' : Nat), k ≤ zs.length ∧ v = .slice A' k c' ∧ i = .int .i64 k ∧ Own wr 23 w.heap.size (.slice A' k c') (i8s ((zs.take k).map clsL)) ∧ Below w.heap.size w wr)
    (fun _ i _ => zs.length - (intOf i).toNat)
  case atStart => exact ⟨0, none, 0, by omega, rfl, rfl, Own.nil_ _ _ _, Below.refl _ _⟩
  case round =>
    obtain ⟨k, A', c', hk, rfl, rfl, hown, hb⟩ := hrel
    by_cases hlt : k < zs.length
    · obtain ⟨ad, rfl, hadb, hcell⟩ := sl_get (h.below hb) hlt
      have hsz := hb.size
      have hlk : (i8s ((zs.take k).map clsL)).length = k := by simp; omega
      have HW := Lib.hid (take_map_snoc zs clsL k hlt)
      have HZ : Hid (zs.getD k 0 < 0 ∨ 22 < zs.getD k 0 → clsL (zs.getD k 0) = 13) := fun hh => by unfold clsL; rw [if_pos hh]
      have HN : Hid (¬ (zs.getD k 0 < 0 ∨ 22 < zs.getD k 0) → clsL (zs.getD k 0) = zs.getD k 0) := fun hh => by unfold clsL; rw [if_neg hh]
      have HO := Lib.hid hown
      have HB := Lib.hid hb
      have HL := Lib.hid hlk
      clear hown hb hlk h
      generalize zs.getD k 0 = x at *
      go_wp2_with (first
        | (at_builtin; refine wpList_append_sl _ rfl (.tmp 23) (.tmp 24) 22 rfl w.heap.size 23 i0 _ 1 Try.underlying22 hi0 hz0 hz1 hz2 rfl (.slice A' k c') k _ HL.out rfl (HO.out.alloc _) _ _ _ 1 [.int .i8 13] rfl rfl (sl_one _ _ _) (one_int _ _) (by unfold maxLen; omega) (by omega) (by simp; omega) ?_; intro A2 c2 w2 ho2 hg2 _)
        | (at_builtin; refine wpList_append_sl _ rfl (.tmp 26) (.tmp 31) 22 rfl w.heap.size 23 i0 _ 1 Try.underlying22 hi0 hz0 hz1 hz2 rfl (.slice A' k c') k _ HL.out rfl (HO.out.alloc _) _ _ _ 1 [.int .i8 x] rfl rfl (sl_one _ _ _) (one_int _ _) (by unfold maxLen; omega) (by omega) (by simp; omega) ?_; intro A2 c2 w2 ho2 hg2 _))
      all_goals
        go_roundw
        case rel => exact ⟨k + 1, A2, c2, by omega, rfl, by go_num, by rw [← HW.out, ← i8s_snoc]; first | (rw [HZ.out (by omega)]; exact ho2) | (rw [HN.out (by omega)]; exact ho2), app_below HB.out hsz HO.out hg2⟩
        case measure => simp [intOf]; omega
    · have hk' : k = zs.length := by omega
      subst hk'
      rw [List.take_length] at hown
      go_wp2
      go_ret
      exact ⟨_, _, rfl, hown, hb⟩
/-- the nearest strong one ahead of place i -/
def strongL (zs : List Int) (s : Int) (i : Nat) : Int := (scan fArabic (sosL s) (zs.take i)).2
def aheadL (zs : List Int) (s : Int) (i : Nat) : Int := (scan fDigits (sosL s) (zs.take i)).2
theorem strongL_succ (zs : List Int) (s : Int) (i : Nat) (hi : i < zs.length) : strongL zs s (i + 1) = if zs.getD i 0 = 0 ∨ zs.getD i 0 = 1 ∨ zs.getD i 0 = 2 then zs.getD i 0 else strongL zs s i := by
  unfold strongL
  rw [scan_state _ _ _ _ hi]
  unfold fArabic
  repeat' split
  all_goals rfl
theorem aheadL_succ (zs : List Int) (s : Int) (i : Nat) (hi : i < zs.length) : aheadL zs s (i + 1) = if zs.getD i 0 = 0 ∨ zs.getD i 0 = 1 then zs.getD i 0 else aheadL zs s i := by
  unfold aheadL
  rw [scan_state _ _ _ _ hi]
  unfold fDigits
  repeat' split
  all_goals simp_all
set_option maxHeartbeats 2000000 in
theorem strong_any (zs : List Int) (A : Option Addr) (c at_ : Nat) (s : Int) (w : World) (hl : zs.length ≤ 140737488351232) (hat : at_ ≤ zs.length) (h : Sl w w.heap.size A (i8s zs)) :
    Calls Try.prog 25 #[.slice A zs.length c, .int .i64 at_, .int .i8 s] w fun e w' => e = .returned (.int .i8 (strongL zs s at_)) ∧ w = w' := by
  go_enter Try.func25, Try.ntmps25
  go_wp2
  go_loop [7] (fun i => ∃ k : Nat, k ≤ at_ ∧ i = .int .i64 ((k : Int) - 1) ∧ Hid (strongL zs s at_ = strongL zs s k)) (fun i => (intOf i + 1).toNat)
  case atStart => exact ⟨at_, by omega, rfl, rfl⟩
  case round =>
    obtain ⟨k, hk, rfl, HE⟩ := hrel
    rcases Nat.eq_zero_or_pos k with h0 | h0
    · subst h0
      go_wp2_with (go_at_call 35; refine (begins_any _ _).mono ?_; rintro e w' ⟨rfl, rfl⟩)
      go_ret
      exact ⟨by rw [HE.out]; rfl, rfl⟩
    · obtain ⟨j, rfl⟩ : ∃ j, k = j + 1 := ⟨k - 1, by omega⟩
      obtain ⟨ad, rfl, hadb, hcell⟩ := sl_get h (k := j) (by omega)
      have HS := Lib.hid (strongL_succ zs s j (by omega))
      have ej : ((j + 1 : Nat) : Int) - 1 = (j : Int) := by omega
      rw [ej]
      clear ej
      generalize zs.getD j 0 = x at *
      go_wp2
      all_goals
        first
          | (go_ret
             exact ⟨by rw [HE.out, HS.out, if_pos (by simp_all)] <;> simp_all, rfl⟩)
          | (go_round
             case rel => exact ⟨j, by omega, by go_num, HE.out.trans (HS.out.trans (if_neg (by simp_all)))⟩
             case measure => simp [intOf] <;> omega)
set_option maxHeartbeats 2000000 in
theorem ahead_any (zs : List Int) (A : Option Addr) (c at_ : Nat) (s : Int) (w : World) (hl : zs.length ≤ 140737488351232) (hat : at_ ≤ zs.length) (h : Sl w w.heap.size A (i8s zs)) :
    Calls Try.prog 27 #[.slice A zs.length c, .int .i64 at_, .int .i8 s] w fun e w' => e = .returned (.int .i8 (aheadL zs s at_)) ∧ w = w' := by
  go_enter Try.func27, Try.ntmps27
  go_wp2
  go_loop [7] (fun i => ∃ k : Nat, k ≤ at_ ∧ i = .int .i64 ((k : Int) - 1) ∧ Hid (aheadL zs s at_ = aheadL zs s k)) (fun i => (intOf i + 1).toNat)
  case atStart => exact ⟨at_, by omega, rfl, rfl⟩
  case round =>
    obtain ⟨k, hk, rfl, HE⟩ := hrel
    rcases Nat.eq_zero_or_pos k with h0 | h0
    · subst h0
      go_wp2_with (go_at_call 35; refine (begins_any _ _).mono ?_; rintro e w' ⟨rfl, rfl⟩)
      go_ret
      exact ⟨by rw [HE.out]; rfl, rfl⟩
    · obtain ⟨j, rfl⟩ : ∃ j, k = j + 1 := ⟨k - 1, by omega⟩
      obtain ⟨ad, rfl, hadb, hcell⟩ := sl_get h (k := j) (by omega)
      have HS := Lib.hid (aheadL_succ zs s j (by omega))
      have ej : ((j + 1 : Nat) : Int) - 1 = (j : Int) := by omega
      rw [ej]
      clear ej
      generalize zs.getD j 0 = x at *
      go_wp2
      all_goals
        first
          | (go_ret
             exact ⟨by rw [HE.out, HS.out, if_pos (by simp_all)] <;> simp_all, rfl⟩)
          | (go_round
             case rel => exact ⟨j, by omega, by go_num, HE.out.trans (HS.out.trans (if_neg (by simp_all)))⟩
             case measure => simp [intOf] <;> omega)
end Go.Proofs.Ytlomcnmijfiihaa
