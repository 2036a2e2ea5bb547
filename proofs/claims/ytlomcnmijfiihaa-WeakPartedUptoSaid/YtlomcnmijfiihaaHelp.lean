/- the law's own helpers: lent, kept. -/
import Derived.Test.YtlomcnmijfiihaaRefF
import Derived.Test.YtlomcnmijfiihaaAppend2
namespace Go.Proofs.Ytlomcnmijfiihaa
open Go.RowKit
theorem sl_prefix {w : World} {B : Nat} {A : Option Addr} {xs ys : List Value} (h : Sl w B A (xs ++ ys)) : Sl w B A xs := by
  intro j u hj
  have hjl := (List.getElem?_eq_some_iff.1 hj).1
  exact h j u (by rw [List.getElem?_append_left hjl]; exact hj)
theorem i8s_app (a b : List Int) : i8s (a ++ b) = i8s a ++ i8s b := by simp [i8s]
theorem ints_one (l : List Int) : ∀ u ∈ i8s l, u.oneCell' = true := by
  intro u hu
  simp only [i8s, List.mem_map] at hu
  obtain ⟨n, _, rfl⟩ := hu
  rfl
set_option maxHeartbeats 2000000 in
theorem lent_any (zs : List Int) (A : Option Addr) (c : Nat) (w : World) (hl : zs.length ≤ 140737488351232) (h : Sl w w.heap.size A (i8s zs)) :
    Calls Try.prog 10 #[.slice A zs.length c] w fun e w' => e = .returned (.slice (some ⟨w.heap.size, 0, none⟩) zs.length (zs.length + 2)) ∧
      Own w' 23 w.heap.size (.slice (some ⟨w.heap.size, 0, none⟩) (zs.length + 2) (zs.length + 2)) (i8s (zs ++ [77, 77])) ∧ Below w.heap.size w w' := by
  obtain ⟨i0, hi0, hz0, hz1, hz2⟩ := info_parts info23
  go_enter Try.func10, Try.ntmps10
  go_wp2_with (first
    | (at_make; refine wpList_make_own _ rfl _ _ 22 rfl w.heap.size 23 i0 _ 1 Try.underlying22 hi0 hz0 hz1 .i64 .i64 _ (zs.length + 2) rfl rfl (by omega) (by rw [hz2]; omega) (by unfold maxLen; omega) (Nat.le_refl _) ?_; intro w1 hown1 hg1)
    | (at_builtin; refine wpList_append_fits_sl _ rfl (.tmp 8) (.tmp 9) 22 rfl w.heap.size 23 i0 Try.underlying22 hi0 hz1 w.heap.size 0 (zs.length + 2) [] rfl rfl hown1 w.heap.size A c zs.length (i8s zs) (by simp) rfl (h.grown hg1 (Nat.le_refl _) (by simp)) (ints_one _) (by omega) ?_; intro w2 hown2 hg2; rw [Nat.zero_add] at *)
    | (at_builtin; refine wpList_append_fits_sl _ rfl (.tmp 11) (.tmp 12) 22 rfl w.heap.size 23 i0 Try.underlying22 hi0 hz1 w.heap.size zs.length (zs.length + 2) (i8s zs) (by simp) rfl (hown2.alloc _) _ _ 2 2 (i8s [77, 77]) rfl rfl (sl_new w2 [77, 77] 23) (ints_one _) (by omega) ?_; intro w3 hown3 hg3))
  go_ret
  refine ⟨rfl, by rw [i8s_app]; exact hown3, ?_⟩
  have b1 : Below w.heap.size w w1 := (Below.refl _ _).grown hg1 (Nat.le_refl _) (by simp)
  have b2 : Below w.heap.size w w2 := b1.grown hg2 b1.size (by simp)
  exact (b2.alloc b2.size _).grown hg3 (by simp; have := b2.size; omega) (by simp)
set_option maxRecDepth 100000 in
set_option maxHeartbeats 4000000 in
theorem kept_any (zs : List Int) (g B : Nat) (A : Option Addr) (c : Nat) (w : World) (hl : zs.length ≤ 140737488351232) (hx : Own w 23 B (.slice (some ⟨g, 0, none⟩) (zs.length + 2) (zs.length + 2)) (i8s (zs ++ [77, 77]))) (h : Sl w w.heap.size A (i8s zs)) :
    Calls Try.prog 13 #[.slice (some ⟨g, 0, none⟩) zs.length (zs.length + 2), .slice A zs.length c] w fun e w' => e = .returned (.bool true) ∧ Below w.heap.size w w' := by
  have hb0 : ((zs.length : Int) == (zs.length : Int)) = true := by simp
  go_enter Try.func13, Try.ntmps13
  go_wp2
  go_loopw [14] (fun i wr => ∃ k : Nat, k ≤ zs.length + 2 ∧ i = .int .i64 k ∧ Below w.heap.size w wr)
    (fun i _ => zs.length + 2 - (intOf i).toNat)
  case atStart => exact ⟨0, by omega, rfl, Below.refl _ _⟩
  case round =>
    obtain ⟨k, hk, rfl, hb⟩ := hrel
    by_cases hlt : k < zs.length + 2
    · have hxr := hx.below_ hb
      have hcell := own_getD hxr (k := k) (by simp; omega)
      have HB := Lib.hid hb
      by_cases hlk : k < zs.length
      · obtain ⟨ad, rfl, hadb, hcell2⟩ := sl_get (h.below hb) hlk
        rw [getD_app1 _ _ _ hlk] at hcell
        have hd : decide ((k : Int) < (zs.length : Int)) = true := by simp; omega
        have hd2 : (k : Int) < (zs.length : Int) := by omega
        have hd3 : decide ((zs.length : Int) ≤ (k : Int)) = false := by simp; omega
        clear hb hxr hx h
        generalize zs.getD k 0 = x at *
        have hd4 : decide (zs.length ≤ k) = false := by simp; omega
        go_wp2_with fail
        go_quiet (fail)
        go_wp2
        go_roundw
        case rel => exact ⟨k + 1, by omega, by go_num, below_drewN' HB.out _⟩
        case measure => simp [intOf]; omega
      · obtain ⟨j, rfl⟩ : ∃ j, k = zs.length + j := ⟨k - zs.length, by omega⟩
        rw [getD_app2] at hcell
        have h77 : ([77, 77] : List Int).getD j 0 = 77 := by
          have : j = 0 ∨ j = 1 := by omega
          rcases this with rfl | rfl <;> rfl
        rw [h77] at hcell
        have ek : ((zs.length + j : Nat) : Int) = (zs.length : Int) + (j : Int) := by omega
        rw [ek]
        have hd : decide (zs.length + j < zs.length) = false := by first | (simp; done) | (simp; omega)
        have hd2 : decide ((zs.length : Int) + (j : Int) < (zs.length : Int)) = false := by first | (simp; done) | (simp; omega)
        have hd3 : decide ((zs.length : Int) ≤ (zs.length : Int) + (j : Int)) = true := by first | (simp; done) | (simp; omega)
        have hd4 : decide (zs.length ≤ zs.length + j) = true := by first | (simp; done) | (simp; omega)
        have hd5 : (0 : Int) ≤ (zs.length : Int) + (j : Int) := by omega
        have hd6 : (zs.length : Int) + (j : Int) < (zs.length : Int) + 2 := by omega
        have hd7 : ((zs.length : Int) + (j : Int)).toNat = zs.length + j := by omega
        clear hb hxr hx h h77 ek hlk
        go_wp2_with fail
        go_quiet (fail)
        go_wp2
        go_roundw
        case rel => exact ⟨zs.length + j + 1, by omega, by go_num, below_drewN' HB.out _⟩
        case measure => simp [intOf]; omega
    · have hk' : k = zs.length + 2 := by omega
      subst hk'
      have HB := Lib.hid hb
      clear hb hx h
      go_wp2
      go_ret
      exact ⟨rfl, HB.out⟩
end Go.Proofs.Ytlomcnmijfiihaa
