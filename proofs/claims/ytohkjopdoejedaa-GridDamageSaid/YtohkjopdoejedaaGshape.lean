/- shuttlelaw24: shaped. -/
import Derived.Test.YtohkjopdoejedaaGce
namespace Go.Proofs.Ytohkjopdoejedaa
open Go.RowKit
theorem tmod_nat (i W : Nat) : ((i : Int).tmod W) = ((i % W : Nat) : Int) := by
  rw [Int.tmod_eq_emod_of_nonneg (by omega)]
  rfl
theorem own_pt {w : World} {B g n c : Nat} {t : TypeId} {l : List Ce} (h : w.ownsRow B t 6 (.slice (some ⟨g, 0, none⟩) n c) n (rowCells l)) (i : Nat) (hi : i < l.length) (hn : l.length = n) : w.cell? ⟨g, i * 6 + 1, none⟩ = some (.int .i8 (pt l i)) := by
  rw [(own_cell h i hi hn _ rfl).2.1, pt, getD_eq l, List.getElem?_eq_getElem hi]
  rfl
set_option maxRecDepth 20000 in
set_option maxHeartbeats 4000000 in
theorem shaped_any (W H M c : Nat) (A : Option Addr) (X Y : Int) (L : List Ce) (Bo : Nat) (w : World) (hO : w.ownsRow Bo 49 6 (.slice A M c) M (rowCells L)) (hM : M = H * W) (hL : L.length = M) (hW : W ≤ 1024) (hH : H ≤ 1024)
    (hsh : ∀ i, i < M → 0 ≤ pt L i ∧ (0 < pt L i → i % W ≠ 0 ∧ 0 < i ∧ pt L (i - 1) = pt L i - 1)) (hp : PartOK L) (hcar : (0 ≤ X ∧ X < W ∧ 0 ≤ Y ∧ Y < H) ∨ (X = -1 ∧ Y = -1)) :
    Calls Try.prog 18 #[.agg #[.int .i64 W, .int .i64 H, .slice A M c, .int .i64 X, .int .i64 Y]] w fun e w' => e = .returned (.bool true) ∧ Below w.heap.size w w' := by
  have b0 := box_cell w #[.int .i64 W, .int .i64 H, .slice A M c, .int .i64 X, .int .i64 Y] 40 0 _ rfl
  have b1 := box_cell w #[.int .i64 W, .int .i64 H, .slice A M c, .int .i64 X, .int .i64 Y] 40 1 _ rfl
  have b2 := box_cell w #[.int .i64 W, .int .i64 H, .slice A M c, .int .i64 X, .int .i64 Y] 40 2 _ rfl
  have b3 := box_cell w #[.int .i64 W, .int .i64 H, .slice A M c, .int .i64 X, .int .i64 Y] 40 3 _ rfl
  have b4 := box_cell w #[.int .i64 W, .int .i64 H, .slice A M c, .int .i64 X, .int .i64 Y] 40 4 _ rfl
  have HT1 := Lib.hid (Stay.alloc (F := []) w (.cells #[.int .i64 W, .int .i64 H, .slice A M c, .int .i64 X, .int .i64 Y] 40))
  have hsz := size_alloc' w (.cells #[.int .i64 W, .int .i64 H, .slice A M c, .int .i64 X, .int .i64 Y] 40)
  have HO0 := Lib.hid hO
  have HSh := Lib.hid hsh
  have HPo := Lib.hid hp
  have HLe := Lib.hid hL
  have hM2 : M ≤ 1048576 := by rw [hM]; exact Nat.mul_le_mul hH hW
  have hmul : IntKind.i64.wrap ((W : Int) * H) = M := by
    rw [← Int.natCast_mul, Nat.mul_comm, ← hM]; simp only [IntKind.wrap, IntKind.bits, IntKind.signed]; simp; omega
  have HM0 := Lib.hid (show ∀ i, i < M → 0 < W from fun i hi => by
    rcases Nat.eq_zero_or_pos W with h0 | h0
    · rw [h0, Nat.mul_zero] at hM; omega
    · exact h0)
  have HCar := Lib.hid hcar
  clear hO hsh hp hL hM hcar
  go_enter Try.func18, Try.ntmps18
  go_wp2_with fail
  obtain ⟨W2, hW2⟩ : ∃ W2, W2 = w.alloc (.cells #[.int .i64 W, .int .i64 H, .slice A M c, .int .i64 X, .int .i64 Y] 40) := ⟨_, rfl⟩
  obtain ⟨B1, hB1⟩ : ∃ B1, B1 = w.heap.size := ⟨_, rfl⟩
  have HBe := Lib.hid hB1
  rw [← hW2] at b0 b1 b2 b3 b4 HT1 hsz ⊢
  rw [← hB1] at b0 b1 b2 b3 b4 hsz ⊢
  have hlB : B1 < W2.heap.size := by omega
  have HO2 := Lib.hid (HT1.out.own HO0.out (by simp))
  have HB2 := Lib.hid (show Below B1 w W2 from HT1.out.toBelow (by omega) (by simp))
  have HzB := Lib.hid (show B1 ≤ W2.heap.size from by omega)
  clear hW2 hB1 hsz HT1 HO0
  go_loopw [3] (fun iv wr => ∃ k : Nat, k ≤ M ∧ iv = .int .i64 k ∧ Hid (Stay [] W2 wr)) (fun iv _ => M - (intOf iv).toNat)
  case atStart => exact ⟨0, by omega, rfl, Stay.refl _ _⟩
  case round =>
    obtain ⟨k, hk, rfl, HTk⟩ := hrel
    have e0 : wr.cell? ⟨B1, 0, none⟩ = some (.int .i64 W) := (HTk.out.cell_ (a := ⟨B1, 0, none⟩) hlB (by simp)).trans b0
    have e1 : wr.cell? ⟨B1, 1, none⟩ = some (.int .i64 H) := (HTk.out.cell_ (a := ⟨B1, 1, none⟩) hlB (by simp)).trans b1
    have e2 : wr.cell? ⟨B1, 2, none⟩ = some (.slice A M c) := (HTk.out.cell_ (a := ⟨B1, 2, none⟩) hlB (by simp)).trans b2
    have e3 : wr.cell? ⟨B1, 3, none⟩ = some (.int .i64 X) := (HTk.out.cell_ (a := ⟨B1, 3, none⟩) hlB (by simp)).trans b3
    have e4 : wr.cell? ⟨B1, 4, none⟩ = some (.int .i64 Y) := (HTk.out.cell_ (a := ⟨B1, 4, none⟩) hlB (by simp)).trans b4
    clear b0 b1 b2 b3 b4
    by_cases hlt2 : k < M
    · have hlt' : (k : Int) < M := by omega
      have hk0 : (0 : Int) ≤ k := by omega
      have hok := HTk.out.own HO2.out (by simp)
      obtain ⟨g, cap, hv, -, -⟩ := owned_form hok (by omega)
      injection hv with hA _ hc
      subst hA
      subst hc
      have hs := HSh.out k hlt2
      have hpo := HPo.out k
      have c1 := own_pt hok k (by rw [HLe.out]; exact hlt2) HLe.out
      change -128 ≤ pt L k ∧ pt L k < 128 at hpo
      have HR := Lib.hid (show ∃ k_1 : Nat, k_1 ≤ M ∧ Value.int .i64 ((k : Int) + 1) = .int .i64 k_1 ∧ Hid (Stay [] W2 wr) from ⟨k + 1, by omega, by go_num, HTk⟩)
      by_cases hp0 : 0 < pt L k
      · obtain ⟨hr0, hi0, hpp⟩ := hs.2 hp0
        have c1' := own_pt hok (k - 1) (by rw [HLe.out]; omega) HLe.out
        rw [hpp] at c1'
        have hWp := HM0.out k hlt2
        have hWn : ¬ (W : Int) = 0 := by omega
        have hrm := tmod_nat k W
        obtain ⟨r, hr⟩ : ∃ r, r = k % W := ⟨_, rfl⟩
        rw [← hr] at hrm hr0
        have hr0' : ¬ (r : Int) = 0 := by omega
        obtain ⟨p, hpe⟩ : ∃ p, p = pt L k := ⟨_, rfl⟩
        rw [← hpe] at c1 c1' hp0 hpo
        have hpw : IntKind.i8.wrap (p - 1) = p - 1 := by simp only [IntKind.wrap, IntKind.bits, IntKind.signed]; simp; omega
        obtain ⟨k', rfl⟩ : ∃ k', k = k' + 1 := ⟨k - 1, by omega⟩
        rw [show k' + 1 - 1 = k' by omega] at c1'
        have hk1 : ((k' + 1 : Nat) : Int) - 1 = k' := by omega
        have hk2 : (k' : Int) < M := by omega
        have hk3 : IntKind.i64.wrap (k' : Int) = k' := by simp only [IntKind.wrap, IntKind.bits, IntKind.signed]; simp; omega
        have hpn : ¬ p < 0 := by omega
        have hrm2 : ¬ ((k' : Int) + 1) % (W : Int) = 0 := by
          have h1 : ((k' + 1 : Nat) : Int) % (W : Int) = ((r : Nat) : Int) := by rw [hr]; rfl
          rw [Int.natCast_add] at h1
          intro h2
          apply hr0'
          rw [← h1]
          exact h2
        clear hs hpp hr hpe hpo hrm
        go_wp2_with fail
        go_roundw
        case rel => exact ⟨k' + 1 + 1, by omega, by go_num, HTk⟩
        case measure => simp [intOf]; omega
      · have hp1 : pt L k = 0 := by omega
        rw [hp1] at c1
        clear hs hp0 hpo hp1
        go_wp2_with fail
        go_roundw
        case rel => exact HR.out
        case measure => simp [intOf]; omega
    · have hk' : k = M := by omega
      have hlt' : ¬ (k : Int) < M := by omega
      have HBf := Lib.hid (HB2.out.trans (HTk.out.toBelow HzB.out (by simp)))
      rcases HCar.out with ⟨h1, h2, h3, h4⟩ | ⟨h1, h2⟩
      · clear hk'
        go_wp2_with fail
        exact bodyPost_ret (v := .bool true) (by simp [results, Try.results18, go_sem]) rfl ⟨rfl, by rw [← HBe.out]; exact HBf.out⟩
      · subst h1
        subst h2
        clear hk'
        go_wp2_with fail
        exact bodyPost_ret (v := .bool true) (by simp [results, Try.results18, go_sem]) rfl ⟨rfl, by rw [← HBe.out]; exact HBf.out⟩
end Go.Proofs.Ytohkjopdoejedaa
