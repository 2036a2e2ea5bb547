/- the reference: separators, marks. -/
import Derived.Test.YtlomcnmijfiihaaRefA
namespace Go.Proofs.Ytlomcnmijfiihaa
open Go.RowKit
theorem ret_int' {k : IntKind} {a b : Int} (h : b = a) : Ending.returned (.int k a) = .returned (.int k b) := by rw [h]
set_option maxHeartbeats 4000000 in
theorem sepAt_any (zs : List Int) (A : Option Addr) (c i : Nat) (w : World) (hl : zs.length ≤ 140737488351232) (hi : i < zs.length) (h : Sl w w.heap.size A (i8s zs)) :
    Calls Try.prog 26 #[.slice A zs.length c, .int .i64 i] w fun e w' => e = .returned (.int .i8 (sepAt zs i)) ∧ Below w.heap.size w w' := by
  obtain ⟨ad, rfl, hadb, hcell⟩ := sl_get h hi
  have HS : Hid (sepAt zs i = if 0 < i ∧ i + 1 < zs.length ∧ zs.getD (i - 1) 0 = zs.getD (i + 1) 0 ∧ ((zs.getD (i - 1) 0 = 3 ∧ (zs.getD i 0 = 4 ∨ zs.getD i 0 = 7)) ∨ (zs.getD (i - 1) 0 = 6 ∧ zs.getD i 0 = 7)) then zs.getD (i - 1) 0 else zs.getD i 0) := rfl
  have hm : 0 < i → w.cell? (ad.add (i - 1)) = some (.int .i8 (zs.getD (i - 1) 0)) := fun hh => by
    obtain ⟨ad2, e, _, hc⟩ := sl_get h (k := i - 1) (by omega)
    injection e with e
    rw [e]; exact hc
  have hp : i + 1 < zs.length → w.cell? (ad.add (i + 1)) = some (.int .i8 (zs.getD (i + 1) 0)) := fun hh => by
    obtain ⟨ad2, e, _, hc⟩ := sl_get h (k := i + 1) (by omega)
    injection e with e
    rw [e]; exact hc
  generalize sepAt zs i = r at *
  generalize zs.getD (i - 1) 0 = a at *
  generalize zs.getD (i + 1) 0 = b at *
  generalize zs.getD i 0 = z at *
  rcases Nat.eq_zero_or_pos i with h0 | h0
  · subst h0
    clear hm hp h
    have hcell0 : w.cell? ad = some (.int .i8 z) := by simpa [Addr.add] using hcell
    clear hcell
    go_enter Try.func26, Try.ntmps26
    go_wp2_with fail
    go_quiet (fail)
    go_wp2
    go_ret
    exact ⟨ret_int' (HS.out.trans (if_neg (by omega))), below_drewN' (Below.refl _ _) _⟩
  · obtain ⟨j, rfl⟩ : ∃ j, i = j + 1 := ⟨i - 1, by omega⟩
    have hc1 := hm h0
    simp only [Nat.add_sub_cancel] at hc1
    clear hm
    have ej : ((j + 1 : Nat) : Int) = (j : Int) + 1 := by omega
    rw [ej]
    clear ej
    have hb0 : ((j : Int) + 1 == 0) = false := by simp; omega
    have e1 : IntKind.i64.wrap (j : Int) = (j : Int) := IntWalk.i64_in _ (by omega)
    have e0 : IntKind.i64.wrap ((j : Int) + 1 - 1) = (j : Int) := by rw [show (j : Int) + 1 - 1 = j from by omega]; exact e1
    have e2 : IntKind.i64.wrap ((j : Int) + 1 + 1) = (j : Int) + 1 + 1 := IntWalk.i64_in _ (by omega)
    have e9 : IntKind.i64.wrap ((zs.length : Int) - 1) = (zs.length : Int) - 1 := IntWalk.i64_in _ (by omega)
    have e3 : ((j : Int) + 1).toNat = j + 1 := by omega
    have e4 : ((j : Int) + 1 + 1).toNat = j + 1 + 1 := by omega
    have e6 : (0 : Int) ≤ (j : Int) + 1 := by omega
    have e7 : (0 : Int) ≤ (j : Int) + 1 + 1 := by omega
    have e5 : (j : Int) < (zs.length : Int) := by omega
    have e10 : (j : Int) + 1 < (zs.length : Int) := by omega
    have hcb : w.cell? ⟨ad.block, ad.off + (j + 1), none⟩ = some (.int .i8 z) := by simpa [Addr.add] using hcell
    rcases Nat.lt_or_ge (j + 1 + 1) zs.length with h1 | h1
    · have hb1 : ((j : Int) + 1 == (zs.length : Int) - 1) = false := by simp; omega
      have e8 : (j : Int) + 1 + 1 < (zs.length : Int) := by omega
      have hc2 := hp h1
      have hc2b : w.cell? ⟨ad.block, ad.off + (j + 1 + 1), none⟩ = some (.int .i8 b) := by simpa [Addr.add] using hc2
      clear hp h
      go_enter Try.func26, Try.ntmps26
      go_wp2_with fail
      go_quiet (fail)
      go_wp2
      all_goals
        go_ret
        refine ⟨?_, below_drewN' (Below.refl _ _) _⟩
        refine ret_int' (HS.out.trans ?_)
        split
        · rename_i hh
          first | rfl | omega | (exfalso; simp_all <;> omega)
        · rename_i hh
          first | rfl | omega | (exfalso; simp_all <;> omega)
    · have hb1 : ((j : Int) + 1 == (zs.length : Int) - 1) = true := by simp; omega
      clear hp h
      go_enter Try.func26, Try.ntmps26
      go_wp2_with fail
      go_quiet (fail)
      go_wp2
      go_ret
      exact ⟨ret_int' (HS.out.trans (if_neg (by omega))), below_drewN' (Below.refl _ _) _⟩
end Go.Proofs.Ytlomcnmijfiihaa
