/- the reference: terminators. -/
import Derived.Test.YtlomcnmijfiihaaRefC
namespace Go.Proofs.Ytlomcnmijfiihaa
open Go.RowKit
def RT (zs : List Int) (B : Nat) (A : Option Addr) (c : Nat) (w : World) (i : Nat) (wr : World) : Prop :=
  ∃ ys : List Int, i ≤ zs.length ∧ TermTo zs ys i ∧ (i = 0 ∨ i = zs.length ∨ zs.getD i 0 ≠ 5 ∨ zs.getD (i - 1) 0 ≠ 5) ∧ Own wr 23 B (.slice A zs.length c) (i8s ys) ∧ w.grownBy wr (Value.slice A zs.length c).ownBlock
set_option maxRecDepth 100000 in
set_option maxHeartbeats 4000000 in
theorem rterm_any (zs : List Int) (A : Option Addr) (c : Nat) (w : World) (B : Nat) (hl : zs.length ≤ 140737488351232) (hown : Own w 23 B (.slice A zs.length c) (i8s zs)) :
    Calls Try.prog 24 #[.slice A zs.length c] w fun e w' => e = .returned (.tuple #[]) ∧ Own w' 23 B (.slice A zs.length c) (i8s (termL zs)) ∧ w.grownBy w' (Value.slice A zs.length c).ownBlock := by
  go_enter Try.func24, Try.ntmps24
  go_wp2
  go_loopw [2] (fun t wr => ∃ i : Nat, t = .int .i64 i ∧ RT zs B A c w i wr) (fun t _ => zs.length - (intOf t).toNat)
  case atStart => exact ⟨0, rfl, zs, by omega, TermTo.start zs, .inl rfl, hown, World.grownBy.refl _ _⟩
  case round =>
    obtain ⟨i, rfl, ys, hi, hT, h5, ho, hg⟩ := hrel
    by_cases hlt : i < zs.length
    · obtain ⟨-, g, rfl, -⟩ := ho.form (by simp [hT.1]; omega)
      have HC : Hid (∀ j, j < zs.length → wr.cell? ⟨g, j, none⟩ = some (.int .i8 (ys.getD j 0))) := fun j hj => own_getD ho (by rw [hT.1]; exact hj)
      have hc := HC.out i hlt
      rw [hT.2 i hlt, if_neg (by omega)] at hc
      have HT := Lib.hid hT
      have HO := Lib.hid ho
      have HG := Lib.hid hg
      by_cases hz : zs.getD i 0 = 5
      · have hm0 : Hid (i = 0 ∨ zs.getD (i - 1) 0 ≠ 5) := by
          rcases h5 with h | h | h | h
          · exact .inl h
          · omega
          · exact absurd hz h
          · exact .inr h
        rw [hz] at hc
        have HZ := Lib.hid hz
        clear hT ho hg h5 hz hown
        go_wp2
        go_loop [3] (fun t => ∃ r : Nat, i ≤ r ∧ r ≤ zs.length ∧ Hid (Row5 zs i r) ∧ t = .int .i64 r) (fun t => zs.length - (intOf t).toNat)
        case atStart => exact ⟨i, by omega, hi, fun j h1 h2 => by omega, rfl⟩
        case round =>
          obtain ⟨r, hir, hr, HR5, rfl⟩ := hrel
          by_cases hlr : r < zs.length ∧ zs.getD r 0 = 5
          · obtain ⟨hlr, h5r⟩ := hlr
            have hc2 := HC.out r hlr
            rw [HT.out.2 r hlr, if_neg (by omega), h5r] at hc2
            have HR5' : Hid (Row5 zs i (r + 1)) := fun j h1 h2 => by
              by_cases e : j = r
              · subst e; exact h5r
              · exact HR5.out j h1 (by omega)
            clear h5r
            go_wp2
            go_round
            case rel => exact ⟨r + 1, by omega, by omega, HR5', by go_num⟩
            case measure => simp [intOf]; omega
          · have hir' : i < r := by
              rcases Nat.lt_or_ge i r with h | h
              · exact h
              · have : r = i := by omega
                subst this
                exact absurd ⟨hlt, HZ.out⟩ hlr
            have H1 : Hid (r = zs.length ∨ zs.getD r 0 ≠ 5) := by
              by_cases e : r = zs.length
              · exact .inl e
              · exact .inr (fun h => hlr ⟨by omega, h⟩)
            have H1' : Hid (r = 0 ∨ r = zs.length ∨ zs.getD r 0 ≠ 5 ∨ zs.getD (r - 1) 0 ≠ 5) := by
              rcases H1.out with h | h
              · exact .inr (.inl h)
              · exact .inr (.inr (.inl h))
            have HAT := Lib.hid (fun (j : Nat) (h1 : i ≤ j) (h2 : j < r) => termAt_row hir' hr HR5.out hm0.out H1.out h1 h2)
            have hcr : r < zs.length → wr.cell? ⟨g, r, none⟩ = some (.int .i8 (zs.getD r 0)) := fun h => by
              have := HC.out r h
              rwa [HT.out.2 r h, if_neg (by omega)] at this
            have hcm : 0 < i → wr.cell? ⟨g, i - 1, none⟩ = some (.int .i8 (zs.getD (i - 1) 0)) := fun h => by
              have h2 := HC.out (i - 1) (by omega)
              rw [HT.out.2 (i - 1) (by omega), if_pos (by omega), termAt_other (by rcases hm0.out with h3 | h3; (· omega); (· exact h3))] at h2
              exact h2
            clear hlr
            obtain ⟨a, ha⟩ : ∃ a, a = zs.getD (i - 1) 0 := ⟨_, rfl⟩
            obtain ⟨b, hb⟩ : ∃ b, b = zs.getD r 0 := ⟨_, rfl⟩
            rw [← ha] at hcm
            rw [← hb] at hcr
            have Ha := Lib.hid ha
            have Hb := Lib.hid hb
            clear ha hb
            have hb5 : r < zs.length → (b == 5) = false := fun h => by
              rw [Hb.out]
              rcases H1.out with h2 | h2
              · omega
              · simpa using h2
            by_cases hrn : r < zs.length
            all_goals
              have hb5' := hb5
              clear hb5
              first | (have hb6 := hb5' hrn) | skip
              clear hb5'
              go_wp2
              all_goals
                first
                  | (have HTr : TermTo zs ys r := HT.out.skips r (by omega) (fun j h1 h2 => by rw [HAT.out j h1 h2, if_neg (by rw [← Ha.out, ← Hb.out]; simp_all <;> omega)]; exact HR5.out j h1 h2)
                     go_roundw
                     case rel => exact ⟨r, by go_num, ys, hr, HTr, H1'.out, HO.out, HG.out⟩
                     case measure => simp [intOf]; omega)
                  | (have HAT2 := Lib.hid (fun j h1 h2 => (HAT.out j h1 h2).trans (if_pos (by rw [← Ha.out, ← Hb.out]; simp_all <;> omega)))
                     clear HAT
                     go_loopw [4] (fun t wr2 => ∃ (k : Nat) (zs2 : List Int), i ≤ k ∧ k ≤ r ∧ t = .int .i64 k ∧ TermTo zs zs2 k ∧ Own wr2 23 B (.slice (some ⟨g, 0, none⟩) zs.length c) (i8s zs2) ∧ w.grownBy wr2 (some g))
                       (fun t _ => r - (intOf t).toNat)
                     case atStart => exact ⟨i, ys, by omega, by omega, rfl, HT.out, HO.out, HG.out⟩
                     case round =>
                       obtain ⟨k, zs2, hik, hk, rfl, hT2, ho3, hg3⟩ := hrel
                       by_cases hlk : k < r
                       · have hfr := ho3.free k
                         have hcl := own_getD ho3 (k := k) (by rw [hT2.1]; omega)
                         have HS := Lib.hid (hT2.store (x := 3) (show k < zs.length by omega) (HAT2.out k (by omega) (by omega)).symm)
                         have HO3 := Lib.hid (own_set ho3 k 3)
                         have HG3 := Lib.hid (grown_setCell (g := g) (p := ⟨g, k, none⟩) hg3 rfl (.int .i8 3))
                         clear hT2 ho3 hg3
                         go_wp2
                         go_roundw
                         case rel => exact ⟨k + 1, _, by omega, by omega, by go_num, HS.out, HO3.out, HG3.out⟩
                         case measure => simp [intOf]; omega
                       · have ek : k = r := by omega
                         subst ek
                         have HT3 := Lib.hid hT2
                         have HO3 := Lib.hid ho3
                         have HG3 := Lib.hid hg3
                         clear hT2 ho3 hg3
                         go_wp2
                         go_roundw
                         case rel => exact ⟨k, by go_num, zs2, hr, HT3.out, H1'.out, HO3.out, HG3.out⟩
                         case measure => simp [intOf]; omega)
      · have hb5 : (zs.getD i 0 != 5) = true := by simpa using hz
        have HZ := Lib.hid hz
        have HK := Lib.hid (hT.skip (termAt_other hz).symm)
        clear hT ho hg h5 hz hown
        obtain ⟨z, hzz⟩ : ∃ z, z = zs.getD i 0 := ⟨_, rfl⟩
        rw [← hzz] at hc hb5
        clear hzz
        go_wp2
        go_roundw
        case rel => exact ⟨i + 1, by go_num, ys, by omega, HK.out, .inr (.inr (.inr HZ.out)), HO.out, HG.out⟩
        case measure => simp [intOf]; omega
    · have hk' : i = zs.length := by omega
      subst hk'
      obtain rfl := hT.done
      go_wp2
      go_end0
      exact ⟨rfl, ho, hg⟩
end Go.Proofs.Ytlomcnmijfiihaa
