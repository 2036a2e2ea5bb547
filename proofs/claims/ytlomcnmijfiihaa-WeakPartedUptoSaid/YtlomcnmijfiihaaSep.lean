/- package weak: rule 4, in place. -/
import Derived.Test.YtlomcnmijfiihaaRules
namespace Go.Proofs.Ytlomcnmijfiihaa
open Go.RowKit
theorem own_getD {w : World} {B g n c : Nat} {ys : List Int} (h : Own w 23 B (.slice (some ⟨g, 0, none⟩) n c) (i8s ys)) {k : Nat} (hk : k < ys.length) : w.cell? ⟨g, k, none⟩ = some (.int .i8 (ys.getD k 0)) := by
  rw [h.cell k (by simpa using hk)]
  simp [i8s, hk]
theorem own_set {w : World} {B g n c : Nat} {ys : List Int} (h : Own w 23 B (.slice (some ⟨g, 0, none⟩) n c) (i8s ys)) (k : Nat) (x : Int) : Own (w.setCell ⟨g, k, none⟩ (.int .i8 x)) 23 B (.slice (some ⟨g, 0, none⟩) n c) (i8s (ys.set k x)) := by
  have := h.stored k (.int .i8 x)
  simpa [i8s, List.map_set] using this
set_option maxHeartbeats 2000000 in
theorem separators_rule : Rule 31 (fun zs _ => sepL zs) := by
  intro zs A c s w B hl hown
  go_enter Try.func31, Try.ntmps31
  go_wp2
  go_loopw [4] (fun i wr => ∃ (k : Nat) (ys : List Int), (k = 0 ∨ k + 1 < zs.length) ∧ i = .int .i64 ((k : Int) + 1) ∧ SepTo zs ys (k + 1) ∧ Own wr 23 B (.slice A zs.length c) (i8s ys) ∧ w.grownBy wr (Value.slice A zs.length c).ownBlock)
    (fun i _ => zs.length - (intOf i).toNat)
  case atStart => exact ⟨0, zs, by omega, rfl, SepTo.start zs, hown, World.grownBy.refl _ _⟩
  case round =>
    obtain ⟨k, ys, hk, rfl, hs, ho, hg⟩ := hrel
    have hyl := hs.1
    by_cases hlt : k + 2 < zs.length
    · obtain ⟨-, g, rfl, -⟩ := ho.form (by simp; omega)
      have h0 := own_getD ho (k := k) (by omega)
      have h1 := own_getD ho (k := k + 1) (by omega)
      have h2 := own_getD ho (k := k + 2) (by omega)
      have hfr := ho.free (k + 1)
      rw [hs.2 k (by omega), if_pos (by omega)] at h0
      rw [hs.2 (k + 1) (by omega), if_neg (by omega)] at h1
      rw [hs.2 (k + 2) (by omega), if_neg (by omega)] at h2
      have key := sep_key zs k hlt
      have HS := Lib.hid (fun x hx => hs.store (x := x) (show k + 1 < zs.length by omega) hx)
      have HK := Lib.hid (hs.skip (show k + 1 < zs.length by omega))
      have HO := Lib.hid (fun x => own_set ho (k + 1) x)
      have HO2 := Lib.hid ho
      have HG := Lib.hid (grown_setCell (g := g) (p := ⟨g, k + 1, none⟩) hg rfl)
      have HG2 := Lib.hid hg
      have KEY := Lib.hid key
      clear key hs ho hg hown hyl
      generalize sepAt zs k = a at *
      generalize zs.getD (k + 1) 0 = z at *
      generalize zs.getD (k + 2) 0 = b at *
      go_wp2
      all_goals
        go_roundw
        case rel =>
          first
            | exact ⟨k + 1, ys.set (k + 1) _, by omega, by go_num, HS.out _ (by rw [KEY.out]; simp_all), HO.out _, HG.out _⟩
            | exact ⟨k + 1, ys, by omega, by go_num, HK.out (by rw [KEY.out]; simp_all), HO2.out, HG2.out⟩
        case measure => simp [intOf]; omega
    · have hd := hs.done (by omega)
      subst hd
      go_wp2
      go_end0
      exact ⟨rfl, ho, hg⟩
end Go.Proofs.Ytlomcnmijfiihaa
