/- LevelRuns: sameInts and sameRuns of lists that are the same: they only read. -/
import Derived.Test.YtikgjnfimagpjaaLrs2
namespace Go.Proofs.Ytikgjnfimagpjaa
open Go.RowKit
set_option maxHeartbeats 2000000 in
theorem sameints_quiet (xs : List Int) (A A2 : Option Addr) (c c2 : Nat) (w : World) (hl : xs.length ≤ 140737488351232) (h : Sl w w.heap.size A (ints .i64 xs)) (h2 : Sl w w.heap.size A2 (ints .i64 xs)) :
    Calls Try.prog 13 #[.slice A xs.length c, .slice A2 xs.length c2] w fun e w' => e = .returned (.bool true) ∧ ∃ m, w' = w.drewN m := by
  go_enter Try.func13, Try.ntmps13
  go_wp2
  go_loopw [5] (fun i wr => ∃ k m : Nat, k ≤ xs.length ∧ i = .int .i64 k ∧ wr = w.drewN m)
    (fun i _ => xs.length - (intOf i).toNat)
  case atStart => exact ⟨0, 0, by omega, rfl, rfl⟩
  case round =>
    obtain ⟨k, m, hk, rfl, hw⟩ := hrel
    have hb : Below w.heap.size w wr := by rw [hw]; exact below_drewN' (Below.refl _ _) _
    by_cases hlt : k < xs.length
    · obtain ⟨ad, rfl, hadb, hcell⟩ := sl_at (h.below hb) hlt
      obtain ⟨ad2, rfl, hadb2, hcell2⟩ := sl_at (h2.below hb) (i := k) hlt
      have HW := Lib.hid hw
      clear h h2 hb hw
      obtain ⟨x, hx⟩ : ∃ x, x = xs.getD k 0 := ⟨_, rfl⟩
      rw [← hx] at hcell hcell2
      clear hx
      go_wp2_with fail
      go_quiet (fail)
      go_wp2
      go_roundw
      case rel => exact ⟨k + 1, m + nq, by omega, by go_num, by rw [HW.out, World.drewN_drewN]⟩
      case measure => simp [intOf]; omega
    · have hk' : k = xs.length := by omega
      subst hk'
      have HW := Lib.hid hw
      clear hw hb
      go_wp2
      go_ret
      exact ⟨rfl, m, HW.out⟩
theorem Sl.drewN {w : World} {A : Option Addr} {xs : List Value} (h : Sl w w.heap.size A xs) (q : Nat) : Sl (w.drewN q) (w.drewN q).heap.size A xs :=
  (h.below (below_drewN' (Below.refl _ _) q)).more (Nat.le_refl _)
set_option maxHeartbeats 2000000 in
theorem sameruns_any (rows : List (List Int)) (B B2 : Nat) (F F2 : List Nat) (rvs rvs2 : List Value) (OA OB : Option Addr) (oc oc2 : Nat) (w : World) (hl : rows.length ≤ 1048576) (he : ∀ a, a < rows.length → (rows.getD a []).length ≤ 1048576)
    (h : Mem w B F (.slice OA rows.length oc) rvs rows) (h2 : Mem w B2 F2 (.slice OB rows.length oc2) rvs2 rows) :
    Calls Try.prog 24 #[.slice OA rows.length oc, .slice OB rows.length oc2] w fun e w' => e = .returned (.bool true) ∧ ∃ m, w' = w.drewN m := by
  go_enter Try.func24, Try.ntmps24
  go_wp2
  go_loopw [5] (fun i wr => ∃ k m : Nat, k ≤ rows.length ∧ i = .int .i64 k ∧ wr = w.drewN m)
    (fun i _ => rows.length - (intOf i).toNat)
  case atStart => exact ⟨0, 0, by omega, rfl, rfl⟩
  case round =>
    obtain ⟨k, m, hk, rfl, hw⟩ := hrel
    have hst : Stay [] w wr := by rw [hw]; exact Stay.drewN _ _
    by_cases hlt : k < rows.length
    · obtain ⟨g, R, l, rc, rfl, -, hc1, -, -, hl1, ho1, -⟩ := (h.keep (G := []) hst (by simp)).at_ k hlt
      obtain ⟨g2, R2, l2, rc2, rfl, -, hc2, -, -, hl2, ho2, -⟩ := (h2.keep (G := []) hst (by simp)).at_ k hlt
      have hll : l2 = l := by rw [hl1, hl2]
      subst hll
      have hle := he k hlt
      have HSI := Lib.hid (fun q => (show Calls Try.prog 13 #[.slice R l2 rc, .slice R2 l2 rc2] (wr.drewN q) fun e w' => e = .returned (.bool true) ∧ ∃ m, w' = (wr.drewN q).drewN m from by
        have := sameints_quiet (rows.getD k []) R R2 rc rc2 (wr.drewN q) (by omega) (ho1.sl.drewN q) (ho2.sl.drewN q)
        rw [← hl1] at this
        exact this))
      have HW := Lib.hid hw
      have hlt' : (k : Int) < rows.length := by omega
      have hk0 : (0 : Int) ≤ k := by omega
      clear h h2 hst hw ho1 ho2 hl1 hl2 he
      go_wp2_with fail
      go_quiet ((go_at_call 13; exact Calls.quiet_of (HSI.out _)))
      go_wp2
      go_roundw
      case rel => exact ⟨k + 1, m + nq, by omega, by go_num, by rw [HW.out, World.drewN_drewN]⟩
      case measure => simp [intOf]; omega
    · have hk' : k = rows.length := by omega
      subst hk'
      have HW := Lib.hid hw
      clear hw hst h h2 he
      go_wp2
      go_ret
      exact ⟨rfl, m, HW.out⟩
end Go.Proofs.Ytikgjnfimagpjaa
