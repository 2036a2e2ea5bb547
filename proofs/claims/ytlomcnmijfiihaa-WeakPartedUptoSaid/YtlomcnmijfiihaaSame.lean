/- the law's own helpers: same. -/
import Derived.Test.YtlomcnmijfiihaaStep
import Derived.Deep.QuietTactic
import Derived.BigQuiet
namespace Go.Proofs.Ytlomcnmijfiihaa
open Go.RowKit
theorem below_drewN' {B : Nat} {a w : World} (h : Below B a w) (n : Nat) : Below B a (w.drewN n) := ⟨h.os, h.tape, h.output, h.size, h.block⟩
/-- alike as far as place k -/
def Same (xs ys : List Int) (k : Nat) : Prop := ∀ j, j < k → xs.getD j 0 = ys.getD j 0
theorem Same.succ {xs ys : List Int} {k : Nat} (h : Same xs ys k) (hk : xs.getD k 0 = ys.getD k 0) : Same xs ys (k + 1) := fun j hj => by
  by_cases e : j = k
  · subst e; exact hk
  · exact h j (by omega)
theorem Same.all {xs ys : List Int} (hl : xs.length = ys.length) (h : Same xs ys xs.length) : xs = ys := ext_getD hl fun j hj => h j (by omega)
theorem sl_get {w : World} {B : Nat} {A : Option Addr} {zs : List Int} (h : Sl w B A (i8s zs)) {k : Nat} (hk : k < zs.length) :
    ∃ ad, A = some ad ∧ ad.block < B ∧ w.cell? (ad.add k) = some (.int .i8 (zs.getD k 0)) := by
  obtain ⟨ad, h1, h2, h3⟩ := sl_at8 h hk
  exact ⟨ad, h1, h2, by simpa [hk] using h3⟩
set_option maxHeartbeats 2000000 in
theorem same_any (xs ys : List Int) (A A2 : Option Addr) (c c2 : Nat) (w : World) (hl : xs.length ≤ 140737488351232) (hl2 : ys.length ≤ 140737488351232) (h : Sl w w.heap.size A (i8s xs)) (h2 : Sl w w.heap.size A2 (i8s ys)) :
    Calls Try.prog 12 #[.slice A xs.length c, .slice A2 ys.length c2] w fun e w' => e = .returned (.bool (decide (xs = ys))) ∧ Below w.heap.size w w' := by
  by_cases hlen : xs.length = ys.length
  · have HL := Lib.hid hlen
    rw [← hlen]
    clear hlen
    go_enter Try.func12, Try.ntmps12
    go_wp2
    go_loopw [13] (fun i wr => ∃ k : Nat, k ≤ xs.length ∧ i = .int .i64 k ∧ Hid (Same xs ys k) ∧ Below w.heap.size w wr)
      (fun i _ => xs.length - (intOf i).toNat)
    case atStart => exact ⟨0, by omega, rfl, fun j hj => by omega, Below.refl _ _⟩
    case round =>
      obtain ⟨k, hk, rfl, HS, hb⟩ := hrel
      by_cases hlt : k < xs.length
      · obtain ⟨ad, rfl, hadb, hcell⟩ := sl_get (h.below hb) hlt
        obtain ⟨ad2, rfl, hadb2, hcell2⟩ := sl_get (h2.below hb) (k := k) (by rw [← HL.out]; exact hlt)
        have HB := Lib.hid hb
        clear h h2 hb
        obtain ⟨x, hx⟩ : ∃ x, x = xs.getD k 0 := ⟨_, rfl⟩
        obtain ⟨y, hy⟩ : ∃ y, y = ys.getD k 0 := ⟨_, rfl⟩
        rw [← hx] at hcell
        rw [← hy] at hcell2
        have HX := Lib.hid hx
        have HY := Lib.hid hy
        clear hx hy
        go_wp2_with fail
        go_quiet (fail)
        go_wp2
        · go_ret
          refine ⟨?_, below_drewN' HB.out _⟩
          have : xs ≠ ys := by
            rintro rfl
            have := HX.out.trans HY.out.symm
            simp_all
          simp [this]
        · have hxy : x = y := by simp_all
          go_roundw
          case rel => exact ⟨k + 1, by omega, by go_num, HS.out.succ (by rw [← HX.out, ← HY.out]; exact hxy), below_drewN' HB.out _⟩
          case measure => simp [intOf]; omega
      · have hk' : k = xs.length := by omega
        subst hk'
        have he := Lib.hid (HS.out.all HL.out)
        go_wp2
        go_ret
        exact ⟨by simp [he.out], hb⟩
  · have hne : xs ≠ ys := fun e => hlen (by rw [e])
    have HN := Lib.hid hne
    clear hne
    have hb : ((xs.length : Int) != (ys.length : Int)) = true := by simp; omega
    go_enter Try.func12, Try.ntmps12
    go_wp2
    go_ret
    exact ⟨by simp [HN.out], Below.refl _ _⟩
end Go.Proofs.Ytlomcnmijfiihaa
