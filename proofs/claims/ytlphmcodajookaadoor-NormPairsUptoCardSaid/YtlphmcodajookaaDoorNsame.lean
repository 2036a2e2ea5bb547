/- norm: the law's small functions: same, times. -/
import Derived.Test.YtlphmcodajookaaDoorNAuse
import Derived.Test.YtlphmcodajookaaDoorNAbase
namespace Go.Proofs.YtlphmcodajookaaDoor
open Go.RowKit
/-- alike as far as place k -/
def Same (xs ys : List Int) (k : Nat) : Prop := ∀ j, j < k → xs.getD j 0 = ys.getD j 0
theorem Same.succ {xs ys : List Int} {k : Nat} (h : Same xs ys k) (hk : xs.getD k 0 = ys.getD k 0) : Same xs ys (k + 1) := fun j hj => by
  by_cases e : j = k
  · subst e; exact hk
  · exact h j (by omega)
theorem Same.all {xs ys : List Int} (hl : xs.length = ys.length) (h : Same xs ys xs.length) : xs = ys := ext_getD hl fun j hj => h j (by omega)
set_option maxHeartbeats 2000000 in
theorem sameR_any (xs ys : List Int) (A A2 : Option Addr) (c c2 : Nat) (w : World) (hl : xs.length ≤ 140737488351232) (hl2 : ys.length ≤ 140737488351232) (h : Sl w w.heap.size A (ints .i32 xs)) (h2 : Sl w w.heap.size A2 (ints .i32 ys)) :
    Calls Tryd.prog 40 #[.slice A xs.length c, .slice A2 ys.length c2] w fun e w' => e = .returned (.bool (decide (xs = ys))) ∧ Below w.heap.size w w' := by
  by_cases hlen : xs.length = ys.length
  · have HL := Lib.hid hlen
    rw [← hlen]
    clear hlen
    go_enter Tryd.func40, Tryd.ntmps40
    go_wp2
    go_loopw [5] (fun i wr => ∃ k : Nat, k ≤ xs.length ∧ i = .int .i64 k ∧ Hid (Same xs ys k) ∧ Below w.heap.size w wr)
      (fun i _ => xs.length - (intOf i).toNat)
    case atStart => exact ⟨0, by omega, rfl, fun j hj => by omega, Below.refl _ _⟩
    case round =>
      obtain ⟨k, hk, rfl, HS, hb⟩ := hrel
      by_cases hlt : k < xs.length
      · obtain ⟨ad, rfl, hadb, hcell⟩ := sl_at (h.below hb) hlt
        obtain ⟨ad2, rfl, hadb2, hcell2⟩ := sl_at (h2.below hb) (i := k) (by rw [← HL.out]; exact hlt)
        have HB := Lib.hid hb
        clear h h2 hb
        obtain ⟨x, hx⟩ : ∃ x, x = xs.getD k 0 := ⟨_, rfl⟩
        obtain ⟨y, hy⟩ : ∃ y, y = ys.getD k 0 := ⟨_, rfl⟩
        rw [← hx] at hcell
        rw [← hy] at hcell2
        have HX := Lib.hid hx
        have HY := Lib.hid hy
        clear hx hy
        go_wp2_with fail
        go_quiet (fail)
        go_wp2
        · go_ret
          refine ⟨?_, below_drewN' HB.out _⟩
          have : xs ≠ ys := by
            rintro rfl
            have := HX.out.trans HY.out.symm
            simp_all
          simp [this]
        · have hxy : x = y := by simp_all
          go_roundw
          case rel => exact ⟨k + 1, by omega, by go_num, HS.out.succ (by rw [← HX.out, ← HY.out]; exact hxy), below_drewN' HB.out _⟩
          case measure => simp [intOf]; omega
      · have hk' : k = xs.length := by omega
        subst hk'
        have he := Lib.hid (HS.out.all HL.out)
        go_wp2
        go_ret
        exact ⟨by simp [he.out], hb⟩
  · have hne : xs ≠ ys := fun e => hlen (by rw [e])
    have HN := Lib.hid hne
    clear hne
    have hb : ((xs.length : Int) != (ys.length : Int)) = true := by simp; omega
    go_enter Tryd.func40, Tryd.ntmps40
    go_wp2
    go_ret
    exact ⟨by simp [HN.out], Below.refl _ _⟩
/-- how often r stands in a list -/
def timesL (l : List Int) (r : Int) : Nat := (l.filter fun x => decide (x = r)).length
theorem timesL_succ (l : List Int) (r : Int) (k : Nat) (hk : k < l.length) : timesL (l.take (k + 1)) r = timesL (l.take k) r + if l.getD k 0 = r then 1 else 0 := by
  unfold timesL
  have e : l[k]? = some (l.getD k 0) := by simp [List.getElem?_eq_getElem hk]
  rw [List.take_add_one, e, List.filter_append, List.length_append]
  simp only [Option.toList, List.filter_cons, List.filter_nil]
  split <;> simp_all
theorem timesL_le (l : List Int) (r : Int) : timesL l r ≤ l.length := List.length_filter_le _ _
set_option maxHeartbeats 4000000 in
theorem times_any (xs : List Int) (r : Int) (A : Option Addr) (c : Nat) (w : World) (hl : xs.length ≤ 140737488351232) (h : Sl w w.heap.size A (ints .i32 xs)) :
    Calls Tryd.prog 41 #[.slice A xs.length c, .int .i32 r] w fun e w' => e = .returned (.int .i64 (timesL xs r)) ∧ w' = w := by
  go_enter Tryd.func41, Tryd.ntmps41
  go_wp2
  go_loopw [5, 6] (fun n i wr => ∃ k q : Nat, k ≤ xs.length ∧ n = .int .i64 q ∧ i = .int .i64 k ∧ Hid (q = timesL (xs.take k) r) ∧ Hid (wr = w))
    (fun _ i _ => xs.length - (intOf i).toNat)
  case atStart => exact ⟨0, 0, by omega, rfl, rfl, by show _ = _; simp [timesL], rfl⟩
  case round =>
    obtain ⟨k, q, hk, rfl, rfl, HQ, HW⟩ := hrel
    by_cases hlt : k < xs.length
    · obtain ⟨ad, rfl, hadb, hcell⟩ := sl_at h hlt
      rw [← HW.out] at hcell
      obtain ⟨x, hx⟩ : ∃ x, x = xs.getD k 0 := ⟨_, rfl⟩
      rw [← hx] at hcell
      have hq : q ≤ k := by rw [HQ.out]; exact Nat.le_trans (timesL_le _ _) (by rw [List.length_take]; omega)
      have v1 : IntKind.i64.wrap ((q : Int) + 1) = ((q + 1 : Nat) : Int) := by simp only [IntKind.wrap, IntKind.bits, IntKind.signed]; simp; omega
      have HS := Lib.hid (show timesL (xs.take (k + 1)) r = q + if x = r then 1 else 0 from by rw [timesL_succ xs r k hlt, ← HQ.out, hx])
      obtain ⟨q1, hq1⟩ : ∃ q1, q1 = q + 1 := ⟨_, rfl⟩
      rw [← hq1] at v1
      have HQ1 := Lib.hid hq1
      clear hq1 hx hq
      by_cases hxr : x = r
      · have HF := Lib.hid (show q1 = timesL (xs.take (k + 1)) r from by rw [HS.out, if_pos hxr]; exact HQ1.out)
        clear HS
        go_wp2_with fail
        go_roundw
        case rel => exact ⟨k + 1, q1, by omega, rfl, by go_num, HF, HW⟩
        case measure => simp [intOf]; omega
      · have HF := Lib.hid (show q = timesL (xs.take (k + 1)) r from by rw [HS.out, if_neg hxr]; rfl)
        clear HS
        go_wp2_with fail
        go_roundw
        case rel => exact ⟨k + 1, q, by omega, rfl, by go_num, HF, HW⟩
        case measure => simp [intOf]; omega
    · have hk' : k = xs.length := by omega
      subst hk'
      have HF := Lib.hid (show q = timesL xs r from by have := HQ.out; rwa [List.take_length] at this)
      go_wp2
      go_ret
      exact ⟨by rw [HF.out]; rfl, HW.out⟩
end Go.Proofs.YtlphmcodajookaaDoor
