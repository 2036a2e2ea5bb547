/- package marks: order: slices.SortFunc by place and number. -/
import Derived.Test.YtbnaglkhbgfchaaMshelf
import Derived.Test.YtbnaglkhbgfchaaMedit0
import Derived.Shelf.SlSortCmp.WholeK
import Derived.Shelf.SlSortCmp.QuietGrown
namespace Go.Proofs.Ytbnaglkhbgfchaa
open Go.RowKit Go.Sort Go.Lib
/-- a mark, plain -/
structure MK where
  id : Int
  a : Int
  n : Int
  g : Bool
  s : Int
  deriving Inhabited
def MK.cells (m : MK) : List Value := [.int .i64 m.id, .int .i64 m.a, .int .i64 m.n, .bool m.g, .int .u16 m.s]
def cmpM (x y : MK) : Int := if Lib.compareInt x.a y.a = 0 then Lib.compareInt x.id y.id else Lib.compareInt x.a y.a
theorem isnan_any (x : Int) (w : World) : Calls Try.prog 45 #[.int .i64 x] w fun e w' => e = .returned (.bool false) ∧ w' = w := by
  go_enter Try.func45, Try.ntmps45
  go_wp2_with fail
  go_ret
  exact ⟨rfl, rfl⟩
set_option maxRecDepth 20000 in
set_option maxHeartbeats 4000000 in
theorem compare_any (x y : Int) (w : World) : Calls Try.prog 42 #[.int .i64 x, .int .i64 y] w fun e w' => e = .returned (.int .i64 (Lib.compareInt x y)) ∧ w' = w := by
  have H := Lib.hid (fun z => isnan_any z w)
  by_cases h1 : x < y
  · have e : Lib.compareInt x y = -1 := by unfold Lib.compareInt; simp [h1]
    rw [e]
    clear e
    go_enter Try.func42, Try.ntmps42
    go_wp2_with (go_at_call 45; refine (H.out _).mono ?_; rintro e w' ⟨rfl, rfl⟩)
    go_ret
    exact ⟨rfl, rfl⟩
  · by_cases h2 : y < x
    · have e : Lib.compareInt x y = 1 := by unfold Lib.compareInt; simp [h1, h2]
      rw [e]
      clear e
      go_enter Try.func42, Try.ntmps42
      go_wp2_with (go_at_call 45; refine (H.out _).mono ?_; rintro e w' ⟨rfl, rfl⟩)
      go_ret
      exact ⟨rfl, rfl⟩
    · have e : Lib.compareInt x y = 0 := by unfold Lib.compareInt; simp [h1, h2]
      rw [e]
      clear e
      go_enter Try.func42, Try.ntmps42
      go_wp2_with (go_at_call 45; refine (H.out _).mono ?_; rintro e w' ⟨rfl, rfl⟩)
      go_ret
      exact ⟨rfl, rfl⟩
theorem at_any (i a n : Int) (g : Bool) (s : Int) (w : World) : Calls Try.prog 34 #[.agg #[.int .i64 i, .int .i64 a, .int .i64 n, .bool g, .int .u16 s]] w fun e w' => e = .returned (.int .i64 a) ∧ ∃ q os', w' = grow (w.drewN q) os' := by
  go_enter Try.func34, Try.ntmps34
  go_wp2_with fail
  go_ret
  exact ⟨rfl, 0, _, by rw [alloc_eq_grow]; rfl⟩
theorem id_any (i a n : Int) (g : Bool) (s : Int) (w : World) : Calls Try.prog 35 #[.agg #[.int .i64 i, .int .i64 a, .int .i64 n, .bool g, .int .u16 s]] w fun e w' => e = .returned (.int .i64 i) ∧ ∃ q os', w' = grow (w.drewN q) os' := by
  go_enter Try.func35, Try.ntmps35
  go_wp2_with fail
  go_ret
  exact ⟨rfl, 0, _, by rw [alloc_eq_grow]; rfl⟩
set_option maxRecDepth 20000 in
set_option maxHeartbeats 8000000 in
/-- the comparison -/
theorem closure41 (x y : MK) (cb pb : Nat) (w : World) (h0 : w.cell? ⟨cb, 0, none⟩ = some (.slice (some ⟨pb, 0, none⟩) 2 2)) (h1 : w.cell? ⟨pb, 0, none⟩ = some (.func (.func 34) #[] #[])) (h2 : w.cell? ⟨pb, 1, none⟩ = some (.func (.func 35) #[] #[])) :
    Calls Try.prog 41 #[.agg #[.int .i64 x.id, .int .i64 x.a, .int .i64 x.n, .bool x.g, .int .u16 x.s], .agg #[.int .i64 y.id, .int .i64 y.a, .int .i64 y.n, .bool y.g, .int .u16 y.s], .pointer (some ⟨cb, 0, none⟩)] w fun e w' => e = .returned (.int .i64 (cmpM x y)) ∧ ∃ q os', w' = grow (w.drewN q) os' := by
  obtain ⟨xi, xa, xn, xg, xs⟩ := x
  obtain ⟨yi, ya, yn, yg, ys⟩ := y
  simp only
  obtain ⟨W2, hW2⟩ : ∃ W, W = (w.alloc (.cells #[.int .i64 xi, .int .i64 xa, .int .i64 xn, .bool xg, .int .u16 xs] 35)).alloc (.cells #[.int .i64 yi, .int .i64 ya, .int .i64 yn, .bool yg, .int .u16 ys] 35) := ⟨_, rfl⟩
  have ht := two_news w [.int .i64 xi, .int .i64 xa, .int .i64 xn, .bool xg, .int .u16 xs] [.int .i64 yi, .int .i64 ya, .int .i64 yn, .bool yg, .int .u16 ys] 35 35
  rw [← hW2] at ht
  have hg : ∃ os, W2 = grow w os := ⟨_, by rw [hW2, alloc_eq_grow, alloc_eq_grow, grow_grow]⟩
  have hk : ∀ (b j : Nat) (v : Value), w.cell? ⟨b, j, none⟩ = some v → W2.cell? ⟨b, j, none⟩ = some v := fun b j v hv => (ht.2.2.cell_ (a := ⟨b, j, none⟩) (World.block_lt_of_cell? _ _ hv) (by simp)).trans hv
  -- the facts of every world behind W2
  have HFx := Lib.hid (show ∀ n os, (grow (W2.drewN n) os).cell? ⟨cb, 0, none⟩ = some (.slice (some ⟨pb, 0, none⟩) 2 2) ∧ (grow (W2.drewN n) os).cell? ⟨pb, 0, none⟩ = some (.func (.func 34) #[] #[]) ∧ (grow (W2.drewN n) os).cell? ⟨pb, 1, none⟩ = some (.func (.func 35) #[] #[]) ∧
      ((grow (W2.drewN n) os).cell? ⟨w.heap.size, 0, none⟩ = some (.int .i64 xi) ∧ (grow (W2.drewN n) os).cell? ⟨w.heap.size, 1, none⟩ = some (.int .i64 xa) ∧ (grow (W2.drewN n) os).cell? ⟨w.heap.size, 2, none⟩ = some (.int .i64 xn) ∧ (grow (W2.drewN n) os).cell? ⟨w.heap.size, 3, none⟩ = some (.bool xg) ∧ (grow (W2.drewN n) os).cell? ⟨w.heap.size, 4, none⟩ = some (.int .u16 xs)) ∧
      ((grow (W2.drewN n) os).cell? ⟨w.heap.size + 1, 0, none⟩ = some (.int .i64 yi) ∧ (grow (W2.drewN n) os).cell? ⟨w.heap.size + 1, 1, none⟩ = some (.int .i64 ya) ∧ (grow (W2.drewN n) os).cell? ⟨w.heap.size + 1, 2, none⟩ = some (.int .i64 yn) ∧ (grow (W2.drewN n) os).cell? ⟨w.heap.size + 1, 3, none⟩ = some (.bool yg) ∧ (grow (W2.drewN n) os).cell? ⟨w.heap.size + 1, 4, none⟩ = some (.int .u16 ys)) from fun n os => by
    have hc : ∀ (b j : Nat) (v : Value), W2.cell? ⟨b, j, none⟩ = some v → (grow (W2.drewN n) os).cell? ⟨b, j, none⟩ = some v := fun b j v hv => cell_grown (World.block_lt_of_cell? _ _ hv) hv n os
    exact ⟨hc _ _ _ (hk _ _ _ h0), hc _ _ _ (hk _ _ _ h1), hc _ _ _ (hk _ _ _ h2), ⟨hc _ _ _ (ht.1.cell 0), hc _ _ _ (ht.1.cell 1), hc _ _ _ (ht.1.cell 2), hc _ _ _ (ht.1.cell 3), hc _ _ _ (ht.1.cell 4)⟩, hc _ _ _ (ht.2.1.cell 0), hc _ _ _ (ht.2.1.cell 1), hc _ _ _ (ht.2.1.cell 2), hc _ _ _ (ht.2.1.cell 3), hc _ _ _ (ht.2.1.cell 4)⟩)
  have HGr := Lib.hid hg
  have HFin := Lib.hid (show ∀ n os, ∃ q os', grow (W2.drewN n) os = grow (w.drewN q) os' from fun n os => by
    obtain ⟨os1, h⟩ := hg
    exact ⟨n, os1 ++ os, by rw [h]; show grow (grow (w.drewN n) os1) os = _; rw [grow_grow]⟩)
  have HW2 := Lib.hid hW2
  have k0 := hk _ _ _ h0
  have k1 := hk _ _ _ h1
  clear hW2 ht hg h0 h1 h2 hk
  have HFc := Lib.hid (show ∀ nq osq n os, grow ((grow (W2.drewN nq) osq).drewN n) os = grow (W2.drewN (nq + n)) (osq ++ os) from fun nq osq n os => by
    show grow (grow ((W2.drewN nq).drewN n) osq) os = _
    rw [grow_grow, World.drewN_drewN])
  obtain ⟨r, hr⟩ : ∃ r, r = Lib.compareInt xa ya := ⟨_, rfl⟩
  obtain ⟨r2, hr2⟩ : ∃ r, r = Lib.compareInt xi yi := ⟨_, rfl⟩
  have HC1 := Lib.hid (show ∀ u, Calls Try.prog 42 #[.int .i64 xa, .int .i64 ya] u fun e w' => e = .returned (.int .i64 r) ∧ w' = u from fun u => by rw [hr]; exact compare_any xa ya u)
  have HC2 := Lib.hid (show ∀ u, Calls Try.prog 42 #[.int .i64 xi, .int .i64 yi] u fun e w' => e = .returned (.int .i64 r2) ∧ w' = u from fun u => by rw [hr2]; exact compare_any xi yi u)
  have hcm : cmpM ⟨xi, xa, xn, xg, xs⟩ ⟨yi, ya, yn, yg, ys⟩ = if r = 0 then r2 else r := by unfold cmpM; simp only; rw [← hr, ← hr2]
  rw [hcm]
  obtain ⟨rr, hrr⟩ : ∃ x, x = if r = 0 then r2 else r := ⟨_, rfl⟩
  rw [← hrr]
  have HRr := Lib.hid hrr
  have mixed : Try.prog.follows Departure.mixedOrders = true := by kernel_rfl
  clear hr hr2 hcm hrr
  go_enter Try.func41, Try.ntmps41
  go_upto_region 1 with fail
  rw [← HW2.out]
  go_wp2_with fail
  refine wp_loop_rounds 3 ?_
  rw [rounds_succ]
  go_wp2_with fail
  have HX := Lib.hid (fun n os => (HFx.out n os).2.2.2.1)
  have HY := Lib.hid (fun n os => (HFx.out n os).2.2.2.2)
  have x0 := fun n os => (HX.out n os).1
  have x1 := fun n os => (HX.out n os).2.1
  have x2 := fun n os => (HX.out n os).2.2.1
  have x3 := fun n os => (HX.out n os).2.2.2.1
  have x4 := fun n os => (HX.out n os).2.2.2.2
  have y0 := fun n os => (HY.out n os).1
  have y1 := fun n os => (HY.out n os).2.1
  have y2 := fun n os => (HY.out n os).2.2.1
  have y3 := fun n os => (HY.out n os).2.2.2.1
  have y4 := fun n os => (HY.out n os).2.2.2.2
  go_quiet_grown (first | (go_at_call 34; exact Calls.grown_of (at_any _ _ _ _ _ _)) | (go_at_call 42; exact Calls.grown_of ((HC1.out _).mono fun _ _ ⟨h1, h2⟩ => ⟨h1, 0, #[], by rw [h2, grow_empty]; rfl⟩)))
  clear x0 x1 x2 x3 x4 y0 y1 y2 y3 y4
  by_cases hz : r = 0
  · subst hz
    have HRe := Lib.hid (show rr = r2 from HRr.out.trans (if_pos rfl))
    obtain ⟨W3, hW3⟩ : ∃ W, W = grow (W2.drewN nq) osq := ⟨_, rfl⟩
    have HF3 := Lib.hid (show ∀ n os, grow (W3.drewN n) os = grow (W2.drewN (nq + n)) (osq ++ os) from fun n os => by rw [hW3]; exact HFc.out nq osq n os)
    rw [← hW3]
    have k0 : W3.cell? ⟨cb, 0, none⟩ = some (.slice (some ⟨pb, 0, none⟩) 2 2) := by rw [hW3]; exact (HFx.out nq osq).1
    have k1 : W3.cell? ⟨pb, 1, none⟩ = some (.func (.func 35) #[] #[]) := by rw [hW3]; exact (HFx.out nq osq).2.2.1
    have x0 : ∀ n os, (grow (W3.drewN n) os).cell? ⟨w.heap.size, 0, none⟩ = some (.int .i64 xi) := fun n os => by rw [HF3.out]; exact (HX.out _ _).1
    have x1 : ∀ n os, (grow (W3.drewN n) os).cell? ⟨w.heap.size, 1, none⟩ = some (.int .i64 xa) := fun n os => by rw [HF3.out]; exact (HX.out _ _).2.1
    have x2 : ∀ n os, (grow (W3.drewN n) os).cell? ⟨w.heap.size, 2, none⟩ = some (.int .i64 xn) := fun n os => by rw [HF3.out]; exact (HX.out _ _).2.2.1
    have x3 : ∀ n os, (grow (W3.drewN n) os).cell? ⟨w.heap.size, 3, none⟩ = some (.bool xg) := fun n os => by rw [HF3.out]; exact (HX.out _ _).2.2.2.1
    have x4 : ∀ n os, (grow (W3.drewN n) os).cell? ⟨w.heap.size, 4, none⟩ = some (.int .u16 xs) := fun n os => by rw [HF3.out]; exact (HX.out _ _).2.2.2.2
    have y0 : ∀ n os, (grow (W3.drewN n) os).cell? ⟨w.heap.size + 1, 0, none⟩ = some (.int .i64 yi) := fun n os => by rw [HF3.out]; exact (HY.out _ _).1
    have y1 : ∀ n os, (grow (W3.drewN n) os).cell? ⟨w.heap.size + 1, 1, none⟩ = some (.int .i64 ya) := fun n os => by rw [HF3.out]; exact (HY.out _ _).2.1
    have y2 : ∀ n os, (grow (W3.drewN n) os).cell? ⟨w.heap.size + 1, 2, none⟩ = some (.int .i64 yn) := fun n os => by rw [HF3.out]; exact (HY.out _ _).2.2.1
    have y3 : ∀ n os, (grow (W3.drewN n) os).cell? ⟨w.heap.size + 1, 3, none⟩ = some (.bool yg) := fun n os => by rw [HF3.out]; exact (HY.out _ _).2.2.2.1
    have y4 : ∀ n os, (grow (W3.drewN n) os).cell? ⟨w.heap.size + 1, 4, none⟩ = some (.int .u16 ys) := fun n os => by rw [HF3.out]; exact (HY.out _ _).2.2.2.2
    clear hW3
    go_wp2_with fail
    rw [rounds_succ]
    go_wp2_with fail
    go_quiet_grown (first | (go_at_call 35; exact Calls.grown_of (id_any _ _ _ _ _ _)) | (go_at_call 42; exact Calls.grown_of ((HC2.out _).mono fun _ _ ⟨h1, h2⟩ => ⟨h1, 0, #[], by rw [h2, grow_empty]; rfl⟩)))
    clear x0 x1 x2 x3 x4 y0 y1 y2 y3 y4
    by_cases hz2 : r2 = 0
    · subst hz2
      go_wp2_with fail
      rw [rounds_succ]
      go_wp2_with fail
      go_ret
      exact ⟨by rw [HRe.out]; rfl, by rw [HF3.out]; exact HFin.out _ _⟩
    · have q1 : decide (r2 = 0) = false := decide_eq_false hz2
      go_wp2_with fail
      go_ret
      exact ⟨by rw [HRe.out]; rfl, by rw [HF3.out]; exact HFin.out _ _⟩
  · have q1 : decide (r = 0) = false := decide_eq_false hz
    have HRn := Lib.hid (HRr.out.trans (if_neg hz))
    go_wp2_with fail
    go_ret
    exact ⟨by rw [HRn.out]; rfl, HFin.out _ _⟩
end Go.Proofs.Ytbnaglkhbgfchaa
