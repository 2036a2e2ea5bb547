/- shuttlelaw24: GridNil: the walk. -/
import Derived.Test.YtohkjopdoejedaaGalive
namespace Go.Proofs.Ytohkjopdoejedaa
open Go.RowKit
set_option maxRecDepth 20000 in
set_option maxHeartbeats 8000000 in
theorem nillaw_any (d x y : Int) (L : Value) (rx ry rw rh n : Int) (w : World) :
    Calls Try.prog 7 #[.agg #[.int .i64 d, .int .i64 x, .int .i64 y, L, .int .i64 rx, .int .i64 ry, .int .i64 rw, .int .i64 rh, .int .i64 n]] w fun e w' => e = .returned (.bool true) ∧ Below w.heap.size w w' := by
  have HT1 := Lib.hid (Stay.alloc (F := []) w (.cells #[.int .i64 d, .int .i64 x, .int .i64 y, L, .int .i64 rx, .int .i64 ry, .int .i64 rw, .int .i64 rh, .int .i64 n] 37))
  have hlt : w.heap.size < (w.alloc (.cells #[.int .i64 d, .int .i64 x, .int .i64 y, L, .int .i64 rx, .int .i64 ry, .int .i64 rw, .int .i64 rh, .int .i64 n] 37)).heap.size := by simp
  have e1 : (w.alloc (.cells #[.int .i64 d, .int .i64 x, .int .i64 y, L, .int .i64 rx, .int .i64 ry, .int .i64 rw, .int .i64 rh, .int .i64 n] 37)).cell? ⟨w.heap.size, 1, none⟩ = some (.int .i64 x) := box_cell w _ 37 1 _ rfl
  have e2 : (w.alloc (.cells #[.int .i64 d, .int .i64 x, .int .i64 y, L, .int .i64 rx, .int .i64 ry, .int .i64 rw, .int .i64 rh, .int .i64 n] 37)).cell? ⟨w.heap.size, 2, none⟩ = some (.int .i64 y) := box_cell w _ 37 2 _ rfl
  have e3 : (w.alloc (.cells #[.int .i64 d, .int .i64 x, .int .i64 y, L, .int .i64 rx, .int .i64 ry, .int .i64 rw, .int .i64 rh, .int .i64 n] 37)).cell? ⟨w.heap.size, 3, none⟩ = some (L) := box_cell w _ 37 3 _ rfl
  have e4 : (w.alloc (.cells #[.int .i64 d, .int .i64 x, .int .i64 y, L, .int .i64 rx, .int .i64 ry, .int .i64 rw, .int .i64 rh, .int .i64 n] 37)).cell? ⟨w.heap.size, 4, none⟩ = some (.int .i64 rx) := box_cell w _ 37 4 _ rfl
  have e5 : (w.alloc (.cells #[.int .i64 d, .int .i64 x, .int .i64 y, L, .int .i64 rx, .int .i64 ry, .int .i64 rw, .int .i64 rh, .int .i64 n] 37)).cell? ⟨w.heap.size, 5, none⟩ = some (.int .i64 ry) := box_cell w _ 37 5 _ rfl
  have e6 : (w.alloc (.cells #[.int .i64 d, .int .i64 x, .int .i64 y, L, .int .i64 rx, .int .i64 ry, .int .i64 rw, .int .i64 rh, .int .i64 n] 37)).cell? ⟨w.heap.size, 6, none⟩ = some (.int .i64 rw) := box_cell w _ 37 6 _ rfl
  have e7 : (w.alloc (.cells #[.int .i64 d, .int .i64 x, .int .i64 y, L, .int .i64 rx, .int .i64 ry, .int .i64 rw, .int .i64 rh, .int .i64 n] 37)).cell? ⟨w.heap.size, 7, none⟩ = some (.int .i64 rh) := box_cell w _ 37 7 _ rfl
  have e8 : (w.alloc (.cells #[.int .i64 d, .int .i64 x, .int .i64 y, L, .int .i64 rx, .int .i64 ry, .int .i64 rw, .int .i64 rh, .int .i64 n] 37)).cell? ⟨w.heap.size, 8, none⟩ = some (.int .i64 n) := box_cell w _ 37 8 _ rfl
  obtain ⟨b, hbe⟩ : ∃ b, b = w.heap.size := ⟨_, rfl⟩
  rw [← hbe] at e1 e2 e3 e4 e5 e6 e7 e8 hlt
  have HBe := Lib.hid hbe
  clear hbe
  go_enter Try.func7, Try.ntmps7
  go_wp2_with fail
  rw [← HBe.out]
  generalize w.alloc (.cells #[.int .i64 d, .int .i64 x, .int .i64 y, L, .int .i64 rx, .int .i64 ry, .int .i64 rw, .int .i64 rh, .int .i64 n] 37) = W1 at *
  refine (put_nil x y L W1).mono ?_
  rintro e w2 ⟨rfl, rfl⟩
  go_wp2_with fail
  refine (clear_nil rx ry rw rh W1).mono ?_
  rintro e w2 ⟨rfl, h2⟩
  have HT2 := Lib.hid (HT1.out.trans h2)
  have HB2 : ∀ (j : Nat) (u : Value), W1.cell? ⟨b, j, none⟩ = some u → w2.cell? ⟨b, j, none⟩ = some u := fun j u h => (h2.cell_ (a := ⟨b, j, none⟩) hlt (by simp)).trans h
  have hl2 : b < w2.heap.size := Nat.lt_of_lt_of_le hlt h2.size
  have e1 := HB2 _ _ e1
  have e2 := HB2 _ _ e2
  have e4 := HB2 _ _ e4
  have e5 := HB2 _ _ e5
  have e6 := HB2 _ _ e6
  have e7 := HB2 _ _ e7
  have e8 := HB2 _ _ e8
  clear HB2 h2
  go_wp2_with fail
  refine (scroll_nil rx ry rw rh n w2).mono ?_
  rintro e w3 ⟨rfl, h2⟩
  have HT3 := Lib.hid (HT2.out.trans h2)
  have HB2 : ∀ (j : Nat) (u : Value), w2.cell? ⟨b, j, none⟩ = some u → w3.cell? ⟨b, j, none⟩ = some u := fun j u h => (h2.cell_ (a := ⟨b, j, none⟩) hl2 (by simp)).trans h
  have hl3 : b < w3.heap.size := Nat.lt_of_lt_of_le hl2 h2.size
  have e1 := HB2 _ _ e1
  have e2 := HB2 _ _ e2
  clear HB2 h2 e4 e5 e6 e7 e8
  go_wp2_with fail
  refine (caret_nil x y w3).mono ?_
  rintro e w4 ⟨rfl, rfl⟩
  go_wp2_with fail
  refine (done_nil w3).mono ?_
  rintro e w4 ⟨rfl, rfl⟩
  go_wp2_with fail
  refine (grid_nil w3).mono ?_
  rintro e w4 ⟨rfl, h2⟩
  have HT4 := Lib.hid (HT3.out.trans h2)
  have HB2 : ∀ (j : Nat) (u : Value), w3.cell? ⟨b, j, none⟩ = some u → w4.cell? ⟨b, j, none⟩ = some u := fun j u h => (h2.cell_ (a := ⟨b, j, none⟩) hl3 (by simp)).trans h
  have hl4 : b < w4.heap.size := Nat.lt_of_lt_of_le hl3 h2.size
  have e1 := HB2 _ _ e1
  have e2 := HB2 _ _ e2
  clear HB2 h2
  have HT5 := Lib.hid (HT4.out.alloc' (o := .cells #[.int .i64 0, .int .i64 0, .slice none 0 0, .int .i64 0, .int .i64 0] 40))
  have HD := Lib.hid damage_nil
  have HR := Lib.hid resize_nil
  have HA := Lib.hid alive_any
  go_wp2_with (first
    | (go_at_call 17; refine (HD.out _).mono ?_; rintro e w' ⟨rfl, rfl⟩)
    | (go_at_call 25; refine (HR.out _ _ _).mono ?_; rintro e w' ⟨rfl, rfl⟩)
    | (go_at_call 10; refine (HA.out _).mono ?_; rintro e w' ⟨rfl, hb⟩; have HBa := Lib.hid hb; clear hb))
  exact bodyPost_ret (v := .bool true) (by simp [results, Try.results7, go_sem]) rfl ⟨rfl, (HT5.out.toBelow (Nat.le_refl _) (by simp)).trans (HBa.out.mono HT5.out.size)⟩
end Go.Proofs.Ytohkjopdoejedaa
