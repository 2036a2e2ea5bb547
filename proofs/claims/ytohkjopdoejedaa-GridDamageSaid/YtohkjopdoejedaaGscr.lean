/- package grid: a screen in memory; Caret. -/
import Derived.Test.YtohkjopdoejedaaGspan
import Derived.Test.YtohkjopdoejedaaGlose2
namespace Go.Proofs.Ytohkjopdoejedaa
open Go.RowKit
/-- a screen at block s: the rows' slices, what is remembered, its sides, the caret -/
structure Scr (w : World) (s : Nat) (rv ov : List Value) (W H X Y : Int) : Prop where
  blk : Blk w s (rv ++ (ov ++ [.int .i64 W, .int .i64 H, .int .i64 X, .int .i64 Y])) 67
  lr : rv.length = 1024
  lo : ov.length = 1024
section
variable {w w' : World} {s : Nat} {rv ov : List Value} {W H X Y : Int}
theorem Scr.stay {F : List Nat} (h : Scr w s rv ov W H X Y) (hs : Stay F w w') (hn : s ∉ F) : Scr w' s rv ov W H X Y := ⟨h.blk.stay hs hn, h.lr, h.lo⟩
theorem Scr.lt (h : Scr w s rv ov W H X Y) : s < w.heap.size := h.blk.lt
theorem Scr.row (h : Scr w s rv ov W H X Y) (y : Nat) (hy : y < 1024) : w.cell? ⟨s, y, none⟩ = rv[y]? := by
  rw [h.blk.cell, List.getElem?_append_left (by rw [h.lr]; exact hy)]
theorem Scr.old (h : Scr w s rv ov W H X Y) (y : Nat) (hy : y < 1024) : w.cell? ⟨s, 1024 + y, none⟩ = ov[y]? := by
  rw [h.blk.cell, List.getElem?_append_right (by rw [h.lr]; omega), h.lr, List.getElem?_append_left (by rw [h.lo]; omega), show 1024 + y - 1024 = y by omega]
theorem Scr.tail (h : Scr w s rv ov W H X Y) (j : Nat) : w.cell? ⟨s, 2048 + j, none⟩ = [Value.int .i64 W, .int .i64 H, .int .i64 X, .int .i64 Y][j]? := by
  rw [h.blk.cell, List.getElem?_append_right (by rw [h.lr]; omega), h.lr, List.getElem?_append_right (by rw [h.lo]; omega), h.lo, show 2048 + j - 1024 - 1024 = j by omega]
theorem Scr.w_ (h : Scr w s rv ov W H X Y) : w.cell? ⟨s, 2048, none⟩ = some (.int .i64 W) := h.tail 0
theorem Scr.h_ (h : Scr w s rv ov W H X Y) : w.cell? ⟨s, 2049, none⟩ = some (.int .i64 H) := h.tail 1
theorem Scr.x_ (h : Scr w s rv ov W H X Y) : w.cell? ⟨s, 2050, none⟩ = some (.int .i64 X) := h.tail 2
theorem Scr.y_ (h : Scr w s rv ov W H X Y) : w.cell? ⟨s, 2051, none⟩ = some (.int .i64 Y) := h.tail 3
theorem Scr.free (h : Scr w s rv ov W H X Y) (k : Nat) : w.frozen? ⟨s, k, none⟩ = false := h.blk.free k
theorem set_tail (rv ov t : List Value) (j : Nat) (u : Value) (h1 : rv.length = 1024) (h2 : ov.length = 1024) : (rv ++ (ov ++ t)).set (2048 + j) u = rv ++ (ov ++ t.set j u) := by
  rw [List.set_append_right _ _ (by omega), h1, List.set_append_right _ _ (by omega), h2, show 2048 + j - 1024 - 1024 = j by omega]
theorem Scr.caret (h : Scr w s rv ov W H X Y) (x y : Int) : Scr ((w.setCell ⟨s, 2050, none⟩ (.int .i64 x)).setCell ⟨s, 2051, none⟩ (.int .i64 y)) s rv ov W H x y := by
  refine ⟨?_, h.lr, h.lo⟩
  have h1 := (h.blk.set (2048 + 2) (.int .i64 x)).set (2048 + 3) (.int .i64 y)
  rw [set_tail _ _ _ _ _ h.lr h.lo, set_tail _ _ _ _ _ h.lr h.lo] at h1
  exact h1
end
def caretL (W H x y : Int) : Int × Int := if x < 0 ∨ W ≤ x ∨ y < 0 ∨ H ≤ y then (-1, -1) else (x, y)
set_option maxRecDepth 20000 in
set_option maxHeartbeats 4000000 in
theorem caret_any (s : Nat) (rv ov : List Value) (W H X Y x y : Int) (w : World) (h : Scr w s rv ov W H X Y) :
    Calls Try.prog 24 #[.pointer (some ⟨s, 0, none⟩), .int .i64 x, .int .i64 y] w fun e w' => e = .returned (.tuple #[]) ∧ Scr w' s rv ov W H (caretL W H x y).1 (caretL W H x y).2 ∧ Stay [s] w w' := by
  have c0 := h.w_
  have c1 := h.h_
  have f2 := h.free 2050
  have f3 := h.free 2051
  have c2 := h.x_
  have c3 := h.y_
  have H1 := Lib.hid (h.caret x y)
  have HS1 := Lib.hid (((Stay.refl [s] w).set' (p := ⟨s, 2050, none⟩) (u := .int .i64 x) (.inl (by simp))).set' (p := ⟨s, 2051, none⟩) (u := .int .i64 y) (.inl (by simp)))
  have HC := Lib.hid (show caretL W H x y = if x < 0 ∨ W ≤ x ∨ y < 0 ∨ H ≤ y then (-1, -1) else (x, y) from rfl)
  have H2 := Lib.hid (H1.out.caret (-1) (-1))
  have HS2 := Lib.hid ((HS1.out.set' (p := ⟨s, 2050, none⟩) (u := .int .i64 (-1)) (.inl (by simp))).set' (p := ⟨s, 2051, none⟩) (u := .int .i64 (-1)) (.inl (by simp)))
  clear h
  by_cases h1 : x < 0
  · have HV := Lib.hid (HC.out.trans (if_pos (.inl h1)))
    go_enter Try.func24, Try.ntmps24
    go_wp2_with fail
    exact bodyPost_end (v := .tuple #[]) (by simp [results, Try.results24, go_sem]) rfl ⟨rfl, by rw [HV.out]; exact H2.out, HS2.out⟩
  · by_cases h2 : W ≤ x
    · have HV := Lib.hid (HC.out.trans (if_pos (.inr (.inl h2))))
      go_enter Try.func24, Try.ntmps24
      go_wp2_with fail
      exact bodyPost_end (v := .tuple #[]) (by simp [results, Try.results24, go_sem]) rfl ⟨rfl, by rw [HV.out]; exact H2.out, HS2.out⟩
    · by_cases h3 : y < 0
      · have HV := Lib.hid (HC.out.trans (if_pos (.inr (.inr (.inl h3)))))
        go_enter Try.func24, Try.ntmps24
        go_wp2_with fail
        exact bodyPost_end (v := .tuple #[]) (by simp [results, Try.results24, go_sem]) rfl ⟨rfl, by rw [HV.out]; exact H2.out, HS2.out⟩
      · by_cases h4 : H ≤ y
        · have HV := Lib.hid (HC.out.trans (if_pos (.inr (.inr (.inr h4)))))
          go_enter Try.func24, Try.ntmps24
          go_wp2_with fail
          exact bodyPost_end (v := .tuple #[]) (by simp [results, Try.results24, go_sem]) rfl ⟨rfl, by rw [HV.out]; exact H2.out, HS2.out⟩
        · have HV := Lib.hid (HC.out.trans (if_neg (by omega)))
          go_enter Try.func24, Try.ntmps24
          go_wp2_with fail
          exact bodyPost_end (v := .tuple #[]) (by simp [results, Try.results24, go_sem]) rfl ⟨rfl, by rw [HV.out]; exact H1.out, HS1.out⟩
theorem caret_nil (x y : Int) (w : World) : Calls Try.prog 24 #[.pointer none, .int .i64 x, .int .i64 y] w fun e w' => e = .returned (.tuple #[]) ∧ w = w' := by
  go_enter Try.func24, Try.ntmps24
  go_wp2_with fail
  exact bodyPost_ret (v := .tuple #[]) (by simp [results, Try.results24, go_sem]) rfl ⟨rfl, rfl⟩
end Go.Proofs.Ytohkjopdoejedaa
