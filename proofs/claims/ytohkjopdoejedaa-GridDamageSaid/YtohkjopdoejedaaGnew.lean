/- package grid: New. -/
import Derived.Test.YtohkjopdoejedaaGsc
namespace Go.Proofs.Ytohkjopdoejedaa
open Go.RowKit
set_option maxRecDepth 100000 in
theorem built67_zero : Try.prog.built 67 [] = some (nils ++ (nils ++ [Value.int .i64 0, Value.int .i64 0, Value.int .i64 0, Value.int .i64 0])).toArray := by kernel_rfl
theorem Scr.new (w : World) : Scr (w.alloc (.cells (nils ++ (nils ++ [Value.int .i64 0, Value.int .i64 0, Value.int .i64 0, Value.int .i64 0])).toArray 67)) w.heap.size nils nils 0 0 0 0 :=
  ⟨Blk.new w _ 67, nils_length, nils_length⟩
set_option maxRecDepth 20000 in
theorem new_any (x y : Nat) (w : World) (hx : x ≤ 1024) (hy : y ≤ 1024) :
    Calls Try.prog 11 #[.int .i64 x, .int .i64 y] w fun e w' => e = .returned (.tuple #[.pointer (some ⟨w.heap.size, 0, none⟩), .int .i64 0]) ∧ Sm w' w.heap.size (w.heap.size + 1) [] (newS x y) ∧ Below w.heap.size w w' ∧ w'.heap.size = w.heap.size + 1 + y := by
  have hb := Lib.hid built67_zero
  have HN := Lib.hid (Scr.new w)
  obtain ⟨cells, hcells⟩ : ∃ cells, cells = (nils ++ (nils ++ [Value.int .i64 0, Value.int .i64 0, Value.int .i64 0, Value.int .i64 0])).toArray := ⟨_, rfl⟩
  rw [← hcells] at hb HN
  clear hcells
  have HR := Lib.hid (resize_any w.heap.size nils nils 0 0 0 0 x y (w.alloc (.cells cells 67)) hx hy HN.out)
  go_enter Try.func11, Try.ntmps11
  go_wp2_with (first
    | (refine wpList_built rfl 67 #[] rfl [] (by simp only [List.map_toArray, List.map_nil]) cells hb.out ?_))
  refine HR.out.mono ?_
  rintro e w' ⟨rfl, hs, hst, hsz, hbl⟩
  rw [size_alloc'] at hsz hs hbl
  have HS := Lib.hid (show Sm w' w.heap.size (w.heap.size + 1) [] (newS x y) from ⟨hs, fun k r hr => by
    obtain ⟨h1, h2⟩ := List.getElem?_eq_some_iff.1 hr
    have h3 : k < y := by simpa [newS] using h1
    have h4 : r = List.replicate x Ce.zero := by rw [← h2]; simp [newS]
    rw [h4]
    exact hbl k h3, (fun l h => by cases h), fun _ => rfl, by omega, (fun o h => by cases h), newS_ok x y hx hy⟩)
  have HZ := Lib.hid hsz
  have HB := Lib.hid (((Below.refl w.heap.size w).alloc (Nat.le_refl _) (.cells cells 67)).trans (hst.toBelow (by rw [size_alloc']; omega) (by simp)))
  clear hs hst hsz hbl
  go_wp2_with fail
  exact bodyPost_ret (v := .tuple #[.pointer (some ⟨w.heap.size, 0, none⟩), .int .i64 0]) (by simp [results, Try.results11, go_sem]) rfl ⟨rfl, HS.out, HB.out, HZ.out⟩
set_option maxRecDepth 20000 in
theorem new_bad (x y : Int) (w : World) (h : x < 0 ∨ y < 0 ∨ 1024 < x ∨ 1024 < y) : Calls Try.prog 11 #[.int .i64 x, .int .i64 y] w fun e w' => e = .returned (.tuple #[.pointer none, .int .i64 5]) ∧ Below w.heap.size w w' := by
  have hb := Lib.hid built67_zero
  obtain ⟨cells, hcells⟩ : ∃ cells, cells = (nils ++ (nils ++ [Value.int .i64 0, Value.int .i64 0, Value.int .i64 0, Value.int .i64 0])).toArray := ⟨_, rfl⟩
  rw [← hcells] at hb
  clear hcells
  have HR := Lib.hid (resize_bad w.heap.size x y (w.alloc (.cells cells 67)) h)
  clear h
  go_enter Try.func11, Try.ntmps11
  go_wp2_with (first
    | (refine wpList_built rfl 67 #[] rfl [] (by simp only [List.map_toArray, List.map_nil]) cells hb.out ?_))
  refine HR.out.mono ?_
  rintro e w' ⟨rfl, rfl⟩
  go_wp2_with fail
  exact bodyPost_ret (v := .tuple #[.pointer none, .int .i64 5]) (by simp [results, Try.results11, go_sem]) rfl ⟨rfl, (Below.refl _ _).alloc (Nat.le_refl _) _⟩
end Go.Proofs.Ytohkjopdoejedaa
