/- package grid: no screen; one, wide. -/
import Derived.Test.YtohkjopdoejedaaGscroll
import Derived.Test.YtohkjopdoejedaaGdamage
namespace Go.Proofs.Ytohkjopdoejedaa
open Go.RowKit
theorem put_nil (x y : Int) (v : Value) (w : World) : Calls Try.prog 22 #[.pointer none, .int .i64 x, .int .i64 y, v] w fun e w' => e = .returned (.tuple #[]) ∧ w = w' := by
  go_enter Try.func22, Try.ntmps22
  go_wp2_with fail
  exact bodyPost_ret (v := .tuple #[]) (by simp [results, Try.results22, go_sem]) rfl ⟨rfl, rfl⟩
theorem clear_nil (x y wd hg : Int) (w : World) : Calls Try.prog 21 #[.pointer none, .agg #[.int .i64 x, .int .i64 y, .int .i64 wd, .int .i64 hg]] w fun e w' => e = .returned (.tuple #[]) ∧ Stay [] w w' := by
  have HT := Lib.hid (Stay.alloc (F := []) w (.cells #[.int .i64 x, .int .i64 y, .int .i64 wd, .int .i64 hg] 35))
  go_enter Try.func21, Try.ntmps21
  go_wp2_with fail
  exact bodyPost_ret (v := .tuple #[]) (by simp [results, Try.results21, go_sem]) rfl ⟨rfl, HT.out⟩
theorem done_nil (w : World) : Calls Try.prog 15 #[.pointer none] w fun e w' => e = .returned (.tuple #[]) ∧ w = w' := by
  go_enter Try.func15, Try.ntmps15
  go_wp2_with fail
  exact bodyPost_ret (v := .tuple #[]) (by simp [results, Try.results15, go_sem]) rfl ⟨rfl, rfl⟩
theorem damage_nil (w : World) : Calls Try.prog 17 #[.pointer none] w fun e w' => e = .returned (.slice none 0 0) ∧ w = w' := by
  go_enter Try.func17, Try.ntmps17
  go_wp2_with fail
  exact bodyPost_ret (v := .slice none 0 0) (by simp [results, Try.results17, go_sem]) rfl ⟨rfl, rfl⟩
theorem grid_nil (w : World) : Calls Try.prog 16 #[.pointer none] w fun e w' => e = .returned (.agg #[.int .i64 0, .int .i64 0, .slice none 0 0, .int .i64 0, .int .i64 0]) ∧ Stay [] w w' := by
  have HBx := Blk.new w [.int .i64 0, .int .i64 0, .slice none 0 0, .int .i64 0, .int .i64 0] 40
  have HT1 := Lib.hid (Stay.alloc (F := []) w (.cells #[.int .i64 0, .int .i64 0, .slice none 0 0, .int .i64 0, .int .i64 0] 40))
  have f0 := HBx.cell 0
  have f1 := HBx.cell 1
  have f2 := HBx.cell 2
  have f3 := HBx.cell 3
  have f4 := HBx.cell 4
  simp only [List.getElem?_cons_zero, List.getElem?_cons_succ] at f0 f1 f2 f3 f4
  go_enter Try.func16, Try.ntmps16
  go_wp2_with fail
  exact bodyPost_ret (v := .agg #[.int .i64 0, .int .i64 0, .slice none 0 0, .int .i64 0, .int .i64 0]) (by simp [results, Try.results16, go_sem, f0, f1, f2, f3, f4]) rfl ⟨rfl, HT1.out⟩
set_option maxHeartbeats 1000000 in
theorem one_any (t : ByteArray) (w : World) : Calls Try.prog 23 #[.string t] w fun e w' => e = .returned (.agg #[.string t, .int .i8 0, .int .i64 0, .int .i64 0, .bool false, .int .u16 0]) ∧ Stay [] w w' := by
  have HT := Lib.hid (Stay.alloc (F := []) w (.cells #[.string t, .int .i8 0, .int .i64 0, .int .i64 0, .bool false, .int .u16 0] 49))
  have f0 := box_cell w #[.string t, .int .i8 0, .int .i64 0, .int .i64 0, .bool false, .int .u16 0] 49 0 _ rfl
  have f1 := box_cell w #[.string t, .int .i8 0, .int .i64 0, .int .i64 0, .bool false, .int .u16 0] 49 1 _ rfl
  have f2 := box_cell w #[.string t, .int .i8 0, .int .i64 0, .int .i64 0, .bool false, .int .u16 0] 49 2 _ rfl
  have f3 := box_cell w #[.string t, .int .i8 0, .int .i64 0, .int .i64 0, .bool false, .int .u16 0] 49 3 _ rfl
  have f4 := box_cell w #[.string t, .int .i8 0, .int .i64 0, .int .i64 0, .bool false, .int .u16 0] 49 4 _ rfl
  have f5 := box_cell w #[.string t, .int .i8 0, .int .i64 0, .int .i64 0, .bool false, .int .u16 0] 49 5 _ rfl
  go_enter Try.func23, Try.ntmps23
  go_wp2_with fail
  exact bodyPost_ret (v := .agg #[.string t, .int .i8 0, .int .i64 0, .int .i64 0, .bool false, .int .u16 0]) (by simp [results, Try.results23, go_sem, f0, f1, f2, f3, f4, f5]) rfl ⟨rfl, HT.out⟩
def wideL : List Ce := [⟨⟨#[87]⟩, 0, 0, 0, false, 3⟩, ⟨⟨#[]⟩, 1, 0, 0, false, 3⟩]
theorem wide_any (w : World) : Calls Try.prog 26 #[] w fun e w' => e = .returned (.slice (some ⟨w.heap.size, 0, none⟩) 2 2) ∧ Blk w' w.heap.size (rowCells wideL) 49 ∧ Stay [] w w' := by
  have HB := Lib.hid (Blk.new w (rowCells wideL) 49)
  go_enter Try.func26, Try.ntmps26
  go_wp2_with fail
  exact bodyPost_ret (v := .slice (some ⟨w.heap.size, 0, none⟩) 2 2) (by simp [results, Try.results26, go_sem]) rfl ⟨rfl, HB.out, Stay.alloc _ _⟩
def str (l : List UInt8) : ByteArray := ⟨l.toArray⟩
def addC (out : ByteArray) (c : Ce) : ByteArray :=
  let o := if 0 < c.part then out ++ str [119] else if c.text = str [] then out ++ str [46] else out ++ c.text
  if c.style ≠ 0 then o ++ str [39] else o
def rowS (l : List Ce) : ByteArray := l.foldl addC (str [])
theorem eql_str (a b : ByteArray) (w : World) : (binOp .eql 9 (.string a) (.string b)).run Try.prog w = .ok (.bool (decide (a = b))) w := by
  rw [binOp_string_eql]
  by_cases h : a = b
  · subst h; simp [go_sem]
  · have : ¬ a.toList = b.toList := fun e => h ((str_eq a b).1 e)
    simp [go_sem, h, this]
end Go.Proofs.Ytohkjopdoejedaa
