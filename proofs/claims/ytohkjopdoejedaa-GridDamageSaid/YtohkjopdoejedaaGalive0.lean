/- shuttlelaw24: alive: its screens. -/
import Derived.Test.YtohkjopdoejedaaGdchk
namespace Go.Proofs.Ytohkjopdoejedaa
open Go.RowKit
def oneC (t : ByteArray) : Ce := ⟨t, 0, 0, 0, false, 0⟩
def al0 : Sc := newS 4 2
def Sc.done (S : Sc) : Sc := { S with old := some S.rows }
def Sc.caret (S : Sc) (x y : Int) : Sc := { S with X := (caretL S.W S.H x y).1, Y := (caretL S.W S.H x y).2 }
def al1 : Sc := al0.done
def al2 : Sc := al1.put 1 0 [oneC (str [97]), oneC (str [98])]
def al3 : Sc := al2.put 2 0 wideL
def al4 : Sc := al3.put 3 0 [oneC (str [99])]
def al5 : Sc := al4.scroll 0 0 4 2 (-1)
def al6 : Sc := al5.caret 3 1
def al7 : Sc := al6.clear (-5) 1 99 1
theorem al_d0 : decide (dmgI (al0.dmg al0.H) = [0, 0, 4, 0, 1, 4]) = true := by kernel_rfl
theorem al_d2 : decide (dmgI (al2.dmg al2.H) = [1, 0, 2]) = true := by kernel_rfl
theorem al_r3 : rowS (al3.rows.getD 0 []) = str [46, 97, 87, 39, 119, 39] := by kernel_rfl
theorem al_r4 : rowS (al4.rows.getD 0 []) = str [46, 97, 46, 39, 99] := by kernel_rfl
theorem al_r61 : rowS (al6.rows.getD 1 []) = str [46, 97, 46, 39, 99] := by kernel_rfl
theorem al_r60 : rowS (al6.rows.getD 0 []) = str [46, 46, 46, 46] := by kernel_rfl
theorem al_x6 : al6.X = 3 := by kernel_rfl
theorem al_r7 : rowS (al7.rows.getD 1 []) = str [46, 46, 46, 46] := by kernel_rfl
theorem al_t3 : (al3.rows.getD 0 []).all (fun c => decide (c.text.size ≤ 1024)) = true := by kernel_rfl
theorem al_t4 : (al4.rows.getD 0 []).all (fun c => decide (c.text.size ≤ 1024)) = true := by kernel_rfl
theorem al_t61 : (al6.rows.getD 1 []).all (fun c => decide (c.text.size ≤ 1024)) = true := by kernel_rfl
theorem al_t60 : (al6.rows.getD 0 []).all (fun c => decide (c.text.size ≤ 1024)) = true := by kernel_rfl
theorem al_t7 : (al7.rows.getD 1 []).all (fun c => decide (c.text.size ≤ 1024)) = true := by kernel_rfl
end Go.Proofs.Ytohkjopdoejedaa
