/- shuttlelaw24: GridKnown: its screens. -/
import Derived.Test.YtohkjopdoejedaaGalive
namespace Go.Proofs.Ytohkjopdoejedaa
open Go.RowKit
def kn0 : Sc := newS 4 2
def kn1 : Sc := kn0.put (3) (0) wideL
def kn2 : Sc := kn1.put (-1) (1) wideL
def kn3 : Sc := kn2.put (0) (0) [⟨⟨#[]⟩, 1, 0, 0, false, 2⟩, ⟨⟨#[97]⟩, 0, 0, 0, false, 0⟩]
def kn4 : Sc := kn3.put (0) (9) [⟨⟨#[122]⟩, 0, 0, 0, false, 0⟩]
def kn5 : Sc := kn4.put (9) (0) [⟨⟨#[122]⟩, 0, 0, 0, false, 0⟩]
def kn6 : Sc := kn5.caret (4) (0)
def kn7 : Sc := kn6.clear (0) (0) (4) (2)
def kn8 : Sc := kn7.put (0) (0) [⟨⟨#[97]⟩, 0, 0, 0, false, 0⟩]
def kn9 : Sc := kn8.put (0) (1) [⟨⟨#[98]⟩, 0, 0, 0, false, 0⟩]
def kn10 : Sc := kn9.scroll (0) (0) (4) (2) (1)
def kn11 : Sc := kn10.put (1) (0) wideL
def kn12 : Sc := kn11.scroll (0) (0) (2) (2) (1)
def kn13 : Sc := kn12.put (0) (0) wideL
def kn14 : Sc := kn13.put (2) (0) wideL
def kn15 : Sc := kn14.clear (1) (0) (2) (1)
def kn16 : Sc := kn15.put (0) (0) [⟨⟨#[97]⟩, 0, 0, 0, false, 0⟩, ⟨⟨#[]⟩, 2, 0, 0, false, 2⟩, ⟨⟨#[99]⟩, 0, 0, 0, false, 0⟩, ⟨⟨#[100]⟩, 0, 0, 0, false, 0⟩]
def kn17 : Sc := kn16.clear (-1) (-1) (2) (2)
theorem kn2_0_r : rowS (kn2.rows.getD 0 []) = str [46, 46, 46, 46, 39] := by kernel_rfl
theorem kn2_0_t : (kn2.rows.getD 0 []).all (fun c => decide (c.text.size ≤ 1024)) = true := by kernel_rfl
theorem kn2_1_r : rowS (kn2.rows.getD 1 []) = str [46, 39, 46, 46, 46] := by kernel_rfl
theorem kn2_1_t : (kn2.rows.getD 1 []).all (fun c => decide (c.text.size ≤ 1024)) = true := by kernel_rfl
theorem kn3_0_r : rowS (kn3.rows.getD 0 []) = str [46, 39, 97, 46, 46, 39] := by kernel_rfl
theorem kn3_0_t : (kn3.rows.getD 0 []).all (fun c => decide (c.text.size ≤ 1024)) = true := by kernel_rfl
theorem kn6_0_r : rowS (kn6.rows.getD 0 []) = str [46, 39, 97, 46, 46, 39] := by kernel_rfl
theorem kn6_0_t : (kn6.rows.getD 0 []).all (fun c => decide (c.text.size ≤ 1024)) = true := by kernel_rfl
theorem kn10_0_r : rowS (kn10.rows.getD 0 []) = str [98, 46, 46, 46] := by kernel_rfl
theorem kn10_0_t : (kn10.rows.getD 0 []).all (fun c => decide (c.text.size ≤ 1024)) = true := by kernel_rfl
theorem kn10_1_r : rowS (kn10.rows.getD 1 []) = str [46, 46, 46, 46] := by kernel_rfl
theorem kn10_1_t : (kn10.rows.getD 1 []).all (fun c => decide (c.text.size ≤ 1024)) = true := by kernel_rfl
theorem kn12_0_r : rowS (kn12.rows.getD 0 []) = str [46, 46, 46, 39, 46] := by kernel_rfl
theorem kn12_0_t : (kn12.rows.getD 0 []).all (fun c => decide (c.text.size ≤ 1024)) = true := by kernel_rfl
theorem kn12_1_r : rowS (kn12.rows.getD 1 []) = str [46, 46, 46, 46] := by kernel_rfl
theorem kn12_1_t : (kn12.rows.getD 1 []).all (fun c => decide (c.text.size ≤ 1024)) = true := by kernel_rfl
theorem kn15_0_r : rowS (kn15.rows.getD 0 []) = str [46, 39, 46, 46, 46, 39] := by kernel_rfl
theorem kn15_0_t : (kn15.rows.getD 0 []).all (fun c => decide (c.text.size ≤ 1024)) = true := by kernel_rfl
theorem kn16_0_r : rowS (kn16.rows.getD 0 []) = str [97, 46, 39, 99, 100] := by kernel_rfl
theorem kn16_0_t : (kn16.rows.getD 0 []).all (fun c => decide (c.text.size ≤ 1024)) = true := by kernel_rfl
theorem kn17_0_r : rowS (kn17.rows.getD 0 []) = str [46, 46, 39, 99, 100] := by kernel_rfl
theorem kn17_0_t : (kn17.rows.getD 0 []).all (fun c => decide (c.text.size ≤ 1024)) = true := by kernel_rfl
end Go.Proofs.Ytohkjopdoejedaa
