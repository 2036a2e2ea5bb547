/- shuttlelaw18, shuttlelaw20: edits and steps as they come in, opened. -/
import Derived.Test.YtjoeebjmjnddoaaRdo2
import Derived.SizedLaws
import Derived.ChangeArms
import Derived.ChangeShapes
import Derived.ChangeSlices
namespace Go.Proofs.Ytjoeebjmjnddoaa
open Go.RowKit Go.ChangeShapes
def I64 (x : Int) : Prop := -9223372036854775808 ≤ x ∧ x ≤ 9223372036854775807
theorem cellsOf3 : Try.prog.cellsOf 3 = 1 := by kernel_rfl
theorem cellsOf4 : Try.prog.cellsOf 4 = 1 := by kernel_rfl
theorem cellsOf9 : Try.prog.cellsOf 9 = 1 := by kernel_rfl
theorem cellsOf37 : Try.prog.cellsOf 37 = 3 := by kernel_rfl
theorem cellsOf39 : Try.prog.cellsOf 39 = 6 := by kernel_rfl
theorem cellsOf65 : Try.prog.cellsOf 65 = 5 := by kernel_rfl
theorem i64_wf {n : Int} (h : (Lit.int .i64 n).wf = true) : I64 n := by
  simp [Lit.wf, IntKind.min, IntKind.max, IntKind.bits, IntKind.signed] at h
  unfold I64
  omega
/-- an edit, plain -/
structure Ed where
  a : Int
  d : Int
  s : ByteArray
def Ed.cells (e : Ed) : List Value := [.int .i64 e.a, .int .i64 e.d, .string e.s]
structure Ed.OK (e : Ed) : Prop where
  a : I64 e.a
  d : I64 e.d
  s : e.s.size ≤ maxLen
/-- a call of RopePlays -/
structure RSt where
  d : Int
  e : Ed
  p : Int
  n : Int
def RSt.cells (s : RSt) : List Value := .int .i64 s.d :: (s.e.cells ++ [.int .i64 s.p, .int .i64 s.n])
structure RSt.OK (s : RSt) : Prop where
  d : I64 s.d
  e : s.e.OK
  p : I64 s.p
  n : I64 s.n
/-- a call of the Undo laws -/
structure USt where
  d : Int
  e : Ed
  m : Bool
def USt.cells (s : USt) : List Value := .int .i64 s.d :: (s.e.cells ++ [.bool s.m])
structure USt.OK (s : USt) : Prop where
  d : I64 s.d
  e : s.e.OK
section
variable {H : Type} {enc : TypeId × Value → H} {w : World} {spare : Nat → Bool} {held : Bool}
set_option maxRecDepth 100000 in
theorem open_edit {n : Nat} {cs : List Value} {y : DataW H × List MemPlace} (h : DataW.trod enc Try.prog w 0 spare held n 37 cs = some y) : ∃ e : Ed, cs = e.cells ∧ e.OK := by
  obtain ⟨xs, m, _, _, hl, hxl, hg⟩ := DataW.trod_struct Try.underlying37 h
  rw [cellsOf37] at hl
  obtain ⟨w0, w1, w2, rfl⟩ : ∃ w0 w1 w2, cs = [w0, w1, w2] := by
    match cs, hl with
    | [w0, w1, w2], _ => exact ⟨w0, w1, w2, rfl⟩
  obtain ⟨y0, y1, y2, rfl⟩ : ∃ y0 y1 y2, xs = [y0, y1, y2] := by
    match xs, hxl with
    | [y0, y1, y2], _ => exact ⟨y0, y1, y2, rfl⟩
  have g0 : DataW.trod enc Try.prog w 0 spare held m 3 (List.take (Try.prog.cellsOf 3) [w0, w1, w2]) = some y0 := hg 0 _ rfl
  have g1 : DataW.trod enc Try.prog w 0 spare held m 3 (List.take (Try.prog.cellsOf 3) [w1, w2]) = some y1 := hg 1 _ rfl
  have g2 : DataW.trod enc Try.prog w 0 spare held m 9 (List.take (Try.prog.cellsOf 9) [w2]) = some y2 := hg 2 _ rfl
  rw [cellsOf3] at g0 g1
  rw [cellsOf9] at g2
  obtain ⟨i0, e0, _, h0⟩ := DataW.trod_int Try.underlying3 g0
  obtain ⟨i1, e1, _, h1⟩ := DataW.trod_int Try.underlying3 g1
  obtain ⟨s2, e2, _, h2⟩ := DataW.trod_string Try.underlying9 g2
  obtain rfl : w0 = .int .i64 i0 := by injection e0
  obtain rfl : w1 = .int .i64 i1 := by injection e1
  obtain rfl : w2 = .string s2 := by injection e2
  exact ⟨⟨i0, i1, s2⟩, rfl, i64_wf h0, i64_wf h1, h2⟩
set_option maxRecDepth 100000 in
theorem open_rstep {n : Nat} {cs : List Value} {y : DataW H × List MemPlace} (h : DataW.trod enc Try.prog w 0 spare held n 39 cs = some y) : ∃ s : RSt, cs = s.cells ∧ s.OK := by
  obtain ⟨xs, m, _, _, hl, hxl, hg⟩ := DataW.trod_struct Try.underlying39 h
  rw [cellsOf39] at hl
  obtain ⟨w0, w1, w2, w3, w4, w5, rfl⟩ : ∃ w0 w1 w2 w3 w4 w5, cs = [w0, w1, w2, w3, w4, w5] := by
    match cs, hl with
    | [w0, w1, w2, w3, w4, w5], _ => exact ⟨w0, w1, w2, w3, w4, w5, rfl⟩
  obtain ⟨y0, y1, y2, y3, rfl⟩ : ∃ y0 y1 y2 y3, xs = [y0, y1, y2, y3] := by
    match xs, hxl with
    | [y0, y1, y2, y3], _ => exact ⟨y0, y1, y2, y3, rfl⟩
  have g0 : DataW.trod enc Try.prog w 0 spare held m 3 (List.take (Try.prog.cellsOf 3) [w0, w1, w2, w3, w4, w5]) = some y0 := hg 0 _ rfl
  have g1 : DataW.trod enc Try.prog w 0 spare held m 37 (List.take (Try.prog.cellsOf 37) [w1, w2, w3, w4, w5]) = some y1 := hg 1 _ rfl
  have g2 : DataW.trod enc Try.prog w 0 spare held m 3 (List.take (Try.prog.cellsOf 3) [w4, w5]) = some y2 := hg 2 _ rfl
  have g3 : DataW.trod enc Try.prog w 0 spare held m 3 (List.take (Try.prog.cellsOf 3) [w5]) = some y3 := hg 3 _ rfl
  rw [cellsOf3] at g0 g2 g3
  rw [cellsOf37] at g1
  obtain ⟨i0, e0, _, h0⟩ := DataW.trod_int Try.underlying3 g0
  obtain ⟨ed, e1, h1⟩ := open_edit g1
  obtain ⟨i2, e2, _, h2⟩ := DataW.trod_int Try.underlying3 g2
  obtain ⟨i3, e3, _, h3⟩ := DataW.trod_int Try.underlying3 g3
  obtain rfl : w0 = .int .i64 i0 := by injection e0
  obtain rfl : w4 = .int .i64 i2 := by injection e2
  obtain rfl : w5 = .int .i64 i3 := by injection e3
  have e1' : [w1, w2, w3] = ed.cells := e1
  obtain ⟨ea, ed', es⟩ := ed
  simp only [Ed.cells] at e1'
  injection e1' with f1 e1'
  injection e1' with f2 e1'
  injection e1' with f3 _
  subst f1 f2 f3
  exact ⟨⟨i0, ⟨ea, ed', es⟩, i2, i3⟩, rfl, i64_wf h0, h1, i64_wf h2, i64_wf h3⟩
end
end Go.Proofs.Ytjoeebjmjnddoaa
