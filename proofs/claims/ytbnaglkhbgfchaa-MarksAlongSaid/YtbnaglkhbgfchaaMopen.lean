/- shuttlelaw19: edits, marks and steps as they come in, opened. -/
import Derived.Test.YtbnaglkhbgfchaaMorder
import Derived.SizedLaws
import Derived.ChangeArms
import Derived.ChangeShapes
import Derived.ChangeSlices
namespace Go.Proofs.Ytbnaglkhbgfchaa
open Go.RowKit Go.ChangeShapes
def I64 (x : Int) : Prop := -9223372036854775808 ≤ x ∧ x ≤ 9223372036854775807
theorem cellsOf3 : Try.prog.cellsOf 3 = 1 := by kernel_rfl
theorem cellsOf4 : Try.prog.cellsOf 4 = 1 := by kernel_rfl
theorem cellsOf9 : Try.prog.cellsOf 9 = 1 := by kernel_rfl
theorem cellsOf33 : Try.prog.cellsOf 33 = 1 := by kernel_rfl
theorem cellsOf35 : Try.prog.cellsOf 35 = 5 := by kernel_rfl
theorem cellsOf37 : Try.prog.cellsOf 37 = 3 := by kernel_rfl
theorem cellsOf39 : Try.prog.cellsOf 39 = 12 := by kernel_rfl
theorem bytesOf35 : Try.prog.bytesOf 35 = 32 := by kernel_rfl
theorem i64_wf {n : Int} (h : (Lit.int .i64 n).wf = true) : I64 n := by
  simp [Lit.wf, IntKind.min, IntKind.max, IntKind.bits, IntKind.signed] at h
  unfold I64
  omega
/-- an edit, plain -/
structure Ed where
  a : Int
  d : Int
  s : ByteArray
def Ed.cells (e : Ed) : List Value := [.int .i64 e.a, .int .i64 e.d, .string e.s]
structure Ed.OK (e : Ed) : Prop where
  a : I64 e.a
  d : I64 e.d
  s : e.s.size ≤ maxLen
structure MK.OK (m : MK) : Prop where
  a : I64 m.a
  n : I64 m.n
/-- a call of MarksPlay -/
structure MSt where
  d : Int
  m : MK
  id : Int
  a : Int
  n : Int
  e : Ed
def MSt.cells (s : MSt) : List Value := .int .i64 s.d :: (s.m.cells ++ ([.int .i64 s.id, .int .i64 s.a, .int .i64 s.n] ++ s.e.cells))
section
variable {H : Type} {enc : TypeId × Value → H} {w : World} {spare : Nat → Bool} {held : Bool}
set_option maxRecDepth 100000 in
theorem open_edit {n : Nat} {cs : List Value} {y : DataW H × List MemPlace} (h : DataW.trod enc Try.prog w 0 spare held n 37 cs = some y) : ∃ e : Ed, cs = e.cells ∧ e.OK := by
  obtain ⟨xs, m, _, _, hl, hxl, hg⟩ := DataW.trod_struct Try.underlying37 h
  rw [cellsOf37] at hl
  obtain ⟨w0, w1, w2, rfl⟩ : ∃ w0 w1 w2, cs = [w0, w1, w2] := by
    match cs, hl with
    | [w0, w1, w2], _ => exact ⟨w0, w1, w2, rfl⟩
  obtain ⟨y0, y1, y2, rfl⟩ : ∃ y0 y1 y2, xs = [y0, y1, y2] := by
    match xs, hxl with
    | [y0, y1, y2], _ => exact ⟨y0, y1, y2, rfl⟩
  have g0 : DataW.trod enc Try.prog w 0 spare held m 3 (List.take (Try.prog.cellsOf 3) [w0, w1, w2]) = some y0 := hg 0 _ rfl
  have g1 : DataW.trod enc Try.prog w 0 spare held m 3 (List.take (Try.prog.cellsOf 3) [w1, w2]) = some y1 := hg 1 _ rfl
  have g2 : DataW.trod enc Try.prog w 0 spare held m 9 (List.take (Try.prog.cellsOf 9) [w2]) = some y2 := hg 2 _ rfl
  rw [cellsOf3] at g0 g1
  rw [cellsOf9] at g2
  obtain ⟨i0, e0, _, h0⟩ := DataW.trod_int Try.underlying3 g0
  obtain ⟨i1, e1, _, h1⟩ := DataW.trod_int Try.underlying3 g1
  obtain ⟨s2, e2, _, h2⟩ := DataW.trod_string Try.underlying9 g2
  obtain rfl : w0 = .int .i64 i0 := by injection e0
  obtain rfl : w1 = .int .i64 i1 := by injection e1
  obtain rfl : w2 = .string s2 := by injection e2
  exact ⟨⟨i0, i1, s2⟩, rfl, i64_wf h0, i64_wf h1, h2⟩
set_option maxRecDepth 100000 in
theorem open_mark {n : Nat} {cs : List Value} {y : DataW H × List MemPlace} (h : DataW.trod enc Try.prog w 0 spare held n 35 cs = some y) : ∃ e : MK, cs = e.cells ∧ e.OK := by
  obtain ⟨xs, m, _, _, hl, hxl, hg⟩ := DataW.trod_struct Try.underlying35 h
  rw [cellsOf35] at hl
  obtain ⟨w0, w1, w2, w3, w4, rfl⟩ : ∃ w0 w1 w2 w3 w4, cs = [w0, w1, w2, w3, w4] := by
    match cs, hl with
    | [w0, w1, w2, w3, w4], _ => exact ⟨w0, w1, w2, w3, w4, rfl⟩
  obtain ⟨y0, y1, y2, y3, y4, rfl⟩ : ∃ y0 y1 y2 y3 y4, xs = [y0, y1, y2, y3, y4] := by
    match xs, hxl with
    | [y0, y1, y2, y3, y4], _ => exact ⟨y0, y1, y2, y3, y4, rfl⟩
  have g0 : DataW.trod enc Try.prog w 0 spare held m 3 (List.take (Try.prog.cellsOf 3) [w0, w1, w2, w3, w4]) = some y0 := hg 0 _ rfl
  have g1 : DataW.trod enc Try.prog w 0 spare held m 3 (List.take (Try.prog.cellsOf 3) [w1, w2, w3, w4]) = some y1 := hg 1 _ rfl
  have g2 : DataW.trod enc Try.prog w 0 spare held m 3 (List.take (Try.prog.cellsOf 3) [w2, w3, w4]) = some y2 := hg 2 _ rfl
  have g3 : DataW.trod enc Try.prog w 0 spare held m 4 (List.take (Try.prog.cellsOf 4) [w3, w4]) = some y3 := hg 3 _ rfl
  have g4 : DataW.trod enc Try.prog w 0 spare held m 33 (List.take (Try.prog.cellsOf 33) [w4]) = some y4 := hg 4 _ rfl
  rw [cellsOf3] at g0 g1 g2
  rw [cellsOf4] at g3
  rw [cellsOf33] at g4
  obtain ⟨i0, e0, _, _⟩ := DataW.trod_int Try.underlying3 g0
  obtain ⟨i1, e1, _, h1⟩ := DataW.trod_int Try.underlying3 g1
  obtain ⟨i2, e2, _, h2⟩ := DataW.trod_int Try.underlying3 g2
  obtain ⟨i3, e3, _⟩ := DataW.trod_bool Try.underlying4 g3
  obtain ⟨i4, e4, _, _⟩ := DataW.trod_int Try.underlying33 g4
  obtain rfl : w0 = .int .i64 i0 := by injection e0
  obtain rfl : w1 = .int .i64 i1 := by injection e1
  obtain rfl : w2 = .int .i64 i2 := by injection e2
  obtain rfl : w3 = .bool i3 := by injection e3
  obtain rfl : w4 = .int .u16 i4 := by injection e4
  exact ⟨⟨i0, i1, i2, i3, i4⟩, rfl, i64_wf h1, i64_wf h2⟩
set_option maxRecDepth 100000 in
theorem open_mstep {n : Nat} {cs : List Value} {y : DataW H × List MemPlace} (h : DataW.trod enc Try.prog w 0 spare held n 39 cs = some y) : ∃ e : MSt, cs = e.cells := by
  obtain ⟨xs, m, _, _, hl, hxl, hg⟩ := DataW.trod_struct Try.underlying39 h
  rw [cellsOf39] at hl
  obtain ⟨w0, w1, w2, w3, w4, w5, w6, w7, w8, w9, w10, w11, rfl⟩ : ∃ w0 w1 w2 w3 w4 w5 w6 w7 w8 w9 w10 w11, cs = [w0, w1, w2, w3, w4, w5, w6, w7, w8, w9, w10, w11] := by
    match cs, hl with
    | [w0, w1, w2, w3, w4, w5, w6, w7, w8, w9, w10, w11], _ => exact ⟨w0, w1, w2, w3, w4, w5, w6, w7, w8, w9, w10, w11, rfl⟩
  obtain ⟨y0, y1, y2, y3, y4, y5, rfl⟩ : ∃ y0 y1 y2 y3 y4 y5, xs = [y0, y1, y2, y3, y4, y5] := by
    match xs, hxl with
    | [y0, y1, y2, y3, y4, y5], _ => exact ⟨y0, y1, y2, y3, y4, y5, rfl⟩
  have g0 : DataW.trod enc Try.prog w 0 spare held m 3 (List.take (Try.prog.cellsOf 3) [w0, w1, w2, w3, w4, w5, w6, w7, w8, w9, w10, w11]) = some y0 := hg 0 _ rfl
  have g1 : DataW.trod enc Try.prog w 0 spare held m 35 (List.take (Try.prog.cellsOf 35) [w1, w2, w3, w4, w5, w6, w7, w8, w9, w10, w11]) = some y1 := hg 1 _ rfl
  have g2 : DataW.trod enc Try.prog w 0 spare held m 3 (List.take (Try.prog.cellsOf 3) [w6, w7, w8, w9, w10, w11]) = some y2 := hg 2 _ rfl
  have g3 : DataW.trod enc Try.prog w 0 spare held m 3 (List.take (Try.prog.cellsOf 3) [w7, w8, w9, w10, w11]) = some y3 := hg 3 _ rfl
  have g4 : DataW.trod enc Try.prog w 0 spare held m 3 (List.take (Try.prog.cellsOf 3) [w8, w9, w10, w11]) = some y4 := hg 4 _ rfl
  have g5 : DataW.trod enc Try.prog w 0 spare held m 37 (List.take (Try.prog.cellsOf 37) [w9, w10, w11]) = some y5 := hg 5 _ rfl
  rw [cellsOf3] at g0 g2 g3 g4
  rw [cellsOf35] at g1
  rw [cellsOf37] at g5
  obtain ⟨i0, e0, _, _⟩ := DataW.trod_int Try.underlying3 g0
  obtain ⟨mk, e1, _⟩ := open_mark g1
  obtain ⟨i2, e2, _, _⟩ := DataW.trod_int Try.underlying3 g2
  obtain ⟨i3, e3, _, _⟩ := DataW.trod_int Try.underlying3 g3
  obtain ⟨i4, e4, _, _⟩ := DataW.trod_int Try.underlying3 g4
  obtain ⟨ed, e5, _⟩ := open_edit g5
  obtain rfl : w0 = .int .i64 i0 := by injection e0
  obtain rfl : w6 = .int .i64 i2 := by injection e2
  obtain rfl : w7 = .int .i64 i3 := by injection e3
  obtain rfl : w8 = .int .i64 i4 := by injection e4
  have e1' : [w1, w2, w3, w4, w5] = mk.cells := e1
  have e5' : [w9, w10, w11] = ed.cells := e5
  refine ⟨⟨i0, mk, i2, i3, i4, ed⟩, ?_⟩
  unfold MSt.cells
  simp only
  rw [← e1', ← e5']
  rfl
end
theorem cells_at {w : World} {base : Nat} {a : Addr} {n : Nat} {cs : List Value} (h : w.cells? base a n = some cs) : cs.length = n ∧ ∀ i, i < n → w.cell? (a.add i) = cs[i]? := by
  unfold World.cells? at h
  split at h
  · exact ⟨by simpa using mapM_some_length h, fun i hi => mapM_some_get h i i (by simp [hi])⟩
  · cases h
theorem cell_block {w : World} {a : Addr} {v : Value} (h : w.cell? a = some v) : a.block < w.heap.size := by
  unfold World.cell? at h
  split at h
  · rename_i hx
    exact (Array.getElem?_eq_some_iff.1 hx).1
  · cases h
theorem plain_addr {w : World} {a : Addr} {v : Value} (h : w.cell? a = some v) : ∃ b o, a = ⟨b, o, none⟩ := by
  obtain ⟨b, o, sp⟩ := a
  cases sp with
  | none => exact ⟨b, o, rfl⟩
  | some x =>
    exfalso
    unfold World.cell? at h
    simp at h
    split at h <;> simp at h
theorem list_of {α : Type} {p : Nat → α → Prop} : ∀ n : Nat, (∀ i, i < n → ∃ c, p i c) → ∃ l : List α, l.length = n ∧ ∀ i (hi : i < l.length), p i l[i]
  | 0, _ => ⟨[], rfl, fun i hi => absurd hi (by simp)⟩
  | n + 1, h => by
    obtain ⟨l, hl, hp⟩ := list_of n fun i hi => h i (by omega)
    obtain ⟨c, hc⟩ := h n (by omega)
    refine ⟨l ++ [c], by simp [hl], fun i hi => ?_⟩
    simp at hi
    by_cases e : i < l.length
    · rw [List.getElem_append_left e]; exact hp i e
    · have : i = l.length := by omega
      subst this
      rw [List.getElem_append_right (by omega)]
      simp only [Nat.sub_self, List.getElem_cons_zero]
      rw [hl]
      exact hc
/-- rows that stand cell by cell stand as one slice -/
theorem sl_of_rows {α : Type} (f : α → List Value) (k : Nat) (hk : 0 < k) (hf : ∀ x, (f x).length = k) {w : World} {a : Addr} (L : List α) (hp : ∀ i (hi : i < L.length), ∀ j, j < k → w.cell? ((a.add (i * k)).add j) = (f L[i])[j]?) :
    Sl w w.heap.size (some a) (L.flatMap f) := by
  intro j u hj
  have hj1 := (List.getElem?_eq_some_iff.1 hj).1
  rw [flat_length f k hf] at hj1
  have hkk : j / k < L.length := (Nat.div_lt_iff_lt_mul hk).2 hj1
  have hm : j / k * k + j % k = j := by rw [Nat.mul_comm]; exact Nat.div_add_mod j k
  have h2 := flat_at f k hf L (j / k) hkk (j % k) (Nat.mod_lt _ hk)
  rw [hm, hj] at h2
  have h3 := hp (j / k) hkk (j % k) (Nat.mod_lt _ hk)
  rw [← h2] at h3
  have hab : ∃ b o, a = ⟨b, o, none⟩ := by
    have h0 := hp 0 (Nat.lt_of_le_of_lt (Nat.zero_le _) hkk) 0 hk
    have e0 : (a.add (0 * k)).add 0 = a := by rw [Nat.zero_mul]; rfl
    rw [e0, List.getElem?_eq_getElem (by rw [hf]; exact hk)] at h0
    exact plain_addr h0
  obtain ⟨b, o, rfl⟩ := hab
  rw [add_lit', add_lit'] at h3
  refine ⟨⟨b, o, none⟩, rfl, (show b < w.heap.size from cell_block (a := ⟨b, _, none⟩) h3), ?_⟩
  rw [add_lit', ← h3]
  congr 2
  omega
section
variable {H : Type} {enc : TypeId × Value → H} {w : World} {spare : Nat → Bool} {held : Bool}
set_option maxRecDepth 100000 in
theorem open_marks {n : Nat} {cs : List Value} {y : DataW H × List MemPlace} (h : DataW.trod enc Try.prog w 0 spare held n 49 cs = some y) (hw : ∀ x ∈ y.1.weights Try.prog 49, x ≤ reachBytes) :
    ∃ A c, ∃ L : List MK, cs = [.slice A L.length c] ∧ Sl w w.heap.size A (L.flatMap MK.cells) ∧ L.length ≤ c ∧ c ≤ maxLen ∧ (∀ e ∈ L, e.OK) ∧ L.length * 32 ≤ reachBytes := by
  rcases DataW.trod_slice Try.underlying49 h with ⟨rfl, _⟩ | ⟨a, len, cap, elems, rest, m, _, rfl, rfl, _, hl, hm, hlen, hel, _, _⟩
  · exact ⟨none, 0, [], rfl, Sl.nil_ _ _ _, Nat.le_refl _, by simp [maxLen], (fun e he => by cases he), by simp⟩
  · rw [cellsOf35] at hel
    obtain ⟨L, hL, hp⟩ := list_of (α := MK) (p := fun i e => e.OK ∧ ∀ j, j < 5 → w.cell? ((a.add (i * 5)).add j) = e.cells[j]?) len fun i hi => by
      have h1 := hel i hi
      have h2 : i < elems.length := by omega
      rw [List.getElem?_eq_getElem h2] at h1
      obtain ⟨cs', hc, ht⟩ := Option.bind_eq_some_iff.1 h1
      obtain ⟨e, rfl, he⟩ := open_mark ht
      exact ⟨e, he, (cells_at hc).2⟩
    subst hL
    refine ⟨some a, cap, L, rfl, sl_of_rows MK.cells 5 (by omega) MK.len L fun i hi => (hp i hi).2, hl, hm, ?_, ?_⟩
    · intro e he
      obtain ⟨i, hi, rfl⟩ := List.mem_iff_getElem.1 he
      exact (hp i hi).1
    · have := hw ((elems.map (·.1)).length * 32 + (rest.map (·.1)).length * 32) (by simp only [DataW.weights, Try.underlying49, bytesOf35]; rw [← Nat.add_mul]; simp)
      simp only [List.length_map] at this
      omega
end
end Go.Proofs.Ytbnaglkhbgfchaa
