/- shuttlelaw24: a script as it comes in, opened. -/
import Derived.Test.YtohkjopdoejedaaGlent
import Derived.SizedLaws
import Derived.ChangeArms
import Derived.ChangeShapes
import Derived.ChangeSlices
namespace Go.Proofs.Ytohkjopdoejedaa
open Go.RowKit Go.ChangeShapes
theorem cellsOf3 : Try.prog.cellsOf 3 = 1 := by kernel_rfl
theorem cellsOf4 : Try.prog.cellsOf 4 = 1 := by kernel_rfl
theorem cellsOf9 : Try.prog.cellsOf 9 = 1 := by kernel_rfl
theorem cellsOf33 : Try.prog.cellsOf 33 = 1 := by kernel_rfl
theorem cellsOf35 : Try.prog.cellsOf 35 = 4 := by kernel_rfl
theorem cellsOf37 : Try.prog.cellsOf 37 = 9 := by kernel_rfl
theorem cellsOf46 : Try.prog.cellsOf 46 = 1 := by kernel_rfl
theorem cellsOf47 : Try.prog.cellsOf 47 = 1 := by kernel_rfl
theorem cellsOf49 : Try.prog.cellsOf 49 = 6 := by kernel_rfl
theorem bytesOf49 : Try.prog.bytesOf 49 = 48 := by kernel_rfl
theorem bytesOf37 : Try.prog.bytesOf 37 = 88 := by kernel_rfl
theorem i64_wf {n : Int} (h : (Lit.int .i64 n).wf = true) : I64 n := by
  simp [Lit.wf, IntKind.min, IntKind.max, IntKind.bits, IntKind.signed] at h
  unfold I64
  omega
theorem i8_wf {n : Int} (h : (Lit.int .i8 n).wf = true) : -128 ≤ n ∧ n < 128 := by
  simp [Lit.wf, IntKind.min, IntKind.max, IntKind.bits, IntKind.signed] at h
  omega
section
variable {H : Type} {enc : TypeId × Value → H} {w : World} {spare : Nat → Bool} {held : Bool}
theorem cells_at {base : Nat} {a : Addr} {n : Nat} {cs : List Value} (h : w.cells? base a n = some cs) : cs.length = n ∧ ∀ i, i < n → w.cell? (a.add i) = cs[i]? := by
  unfold World.cells? at h
  split at h
  · exact ⟨by simpa using mapM_some_length h, fun i hi => mapM_some_get h i i (by simp [hi])⟩
  · cases h
theorem cell_block {a : Addr} {v : Value} (h : w.cell? a = some v) : a.block < w.heap.size := by
  unfold World.cell? at h
  split at h
  · rename_i hx
    exact (Array.getElem?_eq_some_iff.1 hx).1
  · cases h
theorem plain_addr {a : Addr} {v : Value} (h : w.cell? a = some v) : ∃ b o, a = ⟨b, o, none⟩ := by
  obtain ⟨b, o, sp⟩ := a
  cases sp with
  | none => exact ⟨b, o, rfl⟩
  | some x =>
    exfalso
    unfold World.cell? at h
    simp at h
    split at h <;> simp at h
theorem open_cell {n : Nat} {cs : List Value} {y : DataW H × List MemPlace} (h : DataW.trod enc Try.prog w 0 spare held n 49 cs = some y) : ∃ c : Ce, cs = c.cells ∧ -128 ≤ c.part ∧ c.part < 128 := by
  obtain ⟨xs, m, _, _, hl, hxl, hg⟩ := DataW.trod_struct Try.underlying49 h
  rw [cellsOf49] at hl
  obtain ⟨w0, w1, w2, w3, w4, w5, rfl⟩ : ∃ w0 w1 w2 w3 w4 w5, cs = [w0, w1, w2, w3, w4, w5] := by
    match cs, hl with
    | [w0, w1, w2, w3, w4, w5], _ => exact ⟨w0, w1, w2, w3, w4, w5, rfl⟩
  obtain ⟨y0, y1, y2, y3, y4, y5, rfl⟩ : ∃ y0 y1 y2 y3 y4 y5, xs = [y0, y1, y2, y3, y4, y5] := by
    match xs, hxl with
    | [y0, y1, y2, y3, y4, y5], _ => exact ⟨y0, y1, y2, y3, y4, y5, rfl⟩
  have g0 : DataW.trod enc Try.prog w 0 spare held m 9 (List.take (Try.prog.cellsOf 9) [w0, w1, w2, w3, w4, w5]) = some y0 := hg 0 _ rfl
  have g1 : DataW.trod enc Try.prog w 0 spare held m 46 (List.take (Try.prog.cellsOf 46) [w1, w2, w3, w4, w5]) = some y1 := hg 1 _ rfl
  have g2 : DataW.trod enc Try.prog w 0 spare held m 3 (List.take (Try.prog.cellsOf 3) [w2, w3, w4, w5]) = some y2 := hg 2 _ rfl
  have g3 : DataW.trod enc Try.prog w 0 spare held m 3 (List.take (Try.prog.cellsOf 3) [w3, w4, w5]) = some y3 := hg 3 _ rfl
  have g4 : DataW.trod enc Try.prog w 0 spare held m 4 (List.take (Try.prog.cellsOf 4) [w4, w5]) = some y4 := hg 4 _ rfl
  have g5 : DataW.trod enc Try.prog w 0 spare held m 47 (List.take (Try.prog.cellsOf 47) [w5]) = some y5 := hg 5 _ rfl
  rw [cellsOf9] at g0
  rw [cellsOf46] at g1
  rw [cellsOf3] at g2 g3
  rw [cellsOf4] at g4
  rw [cellsOf47] at g5
  obtain ⟨s0, e0, _, _⟩ := DataW.trod_string Try.underlying9 g0
  obtain ⟨i1, e1, _, hw⟩ := DataW.trod_int Try.underlying46 g1
  obtain ⟨i2, e2, _, _⟩ := DataW.trod_int Try.underlying3 g2
  obtain ⟨i3, e3, _, _⟩ := DataW.trod_int Try.underlying3 g3
  obtain ⟨b4, e4, _⟩ := DataW.trod_bool Try.underlying4 g4
  obtain ⟨i5, e5, _, _⟩ := DataW.trod_int Try.underlying47 g5
  obtain rfl : w0 = .string s0 := by injection e0
  obtain rfl : w1 = .int .i8 i1 := by injection e1
  obtain rfl : w2 = .int .i64 i2 := by injection e2
  obtain rfl : w3 = .int .i64 i3 := by injection e3
  obtain rfl : w4 = .bool b4 := by injection e4
  obtain rfl : w5 = .int .u16 i5 := by injection e5
  exact ⟨⟨s0, i1, i2, i3, b4, i5⟩, rfl, i8_wf hw⟩
theorem list_of {α : Type} {p : Nat → α → Prop} : ∀ n : Nat, (∀ i, i < n → ∃ c, p i c) → ∃ l : List α, l.length = n ∧ ∀ i (hi : i < l.length), p i l[i]
  | 0, _ => ⟨[], rfl, fun i hi => absurd hi (by simp)⟩
  | n + 1, h => by
    obtain ⟨l, hl, hp⟩ := list_of n fun i hi => h i (by omega)
    obtain ⟨c, hc⟩ := h n (by omega)
    refine ⟨l ++ [c], by simp [hl], fun i hi => ?_⟩
    simp at hi
    by_cases e : i < l.length
    · rw [List.getElem_append_left e]; exact hp i e
    · have : i = l.length := by omega
      subst this
      rw [List.getElem_append_right (by omega)]
      simp only [Nat.sub_self, List.getElem_cons_zero]
      rw [hl]
      exact hc
theorem open_row {n : Nat} {cs : List Value} {y : DataW H × List MemPlace} (h : DataW.trod enc Try.prog w 0 spare held n 33 cs = some y) (hw : ∀ x ∈ y.1.weights Try.prog 33, x ≤ reachBytes) :
    ∃ A c L, cs = [.slice A L.length c] ∧ Sl w w.heap.size A (rowCells L) ∧ L.length ≤ c ∧ c ≤ maxLen ∧ L.length * 48 ≤ reachBytes ∧ PartOK L := by
  rcases DataW.trod_slice Try.underlying33 h with ⟨rfl, _⟩ | ⟨a, len, cap, elems, rest, m, _, rfl, rfl, _, hl, hm, hlen, hel, _, _⟩
  · exact ⟨none, 0, [], rfl, Sl.nil_ _ _ _, Nat.le_refl _, by simp [maxLen], by simp, PartOK.of_mem fun c hc => by cases hc⟩
  · rw [cellsOf49] at hel
    obtain ⟨L, hL, hp⟩ := list_of (α := Ce) (p := fun i c => (-128 ≤ c.part ∧ c.part < 128) ∧ ∀ j, j < 6 → w.cell? ((a.add (i * 6)).add j) = c.cells[j]?) len fun i hi => by
      have h1 := hel i hi
      have h2 : i < elems.length := by omega
      rw [List.getElem?_eq_getElem h2] at h1
      obtain ⟨cs', hc, ht⟩ := Option.bind_eq_some_iff.1 h1
      obtain ⟨c, rfl, hc1⟩ := open_cell ht
      exact ⟨c, hc1, (cells_at hc).2⟩
    subst hL
    refine ⟨some a, cap, L, rfl, ?_, hl, hm, ?_, ?_⟩
    · intro j u hj
      have hj1 := (List.getElem?_eq_some_iff.1 hj).1
      rw [rowCells_length] at hj1
      have hk : j / 6 < L.length := by omega
      have h2 := rowCells_at L (j / 6) hk (j % 6) (Nat.mod_lt _ (by omega))
      rw [show j / 6 * 6 + j % 6 = j by omega, hj] at h2
      have h3 := (hp (j / 6) hk).2 (j % 6) (Nat.mod_lt _ (by omega))
      rw [← h2] at h3
      have hab : ∃ b o, a = ⟨b, o, none⟩ := plain_addr (v := .string (L[0]).text) ((hp 0 (by omega)).2 0 (by omega))
      obtain ⟨b, o, rfl⟩ := hab
      rw [add_lit', add_lit'] at h3
      refine ⟨⟨b, o, none⟩, rfl, (show b < w.heap.size from cell_block (a := ⟨b, _, none⟩) h3), ?_⟩
      rw [add_lit', ← h3]
      congr 2
      omega
    · have := hw ((elems.map (·.1)).length * 48 + (rest.map (·.1)).length * 48) (by simp only [DataW.weights, Try.underlying33, bytesOf49]; rw [← Nat.add_mul]; simp)
      simp only [List.length_map] at this
      omega
    · exact PartOK.of_mem fun c hc => by
        obtain ⟨i, hi, e⟩ := List.mem_iff_getElem.1 hc
        rw [← e]
        exact (hp i hi).1
theorem weights_part {P : Program} {ts : List TypeId} {ds : List (DataW H)} {i : Nat} {t : TypeId} {d : DataW H} (ht : ts[i]? = some t) (hd : ds[i]? = some d) (h : ∀ x ∈ DataW.weightsEach P ts ds, x ≤ reachBytes) : ∀ x ∈ d.weights P t, x ≤ reachBytes := fun x hx => h x (DataW.weights_mem_each ht hd x hx)
theorem open_step {n : Nat} {cs : List Value} {y : DataW H × List MemPlace} (h : DataW.trod enc Try.prog w 0 spare held n 37 cs = some y) (hw : ∀ x ∈ y.1.weights Try.prog 37, x ≤ reachBytes) :
    ∃ s : St, cs = s.cells ∧ StOK w w.heap.size s ∧ s.L.length * 48 ≤ reachBytes := by
  obtain ⟨xs, m, _, hx, hl, hxl, hg⟩ := DataW.trod_struct Try.underlying37 h
  rw [cellsOf37] at hl
  obtain ⟨w0, w1, w2, w3, w4, w5, w6, w7, w8, rfl⟩ : ∃ w0 w1 w2 w3 w4 w5 w6 w7 w8, cs = [w0, w1, w2, w3, w4, w5, w6, w7, w8] := by
    match cs, hl with
    | [w0, w1, w2, w3, w4, w5, w6, w7, w8], _ => exact ⟨w0, w1, w2, w3, w4, w5, w6, w7, w8, rfl⟩
  obtain ⟨y0, y1, y2, y3, y4, y5, rfl⟩ : ∃ y0 y1 y2 y3 y4 y5, xs = [y0, y1, y2, y3, y4, y5] := by
    match xs, hxl with
    | [y0, y1, y2, y3, y4, y5], _ => exact ⟨y0, y1, y2, y3, y4, y5, rfl⟩
  have g0 : DataW.trod enc Try.prog w 0 spare held m 3 (List.take (Try.prog.cellsOf 3) [w0, w1, w2, w3, w4, w5, w6, w7, w8]) = some y0 := hg 0 _ rfl
  have g1 : DataW.trod enc Try.prog w 0 spare held m 3 (List.take (Try.prog.cellsOf 3) [w1, w2, w3, w4, w5, w6, w7, w8]) = some y1 := hg 1 _ rfl
  have g2 : DataW.trod enc Try.prog w 0 spare held m 3 (List.take (Try.prog.cellsOf 3) [w2, w3, w4, w5, w6, w7, w8]) = some y2 := hg 2 _ rfl
  have g3 : DataW.trod enc Try.prog w 0 spare held m 33 (List.take (Try.prog.cellsOf 33) [w3, w4, w5, w6, w7, w8]) = some y3 := hg 3 _ rfl
  have g4 : DataW.trod enc Try.prog w 0 spare held m 35 (List.take (Try.prog.cellsOf 35) [w4, w5, w6, w7, w8]) = some y4 := hg 4 _ rfl
  have g5 : DataW.trod enc Try.prog w 0 spare held m 3 (List.take (Try.prog.cellsOf 3) [w8]) = some y5 := hg 5 _ rfl
  rw [cellsOf3] at g0 g1 g2 g5
  rw [cellsOf33] at g3
  rw [cellsOf35] at g4
  obtain ⟨xs4, n4, _, _, _, hlen4, hg4⟩ := DataW.trod_struct Try.underlying35 g4
  obtain ⟨z0, z1, z2, z3, rfl⟩ : ∃ z0 z1 z2 z3, xs4 = [z0, z1, z2, z3] := by
    match xs4, hlen4 with
    | [z0, z1, z2, z3], _ => exact ⟨z0, z1, z2, z3, rfl⟩
  have k4 : DataW.trod enc Try.prog w 0 spare held n4 3 (List.take (Try.prog.cellsOf 3) [w4, w5, w6, w7]) = some z0 := hg4 0 _ rfl
  have k5 : DataW.trod enc Try.prog w 0 spare held n4 3 (List.take (Try.prog.cellsOf 3) [w5, w6, w7]) = some z1 := hg4 1 _ rfl
  have k6 : DataW.trod enc Try.prog w 0 spare held n4 3 (List.take (Try.prog.cellsOf 3) [w6, w7]) = some z2 := hg4 2 _ rfl
  have k7 : DataW.trod enc Try.prog w 0 spare held n4 3 (List.take (Try.prog.cellsOf 3) [w7]) = some z3 := hg4 3 _ rfl
  rw [cellsOf3] at k4 k5 k6 k7
  obtain ⟨i0, hc0, _, f0⟩ := DataW.trod_int Try.underlying3 g0
  obtain ⟨i1, hc1, _, f1⟩ := DataW.trod_int Try.underlying3 g1
  obtain ⟨i2, hc2, _, f2⟩ := DataW.trod_int Try.underlying3 g2
  obtain ⟨i4, hc4, _, f4⟩ := DataW.trod_int Try.underlying3 k4
  obtain ⟨i5, hc5, _, f5⟩ := DataW.trod_int Try.underlying3 k5
  obtain ⟨i6, hc6, _, f6⟩ := DataW.trod_int Try.underlying3 k6
  obtain ⟨i7, hc7, _, f7⟩ := DataW.trod_int Try.underlying3 k7
  obtain ⟨i8, hc8, _, f8⟩ := DataW.trod_int Try.underlying3 g5
  obtain ⟨A, c, L, hc3, q1, q2, q3, q4, q5⟩ := open_row g3 (by
    subst hx
    have hw' : ∀ x ∈ DataW.weightsEach Try.prog [3, 3, 3, 33, 35, 3] [y0.1, y1.1, y2.1, y3.1, y4.1, y5.1], x ≤ reachBytes := by
      intro x hx
      refine hw x ?_
      simp only [DataW.weights, Try.underlying37]
      exact hx
    exact weights_part (i := 3) rfl rfl hw')
  obtain rfl : w0 = .int .i64 i0 := by injection hc0
  obtain rfl : w1 = .int .i64 i1 := by injection hc1
  obtain rfl : w2 = .int .i64 i2 := by injection hc2
  obtain rfl : w3 = .slice A L.length c := by injection hc3
  obtain rfl : w4 = .int .i64 i4 := by injection hc4
  obtain rfl : w5 = .int .i64 i5 := by injection hc5
  obtain rfl : w6 = .int .i64 i6 := by injection hc6
  obtain rfl : w7 = .int .i64 i7 := by injection hc7
  obtain rfl : w8 = .int .i64 i8 := by injection hc8
  refine ⟨⟨i0, i1, i2, A, c, L, i4, i5, i6, i7, i8⟩, rfl, ⟨i64_wf f0, i64_wf f1, i64_wf f2, i64_wf f4, i64_wf f5, i64_wf f6, i64_wf f7, i64_wf f8, q1, ⟨q2, q3⟩, ?_, q5⟩, q4⟩
  simp only [reachBytes] at q4
  show L.length ≤ _
  omega
theorem weights_all {P : Program} {e : TypeId} : ∀ (l : List (DataW H)) (d : DataW H), d ∈ l → ∀ x ∈ d.weights P e, x ∈ DataW.weightsAll P e l
  | [], d, h, _, _ => by cases h
  | a :: l, d, h, x, hx => by
    simp only [DataW.weightsAll, List.mem_append]
    rcases List.mem_cons.1 h with rfl | h
    · exact .inl hx
    · exact .inr (weights_all l d h x hx)
theorem open_steps {n : Nat} {cs : List Value} {y : DataW H × List MemPlace} (h : DataW.trod enc Try.prog w 0 spare held n 22 cs = some y) (hw : ∀ x ∈ y.1.weights Try.prog 22, x ≤ reachBytes) :
    ∃ A c ss, cs = [.slice A (List.length ss) c] ∧ Steps w w.heap.size A c ss ∧ ss.length * 88 ≤ reachBytes := by
  rcases DataW.trod_slice Try.underlying22 h with ⟨rfl, _⟩ | ⟨a, len, cap, elems, rest, m, _, rfl, rfl, _, hl, hm, hlen, hel, _, _⟩
  · exact ⟨none, 0, [], rfl, ⟨Sl.nil_ _ _ _, ⟨Nat.le_refl _, by simp [maxLen]⟩, fun s hs => by cases hs⟩, by simp⟩
  · rw [cellsOf37] at hel
    have hw1 : (elems.length + rest.length) * 88 ≤ reachBytes ∧ ∀ d ∈ elems, ∀ x ∈ d.1.weights Try.prog 37, x ≤ reachBytes := by
      simp only [DataW.weights, Try.underlying22, bytesOf37, List.length_map] at hw
      refine ⟨hw _ (List.mem_cons_self ..), fun d hd x hx => hw x (List.mem_cons_of_mem _ (List.mem_append.2 (.inl (weights_all _ d.1 (List.mem_map.2 ⟨d, hd, rfl⟩) x hx))))⟩
    obtain ⟨L, hL, hp⟩ := list_of (α := St) (p := fun i s => StOK w w.heap.size s ∧ ∀ j, j < 9 → w.cell? ((a.add (i * 9)).add j) = s.cells[j]?) len fun i hi => by
      have h1 := hel i hi
      have h2 : i < elems.length := by omega
      rw [List.getElem?_eq_getElem h2] at h1
      obtain ⟨cs', hc, ht⟩ := Option.bind_eq_some_iff.1 h1
      obtain ⟨s, rfl, hc1, _⟩ := open_step ht (hw1.2 _ (List.getElem_mem h2))
      exact ⟨s, hc1, (cells_at hc).2⟩
    subst hL
    refine ⟨some a, cap, L, rfl, ⟨?_, ⟨hl, hm⟩, ?_⟩, by have := hw1.1; omega⟩
    · intro j u hj
      have hj1 := (List.getElem?_eq_some_iff.1 hj).1
      rw [stCells_length] at hj1
      have hk : j / 9 < L.length := by omega
      have h2 := stCells_at L (j / 9) hk (j % 9) (Nat.mod_lt _ (by omega))
      rw [show j / 9 * 9 + j % 9 = j by omega, hj] at h2
      have h3 := (hp (j / 9) hk).2 (j % 9) (Nat.mod_lt _ (by omega))
      rw [← h2] at h3
      have hab : ∃ b o, a = ⟨b, o, none⟩ := plain_addr (v := .int .i64 (L[0]).d) ((hp 0 (by omega)).2 0 (by omega))
      obtain ⟨b, o, rfl⟩ := hab
      rw [add_lit', add_lit'] at h3
      refine ⟨⟨b, o, none⟩, rfl, (show b < w.heap.size from cell_block (a := ⟨b, _, none⟩) h3), ?_⟩
      rw [add_lit', ← h3]
      congr 2
      omega
    · intro s hs
      obtain ⟨i, hi, e⟩ := List.mem_iff_getElem.1 hs
      rw [← e]
      exact (hp i hi).1
end
end Go.Proofs.Ytohkjopdoejedaa
