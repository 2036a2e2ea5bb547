/- package grid: cells laid in a block. -/
import Derived.Test.YtohkjopdoejedaaGchain
namespace Go.Proofs.Ytohkjopdoejedaa
open Go.RowKit
theorem rowCells_app (a b : List Ce) : rowCells (a ++ b) = rowCells a ++ rowCells b := by simp [rowCells]
/-- a block's cells with others from o on -/
def lay (L : List Value) (o : Nat) (l : List Ce) : List Value := L.take o ++ (rowCells l ++ L.drop (o + l.length * 6))
theorem lay_length (L : List Value) (o : Nat) (l : List Ce) (h : o + l.length * 6 ≤ L.length) : (lay L o l).length = L.length := by
  unfold lay
  simp [rowCells_length]
  omega
theorem lay_at (L : List Value) (o : Nat) (l : List Ce) (h : o + l.length * 6 ≤ L.length) (k : Nat) (hk : k < l.length) (j : Nat) (hj : j < 6) : (lay L o l)[o + k * 6 + j]? = (l[k]).cells[j]? := by
  unfold lay
  have hr := rowCells_length l
  have ht : (L.take o).length = o := by simp; omega
  rw [List.getElem?_append_right (by omega), ht, List.getElem?_append_left (by omega), show o + k * 6 + j - o = k * 6 + j by omega]
  exact rowCells_at l k hk j hj
theorem lay_other (L : List Value) (o : Nat) (l : List Ce) (h : o + l.length * 6 ≤ L.length) (i : Nat) (hi : i < o ∨ o + l.length * 6 ≤ i) : (lay L o l)[i]? = L[i]? := by
  unfold lay
  have hr := rowCells_length l
  have ht : (L.take o).length = o := by simp; omega
  rcases hi with hi | hi
  · rw [List.getElem?_append_left (by omega), List.getElem?_take, if_pos hi]
  · rw [List.getElem?_append_right (by omega), ht, List.getElem?_append_right (by omega), List.getElem?_drop]
    congr 1
    omega
/-- one cell of the screen is written -/
def putC (L : List Value) (p : Nat) (c : Ce) : List Value :=
  (((((L.set p (.string c.text)).set (p + 1) (.int .i8 c.part)).set (p + 2) (.int .i64 c.at_)).set (p + 3) (.int .i64 c.len)).set (p + 4) (.bool c.right)).set (p + 5) (.int .u16 c.style)
theorem putC_length (L : List Value) (p : Nat) (c : Ce) : (putC L p c).length = L.length := by simp [putC]
theorem putC_at (L : List Value) (p : Nat) (c : Ce) (h : p + 6 ≤ L.length) (j : Nat) (hj : j < 6) : (putC L p c)[p + j]? = c.cells[j]? := by
  unfold putC
  have : j = 0 ∨ j = 1 ∨ j = 2 ∨ j = 3 ∨ j = 4 ∨ j = 5 := by omega
  rcases this with rfl | rfl | rfl | rfl | rfl | rfl <;> simp [List.getElem?_set, Ce.cells] <;> omega
theorem putC_other (L : List Value) (p : Nat) (c : Ce) (i : Nat) (hi : i < p ∨ p + 6 ≤ i) : (putC L p c)[i]? = L[i]? := by
  unfold putC
  rw [List.getElem?_set_ne (by omega), List.getElem?_set_ne (by omega), List.getElem?_set_ne (by omega), List.getElem?_set_ne (by omega), List.getElem?_set_ne (by omega), List.getElem?_set_ne (by omega)]
theorem lay_put (L : List Value) (o : Nat) (l : List Ce) (h : o + l.length * 6 ≤ L.length) (k : Nat) (hk : k < l.length) (c : Ce) : putC (lay L o l) (o + k * 6) c = lay L o (l.set k c) := by
  have hl := lay_length L o l h
  have hl2 := lay_length L o (l.set k c) (by rw [List.length_set]; exact h)
  apply List.ext_getElem?
  intro i
  by_cases hin : o ≤ i ∧ i < o + l.length * 6
  · obtain ⟨q, j, hj, hi⟩ : ∃ q j, j < 6 ∧ i = o + q * 6 + j := ⟨(i - o) / 6, (i - o) % 6, Nat.mod_lt _ (by omega), by omega⟩
    have hq : q < l.length := by omega
    rw [hi, lay_at L o (l.set k c) (by rw [List.length_set]; exact h) q (by rw [List.length_set]; exact hq) j hj]
    by_cases e : q = k
    · subst e
      rw [putC_at _ _ _ (by omega) j hj]
      simp
    · rw [putC_other _ _ _ _ (by omega), lay_at L o l h q hq j hj]
      rw [List.getElem_set_ne (fun e' => e e'.symm)]
  · rw [lay_other L o (l.set k c) (by rw [List.length_set]; exact h) i (by rw [List.length_set]; omega), putC_other _ _ _ _ (by omega), lay_other L o l h i (by omega)]
theorem Blk.cat {w : World} {b o : Nat} {L : List Value} {l : List Ce} {t : TypeId} (h : Blk w b (lay L o l) t) (hL : o + l.length * 6 ≤ L.length) : CAt w b o l := by
  intro k hk j v hj
  have hj6 : j < 6 := (List.getElem?_eq_some_iff.1 hj).1
  rw [h.cell, lay_at L o l hL k hk j hj6, hj]
end Go.Proofs.Ytohkjopdoejedaa
