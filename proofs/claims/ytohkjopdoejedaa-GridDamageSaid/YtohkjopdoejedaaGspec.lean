/- layer 24 in plain lists. -/
import Derived.Test.YtohkjopdoejedaaInts
namespace Go.Proofs.Ytohkjopdoejedaa
/-- a cell of a screen -/
structure Ce where
  text : ByteArray
  part : Int
  at_ : Int
  len : Int
  right : Bool
  style : Int
def Ce.cells (c : Ce) : List Value := [.string c.text, .int .i8 c.part, .int .i64 c.at_, .int .i64 c.len, .bool c.right, .int .u16 c.style]
def Ce.zero : Ce := ⟨ByteArray.empty, 0, 0, 0, false, 0⟩
def Ce.blank (c : Ce) : Ce := { Ce.zero with style := c.style }
def rowCells (l : List Ce) : List Value := l.flatMap Ce.cells
theorem rowCells_length (l : List Ce) : (rowCells l).length = l.length * 6 := by
  induction l with
  | nil => rfl
  | cons c l ih =>
    show (c.cells ++ rowCells l).length = _
    rw [List.length_append, ih]
    simp [Ce.cells]
    omega
theorem rowCells_at (l : List Ce) (k : Nat) (hk : k < l.length) : ∀ j, j < 6 → (rowCells l)[k * 6 + j]? = (l[k]).cells[j]? := by
  induction l generalizing k with
  | nil => simp at hk
  | cons c l ih =>
    intro j hj
    show (c.cells ++ rowCells l)[k * 6 + j]? = _
    have hc : c.cells.length = 6 := rfl
    cases k with
    | zero =>
      rw [List.getElem?_append_left (by omega)]
      simp
    | succ k =>
      rw [List.getElem?_append_right (by omega)]
      have e : (k + 1) * 6 + j - c.cells.length = k * 6 + j := by omega
      rw [e, ih k (by simpa using hk) j hj]
      simp
/-- the further cells of a chain whose first cell stands ahead of l, 'd' being the next part: how many -/
def more : Int → List Ce → Nat
  | _, [] => 0
  | d, c :: l => if c.part = d then more (d + 1) l + 1 else 0
theorem more_le : ∀ (l : List Ce) (d : Int), more d l ≤ l.length
  | [], _ => Nat.le_refl _
  | c :: l, d => by
    unfold more
    have := more_le l (d + 1)
    split <;> simp only [List.length_cons] <;> omega
/-- chain: the end of the chain that begins at i, and whether it is cut -/
def chainE (l : List Ce) (i : Nat) : Nat := if (l.getD i Ce.zero).part ≠ 0 then i + 1 else i + 1 + more 1 (l.drop (i + 1))
def chainC (l : List Ce) (i : Nat) : Bool := decide ((l.getD i Ce.zero).part ≠ 0)
theorem chainE_bd (l : List Ce) (i : Nat) (hi : i < l.length) : i < chainE l i ∧ chainE l i ≤ l.length := by
  unfold chainE
  have := more_le (l.drop (i + 1)) 1
  rw [List.length_drop] at this
  split <;> omega
/-- blanks of the cells from a up to b -/
def blankR (l : List Ce) (a b : Nat) : List Ce := l.take a ++ ((l.take b).drop a).map Ce.blank ++ l.drop b
theorem blankR_length (l : List Ce) (a b : Nat) (ha : a ≤ b) (hb : b ≤ l.length) : (blankR l a b).length = l.length := by
  unfold blankR
  simp
  omega
/-- lose: blanks of each chain that has cells from a to b, and others; from place i on -/
def loseF (a b : Int) : Nat → Nat → List Ce → List Ce
  | 0, _, l => l
  | f + 1, i, l =>
    if i < l.length then
      let e := chainE l i
      let inn := min (e : Int) b - max (i : Int) a
      loseF a b f e (if 0 < inn ∧ inn < (e : Int) - i then blankR l i e else l)
    else l
def loseL (a b : Int) (l : List Ce) : List Ce := loseF a b (l.length + 1) 0 l
/-- span: a side of a rectangle brought into the screen -/
def spanL (at_ n most : Int) : Int × Int :=
  let from_ := min (max at_ 0) most
  if n ≤ 0 then (from_, from_)
  else if at_ < 0 then (from_, min (max (at_ + n) from_) most)
  else (from_, min (max (from_ + min n (most - from_)) from_) most)
theorem spanL_bd (at_ n most : Int) (h : 0 ≤ most) : 0 ≤ (spanL at_ n most).1 ∧ (spanL at_ n most).1 ≤ (spanL at_ n most).2 ∧ (spanL at_ n most).2 ≤ most := by
  unfold spanL
  simp only
  repeat' split
  all_goals simp only; omega
end Go.Proofs.Ytohkjopdoejedaa
