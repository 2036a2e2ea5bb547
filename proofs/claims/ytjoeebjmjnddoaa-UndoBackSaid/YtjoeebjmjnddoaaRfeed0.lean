/- layer 18 in plain lists: line feeds. -/
import Derived.Test.YtjoeebjmjnddoaaRslice2
namespace Go.Proofs.Ytjoeebjmjnddoaa
/-- the place behind the i-th line feed -/
def feedL : Nat → List UInt8 → Nat
  | 0, _ => 0
  | _ + 1, [] => 0
  | i + 1, c :: l => if c = 10 then 1 + feedL i l else 1 + feedL (i + 1) l
theorem feedL_zero (l : List UInt8) : feedL 0 l = 0 := by cases l <;> rfl
theorem nl_cons (c : UInt8) (l : List UInt8) : nl (c :: l) = nl l + if c = 10 then 1 else 0 := by
  unfold nl
  rw [List.count_cons]
  by_cases h : c = 10 <;> simp [h]
theorem feedL_le : ∀ (l : List UInt8) (i : Nat), i ≤ nl l → feedL i l ≤ l.length
  | [], i, _ => by cases i <;> simp [feedL]
  | c :: l, 0, _ => by simp [feedL]
  | c :: l, i + 1, h => by
    rw [nl_cons] at h
    unfold feedL
    by_cases hc : c = 10
    · rw [if_pos hc] at h ⊢
      have := feedL_le l i (by omega)
      simp only [List.length_cons]; omega
    · rw [if_neg hc] at h ⊢
      have := feedL_le l (i + 1) (by omega)
      simp only [List.length_cons]; omega
theorem feedL_app : ∀ (a b : List UInt8) (i : Nat), feedL i (a ++ b) = if i ≤ nl a then feedL i a else a.length + feedL (i - nl a) b
  | [], b, i => by
    have : nl [] = 0 := rfl
    rw [this]
    cases i with
    | zero => simp [feedL_zero]
    | succ i => simp
  | c :: a, b, 0 => by rw [if_pos (Nat.zero_le _)]; rfl
  | c :: a, b, i + 1 => by
    show feedL (i + 1) (c :: (a ++ b)) = _
    rw [nl_cons, List.length_cons]
    by_cases hc : c = 10
    · have e : ∀ l, feedL (i + 1) (c :: l) = 1 + feedL i l := fun l => by rw [feedL]; exact if_pos hc
      rw [if_pos hc, e, e, feedL_app a b i, Nat.add_sub_add_right]
      by_cases h : i ≤ nl a
      · rw [if_pos h, if_pos (by omega)]
      · rw [if_neg h, if_neg (by omega)]
        omega
    · have e : ∀ l, feedL (i + 1) (c :: l) = 1 + feedL (i + 1) l := fun l => by rw [feedL]; exact if_neg hc
      simp only [if_neg hc, Nat.add_zero]
      rw [e, e, feedL_app a b (i + 1)]
      by_cases h : i + 1 ≤ nl a
      · rw [if_pos h, if_pos (by omega)]
      · rw [if_neg h, if_neg (by omega)]
        omega
theorem indexNl : ∀ (l : List UInt8), 0 < nl l → Lib.indexByte l 10 + 1 = feedL 1 l
  | [], h => by simp [nl] at h
  | c :: l, h => by
    rw [nl_cons] at h
    by_cases hc : c = 10
    · rw [feedL, if_pos hc, feedL_zero]
      simp [Lib.indexByte, hc]
    · rw [if_neg hc] at h
      have ih := indexNl l (by omega)
      have h1 : 1 ≤ feedL 1 l := by
        cases l with
        | nil => simp [nl] at h
        | cons d l => rw [feedL]; split <;> omega
      rw [feedL, if_neg hc]
      unfold Lib.indexByte
      have hb : (c == 10) = false := by simpa using hc
      rw [hb, if_neg (by simp), if_neg (by simp; omega)]
      simp only [Nat.zero_add]
      omega
/-- one more -/
theorem feedL_step : ∀ (l : List UInt8) (i : Nat), i < nl l → feedL (i + 1) l = feedL i l + feedL 1 (l.drop (feedL i l))
  | l, 0, _ => by simp [feedL_zero]
  | [], i + 1, h => by simp [nl] at h
  | c :: l, i + 1, h => by
    rw [nl_cons] at h
    by_cases hc : c = 10
    · rw [if_pos hc] at h
      have ih := feedL_step l i (by omega)
      have e : ∀ j, feedL (j + 1) (c :: l) = 1 + feedL j l := fun j => by rw [feedL]; exact if_pos hc
      rw [e, e, ih, Nat.add_comm 1 (feedL i l), List.drop_succ_cons]
      omega
    · rw [if_neg hc] at h
      have ih := feedL_step l (i + 1) (by omega)
      have e : ∀ j, feedL (j + 1) (c :: l) = 1 + feedL (j + 1) l := fun j => by rw [feedL]; exact if_neg hc
      rw [e, e, ih, Nat.add_comm 1 (feedL (i + 1) l), List.drop_succ_cons]
      omega
theorem feedL_nl : ∀ (l : List UInt8) (i : Nat), i ≤ nl l → nl (l.drop (feedL i l)) = nl l - i
  | l, 0, _ => by rw [feedL_zero, List.drop_zero]; rfl
  | [], i + 1, h => by simp [nl] at h
  | c :: l, i + 1, h => by
    rw [nl_cons] at h ⊢
    by_cases hc : c = 10
    · rw [if_pos hc] at h ⊢
      have e : feedL (i + 1) (c :: l) = feedL i l + 1 := by rw [feedL, if_pos hc]; omega
      rw [e, List.drop_succ_cons, feedL_nl l i (by omega)]
      omega
    · rw [if_neg hc] at h ⊢
      have e : feedL (i + 1) (c :: l) = feedL (i + 1) l + 1 := by rw [feedL, if_neg hc]; omega
      rw [e, List.drop_succ_cons, feedL_nl l (i + 1) (by omega)]
      omega
end Go.Proofs.Ytjoeebjmjnddoaa
