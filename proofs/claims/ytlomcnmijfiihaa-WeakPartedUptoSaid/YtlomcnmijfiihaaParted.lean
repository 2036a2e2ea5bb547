/- layer 8 in plain lists: parted ahead of a strong class it is done part by part. -/
import Derived.Test.YtlomcnmijfiihaaLaws
namespace Go.Proofs.Ytlomcnmijfiihaa
theorem scan_parted {f : Int → Int → Int × Int} (a b : List Int) (st s more : Int) (h : ∀ x y, f x st = f y st) : (scan f s (a ++ st :: b)).1 = (scan f s a).1 ++ (scan f more (st :: b)).1 := by
  rw [scan_append]
  simp only [scan]
  rw [h _ more]
theorem getD_app1 (a c : List Int) (i : Nat) (h : i < a.length) : (a ++ c).getD i 0 = a.getD i 0 := by simp [List.getElem?_append, h]
theorem getD_app2 (a c : List Int) (i : Nat) : (a ++ c).getD (a.length + i) 0 = c.getD i 0 := by
  simp only [List.getD_eq_getElem?_getD]
  rw [List.getElem?_append_right (by omega), Nat.add_sub_cancel_left]
theorem ahd_prefix (a c : List Int) : ∀ j, j ≤ a.length → ahd (a ++ c) j = ahd a j := by
  intro j
  induction j with
  | zero => intro _; rfl
  | succ j ih =>
    intro h
    have e1 : ahd (a ++ c) (j + 1) = if (a ++ c).getD j 0 = 5 then ahd (a ++ c) j else (a ++ c).getD j 0 == 3 := rfl
    have e2 : ahd a (j + 1) = if a.getD j 0 = 5 then ahd a j else a.getD j 0 == 3 := rfl
    rw [e1, e2, getD_app1 a c j (by omega), ih (by omega)]
theorem ahd_behind (a b : List Int) (st : Int) (h : st ≠ 5) : ∀ j, ahd (a ++ st :: b) (a.length + (j + 1)) = ahd (st :: b) (j + 1) := by
  intro j
  induction j with
  | zero =>
    have e1 : ahd (a ++ st :: b) (a.length + 0 + 1) = if (a ++ st :: b).getD (a.length + 0) 0 = 5 then ahd (a ++ st :: b) (a.length + 0) else (a ++ st :: b).getD (a.length + 0) 0 == 3 := rfl
    have e2 : ahd (st :: b) (0 + 1) = if (st :: b).getD 0 0 = 5 then ahd (st :: b) 0 else (st :: b).getD 0 0 == 3 := rfl
    rw [← Nat.add_assoc, e1, e2, getD_app2]
    have : (st :: b).getD 0 0 = st := rfl
    rw [this, if_neg h, if_neg h]
  | succ j ih =>
    have e1 : ahd (a ++ st :: b) (a.length + (j + 1) + 1) = if (a ++ st :: b).getD (a.length + (j + 1)) 0 = 5 then ahd (a ++ st :: b) (a.length + (j + 1)) else (a ++ st :: b).getD (a.length + (j + 1)) 0 == 3 := rfl
    have e2 : ahd (st :: b) (j + 1 + 1) = if (st :: b).getD (j + 1) 0 = 5 then ahd (st :: b) (j + 1) else (st :: b).getD (j + 1) 0 == 3 := rfl
    rw [← Nat.add_assoc, e1, e2, getD_app2, ih]
theorem bhd_app (x b : List Int) (st : Int) (h : st ≠ 5 ∧ st ≠ 3) : bhd (x ++ st :: b) = bhd x := by
  induction x with
  | nil => simp [bhd, h]
  | cons z x ih => simp [bhd, ih]
theorem termL_parted (a b : List Int) (st : Int) (h : st = 0 ∨ st = 1 ∨ st = 2) : termL (a ++ st :: b) = termL a ++ termL (st :: b) := by
  refine ext_getD (by simp) fun j hj => ?_
  have hj' : j < (a ++ st :: b).length := by simpa using hj
  rw [termL_getD _ _ hj']
  rcases Nat.lt_or_ge j a.length with hlt | hge
  · rw [getD_app1 _ _ _ (by simpa using hlt), termL_getD _ _ hlt]
    unfold termAt
    rw [getD_app1 _ _ _ hlt, ahd_prefix _ _ _ (by omega), List.drop_append_of_le_length (by omega), bhd_app _ _ _ (by omega)]
  · obtain ⟨i, rfl⟩ : ∃ i, j = a.length + i := ⟨j - a.length, by omega⟩
    have hl : a.length = (termL a).length := by simp
    have hi : i < (st :: b).length := by simp at hj' ⊢; omega
    rw [show (termL a ++ termL (st :: b)).getD (a.length + i) 0 = (termL (st :: b)).getD i 0 from by rw [hl, getD_app2], termL_getD _ _ hi]
    have e : (a ++ st :: b).getD (a.length + i) 0 = (st :: b).getD i 0 := getD_app2 _ _ _
    cases i with
    | zero =>
      have e0 : (st :: b).getD 0 0 = st := rfl
      rw [termAt_other (by rw [e, e0]; omega), termAt_other (by rw [e0]; omega), e]
    | succ i =>
      unfold termAt
      rw [e, ahd_behind _ _ _ (by omega), List.drop_append, List.drop_eq_nil_of_le (by omega), List.nil_append, Nat.add_sub_cancel_left]
theorem sepL_parted (a b : List Int) (st : Int) (h : st = 0 ∨ st = 1 ∨ st = 2) : sepL (a ++ st :: b) = sepL a ++ sepL (st :: b) := by
  refine ext_getD (by simp) fun j hj => ?_
  have hj' : j < (a ++ st :: b).length := by simpa using hj
  rw [sepL_getD _ _ hj']
  rcases Nat.lt_or_ge j a.length with hlt | hge
  · rw [getD_app1 _ _ _ (by simpa using hlt), sepL_getD _ _ hlt]
    unfold sepAt
    rw [getD_app1 a (st :: b) j hlt, getD_app1 a (st :: b) (j - 1) (by omega)]
    rcases Nat.lt_or_ge (j + 1) a.length with h1 | h1
    · rw [getD_app1 a (st :: b) (j + 1) h1]
      simp only [h1, show j + 1 < (a ++ st :: b).length from by simp; omega]
    · have e : j + 1 = a.length + 0 := by omega
      rw [e, getD_app2]
      have e0 : (st :: b).getD 0 0 = st := rfl
      rw [e0, if_neg (by omega), if_neg (by omega)]
  · obtain ⟨i, rfl⟩ : ∃ i, j = a.length + i := ⟨j - a.length, by omega⟩
    have hl : a.length = (sepL a).length := by simp
    have hi : i < (st :: b).length := by simp at hj' ⊢; omega
    rw [show (sepL a ++ sepL (st :: b)).getD (a.length + i) 0 = (sepL (st :: b)).getD i 0 from by rw [hl, getD_app2], sepL_getD _ _ hi]
    have e : (a ++ st :: b).getD (a.length + i) 0 = (st :: b).getD i 0 := getD_app2 _ _ _
    have e1 : (a ++ st :: b).getD (a.length + i + 1) 0 = (st :: b).getD (i + 1) 0 := getD_app2 _ _ (i + 1)
    cases i with
    | zero =>
      have e0 : (st :: b).getD 0 0 = st := rfl
      unfold sepAt
      rw [e, e0, if_neg (by omega), if_neg (by omega)]
    | succ i =>
      have e2 : (a ++ st :: b).getD (a.length + (i + 1) - 1) 0 = (st :: b).getD i 0 := by
        rw [show a.length + (i + 1) - 1 = a.length + i from by omega]; exact getD_app2 _ _ _
      unfold sepAt
      rw [e, e1, e2]
      have c1 : (0 < a.length + (i + 1)) = True := by simp only [eq_iff_iff, iff_true]; omega
      have c2 : (0 < i + 1) = True := by simp
      have c3 : (a.length + (i + 1) + 1 < (a ++ st :: b).length) = (i + 1 + 1 < (st :: b).length) := by
        simp only [List.length_append, eq_iff_iff]; omega
      simp only [c1, c2, c3, Nat.add_sub_cancel]
theorem ruleL_parted (n : Int) (a b : List Int) (st s more : Int) (h : st = 0 ∨ st = 1 ∨ st = 2) (h7 : n = 7 → st ≠ 2) : ruleL n (a ++ st :: b) s = ruleL n a s ++ ruleL n (st :: b) more := by
  unfold ruleL
  by_cases e1 : n = 1
  · simp only [e1, if_true]; exact scan_parted a b st s more fun x y => by simp only [fMarks]; rw [if_neg (by omega), if_neg (by omega)]
  by_cases e2 : n = 2
  · simp only [e2, Int.reduceEq, if_true, if_false]; exact scan_parted a b st s more fun x y => by simp only [fArabic]; rw [if_pos h, if_pos h]
  by_cases e3 : n = 3
  · simp only [e3, Int.reduceEq, if_true, if_false]
    rw [scan_map (g := fun z => if z = 2 then 1 else z) (fun _ _ => rfl), scan_map (g := fun z => if z = 2 then 1 else z) (fun _ _ => rfl), scan_map (g := fun z => if z = 2 then 1 else z) (fun _ _ => rfl), List.map_append]
  by_cases e4 : n = 4
  · simp only [e4, Int.reduceEq, if_true, if_false]; exact sepL_parted a b st h
  by_cases e5 : n = 5
  · simp only [e5, Int.reduceEq, if_true, if_false]; exact termL_parted a b st h
  by_cases e6 : n = 6
  · simp only [e6, Int.reduceEq, if_true, if_false]
    rw [scan_map (g := fun z => if z = 4 ∨ z = 5 ∨ z = 7 then 13 else z) (fun _ _ => rfl), scan_map (g := fun z => if z = 4 ∨ z = 5 ∨ z = 7 then 13 else z) (fun _ _ => rfl), scan_map (g := fun z => if z = 4 ∨ z = 5 ∨ z = 7 then 13 else z) (fun _ _ => rfl), List.map_append]
  by_cases e7 : n = 7
  · simp only [e7, Int.reduceEq, if_true, if_false]; exact scan_parted a b st s more fun x y => by simp only [fDigits]; rw [if_pos (by have := h7 e7; omega), if_pos (by have := h7 e7; omega)]
  simp only [e1, e2, e3, e4, e5, e6, e7, if_false]
theorem cons_of_getD {l : List Int} {x : Int} {n : Nat} (hl : l.length = n + 1) (h : l.getD 0 0 = x) : ∃ r, l = x :: r := by
  cases l with
  | nil => simp at hl
  | cons y r => exact ⟨r, by simp at h; rw [h]⟩
theorem ruleL_head (n : Int) (b : List Int) (st more : Int) (h : st = 0 ∨ st = 1 ∨ st = 2) : ∃ st' r, ruleL n (st :: b) more = st' :: r ∧ (st' = 0 ∨ st' = 1 ∨ st' = 2) ∧ (n = 3 ∨ st ≠ 2 → st' ≠ 2) := by
  by_cases hs : st = 2
  · subst hs
    by_cases e3 : n = 3
    · subst e3
      exact ⟨1, _, rfl, by omega, by omega⟩
    · have e : (ruleL n (2 :: b) more).getD 0 0 = 2 := by
        unfold ruleL
        repeat' split
        all_goals first | rfl | (exfalso; omega) | skip
        · rw [sepL_getD _ _ (by simp)]; simp [sepAt]
        · rw [termL_getD _ _ (by simp)]; exact termAt_other (by simp)
        all_goals simp_all [scan, fMarks, fArabic, fOthers, fDigits]
      obtain ⟨r, hr⟩ := cons_of_getD (n := b.length) (by simp [ruleL_length]) e
      exact ⟨2, r, hr, by omega, by omega⟩
  · have e := ruleL_stays n (st :: b) more 0 (by simp) (by rw [staysB_iff]; simp; omega)
    obtain ⟨r, hr⟩ := cons_of_getD (n := b.length) (by simp [ruleL_length]) e
    exact ⟨st, r, hr, h, fun _ => hs⟩
theorem resolveL_parted (a b : List Int) (st s more : Int) (h : st = 0 ∨ st = 1 ∨ st = 2) : resolveL (a ++ st :: b) s = resolveL a s ++ resolveL (st :: b) more := by
  unfold resolveL
  have hc : clsL st = st := clsL_id (by omega)
  simp only [List.map_append, List.map_cons, hc]
  generalize a.map clsL = a at *
  generalize b.map clsL = b at *
  generalize sosL s = s at *
  generalize sosL more = m at *
  obtain ⟨s1, r1, e1, h1, -⟩ := ruleL_head 1 b st m h
  rw [ruleL_parted 1 a b st s m h (by omega), e1]
  obtain ⟨s2, r2, e2, h2, -⟩ := ruleL_head 2 r1 s1 m h1
  rw [ruleL_parted 2 _ r1 s1 s m h1 (by omega), e2]
  obtain ⟨s3, r3, e3, h3, k3⟩ := ruleL_head 3 r2 s2 m h2
  rw [ruleL_parted 3 _ r2 s2 s m h2 (by omega), e3]
  obtain ⟨s4, r4, e4, h4, k4⟩ := ruleL_head 4 r3 s3 m h3
  rw [ruleL_parted 4 _ r3 s3 s m h3 (by omega), e4]
  obtain ⟨s5, r5, e5, h5, k5⟩ := ruleL_head 5 r4 s4 m h4
  rw [ruleL_parted 5 _ r4 s4 s m h4 (by omega), e5]
  obtain ⟨s6, r6, e6, h6, k6⟩ := ruleL_head 6 r5 s5 m h5
  rw [ruleL_parted 6 _ r5 s5 s m h5 (by omega), e6]
  rw [ruleL_parted 7 _ r6 s6 s m h6 (fun _ => k6 (.inr (k5 (.inr (k4 (.inr (k3 (.inl rfl))))))))]
end Go.Proofs.Ytlomcnmijfiihaa
