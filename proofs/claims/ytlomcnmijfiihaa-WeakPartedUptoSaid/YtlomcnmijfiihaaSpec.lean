/- What the rules of layer 8 do, in plain lists of numbers. -/
import Derived.Test.YtlomcnmijfiihaaBase
namespace Go.Proofs.Ytlomcnmijfiihaa
def i8s (zs : List Int) : List Value := zs.map (Value.int .i8)
@[simp] theorem i8s_length (zs : List Int) : (i8s zs).length = zs.length := by simp [i8s]
def clsL (k : Int) : Int := if k < 0 ∨ 22 < k then 13 else k
def sosL (s : Int) : Int := if s = 1 then 1 else 0
def iso (o : Int) : Int := if o = 19 ∨ o = 20 ∨ o = 21 ∨ o = 22 then 13 else o
def fMarks (p z : Int) : Int × Int := (if z = 8 then p else z, iso (if z = 8 then p else z))
def fArabic (s z : Int) : Int × Int := if z = 0 ∨ z = 1 ∨ z = 2 then (z, z) else if z = 3 ∧ s = 2 then (6, s) else (z, s)
def fLetters (s z : Int) : Int × Int := (if z = 2 then 1 else z, s)
def fOthers (s z : Int) : Int × Int := (if z = 4 ∨ z = 5 ∨ z = 7 then 13 else z, s)
def fDigits (s z : Int) : Int × Int := if z = 0 ∨ z = 1 then (z, z) else if z = 3 ∧ s = 0 then (0, s) else (z, s)

/-- rule 4, of one place -/
def sepAt (zs : List Int) (i : Nat) : Int :=
  if 0 < i ∧ i + 1 < zs.length ∧ zs.getD (i - 1) 0 = zs.getD (i + 1) 0 ∧ ((zs.getD (i - 1) 0 = 3 ∧ (zs.getD i 0 = 4 ∨ zs.getD i 0 = 7)) ∨ (zs.getD (i - 1) 0 = 6 ∧ zs.getD i 0 = 7)) then zs.getD (i - 1) 0 else zs.getD i 0
def sepL (zs : List Int) : List Int := (List.range zs.length).map (sepAt zs)
@[simp] theorem sepL_length (zs : List Int) : (sepL zs).length = zs.length := by simp [sepL]
/-- in place it is the same: what was changed at the place ahead stands ahead of a digit -/
theorem sep_key (zs : List Int) (k : Nat) (hk : k + 2 < zs.length) :
    sepAt zs (k + 1) = if sepAt zs k = zs.getD (k + 2) 0 ∧ (sepAt zs k = 3 ∨ sepAt zs k = 6) ∧ (zs.getD (k + 1) 0 = 7 ∨ (zs.getD (k + 1) 0 = 4 ∧ sepAt zs k = 3)) then sepAt zs k else zs.getD (k + 1) 0 := by
  have e1 : sepAt zs (k + 1) = if zs.getD k 0 = zs.getD (k + 2) 0 ∧ ((zs.getD k 0 = 3 ∧ (zs.getD (k + 1) 0 = 4 ∨ zs.getD (k + 1) 0 = 7)) ∨ (zs.getD k 0 = 6 ∧ zs.getD (k + 1) 0 = 7)) then zs.getD k 0 else zs.getD (k + 1) 0 := by
    unfold sepAt
    simp [hk]
  have e2 : sepAt zs k = zs.getD k 0 ∨ ((sepAt zs k = 3 ∨ sepAt zs k = 6) ∧ zs.getD (k + 1) 0 = sepAt zs k) := by
    unfold sepAt
    split
    · rename_i h
      obtain ⟨h0, _, h1, h2⟩ := h
      right
      exact ⟨by omega, by omega⟩
    · left; rfl
  rw [e1]
  generalize sepAt zs k = A at *
  generalize zs.getD k 0 = a at *
  generalize zs.getD (k + 1) 0 = z at *
  generalize zs.getD (k + 2) 0 = b at *
  repeat' split
  all_goals omega
/-- behind rule 4 at all places below i -/
def SepTo (zs ys : List Int) (i : Nat) : Prop := ys.length = zs.length ∧ ∀ j, j < zs.length → ys.getD j 0 = if j < i then sepAt zs j else zs.getD j 0
theorem SepTo.start (zs : List Int) : SepTo zs zs 1 := by
  refine ⟨rfl, fun j _ => ?_⟩
  split
  · have : j = 0 := by omega
    subst this; simp [sepAt]
  · rfl
theorem getD_set (ys : List Int) (i j : Nat) (x : Int) (h : i < ys.length) : (ys.set i x).getD j 0 = if j = i then x else ys.getD j 0 := by
  simp only [List.getD_eq_getElem?_getD]
  by_cases e : j = i
  · subst e; simp [h]
  · rw [if_neg e, List.getElem?_set_ne (by omega)]
theorem SepTo.store {zs ys : List Int} {i : Nat} {x : Int} (h : SepTo zs ys i) (hi : i < zs.length) (hx : x = sepAt zs i) : SepTo zs (ys.set i x) (i + 1) := by
  refine ⟨by simpa using h.1, fun j hj => ?_⟩
  rw [getD_set _ _ _ _ (by rw [h.1]; exact hi), h.2 j hj]
  split
  · rename_i e; subst e; simp [hx]
  · repeat' split
    all_goals first | rfl | omega
theorem SepTo.skip {zs ys : List Int} {i : Nat} (h : SepTo zs ys i) (hi : i < zs.length) (hx : zs.getD i 0 = sepAt zs i) : SepTo zs ys (i + 1) := by
  refine ⟨h.1, fun j hj => ?_⟩
  rw [h.2 j hj]
  repeat' split
  all_goals first | rfl | omega | skip
  all_goals (have : j = i := by omega); subst this; omega
theorem ext_getD {a b : List Int} (hl : a.length = b.length) (h : ∀ j, j < b.length → a.getD j 0 = b.getD j 0) : a = b := by
  apply List.ext_getElem hl
  intro j h1 h2
  have := h j h2
  simpa [h1, h2] using this
theorem SepTo.done {zs ys : List Int} {i : Nat} (h : SepTo zs ys i) (hi : zs.length ≤ i + 1) : ys = sepL zs := by
  refine ext_getD (by rw [h.1]; simp) fun j hj => ?_
  have hj' : j < zs.length := by simpa using hj
  rw [h.2 j hj']
  have e : (sepL zs).getD j 0 = sepAt zs j := by simp [sepL, hj']
  rw [e]
  split
  · rfl
  · unfold sepAt
    rw [if_neg (by omega)]

/-- is the nearest that is no terminator, ahead of place i, a DirEN? -/
def ahd (zs : List Int) : Nat → Bool
  | 0 => false
  | i + 1 => if zs.getD i 0 = 5 then ahd zs i else zs.getD i 0 == 3
/-- and the nearest in a list? -/
def bhd : List Int → Bool
  | [] => false
  | z :: zs => if z = 5 then bhd zs else z == 3
/-- rule 5, of one place -/
def termAt (zs : List Int) (i : Nat) : Int := if zs.getD i 0 = 5 ∧ (ahd zs i = true ∨ bhd (zs.drop i) = true) then 3 else zs.getD i 0
def termL (zs : List Int) : List Int := (List.range zs.length).map (termAt zs)
@[simp] theorem termL_length (zs : List Int) : (termL zs).length = zs.length := by simp [termL]
theorem termL_getD (zs : List Int) (j : Nat) (hj : j < zs.length) : (termL zs).getD j 0 = termAt zs j := by simp [termL, hj]
theorem termAt_other {zs : List Int} {i : Nat} (h : zs.getD i 0 ≠ 5) : termAt zs i = zs.getD i 0 := by
  unfold termAt; rw [if_neg (by intro h2; exact h h2.1)]
/-- places from a on, below b, are all terminators -/
def Row5 (zs : List Int) (a b : Nat) : Prop := ∀ j, a ≤ j → j < b → zs.getD j 0 = 5
theorem ahd_row {zs : List Int} {a : Nat} (b : Nat) (hab : a ≤ b) (h : Row5 zs a b) : ahd zs b = ahd zs a := by
  induction b with
  | zero => have : a = 0 := by omega
            subst this; rfl
  | succ b ih =>
    by_cases e : a = b + 1
    · subst e; rfl
    · have e2 : ahd zs (b + 1) = if zs.getD b 0 = 5 then ahd zs b else zs.getD b 0 == 3 := rfl
      rw [e2, if_pos (h b (by omega) (by omega))]
      exact ih (by omega) (fun j h1 h2 => h j h1 (by omega))
theorem bhd_drop {zs : List Int} {i : Nat} (hi : i < zs.length) : bhd (zs.drop i) = if zs.getD i 0 = 5 then bhd (zs.drop (i + 1)) else zs.getD i 0 == 3 := by
  rw [List.drop_eq_getElem_cons hi]
  simp [bhd, hi]
theorem bhd_row {zs : List Int} {a b : Nat} (hb : b ≤ zs.length) (h : Row5 zs a b) : ∀ n i, i + n = b → a ≤ i → bhd (zs.drop i) = bhd (zs.drop b) := by
  intro n
  induction n with
  | zero => intro i hi _; rw [← hi, Nat.add_zero]
  | succ n ih =>
    intro i hi ha
    rw [bhd_drop (by omega), if_pos (h i ha (by omega))]
    exact ih (i + 1) (by omega) (by omega)
/-- a longest row of terminators from a to b: what it becomes -/
theorem termAt_row {zs : List Int} {a b : Nat} (hab : a < b) (hb : b ≤ zs.length) (h : Row5 zs a b) (h0 : a = 0 ∨ zs.getD (a - 1) 0 ≠ 5) (h1 : b = zs.length ∨ zs.getD b 0 ≠ 5) {j : Nat} (hj : a ≤ j) (hjb : j < b) :
    termAt zs j = if (0 < a ∧ zs.getD (a - 1) 0 = 3) ∨ (b < zs.length ∧ zs.getD b 0 = 3) then 3 else 5 := by
  have e1 : ahd zs j = true ↔ (0 < a ∧ zs.getD (a - 1) 0 = 3) := by
    rw [ahd_row j hj (fun k hk1 hk2 => h k hk1 (by omega))]
    rcases Nat.eq_zero_or_pos a with e | e
    · subst e; simp [ahd]
    · obtain ⟨a', rfl⟩ : ∃ a', a = a' + 1 := ⟨a - 1, by omega⟩
      have h0' : zs.getD a' 0 ≠ 5 := by
        rcases h0 with h0 | h0
        · omega
        · simpa using h0
      unfold ahd
      rw [if_neg h0']
      simp
  have e2 : bhd (zs.drop j) = true ↔ (b < zs.length ∧ zs.getD b 0 = 3) := by
    rw [bhd_row hb h (b - j) j (by omega) hj]
    rcases Nat.lt_or_ge b zs.length with hlt | hge
    · rw [bhd_drop hlt, if_neg (by rcases h1 with h1 | h1; (· omega); (· exact h1))]
      simp [hlt]
    · rw [List.drop_eq_nil_of_le hge]
      simp [bhd]; omega
  unfold termAt
  simp only [e1, e2, h j hj hjb, true_and]
/-- behind rule 5 at all places below i -/
def TermTo (zs ys : List Int) (i : Nat) : Prop := ys.length = zs.length ∧ ∀ j, j < zs.length → ys.getD j 0 = if j < i then termAt zs j else zs.getD j 0
theorem TermTo.start (zs : List Int) : TermTo zs zs 0 := ⟨rfl, fun j _ => by rw [if_neg (by omega)]⟩
theorem TermTo.store {zs ys : List Int} {i : Nat} {x : Int} (h : TermTo zs ys i) (hi : i < zs.length) (hx : x = termAt zs i) : TermTo zs (ys.set i x) (i + 1) := by
  refine ⟨by simpa using h.1, fun j hj => ?_⟩
  rw [getD_set _ _ _ _ (by rw [h.1]; exact hi), h.2 j hj]
  split
  · rename_i e; subst e; simp [hx]
  · repeat' split
    all_goals first | rfl | omega
theorem TermTo.skip {zs ys : List Int} {i : Nat} (h : TermTo zs ys i) (hx : zs.getD i 0 = termAt zs i) : TermTo zs ys (i + 1) := by
  refine ⟨h.1, fun j hj => ?_⟩
  rw [h.2 j hj]
  repeat' split
  all_goals first | rfl | omega | skip
  all_goals (have : j = i := by omega); subst this; omega
theorem TermTo.skips {zs ys : List Int} {i : Nat} (h : TermTo zs ys i) : ∀ m, i ≤ m → (∀ j, i ≤ j → j < m → zs.getD j 0 = termAt zs j) → TermTo zs ys m := by
  intro m
  induction m with
  | zero => intro hm _; have : i = 0 := by omega
            subst this; exact h
  | succ m ih =>
    intro hm hx
    by_cases e : i = m + 1
    · subst e; exact h
    · exact (ih (by omega) (fun j h1 h2 => hx j h1 (by omega))).skip (hx m (by omega) (by omega))
theorem TermTo.done {zs ys : List Int} (h : TermTo zs ys zs.length) : ys = termL zs := by
  refine ext_getD (by rw [h.1]; simp) fun j hj => ?_
  have hj' : j < zs.length := by simpa using hj
  rw [h.2 j hj', if_pos hj', termL_getD zs j hj']

/-- what rule n makes of a list of classes, the direction ahead being s (0 or 1); another number: nothing -/
def ruleL (n : Int) (zs : List Int) (s : Int) : List Int :=
  if n = 1 then (scan fMarks s zs).1 else if n = 2 then (scan fArabic s zs).1 else if n = 3 then (scan fLetters s zs).1 else if n = 4 then sepL zs
  else if n = 5 then termL zs else if n = 6 then (scan fOthers s zs).1 else if n = 7 then (scan fDigits s zs).1 else zs
theorem ruleL_length (n : Int) (zs : List Int) (s : Int) : (ruleL n zs s).length = zs.length := by
  unfold ruleL
  repeat' split
  all_goals simp [scan_length]
def stepL (n : Int) (zs : List Int) (s : Int) : List Int := ruleL n (zs.map clsL) (sosL s)
def resolveL (zs : List Int) (s : Int) : List Int := ruleL 7 (ruleL 6 (ruleL 5 (ruleL 4 (ruleL 3 (ruleL 2 (ruleL 1 (zs.map clsL) (sosL s)) (sosL s)) (sosL s)) (sosL s)) (sosL s)) (sosL s)) (sosL s)
@[simp] theorem stepL_length (n : Int) (zs : List Int) (s : Int) : (stepL n zs s).length = zs.length := by simp [stepL, ruleL_length]
@[simp] theorem resolveL_length (zs : List Int) (s : Int) : (resolveL zs s).length = zs.length := by simp [resolveL, ruleL_length]
end Go.Proofs.Ytlomcnmijfiihaa
