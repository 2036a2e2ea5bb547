/- layer 7 in plain lists. -/
import Derived.Test.YtikgjnfimagpjaaInts
namespace Go.Proofs.Ytikgjnfimagpjaa
def clsL (k : Int) : Int := if k < 0 ∨ 22 < k then 13 else k
def opensB (d : Int) : Bool := decide (19 ≤ d) && decide (d ≤ 21)
def leftB (d : Int) : Bool := d == 9 || (decide (14 ≤ d) && decide (d ≤ 18))
theorem opensB_iff (d : Int) : opensB d = true ↔ 19 ≤ d ∧ d ≤ 21 := by simp [opensB]
theorem leftB_iff (d : Int) : leftB d = true ↔ d = 9 ∨ (14 ≤ d ∧ d ≤ 18) := by simp [leftB]
theorem clsL_range (z : Int) : 0 ≤ clsL z ∧ clsL z ≤ 22 := by unfold clsL; split <;> omega
theorem clsL_twice (z : Int) : clsL (clsL z) = clsL z := by
  have := clsL_range z
  generalize clsL z = d at *
  unfold clsL; rw [if_neg (by omega)]
/-- the first strong one of a stretch, 'deep' isolates being open; 13: none up to a PDI that ends nothing -/
def firstL : Nat → List Int → Int
  | _, [] => 13
  | deep, z :: zs =>
    if opensB (clsL z) = true then firstL (deep + 1) zs
    else if clsL z = 22 then (if 0 < deep then firstL (deep - 1) zs else 13)
    else if clsL z = 10 then 13
    else if deep = 0 ∧ (clsL z = 0 ∨ clsL z = 1 ∨ clsL z = 2) then clsL z
    else firstL deep zs
/-- the place behind the first PDI that ends nothing, 'deep' isolates being open, place i on; -1: none -/
def afterL : Nat → Nat → List Int → Int
  | _, _, [] => -1
  | deep, i, z :: zs =>
    if opensB (clsL z) = true then afterL (deep + 1) (i + 1) zs
    else if clsL z = 22 then (if deep = 0 then (i : Int) + 1 else afterL (deep - 1) (i + 1) zs)
    else if clsL z = 10 then -1
    else afterL deep (i + 1) zs
/-- does the first strong one of a paragraph run from right to left? 'deep' isolates being open -/
def strongP : Nat → List Int → Int
  | _, [] => 0
  | deep, z :: zs =>
    if opensB (clsL z) = true then strongP (deep + 1) zs
    else if clsL z = 22 then strongP (deep - 1) zs
    else if clsL z = 10 then 0
    else if deep = 0 ∧ (clsL z = 0 ∨ clsL z = 1 ∨ clsL z = 2) then (if clsL z = 0 then 0 else 1)
    else strongP deep zs
theorem firstL_cons (deep : Nat) (z : Int) (zs : List Int) : firstL deep (z :: zs) = if opensB (clsL z) = true then firstL (deep + 1) zs else if clsL z = 22 then (if 0 < deep then firstL (deep - 1) zs else 13) else if clsL z = 10 then 13
    else if deep = 0 ∧ (clsL z = 0 ∨ clsL z = 1 ∨ clsL z = 2) then clsL z else firstL deep zs := rfl
theorem afterL_cons (deep i : Nat) (z : Int) (zs : List Int) : afterL deep i (z :: zs) = if opensB (clsL z) = true then afterL (deep + 1) (i + 1) zs else if clsL z = 22 then (if deep = 0 then (i : Int) + 1 else afterL (deep - 1) (i + 1) zs) else if clsL z = 10 then -1
    else afterL deep (i + 1) zs := rfl
theorem strongP_cons (deep : Nat) (z : Int) (zs : List Int) : strongP deep (z :: zs) = if opensB (clsL z) = true then strongP (deep + 1) zs else if clsL z = 22 then strongP (deep - 1) zs else if clsL z = 10 then 0
    else if deep = 0 ∧ (clsL z = 0 ∨ clsL z = 1 ∨ clsL z = 2) then (if clsL z = 0 then 0 else 1) else strongP deep zs := rfl
theorem afterL_ge : ∀ (zs : List Int) (deep i : Nat), afterL deep i zs = -1 ∨ ((i : Int) < afterL deep i zs ∧ afterL deep i zs ≤ i + zs.length)
  | [], _, _ => .inl rfl
  | z :: zs, deep, i => by
    unfold afterL
    have h1 := afterL_ge zs (deep + 1) (i + 1)
    have h2 := afterL_ge zs (deep - 1) (i + 1)
    have h3 := afterL_ge zs deep (i + 1)
    simp only [List.length_cons]
    repeat' split
    all_goals first | omega | (left; rfl)
/-- where a first strong one is found, it is the paragraph's -/
theorem strongP_first : ∀ (zs : List Int) (deep : Nat), firstL deep zs ≠ 13 → strongP deep zs = if firstL deep zs = 0 then 0 else 1
  | [], _, h => absurd rfl h
  | z :: zs, deep, h => by
    unfold firstL strongP at *
    by_cases h1 : opensB (clsL z) = true
    · simp only [if_pos h1] at *; exact strongP_first zs _ h
    simp only [if_neg h1] at *
    by_cases h2 : clsL z = 22
    · simp only [if_pos h2] at *
      by_cases h3 : 0 < deep
      · simp only [if_pos h3] at *; exact strongP_first zs _ h
      · simp only [if_neg h3] at h; exact absurd rfl h
    simp only [if_neg h2] at *
    by_cases h4 : clsL z = 10
    · simp only [if_pos h4] at h; exact absurd rfl h
    simp only [if_neg h4] at *
    by_cases h5 : deep = 0 ∧ (clsL z = 0 ∨ clsL z = 1 ∨ clsL z = 2)
    · simp only [if_pos h5]
    · simp only [if_neg h5] at *; exact strongP_first zs _ h
/-- where none is found, one goes on behind the PDI that ends nothing -/
theorem strongP_after : ∀ (zs : List Int) (deep i : Nat), firstL deep zs = 13 → strongP deep zs = if afterL deep i zs < 0 then 0 else strongP 0 (zs.drop ((afterL deep i zs).toNat - i))
  | [], _, _, _ => by simp [strongP, afterL]
  | z :: zs, deep, i, h => by
    have step : ∀ d, afterL d (i + 1) zs = -1 ∨ ((z :: zs).drop ((afterL d (i + 1) zs).toNat - i) = zs.drop ((afterL d (i + 1) zs).toNat - (i + 1))) := fun d => by
      rcases afterL_ge zs d (i + 1) with h | h
      · exact .inl h
      · right
        obtain ⟨m, hm⟩ : ∃ m, (afterL d (i + 1) zs).toNat - i = m + 1 := ⟨(afterL d (i + 1) zs).toNat - i - 1, by omega⟩
        rw [hm, List.drop_succ_cons]
        congr 1; omega
    have fin : ∀ d, firstL d zs = 13 → strongP d zs = if afterL d (i + 1) zs < 0 then 0 else strongP 0 ((z :: zs).drop ((afterL d (i + 1) zs).toNat - i)) := fun d hd => by
      rw [strongP_after zs d (i + 1) hd]
      rcases step d with h | h
      · rw [h]; simp
      · rw [h]
    rw [firstL_cons] at h
    rw [strongP_cons, afterL_cons]
    by_cases h1 : opensB (clsL z) = true
    · simp only [if_pos h1] at *; exact fin _ h
    simp only [if_neg h1] at *
    by_cases h2 : clsL z = 22
    · simp only [if_pos h2] at *
      by_cases h3 : 0 < deep
      · simp only [if_pos h3] at h
        rw [if_neg (by omega : ¬ deep = 0)]
        exact fin _ h
      · have : deep = 0 := by omega
        subst this
        simp only [if_true]
        rw [if_neg (by omega)]
        have e : ((i : Int) + 1).toNat - i = 1 := by omega
        rw [e]
        rfl
    simp only [if_neg h2] at *
    by_cases h4 : clsL z = 10
    · simp only [if_pos h4]; simp
    simp only [if_neg h4] at *
    by_cases h5 : deep = 0 ∧ (clsL z = 0 ∨ clsL z = 1 ∨ clsL z = 2)
    · simp only [if_pos h5] at h; omega
    · simp only [if_neg h5] at *; exact fin _ h
end Go.Proofs.Ytikgjnfimagpjaa
