/- package level: plain laws: the document's base is the code's. -/
import Derived.Test.YtikgjnfimagpjaaLplain1
namespace Go.Proofs.Ytikgjnfimagpjaa
theorem open_gen (F : Nat → List Int → Int) (bad : Int) (hnil : ∀ d, F (d + 1) [] = bad)
    (hcons : ∀ d z zs, F (d + 1) (z :: zs) = if opensB (clsL z) = true then F (d + 2) zs else if clsL z = 22 then F d zs else if clsL z = 10 then bad else F (d + 1) zs) :
    ∀ (zs : List Int) (d i : Nat), F (d + 1) zs = if afterL d i zs < 0 then bad else F 0 (zs.drop ((afterL d i zs).toNat - i))
  | [], d, i => by rw [hnil, if_pos (show afterL d i [] < 0 from show (-1 : Int) < 0 by decide)]
  | z :: zs, d, i => by
    have step : ∀ e, (if afterL e (i + 1) zs < 0 then bad else F 0 (zs.drop ((afterL e (i + 1) zs).toNat - (i + 1)))) = (if afterL e (i + 1) zs < 0 then bad else F 0 ((z :: zs).drop ((afterL e (i + 1) zs).toNat - i))) := fun e => by
      rcases afterL_ge zs e (i + 1) with h | h
      · rw [if_pos (by omega), if_pos (by omega)]
      · obtain ⟨m, hm⟩ : ∃ m, (afterL e (i + 1) zs).toNat - i = m + 1 := ⟨(afterL e (i + 1) zs).toNat - i - 1, by omega⟩
        rw [if_neg (by omega), if_neg (by omega), hm, List.drop_succ_cons, show (afterL e (i + 1) zs).toNat - (i + 1) = m by omega]
    rw [hcons, afterL_cons]
    by_cases h1 : opensB (clsL z) = true
    · simp only [if_pos h1]
      rw [open_gen F bad hnil hcons zs (d + 1) (i + 1)]
      exact step (d + 1)
    simp only [if_neg h1]
    by_cases h2 : clsL z = 22
    · simp only [if_pos h2]
      cases d with
      | zero =>
        rw [if_pos (rfl : 0 = 0), if_neg (show ¬ (i : Int) + 1 < 0 by omega)]
        rw [show ((i : Int) + 1).toNat - i = 0 + 1 by omega, List.drop_succ_cons, List.drop_zero]
      | succ d =>
        rw [if_neg (show ¬ d + 1 = 0 by omega), Nat.add_sub_cancel, open_gen F bad hnil hcons zs d (i + 1)]
        exact step d
    simp only [if_neg h2]
    by_cases h3 : clsL z = 10
    · simp only [if_pos h3]
      rw [if_pos (by decide)]
    simp only [if_neg h3]
    rw [open_gen F bad hnil hcons zs d (i + 1)]
    exact step d
theorem strongP_open (zs : List Int) (d i : Nat) : strongP (d + 1) zs = if afterL d i zs < 0 then 0 else strongP 0 (zs.drop ((afterL d i zs).toNat - i)) :=
  open_gen strongP 0 (fun _ => rfl) (fun d z zs => by rw [strongP_cons, show d + 1 - 1 = d by omega, if_neg (c := d + 1 = 0 ∧ _) (by omega)]) zs d i
theorem firstL_open (zs : List Int) (d i : Nat) : firstL (d + 1) zs = if afterL d i zs < 0 then 13 else firstL 0 (zs.drop ((afterL d i zs).toNat - i)) :=
  open_gen firstL 13 (fun _ => rfl) (fun d z zs => by rw [firstL_cons, show d + 1 - 1 = d by omega, if_pos (c := 0 < d + 1) (by omega), if_neg (c := d + 1 = 0 ∧ _) (by omega)]) zs d i
/-- the document's 'strong', with a bound on its rounds -/
def strongR (l pr : List Int) (to : Nat) : Nat → Nat → Bool
  | 0, _ => false
  | f + 1, i =>
    if to ≤ i then false
    else if l.getD i 0 = 0 then false
    else if l.getD i 0 = 1 ∨ l.getD i 0 = 2 then true
    else if opensB (l.getD i 0) = true then (if pr.getD i 0 < 0 then false else strongR l pr to f ((pr.getD i 0).toNat + 1))
    else strongR l pr to f (i + 1)
/-- where the paragraph that begins at place i ends -/
def paraE : Nat → List Int → Nat
  | i, [] => i
  | i, z :: zs => if z = 10 then i + 1 else paraE (i + 1) zs
theorem paraE_ge : ∀ (zs : List Int) (i : Nat), i ≤ paraE i zs ∧ paraE i zs ≤ i + zs.length
  | [], i => ⟨Nat.le_refl _, Nat.le_refl _⟩
  | z :: zs, i => by
    unfold paraE
    have := paraE_ge zs (i + 1)
    simp only [List.length_cons]
    split <;> omega
theorem opens_class {d : Int} (h : opensB d = true) : d ≠ 0 ∧ d ≠ 1 ∧ d ≠ 2 ∧ d ≠ 22 ∧ d ≠ 10 := by
  have := (opensB_iff d).1 h
  omega
theorem strongR_base (l : List Int) (hc : ∀ i, i < l.length → clsL (l.getD i 0) = l.getD i 0) (hB : ∀ i, i < l.length → l.getD i 0 = 10 → i + 1 = l.length) :
    ∀ (f j : Nat), l.length - j < f → strongR l (pairsL l) l.length f j = decide (strongP 0 (l.drop j) = 1)
  | 0, j, h => by omega
  | f + 1, j, h => by
    unfold strongR
    by_cases hj : l.length ≤ j
    · rw [if_pos hj, List.drop_eq_nil_of_le hj]
      rfl
    rw [if_neg hj, drop_cons l j (by omega), strongP_cons, hc j (by omega)]
    have IH := fun k (hk : j < k) => strongR_base l hc hB f k (by omega)
    have hp := fun ho => pairsL_open l j (by omega) ho
    rw [hc j (by omega)] at hp
    obtain ⟨d, hd⟩ : ∃ d, d = l.getD j 0 := ⟨_, rfl⟩
    have hBj := hB j (by omega)
    rw [← hd] at hp hBj ⊢
    clear hd
    by_cases h1 : opensB d = true
    · have hcl := opens_class h1
      rw [if_pos h1, if_neg hcl.1, if_neg (show ¬ (d = 1 ∨ d = 2) by omega), if_pos h1, strongP_open _ 0 (j + 1)]
      rcases afterL_ge (l.drop (j + 1)) 0 (j + 1) with hneg | hpos
      · have hneg' : afterL 0 (j + 1) (l.drop (j + 1)) < 0 := by omega
        rw [hp h1, if_pos hneg', if_pos hneg', if_pos (show (-1 : Int) < 0 by decide)]
        rfl
      · have hneg' : ¬ afterL 0 (j + 1) (l.drop (j + 1)) < 0 := by omega
        rw [hp h1, if_neg hneg', if_neg hneg', if_neg (show ¬ afterL 0 (j + 1) (l.drop (j + 1)) - 1 < 0 by omega)]
        obtain ⟨q, hq⟩ : ∃ q : Nat, afterL 0 (j + 1) (l.drop (j + 1)) = q + 1 := ⟨(afterL 0 (j + 1) (l.drop (j + 1))).toNat - 1, by omega⟩
        rw [hq, show ((q : Int) + 1 - 1).toNat + 1 = q + 1 by omega, IH (q + 1) (by omega), List.drop_drop, show j + 1 + (((q : Int) + 1).toNat - (j + 1)) = q + 1 by omega]
    rw [if_neg h1]
    by_cases h0 : d = 0
    · subst h0
      rw [if_neg (show ¬ opensB 0 = true by decide), if_pos (rfl : (0 : Int) = 0), if_neg (show ¬ (0 : Int) = 22 by decide), if_neg (show ¬ (0 : Int) = 10 by decide), if_pos (show 0 = 0 ∧ ((0 : Int) = 0 ∨ (0 : Int) = 1 ∨ (0 : Int) = 2) from ⟨rfl, .inl rfl⟩), if_pos (rfl : (0 : Int) = 0)]
      rfl
    rw [if_neg h0]
    by_cases h12 : d = 1 ∨ d = 2
    · rw [if_pos h12, if_neg h1, if_neg (show ¬ d = 22 by omega), if_neg (show ¬ d = 10 by omega), if_pos (show 0 = 0 ∧ (d = 0 ∨ d = 1 ∨ d = 2) from ⟨rfl, by omega⟩), if_neg h0]
      rfl
    rw [if_neg h12, if_neg h1, IH (j + 1) (by omega)]
    by_cases h22 : d = 22
    · rw [if_pos h22]
    rw [if_neg h22]
    by_cases h10 : d = 10
    · rw [if_pos h10, List.drop_eq_nil_of_le (by have := hBj h10; omega)]
      rfl
    rw [if_neg h10, if_neg (show ¬ (0 = 0 ∧ (d = 0 ∨ d = 1 ∨ d = 2)) by omega)]
/-- the paragraph alone counts -/
theorem strongP_para : ∀ (zs : List Int) (d : Nat), strongP d ((zs.map clsL).take (paraE 0 (zs.map clsL))) = strongP d zs := by
  have key : ∀ (zs : List Int) (d i : Nat), strongP d ((zs.map clsL).take (paraE i (zs.map clsL) - i)) = strongP d zs := by
    intro zs
    induction zs with
    | nil => intro d i; simp
    | cons z zs ih =>
      intro d i
      rw [List.map_cons]
      unfold paraE
      by_cases h10 : clsL z = 10
      · rw [if_pos h10, show i + 1 - i = 0 + 1 by omega, List.take_succ_cons, strongP_cons, strongP_cons, clsL_twice]
        have : ¬ opensB (clsL z) = true := by rw [h10]; decide
        rw [if_neg this, if_neg (by omega), if_pos h10, if_neg this, if_neg (by omega), if_pos h10]
      · rw [if_neg h10]
        have hge := paraE_ge (zs.map clsL) (i + 1)
        obtain ⟨m, hm⟩ : ∃ m, paraE (i + 1) (zs.map clsL) - i = m + 1 := ⟨paraE (i + 1) (zs.map clsL) - i - 1, by omega⟩
        rw [hm, List.take_succ_cons, strongP_cons, strongP_cons, clsL_twice]
        have e := fun d => ih d (i + 1)
        rw [show paraE (i + 1) (zs.map clsL) - (i + 1) = m by omega] at e
        simp only [e]
  intro zs d
  exact key zs d 0
theorem para_last : ∀ (zs : List Int) (k : Nat), k < paraE 0 zs → zs.getD k 0 = 10 → k + 1 = paraE 0 zs := by
  have key : ∀ (zs : List Int) (i k : Nat), i + k < paraE i zs → zs.getD k 0 = 10 → i + k + 1 = paraE i zs := by
    intro zs
    induction zs with
    | nil => intro i k h; unfold paraE at h; omega
    | cons z zs ih =>
      intro i k h hk
      unfold paraE at h ⊢
      by_cases h10 : z = 10
      · rw [if_pos h10] at h ⊢
        omega
      · rw [if_neg h10] at h ⊢
        cases k with
        | zero => simp at hk; exact absurd hk h10
        | succ k =>
          have := ih (i + 1) k (by omega) (by simpa using hk)
          omega
  intro zs k h hk
  have := key zs 0 k (by omega) hk
  omega
end Go.Proofs.Ytikgjnfimagpjaa
