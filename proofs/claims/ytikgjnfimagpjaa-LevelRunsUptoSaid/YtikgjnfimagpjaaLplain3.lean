/- package level: plain laws: the first strong one of a stretch, in the document's way; what is said over the classes. -/
import Derived.Test.YtikgjnfimagpjaaLplain2
import Derived.Test.YtikgjnfimagpjaaLlev
namespace Go.Proofs.Ytikgjnfimagpjaa
theorem afterL_open : ∀ (zs : List Int) (d i : Nat), afterL (d + 1) i zs = if afterL d i zs < 0 then -1 else afterL 0 (afterL d i zs).toNat (zs.drop ((afterL d i zs).toNat - i))
  | [], d, i => by rw [if_pos (show afterL d i [] < 0 from show (-1 : Int) < 0 by decide)]; rfl
  | z :: zs, d, i => by
    have step : ∀ e, (if afterL e (i + 1) zs < 0 then -1 else afterL 0 (afterL e (i + 1) zs).toNat (zs.drop ((afterL e (i + 1) zs).toNat - (i + 1)))) = (if afterL e (i + 1) zs < 0 then -1 else afterL 0 (afterL e (i + 1) zs).toNat ((z :: zs).drop ((afterL e (i + 1) zs).toNat - i))) := fun e => by
      rcases afterL_ge zs e (i + 1) with h | h
      · rw [if_pos (by omega), if_pos (by omega)]
      · obtain ⟨m, hm⟩ : ∃ m, (afterL e (i + 1) zs).toNat - i = m + 1 := ⟨(afterL e (i + 1) zs).toNat - i - 1, by omega⟩
        rw [if_neg (by omega), if_neg (by omega), hm, List.drop_succ_cons, show (afterL e (i + 1) zs).toNat - (i + 1) = m by omega]
    rw [afterL_cons, afterL_cons]
    by_cases h1 : opensB (clsL z) = true
    · simp only [if_pos h1]
      rw [afterL_open zs (d + 1) (i + 1)]
      exact step (d + 1)
    simp only [if_neg h1]
    by_cases h2 : clsL z = 22
    · simp only [if_pos h2]
      rw [if_neg (show ¬ d + 1 = 0 by omega), Nat.add_sub_cancel]
      cases d with
      | zero =>
        rw [if_pos (rfl : 0 = 0), if_neg (show ¬ (i : Int) + 1 < 0 by omega)]
        rw [show ((i : Int) + 1).toNat = i + 1 by omega, show i + 1 - i = 0 + 1 by omega, List.drop_succ_cons, List.drop_zero]
      | succ d =>
        rw [if_neg (show ¬ d + 1 = 0 by omega), Nat.add_sub_cancel, afterL_open zs d (i + 1)]
        exact step d
    simp only [if_neg h2]
    by_cases h3 : clsL z = 10
    · simp only [if_pos h3]
      rw [if_pos (show (-1 : Int) < 0 by decide)]
    simp only [if_neg h3]
    rw [afterL_open zs d (i + 1)]
    exact step d
theorem paraE_cons (i : Nat) (z : Int) (zs : List Int) : paraE i (z :: zs) = if z = 10 then i + 1 else paraE (i + 1) zs := rfl
theorem para_skip (hc : ∀ z : Int, clsL z = 10 → z = 10 → True) : ∀ (zs : List Int) (d i : Nat), (∀ z ∈ zs, clsL z = z) → 0 ≤ afterL d i zs → paraE i zs = paraE (afterL d i zs).toNat (zs.drop ((afterL d i zs).toNat - i))
  | [], d, i, _, h => absurd h (show ¬ (0 : Int) ≤ -1 by decide)
  | z :: zs, d, i, hz, h => by
    have hzc := hz z (by simp)
    have hzs : ∀ y ∈ zs, clsL y = y := fun y hy => hz y (by simp [hy])
    have step : ∀ e, 0 ≤ afterL e (i + 1) zs → paraE (i + 1) zs = paraE (afterL e (i + 1) zs).toNat ((z :: zs).drop ((afterL e (i + 1) zs).toNat - i)) := fun e he => by
      rcases afterL_ge zs e (i + 1) with h | h
      · omega
      · obtain ⟨m, hm⟩ : ∃ m, (afterL e (i + 1) zs).toNat - i = m + 1 := ⟨(afterL e (i + 1) zs).toNat - i - 1, by omega⟩
        rw [hm, List.drop_succ_cons, para_skip hc zs e (i + 1) hzs he, show (afterL e (i + 1) zs).toNat - (i + 1) = m by omega]
    rw [afterL_cons] at h ⊢
    rw [paraE_cons]
    by_cases h1 : opensB (clsL z) = true
    · have := opens_class h1
      rw [if_pos h1] at h ⊢
      rw [if_neg (show ¬ z = 10 by omega)]
      exact step _ h
    rw [if_neg h1] at h ⊢
    by_cases h2 : clsL z = 22
    · rw [if_pos h2] at h ⊢
      rw [if_neg (show ¬ z = 10 by omega)]
      cases d with
      | zero =>
        rw [if_pos (rfl : 0 = 0), show ((i : Int) + 1).toNat = i + 1 by omega, show i + 1 - i = 0 + 1 by omega, List.drop_succ_cons, List.drop_zero]
      | succ d =>
        rw [if_neg (show ¬ d + 1 = 0 by omega), Nat.add_sub_cancel] at h ⊢
        exact step _ h
    rw [if_neg h2] at h ⊢
    by_cases h3 : clsL z = 10
    · rw [if_pos h3] at h
      exact absurd h (by decide)
    rw [if_neg h3] at h ⊢
    rw [if_neg (show ¬ z = 10 by omega)]
    exact step _ h
theorem strongR_first (l : List Int) (hc : ∀ i, i < l.length → clsL (l.getD i 0) = l.getD i 0) (tb : Nat) (htl : tb ≤ l.length) :
    ∀ (f j : Nat), tb - j < f → j ≤ tb → (0 ≤ afterL 0 j (l.drop j) → (tb : Int) = afterL 0 j (l.drop j) - 1) → (afterL 0 j (l.drop j) < 0 → tb = paraE j (l.drop j)) →
      strongR l (pairsL l) tb f j = decide (firstL 0 (l.drop j) = 1 ∨ firstL 0 (l.drop j) = 2)
  | 0, j, h, _, _, _ => by omega
  | f + 1, j, hf, hj, hA, hN => by
    have hmem : ∀ k, ∀ z ∈ l.drop k, clsL z = z := by
      intro k z hz
      obtain ⟨i, hi, e⟩ := List.getElem_of_mem hz
      have hik : k + i < l.length := by simp at hi; omega
      have := hc (k + i) hik
      rw [List.getElem_drop] at e
      rw [List.getD_eq_getElem?_getD, List.getElem?_eq_getElem hik] at this
      simp only [Option.getD_some] at this
      rw [e] at this
      exact this
    unfold strongR
    by_cases hjt : tb ≤ j
    · have hjj : j = tb := by omega
      rw [if_pos hjt]
      by_cases hjl : l.length ≤ j
      · rw [List.drop_eq_nil_of_le hjl]; rfl
      · rw [drop_cons l j (by omega)] at hA hN ⊢
        rw [afterL_cons, hc j (by omega)] at hA hN
        rw [firstL_cons, hc j (by omega)]
        have g0 := afterL_ge (l.drop (j + 1)) 0 (j + 1)
        have g1 := afterL_ge (l.drop (j + 1)) (0 + 1) (j + 1)
        have gp := paraE_ge (l.drop (j + 1)) (j + 1)
        have hpara : j + 1 ≤ paraE j (l.getD j 0 :: l.drop (j + 1)) := by
          unfold paraE
          split <;> omega
        by_cases h1 : opensB (l.getD j 0) = true
        · rw [if_pos h1] at hA hN
          exfalso
          rcases g1 with g1 | g1
          · have := hN (by omega); omega
          · have := hA (by omega); omega
        rw [if_neg h1] at hA hN ⊢
        by_cases h2 : l.getD j 0 = 22
        · rw [if_pos h2, if_neg (show ¬ 0 < 0 by omega)]; rfl
        rw [if_neg h2] at hA hN ⊢
        by_cases h3 : l.getD j 0 = 10
        · rw [if_pos h3]; rfl
        rw [if_neg h3] at hA hN
        exfalso
        rcases g0 with g0 | g0
        · have := hN (by omega); omega
        · have := hA (by omega); omega
    · rw [if_neg hjt]
      have IH := fun k (hk : j < k) (hk2 : k ≤ tb) => strongR_first l hc tb htl f k (by omega) hk2
      have hp := fun ho => pairsL_open l j (by omega) ho
      rw [hc j (by omega)] at hp
      rw [drop_cons l j (by omega)] at hA hN ⊢
      rw [afterL_cons, hc j (by omega)] at hA hN
      rw [firstL_cons, hc j (by omega)]
      have hmj := hmem (j + 1)
      obtain ⟨d, hd⟩ : ∃ d, d = l.getD j 0 := ⟨_, rfl⟩
      rw [← hd] at hA hN hp ⊢
      clear hd
      by_cases h1 : opensB d = true
      · have hcl := opens_class h1
        rw [if_pos h1] at hA hN
        rw [if_pos h1, if_neg hcl.1, if_neg (show ¬ (d = 1 ∨ d = 2) by omega), if_pos h1, firstL_open _ 0 (j + 1)]
        rw [afterL_open _ 0 (j + 1)] at hA hN
        have hpar : paraE j (d :: l.drop (j + 1)) = paraE (j + 1) (l.drop (j + 1)) := by
          conv => lhs; unfold paraE
          rw [if_neg hcl.2.2.2.2]
        rw [hpar] at hN
        rcases afterL_ge (l.drop (j + 1)) 0 (j + 1) with hneg | hpos
        · have hneg' : afterL 0 (j + 1) (l.drop (j + 1)) < 0 := by omega
          rw [hp h1, if_pos hneg', if_pos hneg', if_pos (show (-1 : Int) < 0 by decide)]
          rfl
        · have hneg' : ¬ afterL 0 (j + 1) (l.drop (j + 1)) < 0 := by omega
          rw [hp h1, if_neg hneg', if_neg hneg', if_neg (show ¬ afterL 0 (j + 1) (l.drop (j + 1)) - 1 < 0 by omega)]
          rw [if_neg hneg', para_skip (fun _ _ _ => trivial) _ 0 (j + 1) hmj (by omega)] at hN
          rw [if_neg hneg'] at hA
          obtain ⟨q, hq⟩ : ∃ q : Nat, afterL 0 (j + 1) (l.drop (j + 1)) = q + 1 := ⟨(afterL 0 (j + 1) (l.drop (j + 1))).toNat - 1, by omega⟩
          rw [hq] at hA hN hpos ⊢
          rw [show ((q : Int) + 1).toNat = q + 1 by omega] at hA hN ⊢
          rw [List.drop_drop, show j + 1 + (q + 1 - (j + 1)) = q + 1 by omega] at hA hN ⊢
          have hle : q + 1 ≤ tb := by
            have gg := afterL_ge (l.drop (q + 1)) 0 (q + 1)
            have gp := paraE_ge (l.drop (q + 1)) (q + 1)
            rcases gg with g | g
            · have := hN (by omega); omega
            · have := hA (by omega); omega
          rw [show ((q : Int) + 1 - 1).toNat + 1 = q + 1 by omega]
          exact IH (q + 1) (by omega) hle hA hN
      rw [if_neg h1] at hA hN ⊢
      by_cases h0 : d = 0
      · subst h0
        rw [if_pos (rfl : (0 : Int) = 0), if_neg (show ¬ (0 : Int) = 22 by decide), if_neg (show ¬ (0 : Int) = 10 by decide), if_pos (show 0 = 0 ∧ ((0 : Int) = 0 ∨ (0 : Int) = 1 ∨ (0 : Int) = 2) from ⟨rfl, .inl rfl⟩)]
        rfl
      rw [if_neg h0]
      by_cases h12 : d = 1 ∨ d = 2
      · rw [if_pos h12, if_neg h1, if_neg (show ¬ d = 22 by omega), if_neg (show ¬ d = 10 by omega), if_pos (show 0 = 0 ∧ (d = 0 ∨ d = 1 ∨ d = 2) from ⟨rfl, by omega⟩)]
        exact (decide_eq_true h12).symm
      rw [if_neg h12, if_neg h1]
      by_cases h22 : d = 22
      · exfalso
        rw [if_pos h22, if_pos (rfl : 0 = 0)] at hA
        have := hA (by omega)
        omega
      rw [if_neg h22] at hA hN ⊢
      by_cases h10 : d = 10
      · rw [if_pos h10]
        rw [if_pos h10] at hN
        have ht := hN (by decide)
        unfold paraE at ht
        rw [if_pos h10] at ht
        have : strongR l (pairsL l) tb f (j + 1) = false := by
          cases f with
          | zero => rfl
          | succ f => unfold strongR; rw [if_pos (by omega)]
        rw [this]
        rfl
      rw [if_neg h10] at hA hN ⊢
      rw [if_neg (show ¬ (0 = 0 ∧ (d = 0 ∨ d = 1 ∨ d = 2)) by omega)]
      have hpar : paraE j (d :: l.drop (j + 1)) = paraE (j + 1) (l.drop (j + 1)) := by
        conv => lhs; unfold paraE
        rw [if_neg h10]
      rw [hpar] at hN
      exact IH (j + 1) (by omega) (by omega) hA hN
theorem firstL_map : ∀ (zs : List Int) (d : Nat), firstL d (zs.map clsL) = firstL d zs
  | [], _ => rfl
  | z :: zs, d => by
    rw [List.map_cons, firstL_cons, firstL_cons, clsL_twice]
    simp only [firstL_map zs]
/-- what is said over the classes -/
def OverOk (p : PL) : Prop := ∀ s ∈ p.stk, -1 ≤ s.over
theorem layP_over {odd : Bool} {over : Int} {iso : Bool} {p q : PL} (h : OverOk p) (ho : -1 ≤ over) (hq : layP odd over iso p = some q) : OverOk q := by
  obtain ⟨t, r, hs, hx, hd, hl, rfl⟩ := layP_some hq
  intro s hs'
  rcases List.mem_cons.1 hs' with rfl | hs'
  · exact ho
  · exact h s hs'
theorem lstep_over {p : PL} (low d : Int) (rest : List Int) (h : OverOk p) : OverOk (lstep low d rest p).2.2 := by
  unfold lstep
  repeat' split
  · unfold embedP
    split
    · rename_i q hq
      exact layP_over h (by repeat' split
                            all_goals decide) hq
    · split
      · exact h
      · exact h
  · unfold isoP
    split
    · rename_i q hq
      exact fun s hs => layP_over (over := -1) h (by decide) hq s hs
    · exact h
  · unfold closeP
    split
    · exact h
    split
    · intro s hs
      have h1 := List.mem_of_mem_tail hs
      exact h s ((List.dropWhile_sublist _).subset h1)
    · exact h
  · unfold endP
    split
    · exact h
    split
    · exact h
    split
    · rename_i t u r hs
      split
      · intro s hs'
        exact h s (by rw [hs]; exact List.mem_cons_of_mem _ hs')
      · exact h
    · exact h
  · exact h
  · intro s hs
    simp only [beginP, List.mem_singleton] at hs
    subst hs
    exact Int.le_refl _
  · exact h
theorem lto_over (low : Int) (zs : List Int) (k : Nat) : OverOk (lto low zs k).2.2 := by
  induction k with
  | zero =>
    intro s hs
    simp only [lto, beginP, List.mem_singleton] at hs
    subst hs
    exact Int.le_refl _
  | succ k ih => exact lstep_over low _ _ ih
end Go.Proofs.Ytikgjnfimagpjaa
