/- LevelWhole: plain laws: what is said of each place. -/
import Derived.Test.YtikgjnfimagpjaaLparts1
import Derived.Test.YtikgjnfimagpjaaLplain3
namespace Go.Proofs.Ytikgjnfimagpjaa
def GoodS (low : Int) (s : St) : Prop := low ≤ s.level ∧ s.level ≤ 125 ∧ (s.over = -1 ∨ s.over = 0 ∨ s.over = 1)
def GoodQ (low : Int) (p : PL) : Prop := ∀ s ∈ p.stk, GoodS low s
theorem layP_q {low : Int} {odd : Bool} {over : Int} {iso : Bool} {p q : PL} (h : GoodQ low p) (ho : over = -1 ∨ over = 0 ∨ over = 1) (hq : layP odd over iso p = some q) : GoodQ low q := by
  obtain ⟨t, r, hs, hx, hd, hl, rfl⟩ := layP_some hq
  intro s hs'
  rcases List.mem_cons.1 hs' with rfl | hs'
  · have ht := h t (by rw [hs]; exact List.mem_cons_self)
    refine ⟨?_, hx, ho⟩
    have := ht.1
    show low ≤ upL odd t.level
    unfold upL
    split <;> omega
  · exact h s hs'
theorem beginP_q (low : Int) (hl : low ≤ 125) : GoodQ low (beginP low) := by
  intro s hs
  simp only [beginP, List.mem_singleton] at hs
  subst hs
  exact ⟨Int.le_refl _, hl, .inl rfl⟩
theorem closeP_q {low : Int} {p : PL} (h : GoodQ low p) : GoodQ low (closeP p) := by
  unfold closeP
  split
  · exact h
  split
  · intro s hs
    have h1 := List.mem_of_mem_tail hs
    exact h s ((List.dropWhile_sublist _).subset h1)
  · exact h
theorem endP_q {low : Int} {p : PL} (h : GoodQ low p) : GoodQ low (endP p) := by
  unfold endP
  split
  · exact h
  split
  · exact h
  split
  · rename_i t u r hs
    split
    · intro s hs'
      exact h s (by rw [hs]; exact List.mem_cons_of_mem _ hs')
    · exact h
  · exact h
theorem lstep_q {p : PL} (low d : Int) (hl : low ≤ 125) (rest : List Int) (h : GoodQ low p) : GoodQ low (lstep low d rest p).2.2 := by
  unfold lstep
  repeat' split
  · unfold embedP
    split
    · rename_i q hq
      exact layP_q h (by repeat' split
                         all_goals decide) hq
    · split
      · exact h
      · exact h
  · unfold isoP
    split
    · rename_i q hq
      exact fun s hs => layP_q (over := -1) h (by decide) hq s hs
    · exact h
  · exact closeP_q h
  · exact endP_q h
  · exact h
  · exact beginP_q low hl
  · exact h
theorem lto_q (low : Int) (hl : low ≤ 125) (zs : List Int) (k : Nat) : GoodQ low (lto low zs k).2.2 := by
  induction k with
  | zero => exact beginP_q low hl
  | succ k ih => exact lstep_q low _ hl _ ih
theorem topP_q {low : Int} {p : PL} (h : GoodQ low p) (hn : p.stk ≠ []) : GoodS low (topP p) := by
  unfold topP
  cases hs : p.stk with
  | nil => exact absurd hs hn
  | cons a l => exact h a (by rw [hs]; exact List.mem_cons_self)
theorem lto_at (low : Int) (zs : List Int) (i : Nat) : ∀ n, i < n → (lto low zs n).1.getD i 0 = (lstep low (clsL (zs.getD i 0)) (zs.drop (i + 1)) (lto low zs i).2.2).1 ∧ (lto low zs n).2.1.getD i 0 = (lstep low (clsL (zs.getD i 0)) (zs.drop (i + 1)) (lto low zs i).2.2).2.1
  | 0, h => absurd h (by omega)
  | n + 1, h => by
    have hl := lto_length low zs n
    simp only [lto]
    by_cases e : i < n
    · rw [getD_app1 _ _ i (by omega), getD_app1 _ _ i (by omega)]
      exact lto_at low zs i n e
    · have e' : i = n := by omega
      subst e'
      have h1 := getD_app2 (lto low zs i).1 [(lstep low (clsL (zs.getD i 0)) (zs.drop (i + 1)) (lto low zs i).2.2).1] 0
      have h2 := getD_app2 (lto low zs i).2.1 [(lstep low (clsL (zs.getD i 0)) (zs.drop (i + 1)) (lto low zs i).2.2).2.1] 0
      rw [hl.1] at h1
      rw [hl.2] at h2
      exact ⟨h1, h2⟩
/-- has the paragraph, up to a place, said something? -/
def saidB (zs : List Int) : Nat → Bool
  | 0 => false
  | k + 1 => (saidB zs k || decide (14 ≤ clsL (zs.getD k 0))) && !(clsL (zs.getD k 0) == 10)
theorem said_begin (low : Int) (zs : List Int) : ∀ k, saidB zs k = false → (lto low zs k).2.2 = beginP low
  | 0, _ => rfl
  | k + 1, h => by
    simp only [saidB, Bool.and_eq_false_iff, Bool.or_eq_false_iff, decide_eq_false_iff_not, Bool.not_eq_false', beq_iff_eq] at h
    show (lstep low (clsL (zs.getD k 0)) (zs.drop (k + 1)) (lto low zs k).2.2).2.2 = beginP low
    rcases h with ⟨h1, h2⟩ | h
    · have ih := said_begin low zs k h1
      rw [ih]
      unfold lstep
      have ho : opensB (clsL (zs.getD k 0)) = false := by
        cases hb : opensB (clsL (zs.getD k 0)) with
        | false => rfl
        | true => have := (opensB_iff _).1 hb; omega
      rw [if_neg (by omega), ho, if_neg (by simp), if_neg (by omega), if_neg (by omega)]
      repeat' split
      all_goals rfl
    · rw [h, lstep_B]
/-- what is held against each place -/
theorem whole_place (low : Int) (hlow : 0 ≤ low ∧ low ≤ 125) (zs : List Int) (i : Nat) (X K : List Int) (n : Nat) (hi : i < n) (hX : (lto low zs n).1 = X) (hK : (lto low zs n).2.1 = K) (d : Int) (hd : d = clsL (zs.getD i 0)) :
    low ≤ X.getD i 0 ∧ X.getD i 0 ≤ 125 ∧ (leftB d = true ↔ K.getD i 0 = 9) ∧ (d = 10 → K.getD i 0 = 10 ∧ X.getD i 0 = low) ∧ ((saidB zs i || decide (14 ≤ d)) = false → (X.getD i 0 = low ∧ K.getD i 0 = d) ∨ d = 9) := by
  obtain ⟨h1, h2⟩ := lto_at low zs i n hi
  rw [hX] at h1
  rw [hK] at h2
  rw [← hd] at h1 h2
  have hq := lto_q low hlow.2 zs i
  have hf := (lto_fine low zs hlow i).good.ne
  have hcf := (close_fine (lto_fine low zs hlow i)).good.ne
  have hef := (end_fine (lto_fine low zs hlow i)).good.ne
  have hb := said_begin low zs i
  have hr := clsL_range (zs.getD i 0)
  rw [← hd] at hr
  obtain ⟨p, hp⟩ : ∃ p, p = (lto low zs i).2.2 := ⟨_, rfl⟩
  rw [← hp] at h1 h2 hq hf hcf hef hb
  have ht := topP_q hq hf
  have htc := topP_q (closeP_q hq) hcf
  have hte := topP_q (endP_q hq) hef
  have e1 : (topP (beginP low)).level = low := rfl
  have e2 : (topP (beginP low)).over = -1 := rfl
  rw [h1, h2]
  have hl := leftB_iff d
  have ho := opensB_iff d
  refine ⟨?_, ?_, ?_, ?_, ?_⟩
  · unfold lstep
    repeat' split
    all_goals first | exact ht.1 | exact htc.1 | exact hte.1 | exact Int.le_refl _
  · unfold lstep
    repeat' split
    all_goals first | exact ht.2.1 | exact htc.2.1 | exact hte.2.1 | exact hlow.2
  · have s1 : ∀ t : St, (t.over = -1 ∨ t.over = 0 ∨ t.over = 1) → d ≠ 9 → saidL t.over d ≠ 9 := fun t h hd => by
      unfold saidL
      split
      · exact hd
      · omega
    unfold lstep
    rw [hl]
    by_cases c1 : 14 ≤ d ∧ d ≤ 17
    · rw [if_pos c1]; simp only [iff_true]; omega
    rw [if_neg c1]
    by_cases c2 : opensB d = true
    · rw [if_pos c2]
      have := ho.1 c2
      exact ⟨fun h => by omega, fun h => absurd h (s1 _ ht.2.2 (by omega))⟩
    rw [if_neg c2]
    by_cases c3 : d = 22
    · rw [if_pos c3]
      exact ⟨fun h => by omega, fun h => absurd h (s1 _ htc.2.2 (by omega))⟩
    rw [if_neg c3]
    by_cases c4 : d = 18
    · rw [if_pos c4]; simp only [iff_true]; omega
    rw [if_neg c4]
    by_cases c5 : d = 9
    · rw [if_pos c5]; simp only [iff_true]; omega
    rw [if_neg c5]
    by_cases c6 : d = 10
    · rw [if_pos c6]
      exact ⟨fun h => by omega, fun h => absurd h (by show ¬ (10 : Int) = 9; omega)⟩
    rw [if_neg c6]
    exact ⟨fun h => by omega, fun h => absurd h (s1 _ ht.2.2 c5)⟩
  · intro h10
    subst h10
    rw [lstep_B]
    exact ⟨rfl, rfl⟩
  · intro hs
    simp only [Bool.or_eq_false_iff, decide_eq_false_iff_not] at hs
    rw [hb hs.1]
    by_cases c5 : d = 9
    · exact .inr c5
    left
    unfold lstep
    have c2 : ¬ opensB d = true := fun h => by have := ho.1 h; omega
    rw [if_neg (by omega), if_neg c2, if_neg (by omega), if_neg (by omega), if_neg c5]
    split
    · exact ⟨rfl, by show (10 : Int) = d; omega⟩
    · exact ⟨e1, by show saidL (topP (beginP low)).over d = d; rw [e2]; rfl⟩
end Go.Proofs.Ytikgjnfimagpjaa
