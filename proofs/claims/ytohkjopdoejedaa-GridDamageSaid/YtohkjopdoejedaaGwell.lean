/- layer 24 in plain lists: rows whose cells of a part stand behind that part's. -/
import Derived.Test.YtohkjopdoejedaaGscroll
namespace Go.Proofs.Ytohkjopdoejedaa
def pt (r : List Ce) (i : Nat) : Int := (r.getD i Ce.zero).part
def WellAt (r : List Ce) (i : Nat) : Prop := pt r i = 0 ∨ (0 < i ∧ pt r i = pt r (i - 1) + 1)
def Well (r : List Ce) : Prop := ∀ i, WellAt r i
theorem getD_eq (r : List Ce) (i : Nat) : r.getD i Ce.zero = (r[i]?).getD Ce.zero := List.getD_eq_getElem?_getD
theorem pt_out (r : List Ce) (i : Nat) (h : r.length ≤ i) : pt r i = 0 := by
  unfold pt
  rw [getD_eq, List.getElem?_eq_none h]
  rfl
theorem blit_at (a : Nat) (s r : List Ce) (h : a ≤ r.length) (j : Nat) : (blit a s r)[j]? = if j < a then r[j]? else if j < a + s.length then s[j - a]? else r[j]? := by
  unfold blit
  have ha : (r.take a).length = a := by simp; omega
  by_cases h1 : j < a
  · rw [if_pos h1, List.append_assoc, List.getElem?_append_left (by omega), List.getElem?_take, if_pos h1]
  · rw [if_neg h1]
    by_cases h2 : j < a + s.length
    · rw [if_pos h2, List.append_assoc, List.getElem?_append_right (by omega), List.getElem?_append_left (by omega), ha]
    · rw [if_neg h2, List.getElem?_append_right (by simp; omega), List.getElem?_drop]
      congr 1
      simp
      omega
theorem blankR_at (r : List Ce) (a b : Nat) (hab : a ≤ b) (hb : b ≤ r.length) (j : Nat) : (blankR r a b)[j]? = if a ≤ j ∧ j < b then (r[j]?).map Ce.blank else r[j]? := by
  unfold blankR
  have ha : (r.take a).length = a := by simp; omega
  have hm : (((r.take b).drop a).map Ce.blank).length = b - a := by simp; omega
  by_cases h1 : j < a
  · rw [if_neg (by omega), List.append_assoc, List.getElem?_append_left (by omega), List.getElem?_take, if_pos h1]
  · by_cases h2 : j < b
    · rw [if_pos ⟨by omega, h2⟩, List.append_assoc, List.getElem?_append_right (by omega), List.getElem?_append_left (by omega), ha, List.getElem?_map, List.getElem?_drop, List.getElem?_take, if_pos (by omega)]
      congr 2
      omega
    · rw [if_neg (by omega), List.getElem?_append_right (by simp; omega), List.getElem?_drop]
      congr 1
      simp
      omega
theorem pt_blit (a : Nat) (s r : List Ce) (h : a + s.length ≤ r.length) (j : Nat) : pt (blit a s r) j = if a ≤ j ∧ j < a + s.length then pt s (j - a) else pt r j := by
  unfold pt
  rw [getD_eq, blit_at a s r (by omega), getD_eq, getD_eq]
  by_cases h1 : j < a
  · rw [if_pos h1, if_neg (by omega)]
  · rw [if_neg h1]
    by_cases h2 : j < a + s.length
    · rw [if_pos h2, if_pos ⟨by omega, h2⟩]
    · rw [if_neg h2, if_neg (by omega)]
theorem pt_blankR (r : List Ce) (a b : Nat) (hab : a ≤ b) (hb : b ≤ r.length) (j : Nat) : pt (blankR r a b) j = if a ≤ j ∧ j < b then 0 else pt r j := by
  unfold pt
  rw [getD_eq, blankR_at r a b hab hb, getD_eq]
  by_cases h : a ≤ j ∧ j < b
  · rw [if_pos h, if_pos h, List.getElem?_eq_getElem (by omega)]
    rfl
  · rw [if_neg h, if_neg h]
theorem pt_cut (l : List Ce) (p q k : Nat) (hk : k < q - p) : pt ((l.take q).drop p) k = pt l (p + k) := by
  unfold pt
  rw [getD_eq, getD_eq, List.getElem?_drop, List.getElem?_take, if_pos (by omega)]
theorem pt_zeros (n k : Nat) : pt (List.replicate n Ce.zero) k = 0 := by
  unfold pt
  rw [getD_eq, List.getElem?_replicate]
  split <;> rfl
/-- the chain that begins at i -/
theorem more_parts : ∀ (l : List Ce) (d : Int), (∀ k, k < more d l → pt l k = d + k) ∧ (more d l < l.length → pt l (more d l) ≠ d + more d l)
  | [], d => ⟨fun k h => by simp [more] at h, fun h => by simp at h⟩
  | c :: l, d => by
    obtain ⟨h1, h2⟩ := more_parts l (d + 1)
    unfold more
    by_cases hc : c.part = d
    · rw [if_pos hc]
      refine ⟨fun k hk => ?_, fun h => ?_⟩
      · cases k with
        | zero => show c.part = _; rw [hc]; simp
        | succ k =>
          have := h1 k (by omega)
          show pt l k = _
          rw [this]
          omega
      · have := h2 (by simpa using h)
        show pt l (more (d + 1) l) ≠ _
        intro e
        apply this
        rw [e]
        omega
    · rw [if_neg hc]
      refine ⟨fun k hk => by omega, fun _ => ?_⟩
      show c.part ≠ _
      intro e
      apply hc
      rw [e]
      simp
theorem pt_drop (l : List Ce) (i k : Nat) : pt (l.drop i) k = pt l (i + k) := by
  unfold pt
  rw [getD_eq, getD_eq, List.getElem?_drop]
theorem chain_parts (r : List Ce) (i : Nat) (hi : i < r.length) (h0 : pt r i = 0) : (∀ k, i ≤ k → k < chainE r i → pt r k = (k : Int) - i) ∧ (chainE r i < r.length → pt r (chainE r i) ≠ (chainE r i : Int) - i) ∧ chainC r i = false := by
  have hp : ¬ (r.getD i Ce.zero).part ≠ 0 := fun h => h h0
  have he : chainE r i = i + 1 + more 1 (r.drop (i + 1)) := by unfold chainE; rw [if_neg hp]
  obtain ⟨h1, h2⟩ := more_parts (r.drop (i + 1)) 1
  rw [he]
  refine ⟨fun k hk hk2 => ?_, fun h => ?_, ?_⟩
  · by_cases e : k = i
    · subst e; rw [h0]; omega
    · have := h1 (k - (i + 1)) (by omega)
      rw [pt_drop, show i + 1 + (k - (i + 1)) = k by omega] at this
      rw [this]
      omega
  · have := h2 (by simp; omega)
    rw [pt_drop] at this
    intro e
    apply this
    rw [e]
    omega
  · unfold chainC
    simpa using hp
theorem Well.start {r : List Ce} (h : Well r) (_ : 0 < r.length) : pt r 0 = 0 := by
  rcases h 0 with h | ⟨h, _⟩
  · exact h
  · omega
/-- behind a chain a new one begins -/
theorem Well.next {r : List Ce} (h : Well r) (i : Nat) (hi : i < r.length) (h0 : pt r i = 0) : pt r (chainE r i) = 0 := by
  obtain ⟨h1, h2, _⟩ := chain_parts r i hi h0
  have hbd := chainE_bd r i hi
  by_cases he : chainE r i < r.length
  · rcases h (chainE r i) with h3 | ⟨_, h3⟩
    · exact h3
    · exfalso
      apply h2 he
      rw [h3, h1 (chainE r i - 1) (by omega) (by omega)]
      omega
  · exact pt_out _ _ (by omega)
theorem Well.blank {r : List Ce} (h : Well r) (i : Nat) (hi : i < r.length) (h0 : pt r i = 0) : Well (blankR r i (chainE r i)) := by
  have hbd := chainE_bd r i hi
  have hnx := h.next i hi h0
  intro j
  unfold WellAt
  rw [pt_blankR r i _ (by omega) hbd.2, pt_blankR r i _ (by omega) hbd.2]
  by_cases h1 : i ≤ j ∧ j < chainE r i
  · rw [if_pos h1]; exact .inl rfl
  · rw [if_neg h1]
    by_cases h2 : j = chainE r i
    · subst h2; exact .inl hnx
    · rcases h j with h3 | ⟨h3, h4⟩
      · exact .inl h3
      · refine .inr ⟨h3, ?_⟩
        rw [if_neg (by omega)]
        exact h4
/-- lose, of a row that is well: well, and no chain lies across a, b -/
theorem loseF_well (a b : Nat) (hab : a < b) : ∀ (f i : Nat) (r : List Ce), Well r → pt r i = 0 → r.length ≤ f + i → Well (loseF a b f i r) ∧ (∀ q, q < i → pt (loseF a b f i r) q = pt r q) ∧ (i ≤ a → pt (loseF a b f i r) a = 0) ∧ (i ≤ b → pt (loseF a b f i r) b = 0)
  | 0, i, r, h, h0, hf => ⟨h, fun _ _ => rfl, fun ha => pt_out _ _ (by simp only [loseF]; omega), fun hb => pt_out _ _ (by simp only [loseF]; omega)⟩
  | f + 1, i, r, h, h0, hf => by
    by_cases hi : i < r.length
    · rw [loseF_succ a b f i r hi]
      have hbd := chainE_bd r i hi
      obtain ⟨hp1, hp2, _⟩ := chain_parts r i hi h0
      have hnx := h.next i hi h0
      by_cases hc : 0 < min (chainE r i : Int) b - max (i : Int) a ∧ min (chainE r i : Int) b - max (i : Int) a < (chainE r i : Int) - i
      · rw [if_pos hc]
        have hbl := blankR_length r i (chainE r i) (by omega) hbd.2
        have hpb := pt_blankR r i (chainE r i) (by omega) hbd.2
        obtain ⟨k1, k2, k3, k4⟩ := loseF_well a b hab f (chainE r i) (blankR r i (chainE r i)) (h.blank i hi h0) (by rw [hpb, if_neg (by omega)]; exact hnx) (by rw [hbl]; omega)
        refine ⟨k1, fun q hq => by rw [k2 q (by omega), hpb, if_neg (by omega)], fun ha => ?_, fun hb => ?_⟩
        · by_cases h3 : a < chainE r i
          · rw [k2 a h3, hpb, if_pos ⟨ha, h3⟩]
          · exact k3 (by omega)
        · by_cases h3 : b < chainE r i
          · rw [k2 b h3, hpb, if_pos ⟨hb, h3⟩]
          · exact k4 (by omega)
      · rw [if_neg hc]
        obtain ⟨k1, k2, k3, k4⟩ := loseF_well a b hab f (chainE r i) r h hnx (by omega)
        refine ⟨k1, fun q hq => k2 q (by omega), fun ha => ?_, fun hb => ?_⟩
        · by_cases h3 : a < chainE r i
          · rw [k2 a h3, hp1 a ha h3]
            omega
          · exact k3 (by omega)
        · by_cases h3 : b < chainE r i
          · rw [k2 b h3, hp1 b hb h3]
            omega
          · exact k4 (by omega)
    · rw [loseF_end a b _ i r (by omega)]
      exact ⟨h, fun _ _ => rfl, fun ha => pt_out _ _ (by omega), fun hb => pt_out _ _ (by omega)⟩
/-- no chain lies across a, b -/
structure Clean (a b : Nat) (r : List Ce) : Prop where
  well : Well r
  at_a : a < b → pt r a = 0
  at_b : a < b → pt r b = 0
theorem loseF_none (a b : Int) (hab : b ≤ a) : ∀ (f i : Nat) (r : List Ce), loseF a b f i r = r
  | 0, _, _ => rfl
  | f + 1, i, r => by
    by_cases hi : i < r.length
    · rw [loseF_succ a b f i r hi, if_neg (by omega)]
      exact loseF_none a b hab f _ r
    · rw [loseF_end a b _ i r (by omega)]
theorem loseL_clean (a b : Nat) (r : List Ce) (h : Well r) (hab : a ≤ b) : Clean a b (loseL a b r) := by
  by_cases hlt : a < b
  · have h0 : pt r 0 = 0 := by
      by_cases hl : 0 < r.length
      · exact h.start hl
      · exact pt_out _ _ (by omega)
    obtain ⟨k1, _, k3, k4⟩ := loseF_well a b hlt (r.length + 1) 0 r h h0 (by omega)
    exact ⟨k1, fun _ => k3 (by omega), fun _ => k4 (by omega)⟩
  · have : loseL a b r = r := loseF_none a b (by omega) _ _ r
    rw [this]
    exact ⟨h, fun h => by omega, fun h => by omega⟩
/-- other cells between a and b -/
theorem Clean.blit {a b : Nat} {r s : List Ce} (h : Clean a b r) (hs : s.length = b - a) (hb : b ≤ r.length) (hab : a ≤ b) (hw : Well s) : Clean a b (blit a s r) := by
  have hp := pt_blit a s r (by omega)
  have key : ∀ j, WellAt (Go.Proofs.Ytohkjopdoejedaa.blit a s r) j := by
    intro j
    unfold WellAt
    rw [hp, hp]
    by_cases h1 : a ≤ j ∧ j < a + s.length
    · rw [if_pos h1]
      rcases hw (j - a) with h2 | ⟨h2, h3⟩
      · exact .inl h2
      · refine .inr ⟨by omega, ?_⟩
        rw [if_pos (by omega), h3]
        congr 2
        omega
    · rw [if_neg h1]
      by_cases h2 : j = b ∧ a < b
      · obtain ⟨rfl, h3⟩ := h2
        exact .inl (h.at_b h3)
      · rcases h.well j with h3 | ⟨h3, h4⟩
        · exact .inl h3
        · refine .inr ⟨h3, ?_⟩
          rw [if_neg (by omega)]
          exact h4
  refine ⟨key, fun h1 => ?_, fun h1 => ?_⟩
  · rw [hp, if_pos (by omega), Nat.sub_self]
    exact hw.start (by omega)
  · rw [hp, if_neg (by omega)]
    exact h.at_b h1
theorem well_zeros (n : Nat) : Well (List.replicate n Ce.zero) := fun i => .inl (pt_zeros n i)
theorem Clean.cut {a b : Nat} {r : List Ce} (h : Clean a b r) : Well ((r.take b).drop a) := by
  intro k
  by_cases hk : k < b - a
  · unfold WellAt
    rw [pt_cut r a b k hk]
    by_cases h0 : k = 0
    · subst h0
      exact .inl (by rw [Nat.add_zero]; exact h.at_a (by omega))
    · rcases h.well (a + k) with h1 | ⟨_, h1⟩
      · exact .inl h1
      · refine .inr ⟨by omega, ?_⟩
        rw [h1, pt_cut r a b (k - 1) (by omega)]
        congr 2
        omega
  · exact .inl (pt_out _ _ (by simp; omega))
theorem clearRow_well (a b : Nat) (r : List Ce) (h : Well r) (hab : a ≤ b) (hb : b ≤ r.length) : Well (clearRow a b r) :=
  ((loseL_clean a b r h hab).blit (by simp) (by rw [loseL_length]; exact hb) hab (well_zeros _)).well
end Go.Proofs.Ytohkjopdoejedaa
