/- LevelWhole: plain laws: pairs go both ways; a PDI has its sign's level. -/
import Derived.Test.YtikgjnfimagpjaaLplain5
import Derived.Test.YtikgjnfimagpjaaLparts1
namespace Go.Proofs.Ytikgjnfimagpjaa
/-- what stands from behind t on, up to k -/
def segL (zs : List Int) (t k : Nat) : List Int := (zs.drop (t + 1)).take (k - (t + 1))
theorem segL_self (zs : List Int) (k : Nat) : segL zs k (k + 1) = [] := by unfold segL; simp
theorem segL_succ (zs : List Int) (t k : Nat) (ht : t < k) (hk : k < zs.length) : segL zs t (k + 1) = segL zs t k ++ [zs.getD k 0] := by
  unfold segL
  have h := take_snoc' (zs.drop (t + 1)) (k - (t + 1)) (by simp; omega)
  have e : (zs.drop (t + 1)).getD (k - (t + 1)) 0 = zs.getD k 0 := by
    rw [List.getD_eq_getElem?_getD, List.getElem?_drop, List.getD_eq_getElem?_getD]
    congr 2
    omega
  rw [e] at h
  rw [h]
  congr 1
  omega
theorem snoc_split {st st1 st2 : List Nat} {t k : Nat} (h : st ++ [k] = st1 ++ t :: st2) : (st2 = [] ∧ t = k ∧ st1 = st) ∨ ∃ st3, st2 = st3 ++ [k] ∧ st = st1 ++ t :: st3 := by
  rcases List.eq_nil_or_concat st2 with rfl | ⟨st3, x, rfl⟩
  · left
    have := List.append_inj' h rfl
    obtain ⟨h1, h2⟩ := this
    injection h2 with h2
    exact ⟨rfl, h2.symm, h1.symm⟩
  · right
    simp only [List.concat_eq_append] at h ⊢
    rw [← List.cons_append, ← List.append_assoc] at h
    obtain ⟨h1, h2⟩ := List.append_inj' h rfl
    injection h2 with h2
    exact ⟨st3, by rw [h2], h1⟩
theorem stack_bal (zs : List Int) : ∀ k, k ≤ zs.length → ∀ st1 t st2, (pto zs k).2 = st1 ++ t :: st2 → ∀ r, Bal st2.length r → Bal 0 (segL zs t k ++ r)
  | 0, _, st1, t, st2, h, _, _ => by simp [pto] at h
  | k + 1, hk, st1, t, st2, h, r, hr => by
    have ih := stack_bal zs k (by omega)
    have hlt := pto_open zs k
    simp only [pto] at h
    unfold pstep at h
    by_cases h1 : opensB (clsL (zs.getD k 0)) = true
    · rw [if_pos h1] at h
      rcases snoc_split h with ⟨rfl, rfl, rfl⟩ | ⟨st3, rfl, h3⟩
      · rw [segL_self]
        exact hr
      · have ht := hlt t (by rw [h3]; simp)
        rw [segL_succ zs t k ht (by omega), List.append_assoc]
        refine ih st1 t st3 h3 _ ?_
        rw [List.singleton_append, Bal_cons, if_pos h1]
        simpa using hr
    rw [if_neg h1] at h
    by_cases h2 : clsL (zs.getD k 0) = 10
    · rw [if_pos h2] at h
      simp at h
    rw [if_neg h2] at h
    by_cases h3 : clsL (zs.getD k 0) = 22 ∧ 0 < (pto zs k).2.length
    · rw [if_pos h3] at h
      simp only at h
      obtain ⟨m, hm⟩ : ∃ m, (pto zs k).2 = (pto zs k).2.take ((pto zs k).2.length - 1) ++ [m] := by
        rcases List.eq_nil_or_concat (pto zs k).2 with e | ⟨s3, x, e⟩
        · rw [e] at h3; simp at h3
        · refine ⟨x, ?_⟩
          rw [e]
          simp
      rw [h, List.append_assoc, List.cons_append] at hm
      have ht := hlt t (by rw [hm]; simp)
      rw [segL_succ zs t k ht (by omega), List.append_assoc]
      refine ih st1 t (st2 ++ [m]) hm _ ?_
      rw [List.singleton_append, Bal_cons, if_neg h1, if_pos h3.1]
      exact ⟨by simp, by simpa using hr⟩
    · rw [if_neg h3] at h
      simp only at h
      have ht := hlt t (by rw [h]; simp)
      rw [segL_succ zs t k ht (by omega), List.append_assoc]
      refine ih st1 t st2 h _ ?_
      have h4 : clsL (zs.getD k 0) ≠ 22 := fun e => h3 ⟨e, by rw [h]; simp; omega⟩
      rw [List.singleton_append, Bal_cons, if_neg h1, if_neg h4, if_neg h2]
      exact hr
/-- two places that belong together -/
structure Matched (zs arr : List Int) (i j : Nat) : Prop where
  lt : i < j
  fwd : arr.getD i 0 = j
  back : arr.getD j 0 = i
  opens : opensB (clsL (zs.getD i 0)) = true
  ends : clsL (zs.getD j 0) = 22
  bal : Bal 0 (segL zs i j)
theorem pto_matched (zs : List Int) : ∀ k, k ≤ zs.length → (∀ t ∈ (pto zs k).2, opensB (clsL (zs.getD t 0)) = true) ∧ ∀ i, i < k → (pto zs k).1.getD i 0 = -1 ∨ ∃ j, j < k ∧ (Matched zs (pto zs k).1 i j ∨ Matched zs (pto zs k).1 j i)
  | 0, _ => ⟨by simp [pto], fun i hi => absurd hi (by omega)⟩
  | k + 1, hk => by
    obtain ⟨ih1, ih2⟩ := pto_matched zs k (by omega)
    have hlt := pto_open zs k
    have hl := pto_length zs k
    have hsb := stack_bal zs k (by omega)
    have hinv := (pto_inv zs k (by omega)).2
    obtain ⟨⟨arr, st⟩, hs⟩ : ∃ p, p = pto zs k := ⟨_, rfl⟩
    rw [← hs] at hlt hl hsb ih1 ih2 hinv
    simp only at hlt hl hsb ih1 ih2 hinv
    simp only [pto, ← hs]
    have old : ∀ arr' : List Int, (∀ x, x < k → arr'.getD x 0 = arr.getD x 0) → ∀ i j, i < k → j < k → Matched zs arr i j → Matched zs arr' i j := fun arr' h i j hi hj hm =>
      ⟨hm.lt, by rw [h i hi]; exact hm.fwd, by rw [h j hj]; exact hm.back, hm.opens, hm.ends, hm.bal⟩
    have plain : ∀ i, i < k + 1 → (arr.set k (-1)).getD i 0 = -1 ∨ ∃ j, j < k + 1 ∧ (Matched zs (arr.set k (-1)) i j ∨ Matched zs (arr.set k (-1)) j i) := fun i hi => by
      have hset : ∀ x, x < k → (arr.set k (-1)).getD x 0 = arr.getD x 0 := fun x hx => by rw [getD_set _ _ _ _ (by omega), if_neg (by omega)]
      by_cases e : i = k
      · left; rw [getD_set _ _ _ _ (by omega), if_pos e]
      · rcases ih2 i (by omega) with h | ⟨j, hj, h⟩
        · left; rw [hset i (by omega)]; exact h
        · exact .inr ⟨j, by omega, h.elim (fun h => .inl (old _ hset i j (by omega) hj h)) (fun h => .inr (old _ hset j i hj (by omega) h))⟩
    unfold pstep
    by_cases h1 : opensB (clsL (zs.getD k 0)) = true
    · rw [if_pos h1]
      refine ⟨fun t ht => ?_, plain⟩
      rcases List.mem_append.1 ht with ht | ht
      · exact ih1 t ht
      · simp at ht; subst ht; exact h1
    rw [if_neg h1]
    by_cases h2 : clsL (zs.getD k 0) = 10
    · rw [if_pos h2]
      exact ⟨by simp, plain⟩
    rw [if_neg h2]
    by_cases h3 : clsL (zs.getD k 0) = 22 ∧ 0 < st.length
    · rw [if_pos h3]
      simp only
      obtain ⟨m, hm⟩ : ∃ m, st = st.take (st.length - 1) ++ [m] := by
        rcases List.eq_nil_or_concat st with e | ⟨s3, x, e⟩
        · rw [e] at h3; simp at h3
        · exact ⟨x, by rw [e]; simp⟩
      have hmm : m ∈ st := by rw [hm]; simp
      have hg : st.getD (st.length - 1) 0 = m := by
        obtain ⟨s3, hs3⟩ : ∃ s3, s3 = st.take (st.length - 1) := ⟨_, rfl⟩
        rw [← hs3] at hm
        rw [hm]
        simp
      rw [hg]
      have hmk := hlt m hmm
      have hbal := hsb _ m [] hm [] rfl
      rw [List.append_nil] at hbal
      refine ⟨fun t ht => ih1 t (List.mem_of_mem_take ht), fun i hi => ?_⟩
      have gs : ∀ x, (((arr.set k (-1)).set k (m : Int)).set m (k : Int)).getD x 0 = if x = m then (k : Int) else if x = k then (m : Int) else arr.getD x 0 := fun x => getD_sets _ _ _ _ _ _ _ (by omega) (by omega)
      have hmt : Matched zs (((arr.set k (-1)).set k (m : Int)).set m (k : Int)) m k := ⟨hmk, by rw [gs, if_pos rfl], by rw [gs, if_neg (by omega), if_pos rfl], ih1 m hmm, h3.1, hbal⟩
      by_cases e : i = k
      · subst e
        exact .inr ⟨m, by omega, .inr hmt⟩
      by_cases e2 : i = m
      · subst e2
        exact .inr ⟨k, by omega, .inl hmt⟩
      have hneg := hinv m hmm
      rcases ih2 i (by omega) with h | ⟨j, hj, h⟩
      · left; rw [gs, if_neg e2, if_neg e]; exact h
      · have hjm : j ≠ m := by
          rintro rfl
          rcases h with h | h
          · have := h.back; omega
          · have := h.fwd; omega
        have keep : ∀ a b, a < k → b < k → a ≠ m → b ≠ m → Matched zs arr a b → Matched zs (((arr.set k (-1)).set k (m : Int)).set m (k : Int)) a b := fun a b ha hb ha2 hb2 h =>
          ⟨h.lt, by rw [gs, if_neg ha2, if_neg (by omega)]; exact h.fwd, by rw [gs, if_neg hb2, if_neg (by omega)]; exact h.back, h.opens, h.ends, h.bal⟩
        exact .inr ⟨j, by omega, h.elim (fun h => .inl (keep i j (by omega) hj e2 hjm h)) (fun h => .inr (keep j i hj (by omega) hjm e2 h))⟩
    · rw [if_neg h3]
      exact ⟨ih1, plain⟩
theorem pairs_matched (zs : List Int) (i : Nat) (hi : i < zs.length) : (pairsL zs).getD i 0 = -1 ∨ ∃ j, j < zs.length ∧ (Matched zs (pairsL zs) i j ∨ Matched zs (pairsL zs) j i) :=
  (pto_matched zs zs.length (Nat.le_refl _)).2 i hi
/-- a PDI has the level of its sign -/
theorem pair_level (low : Int) (zs : List Int) (i j : Nat) (hj : j < zs.length) (arr : List Int) (h : Matched zs arr i j) :
    (lstep low (clsL (zs.getD i 0)) (zs.drop (i + 1)) (lto low zs i).2.2).1 = (lstep low (clsL (zs.getD j 0)) (zs.drop (j + 1)) (lto low zs j).2.2).1 := by
  have hij := h.lt
  obtain ⟨p0, hp0⟩ : ∃ p0, p0 = (lto low zs i).2.2 := ⟨_, rfl⟩
  have ho := (opensB_iff _).1 h.opens
  have e1 : ∀ rr, lstep low (clsL (zs.getD i 0)) rr p0 = ((topP p0).level, saidL (topP p0).over (clsL (zs.getD i 0)), isoP (oddB (clsL (zs.getD i 0)) rr) p0) := fun rr => by
    unfold lstep
    rw [if_neg (by omega), if_pos h.opens]
  have e2 : ∀ rr q, lstep low (clsL (zs.getD j 0)) rr q = ((topP (closeP q)).level, saidL (topP (closeP q)).over 22, closeP q) := fun rr q => by
    rw [h.ends]
    unfold lstep
    rw [if_neg (by omega), if_neg (by decide), if_pos rfl]
  rw [← hp0, e1, e2]
  have hz : zs.take j = zs.take i ++ zs.getD i 0 :: segL zs i j := by
    unfold segL
    have a1 : zs.take j = zs.take i ++ (zs.drop i).take (j - i) := by
      rw [← List.take_add]; congr 1; omega
    rw [a1, drop_cons zs i (by omega)]
    obtain ⟨m, hm⟩ : ∃ m, j - i = m + 1 := ⟨j - i - 1, by omega⟩
    rw [hm, List.take_succ_cons]
    congr 3
    omega
  have hq : (lto low zs j).2.2 = (lseg low (isoP (oddB (clsL (zs.getD i 0)) (segL zs i j ++ zs.drop j)) p0) (segL zs i j) (zs.drop j)).2.2 := by
    rw [lto_lseg low zs j (by omega), hz, lseg_app]
    have b1 : zs.getD i 0 :: segL zs i j ++ zs.drop j = zs.drop i := by
      rw [drop_cons zs i (by omega)]
      unfold segL
      rw [List.cons_append]
      congr 1
      have : zs.drop j = (zs.drop (i + 1)).drop (j - (i + 1)) := by rw [List.drop_drop]; congr 1; omega
      rw [this, List.take_append_drop]
    rw [b1, ← lto_lseg low zs i (by omega), ← hp0]
    show (lseg low (lstep low (clsL (zs.getD i 0)) (segL zs i j ++ zs.drop j) p0).2.2 (segL zs i j) (zs.drop j)).2.2 = _
    rw [e1]
  have hcl := lseg_bal low p0 (zs.drop j) (segL zs i j) 0 (isoP (oddB (clsL (zs.getD i 0)) (segL zs i j ++ zs.drop j)) p0) h.bal (by show closeP _ = p0; exact close_iso _ _) (by have := iso_sum (oddB (clsL (zs.getD i 0)) (segL zs i j ++ zs.drop j)) p0; omega)
  rw [hq, hcl]
end Go.Proofs.Ytikgjnfimagpjaa
