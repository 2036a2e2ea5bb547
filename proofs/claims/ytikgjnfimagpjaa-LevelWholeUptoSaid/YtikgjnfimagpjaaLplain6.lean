/- package level: plain laws: what is left of any classes is balanced. -/
import Derived.Test.YtikgjnfimagpjaaLplain5
namespace Go.Proofs.Ytikgjnfimagpjaa
def plainL (xs : List Int) : List Int := xs.filter fun z => !(clsL z == 10)
def kf (pr : List Int) : Nat → List Int → List Int
  | _, [] => []
  | i, z :: r => if 0 ≤ pr.getD i 0 ∨ (opensB (clsL z) = false ∧ clsL z ≠ 22) then z :: kf pr (i + 1) r else kf pr (i + 1) r
def balL (xs : List Int) : List Int := kf (pairsL (plainL xs)) 0 (plainL xs)
theorem kf_cons (pr : List Int) (i : Nat) (z : Int) (r : List Int) : kf pr i (z :: r) = if 0 ≤ pr.getD i 0 ∨ (opensB (clsL z) = false ∧ clsL z ≠ 22) then z :: kf pr (i + 1) r else kf pr (i + 1) r := rfl
def metL (pr : List Int) (st : List Nat) : Nat := (st.filter fun t => decide (0 ≤ pr.getD t 0)).length
theorem metL_app (pr : List Int) (st : List Nat) (t : Nat) : metL pr (st ++ [t]) = metL pr st + if 0 ≤ pr.getD t 0 then 1 else 0 := by
  unfold metL
  rw [List.filter_append, List.length_append]
  by_cases h : 0 ≤ pr.getD t 0
  · rw [if_pos h]
    simp only [List.filter_cons, List.filter_nil]
    rw [if_pos (by simpa using h)]
    rfl
  · rw [if_neg h]
    simp only [List.filter_cons, List.filter_nil]
    rw [if_neg (by simpa using h)]
    rfl
theorem bal_kept (zs : List Int) (hB : ∀ i, i < zs.length → clsL (zs.getD i 0) ≠ 10) : ∀ (m k : Nat), k ≤ zs.length → zs.length - k = m → Bal (metL (pairsL zs) (pto zs k).2) (kf (pairsL zs) k (zs.drop k))
  | 0, k, hk, hm => by
    have e : k = zs.length := by omega
    subst e
    rw [List.drop_length]
    show metL (pairsL zs) (pto zs zs.length).2 = 0
    have hinv := (pto_inv zs zs.length (Nat.le_refl _)).2
    unfold metL
    rw [List.length_eq_zero_iff, List.filter_eq_nil_iff]
    intro t ht
    have := hinv t ht
    change (pairsL zs).getD t 0 = -1 at this
    rw [this]
    decide
  | m + 1, k, hk, hm => by
    have hkl : k < zs.length := by omega
    have IH := bal_kept zs hB m (k + 1) (by omega) (by omega)
    have hgo := pto_go zs (zs.length - (k + 1)) (k + 1) (by omega) rfl
    have hinv := pto_inv zs k hk
    have hlt := pto_open zs k
    have hlen := pto_length zs k
    have h10 := hB k hkl
    rw [drop_cons zs k hkl, kf_cons]
    have hst : pto zs (k + 1) = pstep k (zs.getD k 0) (pto zs k) := rfl
    obtain ⟨⟨arr, st⟩, hs⟩ : ∃ p, p = pto zs k := ⟨_, rfl⟩
    rw [← hs] at hst hinv hlt hlen ⊢
    have hl' : arr.length = zs.length := hlen
    obtain ⟨z, hz⟩ : ∃ z, z = zs.getD k 0 := ⟨_, rfl⟩
    rw [← hz] at hst h10 ⊢
    have hdl : (zs.drop (k + 1)).length = zs.length - (k + 1) := by simp
    have hpr : ∀ t, (pairsL zs).getD t 0 = (pto zs zs.length).1.getD t 0 := fun _ => rfl
    unfold pstep at hst
    by_cases h1 : opensB (clsL z) = true
    · rw [if_pos h1] at hst
      rw [hst] at IH
      rw [metL_app] at IH
      by_cases hp : 0 ≤ (pairsL zs).getD k 0
      · rw [if_pos (.inl hp), Bal_cons, if_pos h1]
        rw [if_pos hp] at IH
        exact IH
      · rw [if_neg (fun h => by
          rcases h with h | h
          · exact hp h
          · rw [h1] at h; exact absurd h.1 (by decide))]
        rw [if_neg hp] at IH
        exact IH
    have h1f : opensB (clsL z) = false := by
      cases h : opensB (clsL z) with
      | false => rfl
      | true => exact absurd h h1
    rw [if_neg h1, if_neg h10] at hst
    by_cases h2 : clsL z = 22
    · by_cases h0 : 0 < st.length
      · rw [if_pos ⟨h2, h0⟩] at hst
        obtain ⟨t0, ht0⟩ : ∃ t0, t0 = st.getD (st.length - 1) 0 := ⟨_, rfl⟩
        obtain ⟨st', hst'⟩ : ∃ st', st' = st.take (st.length - 1) := ⟨_, rfl⟩
        have hsp : st = st' ++ [t0] := by
          rw [ht0, hst', List.getD_eq_getElem?_getD, List.getElem?_eq_getElem (by omega)]
          simp only [Option.getD_some]
          rw [← List.take_succ_eq_append_getElem (by omega), show st.length - 1 + 1 = st.length by omega, List.take_length]
        simp only at hst
        rw [← ht0, ← hst'] at hst
        have hpw : st.Pairwise (· < ·) := hinv.1
        rw [hsp, List.pairwise_append] at hpw
        have ht0k : t0 < k := hlt t0 (by rw [hsp]; simp)
        have hst'k : ∀ x ∈ st', x < k := fun x hx => hlt x (by rw [hsp]; simp [hx])
        rw [hst] at hgo IH
        have g1 := pgo_rest (zs.drop (k + 1)) (k + 1) (((arr.set k (-1)).set k (t0 : Nat)).set t0 k) st' k (by omega) (fun h => by have := hst'k k h; omega) (fun x hx => by have := hst'k x hx; omega) (by rw [List.length_set, List.length_set, List.length_set]; omega)
        have g2 := pgo_rest (zs.drop (k + 1)) (k + 1) (((arr.set k (-1)).set k (t0 : Nat)).set t0 k) st' t0 (by omega) (fun h => by have := hpw.2.2 t0 h t0 (by simp); omega) (fun x hx => by have := hst'k x hx; omega) (by rw [List.length_set, List.length_set, List.length_set]; omega)
        rw [hgo, ← hpr, getD_set _ _ _ _ (by rw [List.length_set, List.length_set]; omega), if_neg (by omega), getD_set _ _ _ _ (by rw [List.length_set]; omega), if_pos rfl] at g1
        rw [hgo, ← hpr, getD_set _ _ _ _ (by rw [List.length_set, List.length_set]; omega), if_pos rfl] at g2
        rw [if_pos (.inl (show 0 ≤ (pairsL zs).getD k 0 by omega)), Bal_cons, if_neg h1, if_pos h2]
        show 0 < metL (pairsL zs) st ∧ _
        rw [hsp, metL_app, if_pos (show 0 ≤ (pairsL zs).getD t0 0 by omega), Nat.add_sub_cancel]
        exact ⟨by omega, IH⟩
      · rw [if_neg (fun h => h0 h.2)] at hst
        have hse : st = [] := List.length_eq_zero_iff.1 (by omega)
        subst hse
        rw [hst] at hgo IH
        have g1 := pgo_rest (zs.drop (k + 1)) (k + 1) (arr.set k (-1)) [] k (by omega) (by simp) (by simp) (by rw [List.length_set]; omega)
        rw [hgo, ← hpr, getD_set _ _ _ _ (by omega), if_pos rfl] at g1
        rw [if_neg (fun h => by
          rcases h with h | h
          · omega
          · exact h.2 h2)]
        exact IH
    · rw [if_neg (fun h => h2 h.1)] at hst
      rw [hst] at IH
      rw [if_pos (.inr ⟨h1f, h2⟩), Bal_cons, if_neg h1, if_neg h2, if_neg h10]
      exact IH
theorem bal_balL (xs : List Int) : Bal 0 (balL xs) := by
  have h := bal_kept (plainL xs) (fun i hi => by
    have hm : (plainL xs).getD i 0 ∈ plainL xs := by
      rw [List.getD_eq_getElem?_getD, List.getElem?_eq_getElem hi]
      exact List.getElem_mem _
    have := (List.mem_filter.1 hm).2
    simpa using this) (plainL xs).length 0 (Nat.zero_le _) rfl
  simpa [metL, pto, balL] using h
end Go.Proofs.Ytikgjnfimagpjaa
