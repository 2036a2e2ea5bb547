/- package level: plain laws: what goes with a sign that begins an isolate; the base. -/
import Derived.Test.YtikgjnfimagpjaaLruns
namespace Go.Proofs.Ytikgjnfimagpjaa
theorem take_getD_nat (st : List Nat) (n k : Nat) (h : k < n) : (st.take n).getD k 0 = st.getD k 0 := by
  simp [List.getD_eq_getElem?_getD, h]
def pgo : Nat → List Int → List Int × List Nat → List Int × List Nat
  | _, [], s => s
  | k, z :: r, s => pgo (k + 1) r (pstep k z s)
theorem pto_go (zs : List Int) (m : Nat) : ∀ k, k ≤ zs.length → zs.length - k = m → pgo k (zs.drop k) (pto zs k) = pto zs zs.length := by
  induction m with
  | zero =>
    intro k hk hm
    have : k = zs.length := by omega
    subst this
    simp [pgo]
  | succ m ih =>
    intro k hk hm
    rw [drop_cons zs k (by omega)]
    show pgo (k + 1) (zs.drop (k + 1)) (pto zs (k + 1)) = _
    exact ih (k + 1) (by omega) (by omega)
theorem pgo_rest : ∀ (rest : List Int) (k : Nat) (arr : List Int) (st : List Nat) (t : Nat), t < k → t ∉ st → (∀ x ∈ st, x < k) → k + rest.length ≤ arr.length → (pgo k rest (arr, st)).1.getD t 0 = arr.getD t 0
  | [], _, _, _, _, _, _, _, _ => rfl
  | z :: r, k, arr, st, t, ht, hn, hlt, hl => by
    simp only [List.length_cons] at hl
    have hset : ∀ v : Int, (arr.set k v).getD t 0 = arr.getD t 0 := fun v => by rw [getD_set _ _ _ _ (by omega), if_neg (by omega)]
    show (pgo (k + 1) r (pstep k z (arr, st))).1.getD t 0 = _
    unfold pstep
    split
    · rw [pgo_rest r (k + 1) _ _ t (by omega) (by simp; exact ⟨hn, by omega⟩) (by
        intro x hx
        simp at hx
        rcases hx with hx | rfl
        · have := hlt x hx; omega
        · omega) (by first | (simp only [List.length_set]; omega) | (simp only [List.length_append, List.length_singleton]; omega) | (simp only [List.length_take]; omega) | (simp; omega))]
      exact hset _
    split
    · rw [pgo_rest r (k + 1) _ _ t (by omega) (by simp) (by simp) (by first | (simp only [List.length_set]; omega) | (simp only [List.length_append, List.length_singleton]; omega) | (simp only [List.length_take]; omega) | (simp; omega))]
      exact hset _
    split
    · rename_i h22
      have hlen : 0 < st.length := h22.2
      have hm : st.getD (st.length - 1) 0 ∈ st := by
        rw [List.getD_eq_getElem?_getD, List.getElem?_eq_getElem (by omega)]
        exact List.getElem_mem _
      have hne : t ≠ st.getD (st.length - 1) 0 := fun e => hn (by rw [e]; exact hm)
      have hb := hlt _ hm
      simp only
      rw [pgo_rest r (k + 1) _ _ t (by omega) (fun h => hn (List.mem_of_mem_take h)) (fun x hx => by have := hlt x (List.mem_of_mem_take hx); omega) (by first | (simp only [List.length_set]; omega) | (simp only [List.length_append, List.length_singleton]; omega) | (simp only [List.length_take]; omega) | (simp; omega))]
      rw [getD_set _ _ _ _ (by first | (simp only [List.length_set]; omega) | (simp only [List.length_append, List.length_singleton]; omega) | (simp only [List.length_take]; omega) | (simp; omega)), if_neg hne, getD_set _ _ _ _ (by first | (simp only [List.length_set]; omega) | (simp only [List.length_append, List.length_singleton]; omega) | (simp only [List.length_take]; omega) | (simp; omega)), if_neg (by omega)]
      exact hset _
    · rw [pgo_rest r (k + 1) _ _ t (by omega) hn (fun x hx => by have := hlt x hx; omega) (by first | (simp only [List.length_set]; omega) | (simp only [List.length_append, List.length_singleton]; omega) | (simp only [List.length_take]; omega) | (simp; omega))]
      exact hset _
theorem getD_mem_nat {st : List Nat} {i : Nat} (h : i < st.length) : st.getD i 0 ∈ st := by
  rw [List.getD_eq_getElem?_getD, List.getElem?_eq_getElem h]
  exact List.getElem_mem _
theorem pgo_open : ∀ (rest : List Int) (k : Nat) (arr : List Int) (st : List Nat), st.Pairwise (· < ·) → (∀ x ∈ st, x < k) → (∀ x ∈ st, arr.getD x 0 = -1) → k + rest.length ≤ arr.length →
    ∀ j, j < st.length → (pgo k rest (arr, st)).1.getD (st.getD (st.length - 1 - j) 0) 0 = if afterL j k rest < 0 then -1 else afterL j k rest - 1
  | [], k, arr, st, _, _, ha, _, j, hj => by
    show arr.getD _ 0 = _
    rw [ha _ (getD_mem_nat (by omega))]
    rfl
  | z :: r, k, arr, st, hp, hlt, ha, hl, j, hj => by
    simp only [List.length_cons] at hl
    have hset : ∀ (v : Int) (x : Nat), x < k → (arr.set k v).getD x 0 = arr.getD x 0 := fun v x hx => by rw [getD_set _ _ _ _ (by omega), if_neg (by omega)]
    show (pgo (k + 1) r (pstep k z (arr, st))).1.getD _ 0 = _
    rw [afterL_cons]
    unfold pstep
    by_cases h1 : opensB (clsL z) = true
    · rw [if_pos h1, if_pos h1]
      have := pgo_open r (k + 1) (arr.set k (-1)) (st ++ [k]) (by
        rw [List.pairwise_append]
        exact ⟨hp, by simp, fun a ha b hb => by simp at hb; subst hb; exact hlt a ha⟩) (by
        intro x hx
        simp at hx
        rcases hx with hx | rfl
        · have := hlt x hx; omega
        · omega) (by
        intro x hx
        simp at hx
        rcases hx with hx | rfl
        · rw [hset _ _ (hlt x hx)]; exact ha x hx
        · rw [getD_set _ _ _ _ (by omega), if_pos rfl]) (by first | (simp only [List.length_set]; omega) | (simp only [List.length_append, List.length_singleton]; omega) | (simp only [List.length_take]; omega) | (simp; omega)) (j + 1) (by first | (simp only [List.length_set]; omega) | (simp only [List.length_append, List.length_singleton]; omega) | (simp only [List.length_take]; omega) | (simp; omega))
      rw [← this]
      congr 1
      simp only [List.length_append, List.length_singleton]
      rw [show st.length + 1 - 1 - (j + 1) = st.length - 1 - j by omega, List.getD_eq_getElem?_getD, List.getD_eq_getElem?_getD, List.getElem?_append_left (by omega)]
    rw [if_neg h1, if_neg h1]
    by_cases h2 : clsL z = 10
    · have h22 : ¬ clsL z = 22 := by omega
      rw [if_pos h2, if_neg h22, if_pos h2]
      have hm := getD_mem_nat (st := st) (i := st.length - 1 - j) (by omega)
      rw [pgo_rest r (k + 1) _ _ _ (by have := hlt _ hm; omega) (by simp) (by simp) (by first | (simp only [List.length_set]; omega) | (simp only [List.length_append, List.length_singleton]; omega) | (simp only [List.length_take]; omega) | (simp; omega)), hset _ _ (hlt _ hm), ha _ hm]
      rfl
    rw [if_neg h2]
    by_cases h3 : clsL z = 22
    · rw [if_pos h3, if_pos ⟨h3, show 0 < st.length by omega⟩]
      have hm0 := getD_mem_nat (st := st) (i := st.length - 1) (by omega)
      have hb0 := hlt _ hm0
      have hlt' : ∀ x ∈ st.take (st.length - 1), x < st.getD (st.length - 1) 0 := by
        intro x hx
        have hsp : st = st.take (st.length - 1) ++ [st.getD (st.length - 1) 0] := by
          rw [List.getD_eq_getElem?_getD, List.getElem?_eq_getElem (by omega)]
          simp only [Option.getD_some]
          rw [← List.take_succ_eq_append_getElem (by omega), show st.length - 1 + 1 = st.length by omega, List.take_length]
        rw [hsp, List.pairwise_append] at hp
        exact hp.2.2 x hx _ (by simp)
      simp only
      cases j with
      | zero =>
        rw [if_pos (rfl : 0 = 0)]
        rw [show st.length - 1 - 0 = st.length - 1 by omega]
        rw [pgo_rest r (k + 1) _ _ _ (by omega) (fun h => by have := hlt' _ h; omega) (fun x hx => by have := hlt x (List.mem_of_mem_take hx); omega) (by first | (simp only [List.length_set]; omega) | (simp only [List.length_append, List.length_singleton]; omega) | (simp only [List.length_take]; omega) | (simp; omega))]
        rw [getD_set _ _ _ _ (by first | (simp only [List.length_set]; omega) | (simp only [List.length_append, List.length_singleton]; omega) | (simp only [List.length_take]; omega) | (simp; omega)), if_pos rfl, if_neg (show ¬ (k : Int) + 1 < 0 by omega)]
        omega
      | succ j =>
        rw [if_neg (show ¬ j + 1 = 0 by omega)]
        have := pgo_open r (k + 1) (((arr.set k (-1)).set k (st.getD (st.length - 1) 0 : Nat)).set (st.getD (st.length - 1) 0) k) (st.take (st.length - 1)) (hp.sublist (List.take_sublist _ _)) (fun x hx => by have := hlt x (List.mem_of_mem_take hx); omega) (by
          intro x hx
          have h1 := hlt' x hx
          have h2 := hlt x (List.mem_of_mem_take hx)
          rw [getD_set _ _ _ _ (by first | (simp only [List.length_set]; omega) | (simp only [List.length_append, List.length_singleton]; omega) | (simp only [List.length_take]; omega) | (simp; omega)), if_neg (by omega), getD_set _ _ _ _ (by first | (simp only [List.length_set]; omega) | (simp only [List.length_append, List.length_singleton]; omega) | (simp only [List.length_take]; omega) | (simp; omega)), if_neg (by omega), hset _ _ h2]
          exact ha x (List.mem_of_mem_take hx)) (by first | (simp only [List.length_set]; omega) | (simp only [List.length_append, List.length_singleton]; omega) | (simp only [List.length_take]; omega) | (simp; omega)) j (by first | (simp only [List.length_set]; omega) | (simp only [List.length_append, List.length_singleton]; omega) | (simp only [List.length_take]; omega) | (simp; omega))
        simp only [List.length_take, Nat.min_eq_left (Nat.sub_le _ _)] at this
        rw [take_getD_nat st _ _ (by omega), show st.length - 1 - 1 - j = st.length - 1 - (j + 1) by omega] at this
        rw [show j + 1 - 1 = j by omega]
        exact this
    · rw [if_neg h3, if_neg (fun h => h3 h.1), if_neg h2]
      exact pgo_open r (k + 1) (arr.set k (-1)) st hp (fun x hx => by have := hlt x hx; omega) (fun x hx => by rw [hset _ _ (hlt x hx)]; exact ha x hx) (by first | (simp only [List.length_set]; omega) | (simp only [List.length_append, List.length_singleton]; omega) | (simp only [List.length_take]; omega) | (simp; omega)) j hj
theorem pto_inv (zs : List Int) (k : Nat) (hk : k ≤ zs.length) : (pto zs k).2.Pairwise (· < ·) ∧ ∀ x ∈ (pto zs k).2, (pto zs k).1.getD x 0 = -1 := by
  induction k with
  | zero => simp [pto]
  | succ k ih =>
    obtain ⟨hp, ha⟩ := ih (by omega)
    have hlt := pto_open zs k
    have hl := pto_length zs k
    obtain ⟨⟨arr, st⟩, hs⟩ : ∃ p, p = pto zs k := ⟨_, rfl⟩
    rw [← hs] at hp ha hlt hl
    simp only at hp ha hlt hl
    have hl' : arr.length = zs.length := hl
    have hset : ∀ (v : Int) (x : Nat), x < k → (arr.set k v).getD x 0 = arr.getD x 0 := fun v x hx => by rw [getD_set _ _ _ _ (by omega), if_neg (by omega)]
    rw [pto, ← hs]
    unfold pstep
    split
    · refine ⟨?_, ?_⟩
      · rw [List.pairwise_append]
        exact ⟨hp, by simp, fun a ha b hb => by simp at hb; subst hb; exact hlt a ha⟩
      · intro x hx
        simp at hx
        rcases hx with hx | rfl
        · rw [hset _ _ (hlt x hx)]; exact ha x hx
        · show (arr.set x (-1)).getD x 0 = -1
          rw [getD_set _ _ _ _ (by omega), if_pos rfl]
    split
    · simp
    split
    · rename_i h22
      have hlen : 0 < st.length := h22.2
      have hm0 := getD_mem_nat (st := st) (i := st.length - 1) (by omega)
      have hb0 := hlt _ hm0
      have hlt' : ∀ x ∈ st.take (st.length - 1), x < st.getD (st.length - 1) 0 := by
        intro x hx
        have hsp : st = st.take (st.length - 1) ++ [st.getD (st.length - 1) 0] := by
          rw [List.getD_eq_getElem?_getD, List.getElem?_eq_getElem (by omega)]
          simp only [Option.getD_some]
          rw [← List.take_succ_eq_append_getElem (by omega), show st.length - 1 + 1 = st.length by omega, List.take_length]
        rw [hsp, List.pairwise_append] at hp
        exact hp.2.2 x hx _ (by simp)
      refine ⟨hp.sublist (List.take_sublist _ _), fun x hx => ?_⟩
      have h1 := hlt' x hx
      have h2 := hlt x (List.mem_of_mem_take hx)
      simp only
      rw [getD_set _ _ _ _ (by first | (simp only [List.length_set]; omega) | (simp only [List.length_append, List.length_singleton]; omega) | (simp only [List.length_take]; omega) | (simp; omega)), if_neg (by omega), getD_set _ _ _ _ (by first | (simp only [List.length_set]; omega) | (simp only [List.length_append, List.length_singleton]; omega) | (simp only [List.length_take]; omega) | (simp; omega)), if_neg (by omega), hset _ _ h2]
      exact ha x (List.mem_of_mem_take hx)
    · exact ⟨hp, fun x hx => by rw [hset _ _ (hlt x hx)]; exact ha x hx⟩
/-- what goes with a sign that begins an isolate -/
theorem pairsL_open (zs : List Int) (i : Nat) (hi : i < zs.length) (ho : opensB (clsL (zs.getD i 0)) = true) :
    (pairsL zs).getD i 0 = if afterL 0 (i + 1) (zs.drop (i + 1)) < 0 then -1 else afterL 0 (i + 1) (zs.drop (i + 1)) - 1 := by
  have hl := pto_length zs i
  have hst : pto zs (i + 1) = ((pto zs i).1.set i (-1), (pto zs i).2 ++ [i]) := by
    rw [pto]
    unfold pstep
    rw [if_pos ho]
  obtain ⟨hp, ha⟩ := pto_inv zs (i + 1) (by omega)
  have hlt := pto_open zs (i + 1)
  have hg := pto_go zs (zs.length - (i + 1)) (i + 1) (by omega) rfl
  rw [hst] at hp ha hlt hg
  have := pgo_open (zs.drop (i + 1)) (i + 1) _ _ hp hlt ha (by simp [hl]; omega) 0 (by simp)
  rw [hg] at this
  simp only [List.length_append, List.length_singleton] at this
  rw [show (pto zs i).2.length + 1 - 1 - 0 = (pto zs i).2.length by omega] at this
  rw [show ((pto zs i).2 ++ [i]).getD (pto zs i).2.length 0 = i from by simp] at this
  exact this
end Go.Proofs.Ytikgjnfimagpjaa
