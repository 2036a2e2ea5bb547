/- LevelParts: plain laws: levels, classes, pairs and runs are the two parts'. -/
import Derived.Test.YtikgjnfimagpjaaLplain5
import Derived.Test.YtikgjnfimagpjaaLruns
namespace Go.Proofs.Ytikgjnfimagpjaa
/-- nothing, or what a B ends -/
def EndB (A : List Int) : Prop := A = [] ∨ ∃ A' z, A = A' ++ [z] ∧ clsL z = 10
theorem firstL_stop (z : Int) (hz : clsL z = 10) (R : List Int) : ∀ (A : List Int) (d : Nat), firstL d (A ++ z :: R) = firstL d (A ++ [z])
  | [], d => by
    simp only [List.nil_append, firstL_cons]
    have : opensB 10 = false := by decide
    simp [this, hz]
  | x :: A, d => by
    simp only [List.cons_append, firstL_cons, firstL_stop z hz R A]
theorem lstep_B (low : Int) (r : List Int) (p : PL) : lstep low 10 r p = (low, 10, beginP low) := by
  unfold lstep
  simp [opensB]
theorem lseg_stop (low z : Int) (hz : clsL z = 10) (R : List Int) : ∀ (A : List Int) (p : PL), lseg low p (A ++ [z]) R = lseg low p (A ++ [z]) [] ∧ (lseg low p (A ++ [z]) R).2.2 = beginP low
  | [], p => by
    simp only [List.nil_append]
    unfold lseg
    rw [hz, lstep_B low ([] ++ R), lstep_B low ([] ++ [])]
    exact ⟨rfl, rfl⟩
  | x :: A, p => by
    have h : lstep low (clsL x) (A ++ [z] ++ R) p = lstep low (clsL x) (A ++ [z] ++ []) p := lstep_rest _ _ _ _ _ (by
      rw [List.append_assoc, List.singleton_append, firstL_stop z hz R A 0, List.append_nil])
    rw [List.cons_append]
    unfold lseg
    rw [h, (lseg_stop low z hz R A _).1]
    exact ⟨rfl, by rw [← (lseg_stop low z hz R A _).1]; exact (lseg_stop low z hz R A _).2⟩
theorem lto_parts (low : Int) (A R : List Int) (h : EndB A ∨ R = []) :
    (lto low (A ++ R) (A ++ R).length).1 = (lto low A A.length).1 ++ (lto low R R.length).1 ∧ (lto low (A ++ R) (A ++ R).length).2.1 = (lto low A A.length).2.1 ++ (lto low R R.length).2.1 := by
  rcases h with (rfl | ⟨A', z, rfl, hz⟩) | rfl
  · simp [lto]
  · rw [lto_all, lto_all, lto_all, lseg_app, List.append_nil, (lseg_stop low z hz R A' (beginP low)).2, (lseg_stop low z hz R A' (beginP low)).1]
    exact ⟨rfl, rfl⟩
  · simp [lto]
theorem getD_sets (l : List Int) (k t j : Nat) (a b c : Int) (hk : k < l.length) (ht : t < l.length) : (((l.set k a).set k b).set t c).getD j 0 = if j = t then c else if j = k then b else l.getD j 0 := by
  rw [getD_set _ _ _ _ (by simp only [List.length_set]; omega), getD_set _ _ _ _ (by simp only [List.length_set]; omega), getD_set _ _ _ _ hk]
  repeat' split
  all_goals first | rfl | omega
/-- pairs -/
theorem getD_rep (n j : Nat) : (List.replicate n (0 : Int)).getD j 0 = 0 := by
  simp only [List.getD_eq_getElem?_getD, List.getElem?_replicate]
  split <;> rfl
theorem pto_front (A R : List Int) : ∀ k, k ≤ A.length → (pto (A ++ R) k).2 = (pto A k).2 ∧ ∀ j, j < A.length → (pto (A ++ R) k).1.getD j 0 = (pto A k).1.getD j 0
  | 0, _ => ⟨rfl, fun j _ => by simp only [pto, getD_rep]⟩
  | k + 1, hk => by
    obtain ⟨h1, h2⟩ := pto_front A R k (by omega)
    have hl1 := pto_length (A ++ R) k
    have hl2 := pto_length A k
    have ho := pto_open A k
    rw [List.length_append] at hl1
    simp only [pto]
    rw [getD_app1 A R k (by omega)]
    unfold pstep
    rw [h1]
    split
    · exact ⟨rfl, fun j hj => by rw [getD_set _ _ _ _ (by omega), getD_set _ _ _ _ (by omega), h2 j hj]⟩
    split
    · exact ⟨rfl, fun j hj => by rw [getD_set _ _ _ _ (by omega), getD_set _ _ _ _ (by omega), h2 j hj]⟩
    split
    · rename_i hp
      have ht := ho _ (List.getElem_mem (show (pto A k).2.length - 1 < (pto A k).2.length by omega))
      have e2 : (pto A k).2.getD ((pto A k).2.length - 1) 0 = (pto A k).2[(pto A k).2.length - 1] := by
        rw [List.getD_eq_getElem?_getD, List.getElem?_eq_getElem (by omega)]; rfl
      rw [e2]
      exact ⟨rfl, fun j hj => by
        rw [getD_sets _ _ _ _ _ _ _ (by omega) (by omega), getD_sets _ _ _ _ _ _ _ (by omega) (by omega), h2 j hj]⟩
    · exact ⟨rfl, fun j hj => by rw [getD_set _ _ _ _ (by omega), getD_set _ _ _ _ (by omega), h2 j hj]⟩
theorem pto_endB (A : List Int) (h : EndB A) : (pto A A.length).2 = [] := by
  rcases h with rfl | ⟨A', z, rfl, hz⟩
  · rfl
  · rw [List.length_append, List.length_singleton]
    show (pstep A'.length ((A' ++ [z]).getD A'.length 0) _).2 = []
    have : (A' ++ [z]).getD A'.length 0 = z := by simp
    rw [this]
    unfold pstep
    rw [hz]
    simp [opensB]
/-- a pair's place, moved -/
def shiftP (n : Nat) (p : Int) : Int := if p < 0 then p else p + n
theorem pto_back (A R : List Int) (h : EndB A) : ∀ k, k ≤ R.length → (pto (A ++ R) (A.length + k)).2 = (pto R k).2.map (· + A.length) ∧ (∀ j, j < k → (pto (A ++ R) (A.length + k)).1.getD (A.length + j) 0 = shiftP A.length ((pto R k).1.getD j 0)) ∧
    ∀ j, j < A.length → (pto (A ++ R) (A.length + k)).1.getD j 0 = (pairsL A).getD j 0
  | 0, _ => by
    have h1 := pto_front A R A.length (Nat.le_refl _)
    refine ⟨?_, fun j hj => absurd hj (by omega), h1.2⟩
    rw [Nat.add_zero, h1.1, pto_endB A h]
    rfl
  | k + 1, hk => by
    obtain ⟨h1, h2, h3⟩ := pto_back A R h k (by omega)
    have hl1 := pto_length (A ++ R) (A.length + k)
    have hl2 := pto_length R k
    have ho := pto_open R k
    rw [List.length_append] at hl1
    rw [← Nat.add_assoc]
    simp only [pto]
    rw [getD_app2 A R k]
    unfold pstep
    rw [h1]
    have hm1 : shiftP A.length (-1) = -1 := rfl
    have one : ∀ j, j < k + 1 → ((pto (A ++ R) (A.length + k)).1.set (A.length + k) (-1)).getD (A.length + j) 0 = shiftP A.length (((pto R k).1.set k (-1)).getD j 0) := fun j hj => by
      rw [getD_set _ _ _ _ (by omega), getD_set _ _ _ _ (by omega)]
      by_cases e : j = k
      · subst e; simp [hm1]
      · rw [if_neg (by omega), if_neg e, h2 j (by omega)]
    have two : ∀ j, j < A.length → ((pto (A ++ R) (A.length + k)).1.set (A.length + k) (-1)).getD j 0 = (pairsL A).getD j 0 := fun j hj => by
      rw [getD_set _ _ _ _ (by omega), if_neg (by omega), h3 j hj]
    split
    · exact ⟨by simp [Nat.add_comm], one, two⟩
    split
    · exact ⟨by simp, one, two⟩
    rw [List.length_map]
    split
    · rename_i hp
      have hb : (pto R k).2.length - 1 < (pto R k).2.length := by omega
      have ht := ho _ (List.getElem_mem hb)
      have e1 : ((pto R k).2.map (· + A.length)).getD ((pto R k).2.length - 1) 0 = (pto R k).2[(pto R k).2.length - 1] + A.length := by
        rw [List.getD_eq_getElem?_getD, List.getElem?_map, List.getElem?_eq_getElem hb]; rfl
      have e2 : (pto R k).2.getD ((pto R k).2.length - 1) 0 = (pto R k).2[(pto R k).2.length - 1] := by
        rw [List.getD_eq_getElem?_getD, List.getElem?_eq_getElem hb]; rfl
      simp only [e1, e2]
      obtain ⟨t, hte⟩ : ∃ t, t = (pto R k).2[(pto R k).2.length - 1] := ⟨_, rfl⟩
      rw [← hte] at ht ⊢
      refine ⟨by rw [List.map_take], fun j hj => ?_, fun j hj => ?_⟩
      · rw [getD_sets _ _ _ _ _ _ _ (by omega) (by omega), getD_sets _ _ _ _ _ _ _ (by omega) (by omega)]
        by_cases e : j = t
        · rw [if_pos (by omega), if_pos e]
          unfold shiftP; rw [if_neg (by omega)]; omega
        · rw [if_neg (by omega), if_neg e]
          by_cases e' : j = k
          · rw [if_pos (by omega), if_pos e']
            unfold shiftP; rw [if_neg (by omega)]; omega
          · rw [if_neg (by omega), if_neg e', h2 j (by omega)]
      · rw [getD_sets _ _ _ _ _ _ _ (by omega) (by omega), if_neg (by omega), if_neg (by omega), h3 j hj]
    · exact ⟨rfl, one, two⟩
theorem pairs_parts (A R : List Int) (h : EndB A ∨ R = []) : (∀ j, j < A.length → (pairsL (A ++ R)).getD j 0 = (pairsL A).getD j 0) ∧ ∀ j, j < R.length → (pairsL (A ++ R)).getD (A.length + j) 0 = shiftP A.length ((pairsL R).getD j 0) := by
  rcases h with h | rfl
  · have h1 := pto_back A R h R.length (Nat.le_refl _)
    unfold pairsL at h1 ⊢
    rw [List.length_append]
    exact ⟨h1.2.2, h1.2.1⟩
  · rw [List.append_nil]
    exact ⟨fun _ _ => rfl, fun j hj => absurd hj (by simp)⟩
end Go.Proofs.Ytikgjnfimagpjaa
