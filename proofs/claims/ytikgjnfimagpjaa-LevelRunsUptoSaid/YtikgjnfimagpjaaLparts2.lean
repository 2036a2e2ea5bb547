/- LevelParts: plain laws: the runs are the two parts'. -/
import Derived.Test.YtikgjnfimagpjaaLparts1
namespace Go.Proofs.Ytikgjnfimagpjaa
theorem getD_mem' (l : List Int) (j : Nat) (h : j < l.length) : l.getD j 0 ∈ l := by
  rw [List.getD_eq_getElem?_getD, List.getElem?_eq_getElem h]
  exact List.getElem_mem _
theorem turnR_congr (pr pr' : List Int) (i : Nat) (s : RS) (h : pr.getD i 0 = pr'.getD i 0) : turnR pr i s = turnR pr' i s := by
  unfold turnR; rw [h]
theorem pickR_congr (lv lv' pr pr' : List Int) (k : Nat) (s : RS) (hs : GoodR k s) (hlv : ∀ j, j ≤ k → lv.getD j 0 = lv'.getD j 0) (hpr : pr.getD k 0 = pr'.getD k 0) : pickR lv pr k s = pickR lv' pr' k s := by
  have hb : breaksP lv k s ↔ breaksP lv' k s := by
    unfold breaksP
    by_cases h0 : s.last < 0
    · simp [h0]
    · have := hs.last
      rw [hlv s.last.toNat (by omega), hlv k (Nat.le_refl _)]
  unfold pickR
  by_cases h : breaksP lv k s
  · rw [if_pos h, if_pos (hb.1 h), turnR_congr pr pr' k s hpr]
  · rw [if_neg h, if_neg (fun h' => h (hb.2 h'))]
theorem putR_congr (d : Int) (pr pr' : List Int) (k : Nat) (s : RS) (h : pr.getD k 0 = pr'.getD k 0) : putR d pr k s = putR d pr' k s := by
  unfold putR; rw [h]
theorem rto_front (A R lv lv' pr pr' : List Int) (hlv : ∀ j, j < A.length → lv.getD j 0 = lv'.getD j 0) (hpr : ∀ j, j < A.length → pr.getD j 0 = pr'.getD j 0) : ∀ k, k ≤ A.length → rto (A ++ R) lv pr k = rto A lv' pr' k
  | 0, _ => rfl
  | k + 1, hk => by
    have ih := rto_front A R lv lv' pr pr' hlv hpr k (by omega)
    simp only [rto]
    rw [ih, getD_app1 A R k (by omega)]
    unfold stepR
    rw [pickR_congr lv lv' pr pr' k _ (rto_good A lv' pr' k) (fun j hj => hlv j (by omega)) (hpr k (by omega)), putR_congr _ pr pr' k _ (hpr k (by omega))]
theorem rto_endB (A lv pr : List Int) (h : EndB A) : (rto A lv pr A.length).last = -1 := by
  rcases h with rfl | ⟨A', z, rfl, hz⟩
  · rfl
  · rw [List.length_append, List.length_singleton]
    show (stepR (clsL ((A' ++ [z]).getD A'.length 0)) lv pr A'.length _).last = -1
    have : (A' ++ [z]).getD A'.length 0 = z := by simp
    rw [this, hz]
    have hl : leftB 10 = false := by decide
    unfold stepR
    rw [hl]
    simp [putR]
theorem turnR_m (pr : List Int) (i : Nat) (s : RS) : (turnR pr i s).m = s.m := by
  unfold turnR
  split
  · split <;> rfl
  · rfl
theorem pickR_m (lv pr : List Int) (i : Nat) (s : RS) : (pickR lv pr i s).m = s.m := by
  unfold pickR
  split
  · exact turnR_m pr i s
  · rfl
theorem rto_keys (zs lv pr : List Int) (N : Int) (hpr : ∀ j, j < zs.length → pr.getD j 0 < N) : ∀ k, k ≤ zs.length → ∀ i a, (rto zs lv pr k).m i = some a → i < N
  | 0, _, i, a, h => by simp [rto] at h
  | k + 1, hk, i, a, h => by
    have ih := rto_keys zs lv pr N hpr k (by omega)
    simp only [rto] at h
    unfold stepR at h
    split at h
    · exact ih i a h
    · simp only [putR, pickR_m] at h
      split at h
      · simp only at h
        split at h
        · rename_i e; rw [e]; exact hpr k (by omega)
        · exact ih i a h
      · exact ih i a h
theorem turnR_rows (pr : List Int) (i : Nat) (s : RS) : (turnR pr i s).rows = s.rows ∨ (turnR pr i s).rows = s.rows ++ [[]] := by
  unfold turnR
  split
  · split
    · exact .inl rfl
    · exact .inr rfl
  · exact .inr rfl
theorem pickR_rows (lv pr : List Int) (i : Nat) (s : RS) : (pickR lv pr i s).rows = s.rows ∨ (pickR lv pr i s).rows = s.rows ++ [[]] := by
  unfold pickR
  split
  · exact turnR_rows pr i s
  · exact .inl rfl
/-- the runs' places are places -/
theorem rto_bound (zs lv pr : List Int) : ∀ k, ∀ row ∈ (rto zs lv pr k).rows, ∀ x ∈ row, 0 ≤ x ∧ x < (k : Int)
  | 0, row, h => by simp [rto] at h
  | k + 1, row, h => by
    have ih := rto_bound zs lv pr k
    have ih2 : ∀ row ∈ (pickR lv pr k (rto zs lv pr k)).rows, ∀ x ∈ row, 0 ≤ x ∧ x < (k : Int) := fun row hrow => by
      rcases pickR_rows lv pr k (rto zs lv pr k) with e | e
      · rw [e] at hrow; exact ih row hrow
      · rw [e] at hrow
        rcases List.mem_append.1 hrow with h' | h'
        · exact ih row h'
        · simp at h'; subst h'; simp
    simp only [rto] at h
    unfold stepR at h
    split at h
    · intro x hx
      have := ih row h x hx
      omega
    · simp only [putR] at h
      intro x hx
      rcases List.mem_or_eq_of_mem_set h with h' | rfl
      · have := ih2 row h' x hx
        omega
      · rcases List.mem_append.1 hx with hx | hx
        · rw [List.getD_eq_getElem?_getD] at hx
          by_cases hn : (pickR lv pr k (rto zs lv pr k)).now.toNat < (pickR lv pr k (rto zs lv pr k)).rows.length
          · rw [List.getElem?_eq_getElem hn] at hx
            have := ih2 _ (List.getElem_mem hn) x hx
            omega
          · rw [List.getElem?_eq_none (by omega)] at hx
            simp at hx
        · simp at hx; omega
/-- the second part's state beside the whole's -/
structure RelR (n : Nat) (rows1 : List (List Int)) (s t : RS) : Prop where
  rows : s.rows = rows1 ++ t.rows.map (·.map (· + (n : Int)))
  m : ∀ i : Nat, s.m ((n + i : Nat) : Int) = (t.m (i : Int)).map (· + rows1.length)
  last : (t.last = -1 ∧ s.last = -1) ∨ (0 ≤ t.last ∧ s.last = t.last + n ∧ 0 ≤ t.now ∧ s.now = t.now + rows1.length)
structure RelM (n : Nat) (rows1 : List (List Int)) (s t : RS) : Prop where
  rows : s.rows = rows1 ++ t.rows.map (·.map (· + (n : Int)))
  m : ∀ i : Nat, s.m ((n + i : Nat) : Int) = (t.m (i : Int)).map (· + rows1.length)
  now : 0 ≤ t.now ∧ s.now = t.now + rows1.length
theorem RelR.fresh {n : Nat} {rows1 : List (List Int)} {s t : RS} (h : RelR n rows1 s t) : RelM n rows1 s.fresh t.fresh := by
  refine ⟨?_, h.m, by simp [RS.fresh], ?_⟩
  · simp only [RS.fresh, h.rows, List.map_append, List.append_assoc]; rfl
  · simp only [RS.fresh, h.rows, List.length_append, List.length_map]; omega
theorem getD_parts (rows1 : List (List Int)) (l : List (List Int)) (n a : Nat) : (rows1 ++ l.map (·.map (· + (n : Int)))).getD (a + rows1.length) [] = (l.getD a []).map (· + (n : Int)) := by
  rw [List.getD_eq_getElem?_getD, List.getElem?_append_right (by omega), Nat.add_sub_cancel, List.getElem?_map, List.getD_eq_getElem?_getD]
  cases l[a]? <;> rfl
theorem getD_row (row : List Int) (n j : Nat) (h : j < row.length) : (row.map (· + (n : Int))).getD j 0 = row.getD j 0 + n := by
  rw [List.getD_eq_getElem?_getD, List.getElem?_map, List.getD_eq_getElem?_getD, List.getElem?_eq_getElem h]
  rfl
theorem RelR.turn {n k : Nat} {rows1 : List (List Int)} {s t : RS} (h : RelR n rows1 s t) (hg : GoodR k t) (hx : ∀ row ∈ t.rows, ∀ x ∈ row, 0 ≤ x ∧ x < (k : Int)) (pr prR : List Int) (hpr : pr.getD (n + k) 0 = shiftP n (prR.getD k 0)) :
    RelM n rows1 (turnR pr (n + k) s) (turnR prR k t) := by
  unfold turnR
  have hm := h.m k
  cases ha : t.m (k : Int) with
  | none =>
    rw [ha] at hm
    rw [hm]
    exact h.fresh
  | some a =>
    rw [ha] at hm
    simp only [Option.map_some] at hm
    rw [hm]
    simp only
    have hal := hg.m _ a ha
    have hne := hg.ne a hal
    have hmem : t.rows.getD a [] ∈ t.rows := by
      rw [List.getD_eq_getElem?_getD, List.getElem?_eq_getElem hal]
      exact List.getElem_mem _
    rw [h.rows, getD_parts, List.length_map, getD_row _ _ _ (by omega), hpr]
    obtain ⟨y, hy⟩ : ∃ y, y = (t.rows.getD a []).getD ((t.rows.getD a []).length - 1) 0 := ⟨_, rfl⟩
    have hy0 : 0 ≤ y := by
      refine (hx _ hmem y ?_).1
      rw [hy]
      exact getD_mem' _ _ (by omega)
    rw [← hy]
    by_cases e : y = prR.getD k 0
    · rw [if_pos e, if_pos (by unfold shiftP; rw [if_neg (by omega)]; omega)]
      exact ⟨rfl, h.m, by show (0 : Int) ≤ a; omega, by show ((a + rows1.length : Nat) : Int) = (a : Int) + rows1.length; simp⟩
    · rw [if_neg e, if_neg (by unfold shiftP; split <;> omega)]
      exact h.fresh
theorem RelR.pick {n k : Nat} {rows1 : List (List Int)} {s t : RS} (h : RelR n rows1 s t) (hg : GoodR k t) (hx : ∀ row ∈ t.rows, ∀ x ∈ row, 0 ≤ x ∧ x < (k : Int)) (lv lvR pr prR : List Int) (hpr : pr.getD (n + k) 0 = shiftP n (prR.getD k 0)) (hlv : ∀ j, j ≤ k → lv.getD (n + j) 0 = lvR.getD j 0) :
    RelM n rows1 (pickR lv pr (n + k) s) (pickR lvR prR k t) := by
  unfold pickR
  rcases h.last with ⟨h1, h2⟩ | ⟨h1, h2, h3, h4⟩
  · rw [if_pos (show breaksP lv (n + k) s from .inr (.inl (by omega))), if_pos (show breaksP lvR k t from .inr (.inl (by omega)))]
    exact h.turn hg hx pr prR hpr
  · have hb : breaksP lv (n + k) s ↔ breaksP lvR k t := by
      unfold breaksP
      have hl := hg.last
      have e1 : s.last.toNat = n + t.last.toNat := by omega
      rw [e1, hlv _ (by omega), hlv k (Nat.le_refl _)]
      constructor
      · rintro (h | h | h)
        · omega
        · omega
        · exact .inr (.inr h)
      · rintro (h | h | h)
        · omega
        · omega
        · exact .inr (.inr h)
    by_cases hbk : breaksP lvR k t
    · rw [if_pos hbk, if_pos (hb.2 hbk)]
      exact h.turn hg hx pr prR hpr
    · rw [if_neg hbk, if_neg (fun h' => hbk (hb.1 h'))]
      exact ⟨h.rows, h.m, h3, h4⟩
theorem RelM.put {n k : Nat} {rows1 : List (List Int)} {s t : RS} (h : RelM n rows1 s t) (d : Int) (pr prR : List Int) (hpr : pr.getD (n + k) 0 = shiftP n (prR.getD k 0)) : RelR n rows1 (putR d pr (n + k) s) (putR d prR k t) := by
  obtain ⟨hn1, hn2⟩ := h.now
  obtain ⟨b, hb⟩ : ∃ b : Nat, t.now = b := ⟨t.now.toNat, by omega⟩
  have e1 : t.now.toNat = b := by omega
  have e2 : s.now.toNat = b + rows1.length := by omega
  refine ⟨?_, fun i => ?_, ?_⟩
  · simp only [putR, e1, e2, h.rows, getD_parts]
    rw [List.set_append_right _ _ (by omega), Nat.add_sub_cancel, List.map_set]
    have e3 : ((n + k : Nat) : Int) = (k : Int) + n := by omega
    rw [e3]
    simp only [List.map_append, List.map_cons, List.map_nil]
  · simp only [putR, hpr, e1, e2]
    have hc : (opensB d = true ∧ 0 ≤ shiftP n (prR.getD k 0)) ↔ (opensB d = true ∧ 0 ≤ prR.getD k 0) := by
      unfold shiftP
      split <;> constructor <;> rintro ⟨h1, h2⟩ <;> refine ⟨h1, ?_⟩ <;> omega
    by_cases hp : opensB d = true ∧ 0 ≤ prR.getD k 0
    · have e3 : shiftP n (prR.getD k 0) = prR.getD k 0 + n := by unfold shiftP; rw [if_neg (by omega)]
      rw [if_pos (hc.2 hp), if_pos hp]
      simp only [e3]
      by_cases e : (i : Int) = prR.getD k 0
      · rw [if_pos e, if_pos (by omega)]; rfl
      · rw [if_neg e, if_neg (by omega)]; exact h.m i
    · rw [if_neg (fun h => hp (hc.1 h)), if_neg hp]
      exact h.m i
  · simp only [putR]
    by_cases hd : d = 10
    · rw [if_pos hd, if_pos hd]; exact .inl ⟨rfl, rfl⟩
    · rw [if_neg hd, if_neg hd]; exact .inr ⟨by omega, by omega, hn1, hn2⟩
theorem rto_back (A R lv lvR pr prR : List Int) (rows1 : List (List Int)) (h0 : RelR A.length rows1 (rto (A ++ R) lv pr A.length) ⟨[], -1, -1, fun _ => none⟩)
    (hpr : ∀ j, j < R.length → pr.getD (A.length + j) 0 = shiftP A.length (prR.getD j 0)) (hlv : ∀ j, j < R.length → lv.getD (A.length + j) 0 = lvR.getD j 0) : ∀ k, k ≤ R.length → RelR A.length rows1 (rto (A ++ R) lv pr (A.length + k)) (rto R lvR prR k)
  | 0, _ => h0
  | k + 1, hk => by
    have ih := rto_back A R lv lvR pr prR rows1 h0 hpr hlv k (by omega)
    rw [← Nat.add_assoc]
    simp only [rto]
    rw [getD_app2 A R k]
    unfold stepR
    split
    · exact ih
    · exact (ih.pick (rto_good R lvR prR k) (rto_bound R lvR prR k) lv lvR pr prR (hpr k (by omega)) (fun j hj => hlv j (by omega))).put _ pr prR (hpr k (by omega))
theorem runs_parts (A R Y Z : List Int) (hY : Y.length = A.length) (hZ : Z.length = R.length) (h : EndB A ∨ R = []) : runsL (A ++ R) (Y ++ Z) = runsL A Y ++ (runsL R Z).map (·.map (· + (A.length : Int))) := by
  have e0 : min (A ++ R).length (Y ++ Z).length = A.length + R.length := by simp; omega
  have e1 : min A.length Y.length = A.length := by omega
  have e2 : min R.length Z.length = R.length := by omega
  unfold runsL
  rw [e0, e1, e2, List.take_of_length_le (by simp), List.take_length, List.take_length]
  obtain ⟨p1, p2⟩ := pairs_parts A R h
  have l1 : ∀ j, j < A.length → (Y ++ Z).getD j 0 = Y.getD j 0 := fun j hj => getD_app1 Y Z j (by omega)
  have l2 : ∀ j, j < R.length → (Y ++ Z).getD (A.length + j) 0 = Z.getD j 0 := fun j hj => by rw [← hY]; exact getD_app2 Y Z j
  have hf := rto_front A R (Y ++ Z) Y (pairsL (A ++ R)) (pairsL A) l1 p1 A.length (Nat.le_refl _)
  rcases h with h | rfl
  · refine (rto_back A R (Y ++ Z) Z _ (pairsL R) _ ⟨?_, fun i => ?_, .inl ⟨rfl, ?_⟩⟩ p2 l2 R.length (Nat.le_refl _)).rows
    · rw [hf]; simp
    · rw [hf]
      cases hm : (rto A Y (pairsL A) A.length).m ((A.length + i : Nat) : Int) with
      | none => rfl
      | some a =>
        have := rto_keys A Y (pairsL A) A.length (fun j hj => (pairsL_bound A j hj).2) A.length (Nat.le_refl _) _ a hm
        omega
    · rw [hf]; exact rto_endB A _ _ h
  · rw [List.append_nil] at hf ⊢
    show (rto A (Y ++ Z) (pairsL A) (A.length + 0)).rows = _
    rw [Nat.add_zero, hf]
    simp [rto]
end Go.Proofs.Ytikgjnfimagpjaa
