/- LevelRuns: plain law: the runs are chains of stretches. -/
import Derived.Test.YtikgjnfimagpjaaLeq3
namespace Go.Proofs.Ytikgjnfimagpjaa
theorem lastL_app (x y : List Int) (h : y ≠ []) : lastL (x ++ y) = lastL y := by
  rcases List.eq_nil_or_concat y with e | ⟨r, z, e⟩
  · exact absurd e h
  · rw [e, List.concat_eq_append, ← List.append_assoc, lastL_snoc, lastL_snoc]
theorem lastL_cat (S : List (List Int)) (ch : List Nat) (h : ch ≠ []) (hs : S.getD (lastN ch) [] ≠ []) : lastL (cat S ch) = lastL (S.getD (lastN ch) []) := by
  rw [snoc_lastN ch h, cat_snoc, lastN_snoc, lastL_app _ _ hs]
theorem map_set_cat (S' : List (List Int)) (C : List (List Nat)) (a : Nat) (ch : List Nat) : (C.set a ch).map (cat S') = (C.map (cat S')).set a (cat S' ch) := List.map_set
theorem map_cat_app {zs lv pr : List Int} {k : Nat} {S : List (List Int)} {bg : Bool} {s : RS} {C : List (List Nat)} (h : ChI zs lv pr k S bg s C) (r : List Int) : C.map (cat (S ++ [r])) = C.map (cat S) := by
  refine List.map_congr_left fun ch hch => cat_app S r ch fun j hj => ?_
  obtain ⟨c, hc, e⟩ := List.mem_iff_getElem.1 hch
  refine h.cbd c j ?_
  rw [List.getD_eq_getElem?_getD, List.getElem?_eq_getElem hc, e]
  exact hj
theorem opens_not_left (d : Int) (h : opensB d = true) : leftB d = false := by
  have := (opensB_iff d).1 h
  cases hl : leftB d with
  | false => rfl
  | true => have := (leftB_iff d).1 hl; omega
theorem ChI.step {zs lv pr : List Int} {n k : Nat} {S : List (List Int)} {bg : Bool} {s : RS} {C : List (List Nat)} (h : ChI zs lv pr k S bg s C) (hg : GoodR k s) (hp : PairOK zs pr n) (hk : k < n) (d : Int) (hd : d = clsL (zs.getD k 0)) :
    ∃ C', ChI zs lv pr (k + 1) (strStep d lv k (S, bg)).1 (strStep d lv k (S, bg)).2 (stepR d lv pr k s) C' := by
  have hrl : s.rows.length = C.length := by rw [h.rows, List.length_map]
  unfold strStep stepR
  by_cases hl : leftB d = true
  · rw [if_pos hl, if_pos hl]
    exact ⟨C, h.skip (by unfold lf; rw [← hd]; exact hl)⟩
  rw [if_neg hl, if_neg hl]
  simp only
  by_cases hc : bg = true ∧ lv.getD (headL (S.getD (S.length - 1) [])).toNat 0 = lv.getD k 0
  · rw [if_pos hc]
    have hl0 := h.beg.1 hc.1
    obtain ⟨hS, -, h3⟩ := h.last hl0
    have hn0 := (h.now hS).1
    have hpk : pickR lv pr k s = s := if_neg (by unfold breaksP; rw [h3, hc.2]; omega)
    rw [hpk]
    exact ⟨C, h.cont hg hp hk d hd hl0 hc.2⟩
  rw [if_neg hc]
  have hbr : breaksP lv k s := by
    unfold breaksP
    by_cases h0 : s.last < 0
    · exact .inr (.inl h0)
    · have hb := h.beg.2 (by omega)
      obtain ⟨hS, -, h3⟩ := h.last (by omega)
      exact .inr (.inr (fun e => hc ⟨hb, by rw [← h3]; exact e⟩))
  have hpk : pickR lv pr k s = turnR pr k s := if_pos hbr
  rw [hpk]
  obtain ⟨q, hq⟩ : ∃ q, q = S.length := ⟨_, rfl⟩
  have g : ∀ a, (S ++ [[(k : Int)]]).getD a [] = if a = q then [(k : Int)] else S.getD a [] := fun a => by rw [gsnoc, hq]
  have hq2 : headL ((S ++ [[(k : Int)]]).getD q []) = k := by rw [g, if_pos rfl]; rfl
  -- none goes on at k, if the last one of the map's row isn't the sign
  have hfin : (∀ a, s.m k = some a → lastL (s.rows.getD a []) ≠ pr.getD k 0) → ∃ C', ChI zs lv pr (k + 1) (S ++ [[(k : Int)]]) (!(d == 10)) (putR d pr k s.fresh) C' := fun hno => by
    refine ⟨C ++ [[q]], h.next hp hk d hd C.length (Nat.le_refl _) (C ++ [[q]]) (fun c => ?_) (by simp) (putR d pr k s.fresh) ?_ ?_ rfl (fun y => ?_) (fun hlt => absurd hlt (by omega)) (fun _ a ha he => ?_)⟩
    · rw [gsnoc, gnone C C.length (Nat.le_refl _), List.nil_append, hq]
    · show (s.rows ++ [[]]).set ((s.rows.length : Int).toNat) ((s.rows ++ [[]]).getD ((s.rows.length : Int).toNat) [] ++ [(k : Int)]) = _
      rw [Int.toNat_natCast, gsnoc, if_pos rfl, List.set_append_right _ _ (Nat.le_refl _), Nat.sub_self, List.map_append, map_cat_app h, ← h.rows]
      congr 1
      show [[] ++ [(k : Int)]] = [cat (S ++ [[(k : Int)]]) [q]]
      unfold cat
      simp only [List.map_cons, List.map_nil, List.flatten_cons, List.flatten_nil, List.append_nil]
      rw [g, if_pos rfl]
      rfl
    · show (s.rows.length : Int) = C.length
      rw [hrl]
    · show (if opensB d = true ∧ 0 ≤ pr.getD k 0 then fun y => if y = pr.getD k 0 then some ((s.rows.length : Int).toNat) else s.m y else s.m) y = _
      rw [Int.toNat_natCast, hrl]
      by_cases h1 : opensB d = true ∧ 0 ≤ pr.getD k 0
      · rw [if_pos h1]
        by_cases h2 : y = pr.getD k 0
        · rw [if_pos h2, if_pos ⟨h1.1, h1.2, h2⟩]
        · rw [if_neg h2, if_neg (fun hh => h2 hh.2.2)]
      · rw [if_neg h1, if_neg (fun hh => h1 ⟨hh.1, hh.2.1⟩)]
    · obtain ⟨e1, e2⟩ := he
      rw [← hq] at e2
      rw [hq2] at e2
      rw [g, if_neg (by omega)] at e1 e2
      have hsa := h.sne a ha
      have hmem := lastL_mem _ hsa
      have hbd := h.sbd a _ hmem
      obtain ⟨t, ht⟩ : ∃ t : Nat, lastL (S.getD a []) = t := ⟨(lastL (S.getD a [])).toNat, by omega⟩
      rw [ht] at e1 e2 hmem hbd
      rw [Int.toNat_natCast] at e1 e2
      obtain ⟨c, a', hm, hcl, ha', hta⟩ := h.m t (by omega) (opens_not_left _ e1) e1 (by omega)
      rw [e2] at hm
      have haa := h.sdis a a' _ hmem hta
      subst haa
      refine hno c hm ?_
      have hlast : lastN (C.getD c []) = a := by
        obtain ⟨i, hi, hia⟩ := List.mem_iff_getElem.1 ha'
        by_cases hi1 : i + 1 < (C.getD c []).length
        · have he := (h.edge c i hi1).2
          have h3 : (C.getD c []).getD i 0 = a := by rw [List.getD_eq_getElem?_getD, List.getElem?_eq_getElem hi]; exact hia
          rw [h3, ht, Int.toNat_natCast, e2] at he
          have hb := h.cbd c _ (getD_mem_nat (st := C.getD c []) (i := i + 1) hi1)
          have := h.sbd _ _ (headL_mem _ (h.sne _ hb))
          omega
        · unfold lastN
          rw [show (C.getD c []).length - 1 = i by omega, List.getD_eq_getElem?_getD, List.getElem?_eq_getElem hi]
          exact hia
      rw [h.rows, gmap _ _ _ hcl, lastL_cat S _ (h.cne c hcl) (by rw [hlast]; exact hsa), hlast, ht]
      obtain ⟨j, hj, -, -, hjt⟩ := hp.fwd t (by omega) e1 (by omega)
      have : j = k := by omega
      subst this
      exact hjt.symm
  unfold turnR
  cases hm : s.m (k : Int) with
  | none => exact hfin fun a e => by rw [hm] at e; cases e
  | some a =>
    simp only
    have hal := hg.m _ a hm
    by_cases he : (s.rows.getD a []).getD ((s.rows.getD a []).length - 1) 0 = pr.getD k 0
    · rw [if_pos he]
      have haC : a < C.length := by omega
      have hne := h.cne a haC
      have hj := h.cbd a _ (lastN_mem _ hne)
      have hsj := h.sne _ hj
      have hlc := lastL_cat S _ hne hsj
      have he' : lastL (S.getD (lastN (C.getD a [])) []) = pr.getD k 0 := by
        rw [← hlc, ← he, h.rows, gmap _ _ _ haC]; rfl
      have hbd := h.sbd _ _ (lastL_mem _ hsj)
      rw [he'] at hbd
      obtain ⟨t, ht, hto, htp⟩ := hp.back k hk hbd.1 hbd.2
      refine ⟨C.set a (C.getD a [] ++ [q]), h.next hp hk d hd a (by omega) _ (fun c => ?_) (by rw [List.length_set, if_pos haC]) (putR d pr k { s with now := a }) ?_ rfl rfl (fun y => ?_) (fun _ => ?_) (fun e => by omega)⟩
      · rw [gset _ _ _ _ haC, hq]
      · show s.rows.set ((a : Int).toNat) (s.rows.getD ((a : Int).toNat) [] ++ [(k : Int)]) = _
        rw [Int.toNat_natCast, map_set_cat, map_cat_app h, ← h.rows, cat_snoc, g, if_pos rfl]
        congr 2
        rw [h.rows, gmap _ _ _ haC]
        exact (cat_app S _ _ (fun j hj => h.cbd a j hj)).symm
      · show (if opensB d = true ∧ 0 ≤ pr.getD k 0 then fun y => if y = pr.getD k 0 then some ((a : Int).toNat) else s.m y else s.m) y = _
        rw [Int.toNat_natCast]
        by_cases h1 : opensB d = true ∧ 0 ≤ pr.getD k 0
        · rw [if_pos h1]
          by_cases h2 : y = pr.getD k 0
          · rw [if_pos h2, if_pos ⟨h1.1, h1.2, h2⟩]
          · rw [if_neg h2, if_neg (fun hh => h2 hh.2.2)]
        · rw [if_neg h1, if_neg (fun hh => h1 ⟨hh.1, hh.2.1⟩)]
      · unfold Edge
        rw [← hq, hq2, g, if_neg (by omega), he', ht, Int.toNat_natCast]
        exact ⟨hto, htp⟩
    · rw [if_neg he]
      refine hfin fun a' e => ?_
      rw [hm] at e
      injection e with e
      subst e
      exact he
theorem rto_chain (zs lv pr : List Int) (n : Nat) (hp : PairOK zs pr n) : ∀ k, k ≤ n → ∃ C, ChI zs lv pr k (sto zs lv k).1 (sto zs lv k).2 (rto zs lv pr k) C
  | 0, _ => ⟨[], ChI.start zs lv pr⟩
  | k + 1, hk => by
    obtain ⟨C, hC⟩ := rto_chain zs lv pr n hp k (by omega)
    exact hC.step (rto_good zs lv pr k) hp (by omega) _ rfl
end Go.Proofs.Ytikgjnfimagpjaa
