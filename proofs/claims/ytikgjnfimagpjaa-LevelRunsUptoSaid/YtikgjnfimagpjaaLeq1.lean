/- LevelRuns: plain law: the runs as chains of stretches. -/
import Derived.Test.YtikgjnfimagpjaaLwhole3
namespace Go.Proofs.Ytikgjnfimagpjaa
section
variable {α : Type}
theorem gset (l : List (List α)) (b a : Nat) (r : List α) (hb : b < l.length) : (l.set b r).getD a [] = if a = b then r else l.getD a [] := by
  simp only [List.getD_eq_getElem?_getD]
  by_cases e : a = b
  · subst e; simp [hb]
  · rw [if_neg e, List.getElem?_set_ne (fun e' => e e'.symm)]
theorem gsnoc (l : List (List α)) (r : List α) (a : Nat) : (l ++ [r]).getD a [] = if a = l.length then r else l.getD a [] := by
  simp only [List.getD_eq_getElem?_getD]
  by_cases h : a < l.length
  · rw [List.getElem?_append_left h, if_neg (by omega)]
  · by_cases e : a = l.length
    · subst e; simp
    · rw [if_neg e, List.getElem?_eq_none (by simp; omega), List.getElem?_eq_none (by omega)]
theorem gnone (l : List (List α)) (a : Nat) (h : l.length ≤ a) : l.getD a [] = [] := by
  rw [List.getD_eq_getElem?_getD, List.getElem?_eq_none h]; rfl
theorem gmap {β : Type} (f : List α → List β) (l : List (List α)) (a : Nat) (h : a < l.length) : (l.map f).getD a [] = f (l.getD a []) := by
  simp only [List.getD_eq_getElem?_getD, List.getElem?_map, List.getElem?_eq_getElem h]; rfl
end
def lastL (l : List Int) : Int := l.getD (l.length - 1) 0
def headL (l : List Int) : Int := l.getD 0 0
def lastN (l : List Nat) : Nat := l.getD (l.length - 1) 0
theorem lastL_snoc (l : List Int) (x : Int) : lastL (l ++ [x]) = x := by unfold lastL; simp
theorem lastN_snoc (l : List Nat) (x : Nat) : lastN (l ++ [x]) = x := by unfold lastN; simp
theorem headL_snoc (l : List Int) (x : Int) (h : l ≠ []) : headL (l ++ [x]) = headL l := by
  cases l with
  | nil => exact absurd rfl h
  | cons a r => rfl
theorem headL_mem (l : List Int) (h : l ≠ []) : headL l ∈ l := getD_mem' l 0 (List.length_pos_iff.2 h)
theorem lastL_mem (l : List Int) (h : l ≠ []) : lastL l ∈ l := getD_mem' l _ (by have := List.length_pos_iff.2 h; omega)
theorem snoc_lastN (l : List Nat) (h : l ≠ []) : l = l.dropLast ++ [lastN l] := by
  rcases List.eq_nil_or_concat l with e | ⟨r, x, e⟩
  · exact absurd e h
  · rw [e, List.concat_eq_append, lastN_snoc]; simp
theorem lastN_mem (l : List Nat) (h : l ≠ []) : lastN l ∈ l := getD_mem_nat (by have := List.length_pos_iff.2 h; omega)
/-- a place taken into the stretches -/
def strStep (d : Int) (lv : List Int) (i : Nat) (q : List (List Int) × Bool) : List (List Int) × Bool :=
  if leftB d = true then q
  else (if q.2 = true ∧ lv.getD (headL (q.1.getD (q.1.length - 1) [])).toNat 0 = lv.getD i 0 then q.1.set (q.1.length - 1) (q.1.getD (q.1.length - 1) [] ++ [(i : Int)]) else q.1 ++ [[(i : Int)]], !(d == 10))
def sto (zs lv : List Int) : Nat → List (List Int) × Bool
  | 0 => ([], false)
  | k + 1 => strStep (clsL (zs.getD k 0)) lv k (sto zs lv k)
/-- one stretch goes on another -/
def Edge (zs pr : List Int) (S : List (List Int)) (a b : Nat) : Prop :=
  opensB (clsL (zs.getD (lastL (S.getD a [])).toNat 0)) = true ∧ pr.getD (lastL (S.getD a [])).toNat 0 = headL (S.getD b [])
def cat (S : List (List Int)) (ch : List Nat) : List Int := (ch.map fun j => S.getD j []).flatten
theorem cat_congr (S S' : List (List Int)) (ch : List Nat) (h : ∀ j ∈ ch, S'.getD j [] = S.getD j []) : cat S' ch = cat S ch := by
  unfold cat
  congr 1
  exact List.map_congr_left h
theorem cat_snoc (S : List (List Int)) (ch : List Nat) (j : Nat) : cat S (ch ++ [j]) = cat S ch ++ S.getD j [] := by
  unfold cat; simp
/-- what is asked of the pairs -/
structure PairOK (zs pr : List Int) (n : Nat) : Prop where
  fwd : ∀ t, t < n → opensB (clsL (zs.getD t 0)) = true → 0 ≤ pr.getD t 0 → ∃ j : Nat, pr.getD t 0 = j ∧ t < j ∧ j < n ∧ pr.getD j 0 = t
  back : ∀ i, i < n → 0 ≤ pr.getD i 0 → pr.getD i 0 < i → ∃ t : Nat, pr.getD i 0 = t ∧ opensB (clsL (zs.getD t 0)) = true ∧ pr.getD t 0 = i
structure ChI (zs lv pr : List Int) (k : Nat) (S : List (List Int)) (bg : Bool) (s : RS) (C : List (List Nat)) : Prop where
  sne : ∀ a, a < S.length → S.getD a [] ≠ []
  sbd : ∀ a, ∀ x ∈ S.getD a [], 0 ≤ x ∧ x < (k : Int)
  sdis : ∀ a b x, x ∈ S.getD a [] → x ∈ S.getD b [] → a = b
  rows : s.rows = C.map (cat S)
  cne : ∀ c, c < C.length → C.getD c [] ≠ []
  cbd : ∀ c, ∀ j ∈ C.getD c [], j < S.length
  cov : ∀ j, j < S.length → ∃ c, c < C.length ∧ j ∈ C.getD c []
  cdis : ∀ c c' j, j ∈ C.getD c [] → j ∈ C.getD c' [] → c = c'
  asc : ∀ c, (C.getD c []).Pairwise (· < ·)
  edge : ∀ c i, i + 1 < (C.getD c []).length → Edge zs pr S ((C.getD c []).getD i 0) ((C.getD c []).getD (i + 1) 0)
  head : ∀ c, c < C.length → ∀ a, a < S.length → ¬ Edge zs pr S a ((C.getD c []).getD 0 0)
  hasc : ∀ c c', c < c' → c' < C.length → (C.getD c []).getD 0 0 < (C.getD c' []).getD 0 0
  now : 0 < S.length → 0 ≤ s.now ∧ s.now.toNat < C.length ∧ lastN (C.getD s.now.toNat []) = S.length - 1
  beg : bg = true ↔ 0 ≤ s.last
  last : 0 ≤ s.last → 0 < S.length ∧ s.last = lastL (S.getD (S.length - 1) []) ∧ lv.getD s.last.toNat 0 = lv.getD (headL (S.getD (S.length - 1) [])).toNat 0
  m : ∀ t : Nat, t < k → lf zs t = false → opensB (clsL (zs.getD t 0)) = true → 0 ≤ pr.getD t 0 → ∃ c a, s.m (pr.getD t 0) = some c ∧ c < C.length ∧ a ∈ C.getD c [] ∧ (t : Int) ∈ S.getD a []
theorem ChI.start (zs lv pr : List Int) : ChI zs lv pr 0 [] false ⟨[], -1, -1, fun _ => none⟩ [] := by
  refine ⟨?_, ?_, ?_, ?_, ?_, ?_, ?_, ?_, ?_, ?_, ?_, ?_, ?_, ?_, ?_, ?_⟩ <;> simp
/-- a place that is left out -/
theorem ChI.skip {zs lv pr : List Int} {k : Nat} {S : List (List Int)} {bg : Bool} {s : RS} {C : List (List Nat)} (h : ChI zs lv pr k S bg s C) (hl : lf zs k = true) : ChI zs lv pr (k + 1) S bg s C :=
  ⟨h.sne, fun a x hx => by have := h.sbd a x hx; omega, h.sdis, h.rows, h.cne, h.cbd, h.cov, h.cdis, h.asc, h.edge, h.head, h.hasc, h.now, h.beg, h.last, fun t ht hlt => by
    by_cases e : t = k
    · subst e; rw [hl] at hlt; cases hlt
    · exact h.m t (by omega) hlt⟩
/-- a stretch that ends at k goes on none that is there -/
theorem no_edge {zs pr : List Int} {n k : Nat} (hp : PairOK zs pr n) (hk : k < n) (S : List (List Int)) (a b : Nat) (ha : lastL (S.getD a []) = k) (hb : 0 ≤ headL (S.getD b []) ∧ headL (S.getD b []) ≤ (k : Int)) : ¬ Edge zs pr S a b := by
  rintro ⟨h1, h2⟩
  rw [ha] at h1 h2
  simp only [Int.toNat_natCast] at h1 h2
  obtain ⟨j, hj, hkj, -, -⟩ := hp.fwd k hk h1 (by omega)
  omega
end Go.Proofs.Ytikgjnfimagpjaa
