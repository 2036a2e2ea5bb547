/- LevelRuns: plain law: the document's runs: stretches joined by 'next'. -/
import Derived.Test.YtikgjnfimagpjaaLeq4
import Derived.Test.YtikgjnfimagpjaaLref3
namespace Go.Proofs.Ytikgjnfimagpjaa
/-- the number and 1 of the stretch that begins at p, of the first i -/
def begN (S : List (List Int)) : Nat → Int → Nat
  | 0, _ => 0
  | i + 1, p => if headL (S.getD i []) = p then i + 1 else begN S i p
def nxN (zs pr : List Int) (S : List (List Int)) (a : Nat) : Nat :=
  if opensB (clsL (zs.getD (lastL (S.getD a [])).toNat 0)) = true ∧ 0 ≤ pr.getD (lastL (S.getD a [])).toNat 0 then begN S S.length (pr.getD (lastL (S.getD a [])).toNat 0) else 0
def goesB (nx : Nat → Nat) : Nat → Nat → Bool
  | 0, _ => false
  | i + 1, b => goesB nx i b || decide (nx i = b + 1)
def chainF (S : List (List Int)) (nx : Nat → Nat) : Nat → Nat → List Int
  | 0, _ => []
  | _ + 1, 0 => []
  | f + 1, k + 1 => S.getD k [] ++ chainF S nx f (nx k)
/-- the document's runs -/
def docR (S : List (List Int)) (nx : Nat → Nat) : Nat → List (List Int)
  | 0 => []
  | i + 1 => if goesB nx S.length i = true then docR S nx i else docR S nx i ++ [chainF S nx (S.length + 1) (i + 1)]
theorem goesB_iff (nx : Nat → Nat) (b : Nat) : ∀ i, goesB nx i b = true ↔ ∃ a, a < i ∧ nx a = b + 1
  | 0 => by simp [goesB]
  | i + 1 => by
    simp only [goesB, Bool.or_eq_true, goesB_iff nx b i, decide_eq_true_eq]
    constructor
    · rintro (⟨a, h1, h2⟩ | h)
      · exact ⟨a, by omega, h2⟩
      · exact ⟨i, by omega, h⟩
    · rintro ⟨a, h1, h2⟩
      by_cases e : a = i
      · exact .inr (e ▸ h2)
      · exact .inl ⟨a, by omega, h2⟩
theorem begN_some (S : List (List Int)) (p : Int) : ∀ i b, begN S i p = b + 1 → b < i ∧ headL (S.getD b []) = p
  | 0, b, h => by simp [begN] at h
  | i + 1, b, h => by
    unfold begN at h
    split at h
    · rename_i e
      have : b = i := by omega
      subst this
      exact ⟨by omega, e⟩
    · have := begN_some S p i b h
      exact ⟨by omega, this.2⟩
theorem begN_zero (S : List (List Int)) (p : Int) : ∀ i, begN S i p = 0 → ∀ b, b < i → headL (S.getD b []) ≠ p
  | 0, _, b, hb => absurd hb (by omega)
  | i + 1, h, b, hb => by
    unfold begN at h
    split at h
    · omega
    · rename_i e
      by_cases e2 : b = i
      · subst e2; exact e
      · exact begN_zero S p i h b (by omega)
section
variable {zs lv pr : List Int} {k : Nat} {S : List (List Int)} {bg : Bool} {s : RS} {C : List (List Nat)}
theorem ChI.heads (h : ChI zs lv pr k S bg s C) (a b : Nat) (ha : a < S.length) (hb : b < S.length) (e : headL (S.getD a []) = headL (S.getD b [])) : a = b :=
  h.sdis a b _ (headL_mem _ (h.sne a ha)) (by rw [e]; exact headL_mem _ (h.sne b hb))
theorem ChI.nx_edge (h : ChI zs lv pr k S bg s C) (a b : Nat) (hb : b < S.length) : nxN zs pr S a = b + 1 ↔ Edge zs pr S a b := by
  unfold nxN Edge
  have h0 := (h.sbd b _ (headL_mem _ (h.sne b hb))).1
  constructor
  · intro e
    split at e
    · rename_i hc
      have := begN_some _ _ _ _ e
      exact ⟨hc.1, this.2.symm⟩
    · omega
  · rintro ⟨h1, h2⟩
    rw [if_pos ⟨h1, by rw [h2]; exact h0⟩, h2]
    cases hx : begN S S.length (headL (S.getD b [])) with
    | zero => exact absurd rfl (begN_zero _ _ _ hx b hb)
    | succ c =>
      have := begN_some _ _ _ _ hx
      rw [h.heads c b this.1 hb this.2]
theorem ChI.nx_lt (a b : Nat) (e : nxN zs pr S a = b + 1) : b < S.length := by
  unfold nxN at e
  split at e
  · exact (begN_some _ _ _ _ e).1
  · omega
theorem ChI.end_ (h : ChI zs lv pr k S bg s C) {n : Nat} (hp : PairOK zs pr n) (hk : k ≤ n) (c x : Nat) (pre : List Nat) (hC : C.getD c [] = pre ++ [x]) : nxN zs pr S x = 0 := by
  cases hx : nxN zs pr S x with
  | zero => rfl
  | succ b =>
    exfalso
    have hb := ChI.nx_lt x b hx
    have he := (h.nx_edge x b hb).1 hx
    have hxC : x ∈ C.getD c [] := by rw [hC]; simp
    have hxS := h.cbd c x hxC
    obtain ⟨c', hc', hbm⟩ := h.cov b hb
    obtain ⟨i, hi, hib⟩ := List.mem_iff_getElem.1 hbm
    have hgi : (C.getD c' []).getD i 0 = b := by rw [List.getD_eq_getElem?_getD, List.getElem?_eq_getElem hi]; exact hib
    cases i with
    | zero => exact h.head c' hc' x hxS (by rw [hgi]; exact he)
    | succ i =>
      have he2 := h.edge c' i hi
      rw [hgi] at he2
      have hpm := getD_mem_nat (st := C.getD c' []) (i := i) (by omega)
      obtain ⟨y, hy⟩ : ∃ y, y = (C.getD c' []).getD i 0 := ⟨_, rfl⟩
      rw [← hy] at he2 hpm
      have hyS := h.cbd c' y hpm
      have b1 := h.sbd x _ (lastL_mem _ (h.sne x hxS))
      have b2 := h.sbd y _ (lastL_mem _ (h.sne y hyS))
      have hh := (h.sbd b _ (headL_mem _ (h.sne b hb))).1
      obtain ⟨h1, h2⟩ := he
      obtain ⟨h3, h4⟩ := he2
      obtain ⟨j, hj, -, -, hjt⟩ := hp.fwd _ (by omega) h1 (by omega)
      obtain ⟨j', hj', -, -, hjt'⟩ := hp.fwd _ (by omega) h3 (by omega)
      have : j = j' := by omega
      subst this
      have hll : lastL (S.getD x []) = lastL (S.getD y []) := by omega
      have hxy := h.sdis x y _ (lastL_mem _ (h.sne x hxS)) (by rw [hll]; exact lastL_mem _ (h.sne y hyS))
      subst hxy
      have hcc := h.cdis c c' x hxC hpm
      subst hcc
      have hlen : (C.getD c []).length = pre.length + 1 := by rw [hC]; simp
      have ha := List.pairwise_iff_getElem.1 (h.asc c) i ((C.getD c []).length - 1) (by omega) (by omega) (by omega)
      have hlast : (C.getD c [])[(C.getD c []).length - 1]'(by omega) = x := by
        have : (C.getD c []).getD ((C.getD c []).length - 1) 0 = x := by rw [hC]; simp
        rw [List.getD_eq_getElem?_getD, List.getElem?_eq_getElem (by omega)] at this
        exact this
      rw [hlast] at ha
      have hi' : (C.getD c [])[i]'(by omega) = x := by
        rw [List.getD_eq_getElem?_getD, List.getElem?_eq_getElem (by omega)] at hy
        exact hy.symm
      omega
theorem ChI.chain (h : ChI zs lv pr k S bg s C) {n : Nat} (hp : PairOK zs pr n) (hk : k ≤ n) (c : Nat) : ∀ (rest pre : List Nat) (x f : Nat), C.getD c [] = pre ++ x :: rest → rest.length + 1 < f → chainF S (nxN zs pr S) f (x + 1) = cat S (x :: rest)
  | [], pre, x, f, hC, hf => by
    obtain ⟨f', rfl⟩ : ∃ f', f = f' + 1 := ⟨f - 1, by omega⟩
    have e := h.end_ hp hk c x pre hC
    show S.getD x [] ++ chainF S (nxN zs pr S) f' (nxN zs pr S x) = _
    rw [e]
    cases f' <;> simp [chainF, cat]
  | y :: rest, pre, x, f, hC, hf => by
    obtain ⟨f', rfl⟩ : ∃ f', f = f' + 1 := ⟨f - 1, by omega⟩
    have hl : (C.getD c []).length = pre.length + (rest.length + 2) := by rw [hC]; simp
    have he := h.edge c pre.length (by omega)
    have g1 : (C.getD c []).getD pre.length 0 = x := by rw [hC]; simp
    have g2 : (C.getD c []).getD (pre.length + 1) 0 = y := by
      rw [hC, List.getD_eq_getElem?_getD, List.getElem?_append_right (by omega)]
      simp
    rw [g1, g2] at he
    have hyS := h.cbd c y (by rw [hC]; simp)
    have e := (h.nx_edge x y hyS).2 he
    show S.getD x [] ++ chainF S (nxN zs pr S) f' (nxN zs pr S x) = _
    rw [e, h.chain hp hk c rest (pre ++ [x]) y f' (by rw [hC]; simp) (by simp only [List.length_cons] at hf; omega)]
    rfl
/-- the chains with their heads below i -/
theorem ChI.upto (h : ChI zs lv pr k S bg s C) {n : Nat} (hp : PairOK zs pr n) (hk : k ≤ n) : ∀ i, i ≤ S.length → ∃ m, m ≤ C.length ∧ docR S (nxN zs pr S) i = (C.take m).map (cat S) ∧ (∀ c, c < m → (C.getD c []).getD 0 0 < i) ∧ ∀ c, m ≤ c → c < C.length → i ≤ (C.getD c []).getD 0 0
  | 0, _ => ⟨0, by omega, by simp [docR], fun c hc => absurd hc (by omega), fun c _ _ => by omega⟩
  | i + 1, hi => by
    obtain ⟨m, hm, h1, h2, h3⟩ := h.upto hp hk i (by omega)
    unfold docR
    by_cases hg : goesB (nxN zs pr S) S.length i = true
    · rw [if_pos hg]
      refine ⟨m, hm, h1, fun c hc => by have := h2 c hc; omega, fun c hc hcl => ?_⟩
      have := h3 c hc hcl
      by_cases e : (C.getD c []).getD 0 0 = i
      · exfalso
        obtain ⟨a, ha, hn⟩ := (goesB_iff _ _ _).1 hg
        exact h.head c hcl a ha (by rw [e]; exact (h.nx_edge a i (by omega)).1 hn)
      · omega
    · rw [if_neg hg]
      obtain ⟨c, hc, him⟩ := h.cov i (by omega)
      obtain ⟨j, hj, hji⟩ := List.mem_iff_getElem.1 him
      have hgj : (C.getD c []).getD j 0 = i := by rw [List.getD_eq_getElem?_getD, List.getElem?_eq_getElem hj]; exact hji
      have hj0 : j = 0 := by
        cases j with
        | zero => rfl
        | succ j =>
          exfalso
          have he := h.edge c j hj
          rw [hgj] at he
          have hpm := getD_mem_nat (st := C.getD c []) (i := j) (by omega)
          exact hg ((goesB_iff _ _ _).2 ⟨_, h.cbd c _ hpm, (h.nx_edge _ i (by omega)).2 he⟩)
      subst hj0
      have hcm : c = m := by
        by_cases hlt : c < m
        · have := h2 c hlt; omega
        · by_cases hgt : m < c
          · have h4 := h.hasc m c hgt hc
            have h5 := h3 m (Nat.le_refl _) (by omega)
            omega
          · omega
      subst hcm
      obtain ⟨x, rest, hxr⟩ : ∃ x rest, C.getD c [] = x :: rest := by
        cases hcc : C.getD c [] with
        | nil => rw [hcc] at hj; simp at hj
        | cons x rest => exact ⟨x, rest, rfl⟩
      have hx : x = i := by rw [hxr] at hgj; exact hgj
      have hlen : (C.getD c []).length ≤ S.length := sorted_len _ _ (h.asc c) (h.cbd c)
      rw [hxr] at hlen
      simp only [List.length_cons] at hlen
      have hch := h.chain hp hk c rest [] x (S.length + 1) (by rw [hxr]; rfl) (by omega)
      rw [← hxr, hx] at hch
      refine ⟨c + 1, by omega, ?_, fun d hd => ?_, fun d hd hdl => ?_⟩
      · rw [h1, hch, List.take_succ_eq_append_getElem hc, List.map_append]
        congr 1
        rw [List.getD_eq_getElem?_getD, List.getElem?_eq_getElem hc]
        rfl
      · by_cases e : d = c
        · subst e; omega
        · have := h2 d (by omega); omega
      · have := h.hasc c d (by omega) hdl; omega
end
theorem pairs_ok (zs : List Int) (n : Nat) (hn : n ≤ zs.length) : PairOK zs (pairsL (zs.take n)) n := by
  have hl : (zs.take n).length = n := by simp; omega
  have hc : ∀ t, t < n → (zs.take n).getD t 0 = zs.getD t 0 := fun t ht => take_getD zs n t ht
  refine ⟨fun t ht ho h0 => ?_, fun i hi h0 hlt => ?_⟩
  · rcases pairs_matched (zs.take n) t (by omega) with h | ⟨j, hj, h | h⟩
    · omega
    · exact ⟨j, h.fwd, h.lt, by omega, h.back⟩
    · have := h.ends
      rw [hc t ht] at this
      rw [this] at ho
      exact absurd ho (by decide)
  · rcases pairs_matched (zs.take n) i (by omega) with h | ⟨j, hj, h | h⟩
    · omega
    · have := h.fwd; have := h.lt; omega
    · have h1 := h.opens
      have h2 := h.lt
      rw [hc j (by omega)] at h1
      exact ⟨j, h.back, h1, h.fwd⟩
/-- the runs are the document's -/
theorem runs_doc (zs lv : List Int) (n : Nat) (hn : n = min zs.length lv.length) :
    runsL zs lv = docR (sto zs lv n).1 (nxN zs (pairsL (zs.take n)) (sto zs lv n).1) (sto zs lv n).1.length := by
  have hp := pairs_ok zs n (by omega)
  obtain ⟨C, h⟩ := rto_chain zs lv (pairsL (zs.take n)) n hp n (Nat.le_refl _)
  obtain ⟨m, hm, h1, h2, h3⟩ := h.upto hp (Nat.le_refl _) _ (Nat.le_refl _)
  have hmC : m = C.length := by
    by_cases e : m < C.length
    · have h4 := h3 m (Nat.le_refl _) e
      have h5 := h.cbd m _ (getD_mem_nat (st := C.getD m []) (i := 0) (List.length_pos_iff.2 (h.cne m e)))
      omega
    · omega
  rw [h1, hmC, List.take_length, ← h.rows]
  unfold runsL
  rw [← hn]
end Go.Proofs.Ytikgjnfimagpjaa
