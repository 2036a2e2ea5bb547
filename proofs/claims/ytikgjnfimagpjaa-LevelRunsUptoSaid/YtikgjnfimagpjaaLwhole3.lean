/- LevelWhole: plain laws: each place that is not left out stands in just one run. -/
import Derived.Test.YtikgjnfimagpjaaLwhole1
import Derived.Test.YtikgjnfimagpjaaLwhole2
import Derived.Test.YtikgjnfimagpjaaLparts2
namespace Go.Proofs.Ytikgjnfimagpjaa
theorem rows_set (rows : List (List Int)) (b a : Nat) (r : List Int) (hb : b < rows.length) : (rows.set b r).getD a [] = if a = b then r else rows.getD a [] := by
  simp only [List.getD_eq_getElem?_getD]
  by_cases e : a = b
  · subst e; simp [hb]
  · rw [if_neg e, List.getElem?_set_ne (fun e' => e e'.symm)]
theorem rows_snoc (rows : List (List Int)) (a : Nat) : (rows ++ [[]]).getD a [] = rows.getD a [] := by
  simp only [List.getD_eq_getElem?_getD]
  by_cases h : a < rows.length
  · rw [List.getElem?_append_left h]
  · rw [List.getElem?_append_right (by omega), List.getElem?_eq_none (l := rows) (by omega)]
    cases h' : ([[]] : List (List Int))[a - rows.length]? with
    | none => rfl
    | some x =>
      have := List.mem_of_getElem? h'
      simp at this
      subst this
      rfl
theorem count_set (y i : Int) : ∀ (rows : List (List Int)) (b : Nat), b < rows.length → ((rows.set b (rows.getD b [] ++ [y])).flatten).count i = rows.flatten.count i + if y = i then 1 else 0
  | [], _, h => absurd h (by simp)
  | r :: rows, 0, _ => by
    simp only [List.set_cons_zero, List.getD_cons_zero, List.flatten_cons, List.count_append, List.count_singleton]
    by_cases e : y = i
    · simp [e]; omega
    · simp [e]
  | r :: rows, b + 1, h => by
    simp only [List.set_cons_succ, List.getD_cons_succ, List.flatten_cons, List.count_append]
    rw [count_set y i rows b (by simpa using h)]
    omega
def lf (zs : List Int) (x : Nat) : Bool := leftB (clsL (zs.getD x 0))
structure WR (zs lv : List Int) (k : Nat) (s : RS) : Prop where
  asc : ∀ a, (s.rows.getD a []).Pairwise (· < ·)
  elt : ∀ a, ∀ x ∈ s.rows.getD a [], 0 ≤ x ∧ x < (k : Int) ∧ lf zs x.toNat = false ∧ lv.getD x.toNat 0 = lv.getD ((s.rows.getD a []).getD 0 0).toNat 0
  first : ∀ a b, a < b → b < s.rows.length → (s.rows.getD a []).getD 0 0 < (s.rows.getD b []).getD 0 0
  last : 0 ≤ s.last → 0 ≤ s.now ∧ s.last ∈ s.rows.getD s.now.toNat []
  count : ∀ i : Nat, s.rows.flatten.count (i : Int) = if i < k ∧ lf zs i = false then 1 else 0
structure WM (zs lv : List Int) (k : Nat) (s : RS) : Prop where
  asc : ∀ a, (s.rows.getD a []).Pairwise (· < ·)
  elt : ∀ a, ∀ x ∈ s.rows.getD a [], 0 ≤ x ∧ x < (k : Int) ∧ lf zs x.toNat = false ∧ lv.getD x.toNat 0 = lv.getD ((s.rows.getD a []).getD 0 0).toNat 0
  first : ∀ a b, a < b → b < s.rows.length → 0 < (s.rows.getD b []).length → (s.rows.getD a []).getD 0 0 < (s.rows.getD b []).getD 0 0
  cur : ∀ x ∈ s.rows.getD s.now.toNat [], lv.getD x.toNat 0 = lv.getD k 0
  empt : s.rows.getD s.now.toNat [] = [] → s.now.toNat + 1 = s.rows.length
  count : ∀ i : Nat, s.rows.flatten.count (i : Int) = if i < k ∧ lf zs i = false then 1 else 0
theorem WR.fresh {zs lv : List Int} {k : Nat} {s : RS} (h : WR zs lv k s) : WM zs lv k s.fresh := by
  have e : ∀ a, s.fresh.rows.getD a [] = s.rows.getD a [] := fun a => rows_snoc s.rows a
  have en : s.fresh.now.toNat = s.rows.length := by simp [RS.fresh]
  have ee : s.rows.getD s.rows.length [] = [] := by simp
  refine ⟨fun a => by rw [e]; exact h.asc a, fun a x hx => by rw [e] at hx ⊢; exact h.elt a x hx, fun a b hab hb hn => ?_, fun x hx => ?_, fun _ => by rw [en]; simp [RS.fresh], fun i => ?_⟩
  · rw [e, e]
    rw [e] at hn
    refine h.first a b hab ?_
    by_cases hbl : b < s.rows.length
    · exact hbl
    · rw [List.getD_eq_getElem?_getD, List.getElem?_eq_none (by omega)] at hn
      simp at hn
  · rw [e, en, ee] at hx
    simp at hx
  · show (s.rows ++ [[]]).flatten.count (i : Int) = _
    rw [List.flatten_append, List.count_append, h.count i]
    simp
theorem WR.same {zs lv : List Int} {k : Nat} {s : RS} (h : WR zs lv k s) (a : Nat) (hne : 0 < (s.rows.getD a []).length) (hl : ∀ x ∈ s.rows.getD a [], lv.getD x.toNat 0 = lv.getD k 0) : WM zs lv k { s with now := a } :=
  ⟨h.asc, h.elt, fun a b hab hb _ => h.first a b hab hb, hl, fun e => by
    have e' : s.rows.getD a [] = [] := e
    rw [e'] at hne
    simp at hne, h.count⟩
theorem WR.turn {zs lv pr : List Int} {k : Nat} {s : RS} (h : WR zs lv k s) (hg : GoodR k s) (hp : 0 ≤ pr.getD k 0 → lv.getD (pr.getD k 0).toNat 0 = lv.getD k 0) : WM zs lv k (turnR pr k s) := by
  unfold turnR
  split
  · rename_i a ha
    split
    · rename_i he
      have hal := hg.m _ a ha
      have hne := hg.ne a hal
      have hmem := getD_mem' (s.rows.getD a []) ((s.rows.getD a []).length - 1) (by omega)
      rw [he] at hmem
      have h1 := h.elt a _ hmem
      have h2 := hp h1.1
      exact h.same a hne fun x hx => by
        rw [(h.elt a x hx).2.2.2, ← h1.2.2.2]
        exact h2
    · exact h.fresh
  · exact h.fresh
theorem WR.pick {zs lv pr : List Int} {k : Nat} {s : RS} (h : WR zs lv k s) (hg : GoodR k s) (hp : 0 ≤ pr.getD k 0 → lv.getD (pr.getD k 0).toNat 0 = lv.getD k 0) : WM zs lv k (pickR lv pr k s) := by
  unfold pickR
  split
  · exact h.turn hg hp
  · rename_i hb
    have hb' : 0 ≤ s.now ∧ 0 ≤ s.last ∧ lv.getD s.last.toNat 0 = lv.getD k 0 := by
      unfold breaksP at hb
      refine ⟨by omega, by omega, ?_⟩
      by_cases e : lv.getD s.last.toNat 0 = lv.getD k 0
      · exact e
      · exact absurd (.inr (.inr e)) hb
    have hl := h.last hb'.2.1
    have hm := h.same s.now.toNat (List.length_pos_of_mem hl.2) fun x hx => by
      rw [(h.elt _ x hx).2.2.2, ← (h.elt _ _ hl.2).2.2.2]
      exact hb'.2.2
    have e : ({ s with now := (s.now.toNat : Int) } : RS) = s := by
      have : (s.now.toNat : Int) = s.now := by omega
      rw [this]
    rw [e] at hm
    exact hm
theorem WM.put {zs lv : List Int} {k : Nat} {s : RS} (h : WM zs lv k s) (hm : MidR k s) (d : Int) (pr : List Int) (hk : lf zs k = false) : WR zs lv (k + 1) (putR d pr k s) := by
  obtain ⟨b, hb⟩ : ∃ b, b = s.now.toNat := ⟨_, rfl⟩
  have hbl : b < s.rows.length := by have := hm.now; omega
  have hcur := h.cur
  have hempt := h.empt
  rw [← hb] at hcur hempt
  obtain ⟨row, hrow⟩ : ∃ row, row = s.rows.getD b [] := ⟨_, rfl⟩
  rw [← hrow] at hcur hempt
  have erows : (putR d pr k s).rows = s.rows.set b (row ++ [(k : Int)]) := by simp only [putR, ← hb, ← hrow]
  have enow : (putR d pr k s).now = s.now := rfl
  have get : ∀ a, (putR d pr k s).rows.getD a [] = if a = b then row ++ [(k : Int)] else s.rows.getD a [] := fun a => by
    rw [erows, rows_set _ _ _ _ hbl]
  have hf : ∀ x ∈ row, (row ++ [(k : Int)]).getD 0 0 = row.getD 0 0 := fun x hx => getD_app1 row _ 0 (List.length_pos_of_mem hx)
  have hrl : ∀ x ∈ row, 0 ≤ x ∧ x < (k : Int) ∧ lf zs x.toNat = false ∧ lv.getD x.toNat 0 = lv.getD (row.getD 0 0).toNat 0 := fun x hx => by
    have := h.elt b x (by rw [← hrow]; exact hx)
    rw [← hrow] at this
    exact this
  refine ⟨fun a => ?_, fun a x hx => ?_, fun a c hac hc => ?_, fun hl => ?_, fun i => ?_⟩
  · rw [get]
    split
    · rw [List.pairwise_append]
      refine ⟨by rw [hrow]; exact h.asc b, by simp, fun x hx y hy => ?_⟩
      simp at hy
      subst hy
      exact (hrl x hx).2.1
    · exact h.asc a
  · rw [get] at hx ⊢
    split at hx
    · rename_i e
      rw [if_pos e]
      rcases List.mem_append.1 hx with hx | hx
      · obtain ⟨h1, h2, h3, h4⟩ := hrl x hx
        rw [hf x hx]
        exact ⟨h1, by omega, h3, h4⟩
      · simp at hx
        subst hx
        refine ⟨by omega, by omega, by simpa using hk, ?_⟩
        cases hr : row with
        | nil => rfl
        | cons y r =>
          have hy : y ∈ row := by rw [hr]; simp
          have := hcur y hy
          show lv.getD k 0 = lv.getD y.toNat 0
          exact this.symm
    · rename_i e
      rw [if_neg e]
      obtain ⟨h1, h2, h3, h4⟩ := h.elt a x hx
      exact ⟨h1, by omega, h3, h4⟩
  · rw [erows, List.length_set] at hc
    rw [get, get]
    have hfst : ∀ a, a < s.rows.length → a ≠ b → (s.rows.getD a []).getD 0 0 ∈ s.rows.getD a [] := fun a ha hne => getD_mem' _ 0 (hm.ne a ha (by omega))
    by_cases ea : a = b
    · rw [if_pos ea, if_neg (by omega)]
      cases hr : row with
      | nil => have := hempt hr; omega
      | cons y r =>
        have := h.first a c hac hc (hm.ne c hc (by omega))
        rw [ea, ← hrow, hr] at this
        exact this
    · rw [if_neg ea]
      by_cases ec : c = b
      · rw [if_pos ec]
        cases hr : row with
        | nil =>
          show _ < (k : Int)
          exact (h.elt a _ (hfst a (by omega) ea)).2.1
        | cons y r =>
          have := h.first a c hac hc (by rw [ec, ← hrow, hr]; simp)
          rw [ec, ← hrow, hr] at this
          exact this
      · rw [if_neg ec]
        exact h.first a c hac hc (hm.ne c hc (by omega))
  · have hn := hm.now
    rw [enow, get, if_pos hb.symm]
    refine ⟨hn.1, ?_⟩
    simp only [putR] at hl ⊢
    split at hl
    · omega
    · rename_i hd
      rw [if_neg hd]
      simp
  · rw [erows, hrow, count_set _ _ _ _ hbl, h.count i]
    by_cases e : i = k
    · subst e
      rw [if_neg (by omega), if_pos rfl, if_pos ⟨by omega, hk⟩]
    · rw [if_neg (show ¬ (k : Int) = (i : Int) by omega)]
      by_cases e2 : i < k ∧ lf zs i = false
      · rw [if_pos e2, if_pos ⟨by omega, e2.2⟩]
      · rw [if_neg e2, if_neg (fun h => e2 ⟨by omega, h.2⟩)]
theorem rto_whole (zs lv pr : List Int) (hp : ∀ k, k < zs.length → 0 ≤ pr.getD k 0 → lv.getD (pr.getD k 0).toNat 0 = lv.getD k 0) : ∀ k, k ≤ zs.length → WR zs lv k (rto zs lv pr k)
  | 0, _ => ⟨by simp [rto], by simp [rto], by simp [rto], by simp [rto], by simp [rto]⟩
  | k + 1, hk => by
    have ih := rto_whole zs lv pr hp k (by omega)
    have hg := rto_good zs lv pr k
    simp only [rto]
    unfold stepR
    split
    · rename_i hl
      have hl' : lf zs k = true := hl
      refine ⟨ih.asc, fun a x hx => ?_, ih.first, ih.last, fun i => ?_⟩
      · obtain ⟨h1, h2, h3, h4⟩ := ih.elt a x hx
        exact ⟨h1, by omega, h3, h4⟩
      · rw [ih.count i]
        by_cases e : i = k
        · subst e
          rw [if_neg (by omega), if_neg (by rw [hl']; simp)]
        · by_cases e2 : i < k ∧ lf zs i = false
          · rw [if_pos e2, if_pos ⟨by omega, e2.2⟩]
          · rw [if_neg e2, if_neg (fun h => e2 ⟨by omega, h.2⟩)]
    · rename_i hl
      exact (ih.pick hg (hp k (by omega))).put (hg.pick lv pr k) _ pr (by simpa [lf] using hl)
/-- what is held against the runs -/
theorem whole_runs (low : Int) (zs X : List Int) (n : Nat) (rows : List (List Int)) (hn : zs.length = n) (hX : (lto low zs n).1 = X) (hr : runsL zs X = rows) :
    (∀ a, (rows.getD a []).Pairwise (· < ·)) ∧ (∀ a, a < rows.length → 0 < (rows.getD a []).length) ∧
    (∀ a, ∀ x ∈ rows.getD a [], 0 ≤ x ∧ x < (n : Int) ∧ lf zs x.toNat = false ∧ X.getD x.toNat 0 = X.getD ((rows.getD a []).getD 0 0).toNat 0) ∧
    (∀ a b, a < b → b < rows.length → (rows.getD a []).getD 0 0 < (rows.getD b []).getD 0 0) ∧
    (∀ i : Nat, rows.flatten.count (i : Int) = if i < n ∧ lf zs i = false then 1 else 0) := by
  have lX : X.length = n := by rw [← hX]; exact (lto_length low zs n).1
  have e : min zs.length X.length = n := by omega
  have hp : ∀ k, k < zs.length → 0 ≤ (pairsL zs).getD k 0 → X.getD ((pairsL zs).getD k 0).toNat 0 = X.getD k 0 := by
    intro k hk h0
    rcases pairs_matched zs k hk with h | ⟨j, hj, h⟩
    · omega
    · rcases h with h | h
      · have := pair_level low zs k j hj _ h
        rw [h.fwd, ← hX, (lto_at low zs k n (by omega)).1]
        simp only [Int.toNat_natCast]
        rw [(lto_at low zs j n (by omega)).1]
        exact this.symm
      · have := pair_level low zs j k hk _ h
        rw [h.back, ← hX, (lto_at low zs k n (by omega)).1]
        simp only [Int.toNat_natCast]
        rw [(lto_at low zs j n (by omega)).1]
        exact this
  have hw := rto_whole zs X (pairsL zs) hp zs.length (Nat.le_refl _)
  have hg := rto_good zs X (pairsL zs) zs.length
  unfold runsL at hr
  rw [e, ← hn, List.take_length] at hr
  rw [← hr, ← hn]
  exact ⟨hw.asc, hg.ne, hw.elt, hw.first, hw.count⟩
end Go.Proofs.Ytikgjnfimagpjaa
