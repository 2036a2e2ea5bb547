/- layer 24 in plain lists: all calls keep rows well. -/
import Derived.Test.YtohkjopdoejedaaGwell
namespace Go.Proofs.Ytohkjopdoejedaa
theorem putF_length (l : List Ce) (sk n x : Nat) : ∀ (f i : Nat) (r : List Ce), x + n ≤ r.length → sk + n ≤ l.length → (putF l sk n x f i r).length = r.length
  | 0, _, _, _, _ => rfl
  | f + 1, i, r, hx, hn => by
    by_cases hi : i < l.length
    · have hbd := chainE_bd l i hi
      rw [putF_succ l sk n x f i r hi]
      by_cases hc : max i sk < min (chainE l i) (sk + n)
      · have h1 := putC1_length l (x + max i sk - sk) (x + min (chainE l i) (sk + n) - sk) (max i sk) (min (chainE l i) (sk + n)) (chainC l i || decide (i < max i sk) || decide (min (chainE l i) (sk + n) < chainE l i)) r (by omega) (by omega) (by omega) (by omega)
        rw [if_pos hc]
        change (putF l sk n x f (chainE l i) (putC1 l _ _ _ _ _ r)).length = _
        rw [putF_length l sk n x f _ _ (by rw [h1]; exact hx) hn, h1]
      · rw [if_neg hc]
        exact putF_length l sk n x f _ r hx hn
    · rw [putF_end l sk n x _ i r (by omega)]
theorem pt_putC1 (l : List Ce) (a b p q : Nat) (bl : Bool) (r : List Ce) (hq : q ≤ l.length) (_ : p ≤ q) (hb : b = a + (q - p)) (hr : b ≤ r.length) (j : Nat) :
    pt (putC1 l a b p q bl r) j = if a ≤ j ∧ j < b then (if bl = true then 0 else pt l (p + (j - a))) else pt r j := by
  have hc := cut_length l p q hq
  have h1 := blit_length a ((l.take q).drop p) r (by rw [hc]; omega)
  have h2 := pt_blit a ((l.take q).drop p) r (by rw [hc]; omega) j
  unfold putC1
  by_cases hbl : bl = true
  · simp only [if_pos hbl]
    rw [pt_blankR _ _ _ (by omega) (by rw [h1]; exact hr), h2, hc]
    by_cases h3 : a ≤ j ∧ j < b
    · rw [if_pos h3, if_pos h3]
    · rw [if_neg h3, if_neg h3, if_neg (by omega)]
  · simp only [if_neg hbl]
    rw [h2, hc]
    by_cases h3 : a ≤ j ∧ j < b
    · rw [if_pos h3, if_pos (by omega), pt_cut l p q _ (by omega)]
    · rw [if_neg h3, if_neg (by omega)]
/-- the chain that begins at i, if it isn't cut, has the parts 0, 1, .. -/
theorem chain_uncut (l : List Ce) (i : Nat) (hi : i < l.length) (hc : chainC l i = false) (k : Nat) (h1 : i ≤ k) (h2 : k < chainE l i) : pt l k = (k : Int) - i := by
  have h0 : pt l i = 0 := by
    unfold chainC at hc
    simpa [pt] using hc
  exact (chain_parts l i hi h0).1 k h1 h2
theorem putF_well (l : List Ce) (sk n x : Nat) (hn : sk + n ≤ l.length) : ∀ (f i : Nat) (r : List Ce), x + n ≤ r.length → l.length ≤ f + i → (∀ j, j < x + (min (max i sk) (sk + n)) - sk → WellAt r j) → (∀ j, x + n < j → WellAt r j) → pt r (x + n) = 0 →
    Well (putF l sk n x f i r)
  | 0, i, r, hx, hf, h1, h2, h3 => by
    intro j
    show WellAt r j
    rcases Nat.lt_trichotomy j (x + n) with h | h | h
    · exact h1 j (by omega)
    · subst h; exact .inl h3
    · exact h2 j h
  | f + 1, i, r, hx, hf, h1, h2, h3 => by
    by_cases hi : i < l.length
    · have hbd := chainE_bd l i hi
      rw [putF_succ l sk n x f i r hi]
      by_cases hc : max i sk < min (chainE l i) (sk + n)
      · rw [if_pos hc]
        change Well (putF l sk n x f (chainE l i) (putC1 l (x + max i sk - sk) (x + min (chainE l i) (sk + n) - sk) (max i sk) (min (chainE l i) (sk + n)) (chainC l i || decide (i < max i sk) || decide (min (chainE l i) (sk + n) < chainE l i)) r))
        obtain ⟨bl, hbl⟩ : ∃ bl, bl = (chainC l i || decide (i < max i sk) || decide (min (chainE l i) (sk + n) < chainE l i)) := ⟨_, rfl⟩
        rw [← hbl]
        obtain ⟨fm, hfm⟩ : ∃ fm, fm = max i sk := ⟨_, rfl⟩
        obtain ⟨tm, htm⟩ : ∃ tm, tm = min (chainE l i) (sk + n) := ⟨_, rfl⟩
        rw [← hfm, ← htm] at hbl hc ⊢
        have hpt := pt_putC1 l (x + fm - sk) (x + tm - sk) fm tm bl r (by omega) (by omega) (by omega) (by omega)
        have hlen := putC1_length l (x + fm - sk) (x + tm - sk) fm tm bl r (by omega) (by omega) (by omega) (by omega)
        have hun : bl = false → chainC l i = false ∧ fm = i ∧ tm = chainE l i := by
          intro e
          rw [e] at hbl
          have hb := hbl.symm
          simp only [Bool.or_eq_false_iff, decide_eq_false_iff_not] at hb
          exact ⟨hb.1.1, by omega, by omega⟩
        refine putF_well l sk n x hn f (chainE l i) _ (by rw [hlen]; exact hx) (by omega) ?_ ?_ ?_
        · intro j hj
          unfold WellAt
          rw [hpt, hpt]
          by_cases h4 : x + fm - sk ≤ j ∧ j < x + tm - sk
          · rw [if_pos h4]
            by_cases h5 : bl = true
            · rw [if_pos h5]; exact .inl rfl
            · obtain ⟨e1, e2, e3⟩ := hun (by simpa using h5)
              rw [if_neg h5, chain_uncut l i hi e1 _ (by omega) (by omega)]
              by_cases h6 : j = x + fm - sk
              · left; omega
              · refine .inr ⟨by omega, ?_⟩
                rw [if_pos (by omega), if_neg h5, chain_uncut l i hi e1 _ (by omega) (by omega)]
                omega
          · rw [if_neg h4]
            have h5 : j < x + fm - sk := by omega
            rcases h1 j (by omega) with h6 | ⟨h6, h7⟩
            · exact .inl h6
            · refine .inr ⟨h6, ?_⟩
              rw [if_neg (by omega)]
              exact h7
        · intro j hj
          unfold WellAt
          rw [hpt, hpt, if_neg (by omega), if_neg (by omega)]
          exact h2 j hj
        · rw [hpt, if_neg (by omega)]
          exact h3
      · rw [if_neg hc]
        exact putF_well l sk n x hn f (chainE l i) r hx (by omega) (fun j hj => h1 j (by omega)) h2 h3
    · rw [putF_end l sk n x _ i r (by omega)]
      intro j
      rcases Nat.lt_trichotomy j (x + n) with h | h | h
      · exact h1 j (by omega)
      · subst h; exact .inl h3
      · exact h2 j h
theorem putRow_well (sk n x : Nat) (l r : List Ce) (h : Well r) (hn : sk + n ≤ l.length) (hx : x + n ≤ r.length) (hn0 : 0 < n) : Well (putRow sk n x l r) := by
  unfold putRow
  have hc := loseL_clean x (x + n) r h (by omega)
  refine putF_well l sk n x hn _ 0 _ (by rw [loseL_length]; exact hx) (by omega) (fun j hj => hc.well j) (fun j _ => hc.well j) (hc.at_b (by omega))
theorem putRow_length (sk n x : Nat) (l r : List Ce) (hn : sk + n ≤ l.length) (hx : x + n ≤ r.length) : (putRow sk n x l r).length = r.length := by
  unfold putRow
  rw [putF_length l sk n x _ _ _ (by rw [loseL_length]; exact hx) hn, loseL_length]
/-- a screen whose rows are as wide as it, and well -/
structure Good (S : Sc) : Prop where
  len : S.rows.length = S.H
  row : ∀ r ∈ S.rows, r.length = S.W ∧ Well r
  car : (S.X = -1 ∧ S.Y = -1) ∨ (0 ≤ S.X ∧ S.X < S.W ∧ 0 ≤ S.Y ∧ S.Y < S.H)
theorem Good.at_ {S : Sc} (h : Good S) (y : Nat) (hy : y < S.H) : (S.rows.getD y []).length = S.W ∧ Well (S.rows.getD y []) := by
  have h1 : y < S.rows.length := by rw [h.len]; exact hy
  rw [List.getD_eq_getElem?_getD, List.getElem?_eq_getElem h1]
  exact h.row _ (List.getElem_mem h1)
theorem Good.put {S : Sc} (h : Good S) (x y : Int) (l : List Ce) : Good (S.put x y l) := by
  unfold Sc.put
  split
  · exact h
  · rename_i ho
    have hl := h.at_ y.toNat (by omega)
    refine ⟨by simp [h.len], fun r hr => ?_, h.car⟩
    rw [modify_set _ _ _ (by rw [h.len]; omega)] at hr
    rcases List.mem_or_eq_of_mem_set hr with hr | hr
    · exact h.row r hr
    · subst hr
      have hW := hl.1
      exact ⟨by rw [putRow_length _ _ _ _ _ (by omega) (by omega)]; exact hW, putRow_well _ _ _ _ _ hl.2 (by omega) (by omega) (by omega)⟩
theorem mapR_mem {f : List Ce → List Ce} {c d : Nat} {rows : List (List Ce)} {r : List Ce} (h : r ∈ mapR f c d rows) : ∃ q ∈ rows, r = q ∨ r = f q := by
  obtain ⟨i, hi⟩ := List.mem_iff_getElem?.1 h
  rw [mapR_at] at hi
  cases hq : rows[i]? with
  | none => simp [hq] at hi
  | some q =>
    rw [hq] at hi
    simp only [Option.map_some, Option.some.injEq] at hi
    refine ⟨q, List.mem_of_getElem? hq, ?_⟩
    split at hi
    · exact .inr hi.symm
    · exact .inl hi.symm
theorem Good.clear {S : Sc} (h : Good S) (x y wd hg : Int) : Good (S.clear x y wd hg) := by
  obtain ⟨a, b, _, _, hab, hbw, ha', hb'⟩ := span_nat x wd S.W
  refine ⟨by show (mapR _ _ _ _).length = _; rw [mapR_length]; exact h.len, fun r hr => ?_, h.car⟩
  change r ∈ mapR (clearRow (spanL x wd S.W).1.toNat (spanL x wd S.W).2.toNat) _ _ S.rows at hr
  rw [ha', hb'] at hr
  obtain ⟨q, hq, e⟩ := mapR_mem hr
  obtain ⟨h1, h2⟩ := h.row q hq
  rcases e with rfl | rfl
  · exact ⟨h1, h2⟩
  · exact ⟨by rw [clearRow_length a b q hab (by omega)]; exact h1, clearRow_well a b q h2 hab (by omega)⟩
/-- rows from c up to d are clean at a, b; all are well -/
structure Moved (a b c d W : Nat) (rows : List (List Ce)) : Prop where
  row : ∀ y r, rows[y]? = some r → r.length = W ∧ Well r ∧ (c ≤ y → y < d → Clean a b r)
theorem Moved.mv {a b c d W : Nat} {rows : List (List Ce)} (h : Moved a b c d W rows) (hab : a ≤ b) (hbW : b ≤ W) (n : Int) (y : Nat) (hcy : c ≤ y) (hyd : y < d) (hd : d ≤ rows.length) : Moved a b c d W (mvRow a b c d n rows y) := by
  refine ⟨fun k r hk => ?_⟩
  unfold mvRow at hk
  rw [List.getElem?_set] at hk
  by_cases e : y = k
  · subst e
    rw [if_pos rfl, if_pos (by omega)] at hk
    injection hk with hk
    have hy : rows[y]? = some (rows.getD y []) := by rw [List.getD_eq_getElem?_getD, List.getElem?_eq_getElem (by omega)]; rfl
    obtain ⟨h1, h2, h3⟩ := h.row y _ hy
    have h3 := h3 hcy hyd
    by_cases hc : (n < 0 ∧ n < (c : Int) - y) ∨ (0 < n ∧ (d : Int) - y ≤ n)
    · rw [if_pos hc] at hk
      have h4 := h3.blit (s := List.replicate (b - a) Ce.zero) (by simp) (by omega) hab (well_zeros _)
      subst hk
      exact ⟨by rw [blit_length _ _ _ (by rw [List.length_replicate]; omega)]; exact h1, h4.well, fun _ _ => h4⟩
    · rw [if_neg hc] at hk
      obtain ⟨m, hm⟩ : ∃ m : Nat, ((y : Int) + n).toNat = m := ⟨_, rfl⟩
      rw [hm] at hk
      have hm2 : rows[m]? = some (rows.getD m []) := by rw [List.getD_eq_getElem?_getD, List.getElem?_eq_getElem (by omega)]; rfl
      obtain ⟨q1, _, q3⟩ := h.row m _ hm2
      have q3 := q3 (by omega) (by omega)
      have hcl := cut_length (rows.getD m []) a b (by omega)
      have h4 := h3.blit (s := ((rows.getD m []).take b).drop a) hcl (by omega) hab q3.cut
      subst hk
      exact ⟨by rw [blit_length _ _ _ (by omega)]; exact h1, h4.well, fun _ _ => h4⟩
  · rw [if_neg e] at hk
    exact h.row k r hk
theorem mvRow_length (a b c d : Nat) (n : Int) (rows : List (List Ce)) (y : Nat) : (mvRow a b c d n rows y).length = rows.length := by unfold mvRow; simp
theorem mvUp_length (a b c d : Nat) (n : Int) (rows : List (List Ce)) : ∀ j, (mvUp a b c d n rows j).length = rows.length
  | 0 => rfl
  | j + 1 => by unfold mvUp; rw [mvRow_length, mvUp_length a b c d n rows j]
theorem mvDn_length (a b c d : Nat) (n : Int) (rows : List (List Ce)) : ∀ j, (mvDn a b c d n rows j).length = rows.length
  | 0 => rfl
  | j + 1 => by unfold mvDn; rw [mvRow_length, mvDn_length a b c d n rows j]
theorem Moved.up {a b c d W : Nat} {rows : List (List Ce)} (h : Moved a b c d W rows) (hab : a ≤ b) (hbW : b ≤ W) (n : Int) (hd : d ≤ rows.length) : ∀ j, j ≤ d - c → Moved a b c d W (mvUp a b c d n rows j)
  | 0, _ => h
  | j + 1, hj => (h.up hab hbW n hd j (by omega)).mv hab hbW n (c + j) (by omega) (by omega) (by rw [mvUp_length]; exact hd)
theorem Moved.dn {a b c d W : Nat} {rows : List (List Ce)} (h : Moved a b c d W rows) (hab : a ≤ b) (hbW : b ≤ W) (n : Int) (hd : d ≤ rows.length) : ∀ j, j ≤ d - c → Moved a b c d W (mvDn a b c d n rows j)
  | 0, _ => h
  | j + 1, hj => (h.dn hab hbW n hd j (by omega)).mv hab hbW n (d - 1 - j) (by omega) (by omega) (by rw [mvDn_length]; exact hd)
theorem Good.lose {S : Sc} (h : Good S) (a b c d : Nat) (hab : a ≤ b) : Moved a b c d S.W (mapR (loseL a b) c d S.rows) := by
  refine ⟨fun y r hr => ?_⟩
  rw [mapR_at] at hr
  cases hq : S.rows[y]? with
  | none => simp [hq] at hr
  | some q =>
    rw [hq] at hr
    simp only [Option.map_some, Option.some.injEq] at hr
    obtain ⟨h1, h2⟩ := h.row q (List.mem_of_getElem? hq)
    have h3 := loseL_clean a b q h2 hab
    subst hr
    split
    · exact ⟨by rw [loseL_length]; exact h1, h3.well, fun _ _ => h3⟩
    · exact ⟨h1, h2, fun e1 e2 => by omega⟩
theorem Good.scroll {S : Sc} (h : Good S) (x y wd hg n : Int) : Good (S.scroll x y wd hg n) := by
  unfold Sc.scroll
  split
  · exact h
  · obtain ⟨a, b, _, _, hab, hbw, ha', hb'⟩ := span_nat x wd S.W
    obtain ⟨c, d, _, _, hcd, hdh, hc', hd'⟩ := span_nat y hg S.H
    rw [ha', hb', hc', hd']
    have hm := h.lose a b c d hab
    have hml : (mapR (loseL a b) c d S.rows).length = S.H := by rw [mapR_length]; exact h.len
    unfold scrollR
    split
    · refine ⟨by show (mvUp _ _ _ _ _ _ _).length = _; rw [mvUp_length]; exact hml, fun r hr => ?_, h.car⟩
      obtain ⟨i, hi⟩ := List.mem_iff_getElem?.1 hr
      obtain ⟨k1, k2, _⟩ := (hm.up hab hbw n (by omega) (d - c) (Nat.le_refl _)).row i r hi
      exact ⟨k1, k2⟩
    · refine ⟨by show (mvDn _ _ _ _ _ _ _).length = _; rw [mvDn_length]; exact hml, fun r hr => ?_, h.car⟩
      obtain ⟨i, hi⟩ := List.mem_iff_getElem?.1 hr
      obtain ⟨k1, k2, _⟩ := (hm.dn hab hbw n (by omega) (d - c) (Nat.le_refl _)).row i r hi
      exact ⟨k1, k2⟩
theorem Good.new (W H : Nat) : Good (newS W H) := ⟨List.length_replicate, fun r hr => by
  have := List.eq_of_mem_replicate hr
  subst this
  exact ⟨List.length_replicate, well_zeros _⟩, .inl ⟨rfl, rfl⟩⟩
theorem Good.caret {S : Sc} (h : Good S) (x y : Int) : Good { S with X := (caretL S.W S.H x y).1, Y := (caretL S.W S.H x y).2 } := by
  refine ⟨h.len, h.row, ?_⟩
  show ((caretL S.W S.H x y).1 = -1 ∧ (caretL S.W S.H x y).2 = -1) ∨ _
  unfold caretL
  split
  · exact .inl ⟨rfl, rfl⟩
  · refine .inr ⟨?_, ?_, ?_, ?_⟩ <;> simp only <;> omega
end Go.Proofs.Ytohkjopdoejedaa
