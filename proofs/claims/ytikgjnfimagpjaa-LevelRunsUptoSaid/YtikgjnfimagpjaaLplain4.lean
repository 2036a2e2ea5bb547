/- package level: plain laws: what stands in an isolate leaves the pile as it was. -/
import Derived.Test.YtikgjnfimagpjaaLplain1
import Derived.Test.YtikgjnfimagpjaaLlev
namespace Go.Proofs.Ytikgjnfimagpjaa
/-- classes without B, each sign that begins an isolate with its PDI; 'd' of them being open -/
def Bal : Nat → List Int → Prop
  | d, [] => d = 0
  | d, z :: r =>
    if opensB (clsL z) = true then Bal (d + 1) r
    else if clsL z = 22 then 0 < d ∧ Bal (d - 1) r
    else if clsL z = 10 then False
    else Bal d r
theorem Bal_cons (d : Nat) (z : Int) (r : List Int) : Bal d (z :: r) = if opensB (clsL z) = true then Bal (d + 1) r else if clsL z = 22 then (0 < d ∧ Bal (d - 1) r) else if clsL z = 10 then False else Bal d r := rfl
theorem firstL_bal : ∀ (l r : List Int) (d e : Nat), Bal d l → firstL (e + 1 + d) (l ++ r) = firstL (e + 1) r
  | [], r, d, e, h => by
    have h : d = 0 := h
    subst h
    rfl
  | z :: l, r, d, e, h => by
    rw [Bal_cons] at h
    rw [List.cons_append, firstL_cons]
    by_cases h1 : opensB (clsL z) = true
    · rw [if_pos h1] at h ⊢
      exact firstL_bal l r (d + 1) e h
    rw [if_neg h1] at h ⊢
    by_cases h2 : clsL z = 22
    · rw [if_pos h2] at h ⊢
      rw [if_pos (show 0 < e + 1 + d by omega), show e + 1 + d - 1 = e + 1 + (d - 1) by omega]
      exact firstL_bal l r (d - 1) e h.2
    rw [if_neg h2] at h ⊢
    by_cases h3 : clsL z = 10
    · rw [if_pos h3] at h
      exact absurd h id
    rw [if_neg h3] at h ⊢
    rw [if_neg (show ¬ (e + 1 + d = 0 ∧ _) by omega)]
    exact firstL_bal l r d e h
/-- what stands in the isolate does not count -/
theorem firstL_apart (s : Int) (hs : opensB (clsL s) = true) (u v r : List Int) (hu : Bal 0 u) (hv : Bal 0 v) : ∀ (a : List Int) (d : Nat), firstL d (a ++ s :: (u ++ 22 :: r)) = firstL d (a ++ s :: (v ++ 22 :: r))
  | [], d => by
    rw [List.nil_append, List.nil_append, firstL_cons, firstL_cons, if_pos hs, if_pos hs, firstL_bal u _ 0 d hu, firstL_bal v _ 0 d hv]
  | z :: a, d => by
    rw [List.cons_append, List.cons_append, firstL_cons, firstL_cons]
    simp only [firstL_apart s hs u v r hu hv a]
theorem close_iso (odd : Bool) (p : PL) : closeP (isoP odd p) = p := by
  unfold isoP
  split
  · rename_i q hq
    obtain ⟨t, r, hs, hx, hd, hl, rfl⟩ := layP_some hq
    unfold closeP
    simp only
    rw [if_neg (by omega), if_pos (by omega)]
    simp only [List.dropWhile_cons, Bool.not_true, Bool.false_eq_true, if_false, List.tail_cons, Nat.add_sub_cancel]
    rw [← hl]
  · unfold closeP
    simp only
    rw [if_pos (by omega)]
    simp
theorem close_open (p : PL) (h0 : p.deep = 0) (h1 : 0 < p.opens) : closeP p = { p with stk := (p.stk.dropWhile fun s => !s.iso).tail, opens := p.opens - 1, lost := 0 } := by
  unfold closeP
  rw [if_neg (show ¬ 0 < p.deep by omega), if_pos h1]
theorem close_embed (d : Int) (p : PL) (h : 0 < p.deep + p.opens) : closeP (embedP d p) = closeP p ∧ (embedP d p).deep = p.deep ∧ (embedP d p).opens = p.opens := by
  unfold embedP
  split
  · rename_i q hq
    obtain ⟨t, r, hs, hx, hd, hl, rfl⟩ := layP_some hq
    refine ⟨?_, rfl, rfl⟩
    refine Eq.trans (close_open _ hd (show 0 < p.opens by omega)) ?_
    rw [close_open p hd (by omega)]
    simp
  · split
    · rename_i hd
      refine ⟨?_, rfl, rfl⟩
      refine Eq.trans (close_open _ hd (show 0 < p.opens by omega)) ?_
      rw [close_open p hd (by omega)]
    · exact ⟨rfl, rfl, rfl⟩
theorem close_end (p : PL) (h : 0 < p.deep + p.opens) : closeP (endP p) = closeP p ∧ (endP p).deep = p.deep ∧ (endP p).opens = p.opens := by
  unfold endP
  split
  · exact ⟨rfl, rfl, rfl⟩
  rename_i h0
  have hd : p.deep = 0 := by omega
  have ho : 0 < p.opens := by omega
  split
  · refine ⟨?_, rfl, rfl⟩
    refine Eq.trans (close_open _ hd ho) ?_
    rw [close_open p hd ho]
  split
  · rename_i t u r hs
    split
    · rename_i hi
      refine ⟨?_, rfl, rfl⟩
      refine Eq.trans (close_open _ hd ho) ?_
      rw [close_open p hd ho, hs]
      simp [hi]
    · exact ⟨rfl, rfl, rfl⟩
  · exact ⟨rfl, rfl, rfl⟩
theorem close_sum (p : PL) (h : 0 < p.deep + p.opens) : (closeP p).deep + (closeP p).opens + 1 = p.deep + p.opens := by
  unfold closeP
  split
  · simp only; omega
  · split
    · simp only; omega
    · omega
theorem iso_sum (odd : Bool) (p : PL) : (isoP odd p).deep + (isoP odd p).opens = p.deep + p.opens + 1 := by
  unfold isoP
  split
  · rename_i q hq
    obtain ⟨t, r, hs, hx, hd, hl, rfl⟩ := layP_some hq
    simp only; omega
  · simp only; omega
def closeN : Nat → PL → PL
  | 0, p => p
  | n + 1, p => closeN n (closeP p)
/-- the levels and classes of a stretch that others follow, the pile behind it -/
def lseg (low : Int) : PL → List Int → List Int → List Int × List Int × PL
  | p, [], _ => ([], [], p)
  | p, z :: a, r =>
    ((lstep low (clsL z) (a ++ r) p).1 :: (lseg low (lstep low (clsL z) (a ++ r) p).2.2 a r).1,
      (lstep low (clsL z) (a ++ r) p).2.1 :: (lseg low (lstep low (clsL z) (a ++ r) p).2.2 a r).2.1,
      (lseg low (lstep low (clsL z) (a ++ r) p).2.2 a r).2.2)
theorem lseg_bal (low : Int) (p0 : PL) (r : List Int) : ∀ (l : List Int) (d : Nat) (q : PL), Bal d l → closeN (d + 1) q = p0 → q.deep + q.opens = p0.deep + p0.opens + 1 + d → closeP (lseg low q l r).2.2 = p0
  | [], d, q, h, hc, _ => by
    have h : d = 0 := h
    subst h
    exact hc
  | z :: l, d, q, h, hc, hsum => by
    rw [Bal_cons] at h
    show closeP (lseg low (lstep low (clsL z) (l ++ r) q).2.2 l r).2.2 = p0
    have hpos : 0 < q.deep + q.opens := by omega
    unfold lstep
    by_cases h14 : 14 ≤ clsL z ∧ clsL z ≤ 17
    · have e1 : ¬ opensB (clsL z) = true := by rw [opensB_iff]; omega
      rw [if_neg e1, if_neg (by omega), if_neg (by omega)] at h
      rw [if_pos h14]
      have := close_embed (clsL z) q hpos
      exact lseg_bal low p0 r l d _ h (by show closeN d (closeP (embedP _ q)) = p0; rw [this.1]; exact hc) (by simp only; omega)
    rw [if_neg h14]
    by_cases h1 : opensB (clsL z) = true
    · rw [if_pos h1] at h ⊢
      exact lseg_bal low p0 r l (d + 1) _ h (by show closeN (d + 1) (closeP (isoP _ q)) = p0; rw [close_iso]; exact hc) (by simp only; have := iso_sum (oddB (clsL z) (l ++ r)) q; omega)
    rw [if_neg h1] at h ⊢
    by_cases h2 : clsL z = 22
    · rw [if_pos h2] at h ⊢
      obtain ⟨hd, hb⟩ := h
      obtain ⟨e, rfl⟩ : ∃ e, d = e + 1 := ⟨d - 1, by omega⟩
      exact lseg_bal low p0 r l e _ hb hc (by simp only; have := close_sum q hpos; omega)
    rw [if_neg h2] at h ⊢
    by_cases h10 : clsL z = 10
    · rw [if_pos h10] at h
      exact absurd h id
    rw [if_neg h10] at h ⊢
    by_cases h18 : clsL z = 18
    · rw [if_pos h18]
      have := close_end q hpos
      exact lseg_bal low p0 r l d _ h (by show closeN d (closeP (endP q)) = p0; rw [this.1]; exact hc) (by simp only; omega)
    rw [if_neg h18]
    by_cases h9 : clsL z = 9
    · rw [if_pos h9]
      exact lseg_bal low p0 r l d _ h hc hsum
    rw [if_neg h9]
    exact lseg_bal low p0 r l d _ h hc hsum
end Go.Proofs.Ytikgjnfimagpjaa
