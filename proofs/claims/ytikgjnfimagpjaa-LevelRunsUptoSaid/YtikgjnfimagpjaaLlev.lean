/- package level: what Levels does, place by place; the pile stays good. -/
import Derived.Test.YtikgjnfimagpjaaLclose
namespace Go.Proofs.Ytikgjnfimagpjaa
open Go.RowKit
def topP (p : PL) : St := p.stk.headD ⟨0, -1, false⟩
def beginP (low : Int) : PL := ⟨[⟨low, -1, false⟩], 0, 0, 0⟩
def oddB (d : Int) (rest : List Int) : Bool := if d = 21 then firstL 0 rest == 1 || firstL 0 rest == 2 else d == 20
def isoP (odd : Bool) (p : PL) : PL :=
  match layP odd (-1) true p with
  | some q => { q with opens := q.opens + 1 }
  | none => { p with deep := p.deep + 1 }
/-- a place: its level, its class, the pile behind it -/
def lstep (low d : Int) (rest : List Int) (p : PL) : Int × Int × PL :=
  if 14 ≤ d ∧ d ≤ 17 then ((topP p).level, 9, embedP d p)
  else if opensB d = true then ((topP p).level, saidL (topP p).over d, isoP (oddB d rest) p)
  else if d = 22 then ((topP (closeP p)).level, saidL (topP (closeP p)).over d, closeP p)
  else if d = 18 then ((topP (endP p)).level, 9, endP p)
  else if d = 9 then ((topP p).level, 9, p)
  else if d = 10 then (low, 10, beginP low)
  else ((topP p).level, saidL (topP p).over d, p)
def lto (low : Int) (zs : List Int) : Nat → List Int × List Int × PL
  | 0 => ([], [], beginP low)
  | k + 1 => ((lto low zs k).1 ++ [(lstep low (clsL (zs.getD k 0)) (zs.drop (k + 1)) (lto low zs k).2.2).1],
      (lto low zs k).2.1 ++ [(lstep low (clsL (zs.getD k 0)) (zs.drop (k + 1)) (lto low zs k).2.2).2.1],
      (lstep low (clsL (zs.getD k 0)) (zs.drop (k + 1)) (lto low zs k).2.2).2.2)
/-- the pile is good, and not greater than the number of places -/
structure Fine (k : Nat) (p : PL) : Prop where
  good : GoodP p
  len : p.stk.length ≤ k + 1
  opens : p.opens ≤ k
  deep : p.deep ≤ k
  lost : p.lost ≤ k
theorem beginP_fine (low : Int) (k : Nat) (h : 0 ≤ low ∧ low ≤ 125) : Fine k (beginP low) :=
  ⟨⟨by simp [beginP], by simpa [beginP] using h, by simp [beginP], by simp [beginP]⟩, by simp [beginP], by simp [beginP], by simp [beginP], by simp [beginP]⟩
theorem Fine.more {k : Nat} {p : PL} (h : Fine k p) : Fine (k + 1) p := ⟨h.good, by have := h.len; omega, by have := h.opens; omega, by have := h.deep; omega, by have := h.lost; omega⟩
theorem good_lost {p : PL} (h : GoodP p) (n : Nat) : GoodP { p with lost := n } := ⟨h.ne, h.level, h.isos, h.last⟩
theorem good_deep {p : PL} (h : GoodP p) (n : Nat) : GoodP { p with deep := n } := ⟨h.ne, h.level, h.isos, h.last⟩
theorem getLast_cons {a : St} {l : List St} (h : l ≠ []) : (a :: l).getLast? = l.getLast? := by
  cases l with
  | nil => exact absurd rfl h
  | cons b r => simp [List.getLast?_cons_cons]
theorem embed_fine {k : Nat} {p : PL} (d : Int) (h : Fine k p) : Fine (k + 1) (embedP d p) := by
  unfold embedP
  split
  · rename_i q hq
    obtain ⟨t, r, hs, hx, hd, hl, rfl⟩ := layP_some hq
    have ht := h.good.level t (by rw [hs]; simp)
    have hb := upL_bd (d == 15 || d == 17) t.level ht.1
    have h1 := h.len
    have h2 := h.opens
    refine ⟨⟨by simp, ?_, ?_, ?_⟩, ?_, ?_, ?_, ?_⟩
    · intro s hs'
      rcases List.mem_cons.1 hs' with rfl | hs'
      · exact ⟨by show 0 ≤ upL _ _; omega, hx⟩
      · exact h.good.level s hs'
    · simpa using h.good.isos
    · intro s hs'
      rw [getLast_cons h.good.ne] at hs'
      exact h.good.last s hs'
    · simpa using h1
    · show p.opens ≤ k + 1; omega
    · show p.deep ≤ k + 1; omega
    · show p.lost ≤ k + 1; omega
  · split
    · have := h.lost
      exact ⟨good_lost h.good _, by have := h.len; show p.stk.length ≤ _; omega, by have := h.opens; show p.opens ≤ _; omega, by have := h.deep; show p.deep ≤ _; omega, by show p.lost + 1 ≤ _; omega⟩
    · exact h.more
theorem iso_fine {k : Nat} {p : PL} (odd : Bool) (h : Fine k p) : Fine (k + 1) (isoP odd p) := by
  unfold isoP
  split
  · rename_i q hq
    obtain ⟨t, r, hs, hx, hd, hl, rfl⟩ := layP_some hq
    have ht := h.good.level t (by rw [hs]; simp)
    have hb := upL_bd odd t.level ht.1
    have h1 := h.len
    have h2 := h.opens
    refine ⟨⟨by simp, ?_, ?_, ?_⟩, ?_, ?_, ?_, ?_⟩
    · intro s hs'
      rcases List.mem_cons.1 hs' with rfl | hs'
      · exact ⟨by show 0 ≤ upL _ _; omega, hx⟩
      · exact h.good.level s hs'
    · have := h.good.isos
      simpa using this
    · intro s hs'
      change (_ :: p.stk).getLast? = some s at hs'
      rw [getLast_cons h.good.ne] at hs'
      exact h.good.last s hs'
    · simpa using h1
    · show p.opens + 1 ≤ k + 1; omega
    · show p.deep ≤ k + 1; omega
    · show p.lost ≤ k + 1; omega
  · exact ⟨good_deep h.good _, by have := h.len; show p.stk.length ≤ _; omega, by have := h.opens; show p.opens ≤ _; omega, by have := h.deep; show p.deep + 1 ≤ _; omega, by have := h.lost; show p.lost ≤ _; omega⟩
theorem end_fine {k : Nat} {p : PL} (h : Fine k p) : Fine (k + 1) (endP p) := by
  unfold endP
  split
  · exact h.more
  split
  · have := h.lost
    exact ⟨good_lost h.good _, by have := h.len; show p.stk.length ≤ _; omega, by have := h.opens; show p.opens ≤ _; omega, by have := h.deep; show p.deep ≤ _; omega, by show p.lost - 1 ≤ _; omega⟩
  split
  · rename_i t u r hs
    split
    · rename_i hi
      have h1 := h.len
      have h2 := h.opens
      have h3 := h.deep
      have h4 := h.lost
      rw [hs] at h1
      simp only [List.length_cons] at h1
      refine ⟨⟨by simp, ?_, ?_, ?_⟩, ?_, ?_, ?_, ?_⟩
      · intro s hs'; exact h.good.level s (by rw [hs]; exact List.mem_cons_of_mem _ hs')
      · have := h.good.isos
        rw [hs] at this
        simpa [List.filter_cons, hi] using this
      · intro s hs'
        exact h.good.last s (by rw [hs, getLast_cons (by simp)]; exact hs')
      · show (u :: r).length ≤ _; simp only [List.length_cons]; omega
      · show p.opens ≤ _; omega
      · show p.deep ≤ _; omega
      · show p.lost ≤ _; omega
    · exact h.more
  · exact h.more
theorem drop_iso : ∀ (l : List St), (∃ s ∈ l, s.iso = true) → ∃ t r, l.dropWhile (fun s => !s.iso) = t :: r ∧ t.iso = true ∧ (∀ s ∈ r, s ∈ l) ∧ (r.filter St.iso).length + 1 = (l.filter St.iso).length ∧ r.length < l.length ∧ (r ≠ [] → r.getLast? = l.getLast?) ∧ (r = [] → ∃ s, l.getLast? = some s ∧ s.iso = true)
  | [], h => by obtain ⟨s, hs, _⟩ := h; simp at hs
  | a :: l, h => by
    cases ha : a.iso with
    | true =>
      refine ⟨a, l, by simp [ha], ha, fun s hs => List.mem_cons_of_mem _ hs, by simp [ha], by simp, fun hne => (getLast_cons hne).symm, fun e => ⟨a, by simp [e], ha⟩⟩
    | false =>
      obtain ⟨s, hs, hi⟩ := h
      have hs' : s ∈ l := by
        rcases List.mem_cons.1 hs with rfl | h
        · rw [ha] at hi; cases hi
        · exact h
      obtain ⟨t, r, e1, e2, e3, e4, e5, e6, e7⟩ := drop_iso l ⟨s, hs', hi⟩
      have hne : l ≠ [] := by intro e; subst e; simp at hs'
      refine ⟨t, r, by simpa [ha] using e1, e2, fun s hs => List.mem_cons_of_mem _ (e3 s hs), by simpa [List.filter_cons, ha] using e4, by simp; omega, fun h => ?_, fun h => ?_⟩
      · rw [getLast_cons hne]; exact e6 h
      · rw [getLast_cons hne]; exact e7 h
theorem close_fine {k : Nat} {p : PL} (h : Fine k p) : Fine (k + 1) (closeP p) := by
  have h1 := h.len
  have h2 := h.opens
  have h3 := h.deep
  have h4 := h.lost
  unfold closeP
  split
  · exact ⟨good_deep h.good _, by show p.stk.length ≤ _; omega, by show p.opens ≤ _; omega, by show p.deep - 1 ≤ _; omega, by show p.lost ≤ _; omega⟩
  split
  · rename_i ho
    obtain ⟨t, r, e1, e2, e3, e4, e5, e6, e7⟩ := drop_iso p.stk (iso_some h.good ho)
    have hi := h.good.isos
    rw [e1]
    have hne : r ≠ [] := by
      intro e
      obtain ⟨s, hs, hi⟩ := e7 e
      rw [h.good.last s hs] at hi
      cases hi
    refine ⟨⟨hne, fun s hs => h.good.level s (e3 s hs), ?_, fun s hs => h.good.last s (by rw [← e6 hne]; exact hs)⟩, ?_, ?_, ?_, ?_⟩
    · show (r.filter St.iso).length = p.opens - 1; omega
    · show r.length ≤ _; omega
    · show p.opens - 1 ≤ _; omega
    · show p.deep ≤ _; omega
    · show 0 ≤ _; omega
  · exact h.more
theorem lstep_fine {k : Nat} {p : PL} (low d : Int) (rest : List Int) (hlow : 0 ≤ low ∧ low ≤ 125) (h : Fine k p) : Fine (k + 1) (lstep low d rest p).2.2 := by
  unfold lstep
  repeat' split
  · exact embed_fine d h
  · exact iso_fine _ h
  · exact close_fine h
  · exact end_fine h
  · exact h.more
  · exact beginP_fine low _ hlow
  · exact h.more
theorem lto_fine (low : Int) (zs : List Int) (hlow : 0 ≤ low ∧ low ≤ 125) (k : Nat) : Fine k (lto low zs k).2.2 := by
  induction k with
  | zero => exact beginP_fine low 0 hlow
  | succ k ih => exact lstep_fine low _ _ hlow ih
theorem lto_length (low : Int) (zs : List Int) (k : Nat) : (lto low zs k).1.length = k ∧ (lto low zs k).2.1.length = k := by
  induction k with
  | zero => simp [lto]
  | succ k ih => simp [lto, ih]
end Go.Proofs.Ytikgjnfimagpjaa
