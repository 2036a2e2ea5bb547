/- layer 24 in plain lists: cells taken over by damage. -/
import Derived.Test.YtohkjopdoejedaaGlook
import Derived.Test.YtohkjopdoejedaaGshape
namespace Go.Proofs.Ytohkjopdoejedaa
open Go.RowKit
def rAt (W : Nat) (q : Nat × Nat × Nat) : Nat := q.2.1 * W + q.1
def cutG (W : Nat) (G : List Ce) (q : Nat × Nat × Nat) : List Ce := (G.take (rAt W q + q.2.2)).drop (rAt W q)
def patch1 (W : Nat) (G : List Ce) (F : List Ce) (q : Nat × Nat × Nat) : List Ce := blit (rAt W q) (cutG W G q) F
def patchL (W : Nat) (G F : List Ce) (l : List (Nat × Nat × Nat)) : List Ce := l.foldl (patch1 W G) F
def Ins (W : Nat) (q : Nat × Nat × Nat) (i : Nat) : Prop := rAt W q ≤ i ∧ i < rAt W q + q.2.2
theorem cutG_length (W : Nat) (G : List Ce) (q : Nat × Nat × Nat) (h : rAt W q + q.2.2 ≤ G.length) : (cutG W G q).length = q.2.2 := by
  unfold cutG
  rw [List.length_drop, List.length_take]
  omega
theorem patch1_length {W : Nat} {G F : List Ce} {q : Nat × Nat × Nat} (hl : G.length = F.length) (h : rAt W q + q.2.2 ≤ G.length) : (patch1 W G F q).length = F.length := by
  unfold patch1
  exact blit_length _ _ _ (by rw [cutG_length W G q h]; omega)
theorem patch1_at {W : Nat} {G F : List Ce} {q : Nat × Nat × Nat} (hl : G.length = F.length) (h : rAt W q + q.2.2 ≤ G.length) (i : Nat) : (Ins W q i → (patch1 W G F q)[i]? = G[i]?) ∧ (¬ Ins W q i → (patch1 W G F q)[i]? = F[i]?) := by
  unfold patch1 Ins
  rw [blit_at _ _ _ (by omega), cutG_length W G q h]
  constructor
  · intro hi
    rw [if_neg (by omega), if_pos (by omega)]
    unfold cutG
    rw [List.getElem?_drop, List.getElem?_take, if_pos (by omega)]
    congr 1
    omega
  · intro hi
    by_cases h1 : i < rAt W q
    · rw [if_pos h1]
    · rw [if_neg h1, if_neg (by omega)]
theorem patchL_snoc (W : Nat) (G F : List Ce) (l : List (Nat × Nat × Nat)) (q : Nat × Nat × Nat) : patchL W G F (l ++ [q]) = patch1 W G (patchL W G F l) q := by
  unfold patchL
  rw [List.foldl_append]
  rfl
theorem patchL_length {W : Nat} {G : List Ce} : ∀ (l : List (Nat × Nat × Nat)) (F : List Ce), G.length = F.length → (∀ q ∈ l, rAt W q + q.2.2 ≤ G.length) → (patchL W G F l).length = F.length
  | [], _, _, _ => rfl
  | q :: l, F, hl, h => by
    have h1 := patch1_length hl (h q (by simp))
    show (patchL W G (patch1 W G F q) l).length = _
    rw [patchL_length l _ (by omega) (fun q' hq => h q' (by simp [hq])), h1]
theorem patchL_none {W : Nat} {G : List Ce} : ∀ (l : List (Nat × Nat × Nat)) (F : List Ce), G.length = F.length → (∀ q ∈ l, rAt W q + q.2.2 ≤ G.length) → ∀ i, (∀ q ∈ l, ¬ Ins W q i) → (patchL W G F l)[i]? = F[i]?
  | [], _, _, _, _, _ => rfl
  | q :: l, F, hl, h, i, hn => by
    have h1 := patch1_length hl (h q (by simp))
    show (patchL W G (patch1 W G F q) l)[i]? = _
    rw [patchL_none l _ (by omega) (fun q' hq => h q' (by simp [hq])) i (fun q' hq => hn q' (by simp [hq]))]
    exact (patch1_at hl (h q (by simp)) i).2 (hn q (by simp))
theorem patchL_some {W : Nat} {G : List Ce} : ∀ (l : List (Nat × Nat × Nat)) (F : List Ce), G.length = F.length → (∀ q ∈ l, rAt W q + q.2.2 ≤ G.length) → ∀ i, (∃ q ∈ l, Ins W q i) → (patchL W G F l)[i]? = G[i]?
  | [], _, _, _, _, h => by obtain ⟨q, hq, _⟩ := h; cases hq
  | q :: l, F, hl, h, i, hn => by
    have h1 := patch1_length hl (h q (by simp))
    show (patchL W G (patch1 W G F q) l)[i]? = _
    by_cases hs : ∃ q' ∈ l, Ins W q' i
    · exact patchL_some l _ (by omega) (fun q' hq => h q' (by simp [hq])) i hs
    · rw [patchL_none l _ (by omega) (fun q' hq => h q' (by simp [hq])) i (fun q' hq hi => hs ⟨q', hq, hi⟩)]
      refine (patch1_at hl (h q (by simp)) i).1 ?_
      obtain ⟨q', hq, hi⟩ := hn
      rcases List.mem_cons.1 hq with rfl | hq
      · exact hi
      · exact absurd ⟨q', hq, hi⟩ hs
section
variable {W H : Nat} {l : List (Nat × Nat × Nat)} {F G : List Ce}
theorem Dm.fit (h : Dm W H l F G) : ∀ q ∈ l, rAt W q + q.2.2 ≤ H * W := fun q hq => by
  obtain ⟨_, h2, h3⟩ := h.wd q hq
  have : (q.2.1 + 1) * W ≤ H * W := Nat.mul_le_mul_right _ h3
  rw [Nat.succ_mul] at this
  unfold rAt
  omega
theorem Dm.before (h : Dm W H l F G) (k : Nat) (hk : k < l.length) : ∀ q ∈ l.take k, q.2.1 < (l[k]).2.1 := fun q hq => by
  obtain ⟨i, hi, e⟩ := List.mem_iff_getElem.1 hq
  rw [List.length_take] at hi
  rw [List.getElem_take] at e
  subst e
  exact List.pairwise_iff_getElem.1 h.ord i k (by omega) hk (by omega)
theorem Dm.out (h : Dm W H l F G) (k : Nat) (hk : k < l.length) (i : Nat) (hi : Ins W l[k] i) : ∀ q ∈ l.take k, ¬ Ins W q i := fun q hq hq2 => by
  have h1 := h.before k hk q hq
  obtain ⟨_, h2, _⟩ := h.wd q (List.mem_of_mem_take hq)
  have : (q.2.1 + 1) * W ≤ (l[k]).2.1 * W := Nat.mul_le_mul_right _ h1
  rw [Nat.succ_mul] at this
  unfold Ins rAt at hi hq2
  omega
theorem Dm.ends (h : Dm W H l F G) (hF : F.length = H * W) (hG : G.length = H * W) (k : Nat) (hk : k < l.length) :
    looksB ((patchL W G F (l.take k)).getD (rAt W l[k]) Ce.zero) (G.getD (rAt W l[k]) Ce.zero) = false ∧ looksB ((patchL W G F (l.take k)).getD (rAt W l[k] + (l[k]).2.2 - 1) Ce.zero) (G.getD (rAt W l[k] + (l[k]).2.2 - 1) Ce.zero) = false := by
  have hm := List.getElem_mem hk
  have hw := h.wd _ hm
  have hp : ∀ q ∈ l.take k, rAt W q + q.2.2 ≤ G.length := fun q hq => by rw [hG]; exact h.fit q (List.mem_of_mem_take hq)
  have e : ∀ i, Ins W l[k] i → (patchL W G F (l.take k)).getD i Ce.zero = F.getD i Ce.zero := fun i hi => by
    rw [List.getD_eq_getElem?_getD, List.getD_eq_getElem?_getD, patchL_none _ F (by omega) hp i (h.out k hk i hi)]
  refine ⟨?_, ?_⟩
  · rw [e _ ⟨Nat.le_refl _, by omega⟩]
    exact h.first _ hm
  · rw [e _ ⟨by omega, by omega⟩]
    exact h.last _ hm
theorem Dm.whole (h : Dm W H l F G) (hF : F.length = H * W) (hG : G.length = H * W) (i : Nat) (hi : i < H * W) : looksB ((patchL W G F l).getD i Ce.zero) (G.getD i Ce.zero) = true := by
  have hp : ∀ q ∈ l, rAt W q + q.2.2 ≤ G.length := fun q hq => by rw [hG]; exact h.fit q hq
  by_cases hs : ∃ q ∈ l, Ins W q i
  · rw [List.getD_eq_getElem?_getD, List.getD_eq_getElem?_getD, patchL_some l F (by omega) hp i hs]
    exact looksB_self _
  · have h1 : looksB (F.getD i Ce.zero) (G.getD i Ce.zero) = true := by
      cases hb : looksB (F.getD i Ce.zero) (G.getD i Ce.zero) with
      | true => rfl
      | false => exact absurd (h.all i hi hb) hs
    rw [List.getD_eq_getElem?_getD, List.getD_eq_getElem?_getD, patchL_none l F (by omega) hp i (fun q hq hi => hs ⟨q, hq, hi⟩), ← List.getD_eq_getElem?_getD, ← List.getD_eq_getElem?_getD]
    exact h1
end
theorem own_blk {w : World} {B g n c : Nat} {t : TypeId} {xs : List Value} {sz : Nat} (h : w.ownsRow B t sz (.slice (some ⟨g, 0, none⟩) n c) n xs) : ∃ L, Blk w g L t ∧ L.take (n * sz) = xs ∧ L.length = c * sz ∧ n ≤ c ∧ c ≤ maxLen := by
  obtain ⟨_, h | ⟨g', cap, cur, hv, _, hg, h1, h2, h3, h4⟩⟩ := h
  · obtain ⟨hv, _⟩ := h; cases hv
  · injection hv with h5 _ h6
    injection h5 with h5
    injection h5 with h5
    subst h5
    subst h6
    exact ⟨cur.toList, by unfold Blk; exact hg, h4, by simpa using h3, h1, h2⟩
theorem own_of_blk {w : World} {B g n c : Nat} {t : TypeId} {xs L : List Value} {sz : Nat} (h : Blk w g L t) (hx : L.take (n * sz) = xs) (hl : L.length = c * sz) (hn : n ≤ c) (hc : c ≤ maxLen) (hB : B ≤ g) : w.ownsRow B t sz (.slice (some ⟨g, 0, none⟩) n c) n xs := by
  have hns : n * sz ≤ c * sz := Nat.mul_le_mul_right _ hn
  refine ⟨by rw [← hx, List.length_take]; omega, .inr ⟨g, c, L.toArray, rfl, hB, h, hn, hc, by simpa using hl, by simpa using hx⟩⟩
theorem lay_take (L cs : List Value) (o m : Nat) (h : o + cs.length ≤ m) (hm : m ≤ L.length) : (L.take o ++ cs ++ L.drop (o + cs.length)).take m = (L.take m).take o ++ cs ++ (L.take m).drop (o + cs.length) := by
  have h1 : (L.take o ++ cs).length = o + cs.length := by simp; omega
  rw [List.take_append, h1, List.take_of_length_le (by omega), List.take_take, Nat.min_eq_left (by omega), List.drop_take]
theorem own_blit {w : World} {B g n c : Nat} {P : List Ce} (h : w.ownsRow B 49 6 (.slice (some ⟨g, 0, none⟩) n c) n (rowCells P)) (hB : B ≤ g) : ∃ L, Blk w g L 49 ∧ L.length = c * 6 ∧ n ≤ c ∧ c ≤ maxLen ∧ ∀ (a : Nat) (cs : List Ce) (w' : World), a + cs.length ≤ n → Blk w' g (L.take (a * 6) ++ rowCells cs ++ L.drop (a * 6 + (rowCells cs).length)) 49 → w'.ownsRow B 49 6 (.slice (some ⟨g, 0, none⟩) n c) n (rowCells (blit a cs P)) := by
  obtain ⟨L, hb, ht, hl, hn, hc⟩ := own_blk h
  refine ⟨L, hb, hl, hn, hc, fun a cs w' ha hb' => own_of_blk hb' ?_ ?_ hn hc hB⟩
  · rw [lay_take _ _ _ _ (by rw [rowCells_length]; omega) (by omega), ht, blit_cells]
  · rw [← hl]
    simp [rowCells_length]
    omega
theorem flat_part {rows : List (List Ce)} (h : ∀ r ∈ rows, PartOK r) : PartOK rows.flatten := PartOK.of_mem fun c hc => by
  obtain ⟨r, hr, hcr⟩ := List.mem_flatten.1 hc
  exact (h r hr).mem c hcr
theorem patch_part {W : Nat} {G : List Ce} (hG : PartOK G) : ∀ (l : List (Nat × Nat × Nat)) (F : List Ce), PartOK F → PartOK (patchL W G F l)
  | [], _, h => h
  | _ :: l, _, h => patch_part hG l _ (blit_part (cut_part hG _ _) h)
end Go.Proofs.Ytohkjopdoejedaa
