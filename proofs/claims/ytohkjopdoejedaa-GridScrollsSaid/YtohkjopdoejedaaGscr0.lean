/- layer 24 in plain lists: whole rows scrolled. -/
import Derived.Test.YtohkjopdoejedaaGagain0
namespace Go.Proofs.Ytohkjopdoejedaa
def zeroR (W : Nat) : List Ce := List.replicate W Ce.zero
theorem blit_whole (q r : List Ce) (h : q.length = r.length) : blit 0 q r = q := by
  unfold blit
  rw [List.take_zero, List.drop_of_length_le (by omega)]
  simp
theorem span_whole (n : Nat) : (spanL 0 n n).1.toNat = 0 ∧ (spanL 0 n n).2.toNat = n := by
  have e : spanL 0 n n = (0, (n : Int)) := by
    unfold spanL
    by_cases h : (n : Int) ≤ 0
    · have h0 : n = 0 := by omega
      subst h0
      rfl
    · rw [if_neg h, if_neg (by omega)]
      have e1 : min (max (0 : Int) 0) n = 0 := by omega
      rw [e1]
      have e2 : min (max (0 + min (n : Int) (n - 0)) 0) n = (n : Int) := by omega
      rw [e2]
  rw [e]
  exact ⟨rfl, by simp⟩
/-- the row that comes to stand at y -/
def mvQ (H W : Nat) (n : Int) (rows : List (List Ce)) (y : Nat) : List Ce := if (n < 0 ∧ n < -(y : Int)) ∨ (0 < n ∧ (H : Int) - y ≤ n) then zeroR W else rows.getD ((y : Int) + n).toNat []
/-- rows as wide as the screen -/
def Wide (W : Nat) (rows : List (List Ce)) : Prop := ∀ r ∈ rows, r.length = W
theorem Wide.at_ {W : Nat} {rows : List (List Ce)} (h : Wide W rows) (y : Nat) (hy : y < rows.length) : (rows.getD y []).length = W := by
  rw [List.getD_eq_getElem?_getD, List.getElem?_eq_getElem hy]
  exact h _ (List.getElem_mem hy)
theorem mvQ_length {H W : Nat} {rows : List (List Ce)} (h : Wide W rows) (hl : rows.length = H) (n : Int) (_ : n ≠ 0) (y : Nat) (hy : y < H) : (mvQ H W n rows y).length = W := by
  unfold mvQ
  split
  · simp [zeroR]
  · exact h.at_ _ (by omega)
theorem mvRow_whole {H W : Nat} {rows : List (List Ce)} (h : Wide W rows) (hl : rows.length = H) (n : Int) (_ : n ≠ 0) (y : Nat) (hy : y < H) : mvRow 0 W 0 H n rows y = rows.set y (mvQ H W n rows y) := by
  have hy' := h.at_ y (by omega)
  unfold mvRow mvQ
  congr 1
  have e : ((n < 0 ∧ n < ((0 : Nat) : Int) - y) ∨ (0 < n ∧ (H : Int) - y ≤ n)) ↔ ((n < 0 ∧ n < -(y : Int)) ∨ (0 < n ∧ (H : Int) - y ≤ n)) := by omega
  by_cases hc : (n < 0 ∧ n < -(y : Int)) ∨ (0 < n ∧ (H : Int) - y ≤ n)
  · rw [if_pos hc, if_pos (e.2 hc), blit_whole _ _ (by rw [List.length_replicate, hy']; omega)]
    rfl
  · rw [if_neg hc, if_neg (fun h1 => hc (e.1 h1))]
    have hq := h.at_ ((y : Int) + n).toNat (by omega)
    rw [List.drop_zero, List.take_of_length_le (by omega), blit_whole _ _ (by omega)]
theorem Wide.set {W : Nat} {rows : List (List Ce)} (h : Wide W rows) (y : Nat) (q : List Ce) (hq : q.length = W) : Wide W (rows.set y q) := fun r hr => by
  rcases List.mem_or_eq_of_mem_set hr with hr | hr
  · exact h r hr
  · rw [hr]; exact hq
theorem mvUp_whole {H W : Nat} {rows : List (List Ce)} (h : Wide W rows) (hl : rows.length = H) (n : Int) (hn : 0 < n) : ∀ j, j ≤ H → Wide W (mvUp 0 W 0 H n rows j) ∧ ∀ y, (mvUp 0 W 0 H n rows j)[y]? = if y < j then some (mvQ H W n rows y) else rows[y]?
  | 0, _ => ⟨h, fun y => by rw [if_neg (by omega)]; rfl⟩
  | j + 1, hj => by
    obtain ⟨i1, i2⟩ := mvUp_whole h hl n hn j (by omega)
    have il : (mvUp 0 W 0 H n rows j).length = H := by rw [mvUp_length]; exact hl
    have e : mvUp 0 W 0 H n rows (j + 1) = (mvUp 0 W 0 H n rows j).set j (mvQ H W n (mvUp 0 W 0 H n rows j) j) := by
      show mvRow 0 W 0 H n (mvUp 0 W 0 H n rows j) (0 + j) = _
      rw [Nat.zero_add, mvRow_whole i1 il n (by omega) j (by omega)]
    have e2 : mvQ H W n (mvUp 0 W 0 H n rows j) j = mvQ H W n rows j := by
      unfold mvQ
      split
      · rfl
      · rw [List.getD_eq_getElem?_getD, i2, if_neg (by omega), List.getD_eq_getElem?_getD]
    rw [e, e2]
    refine ⟨i1.set j _ (mvQ_length h hl n (by omega) j (by omega)), fun y => ?_⟩
    rw [List.getElem?_set]
    by_cases ey : j = y
    · subst ey
      rw [if_pos rfl, if_pos (by omega), if_pos (by omega)]
    · rw [if_neg ey, i2]
      by_cases h1 : y < j
      · rw [if_pos h1, if_pos (by omega)]
      · rw [if_neg h1, if_neg (by omega)]
theorem mvDn_whole {H W : Nat} {rows : List (List Ce)} (h : Wide W rows) (hl : rows.length = H) (n : Int) (hn : n < 0) : ∀ j, j ≤ H → Wide W (mvDn 0 W 0 H n rows j) ∧ ∀ y, (mvDn 0 W 0 H n rows j)[y]? = if H - j ≤ y ∧ y < H then some (mvQ H W n rows y) else rows[y]?
  | 0, _ => ⟨h, fun y => by rw [if_neg (by omega)]; rfl⟩
  | j + 1, hj => by
    obtain ⟨i1, i2⟩ := mvDn_whole h hl n hn j (by omega)
    have il : (mvDn 0 W 0 H n rows j).length = H := by rw [mvDn_length]; exact hl
    have e : mvDn 0 W 0 H n rows (j + 1) = (mvDn 0 W 0 H n rows j).set (H - 1 - j) (mvQ H W n (mvDn 0 W 0 H n rows j) (H - 1 - j)) := by
      show mvRow 0 W 0 H n (mvDn 0 W 0 H n rows j) (H - 1 - j) = _
      rw [mvRow_whole i1 il n (by omega) (H - 1 - j) (by omega)]
    have e2 : mvQ H W n (mvDn 0 W 0 H n rows j) (H - 1 - j) = mvQ H W n rows (H - 1 - j) := by
      unfold mvQ
      split
      · rfl
      · rw [List.getD_eq_getElem?_getD, i2, if_neg (by omega), List.getD_eq_getElem?_getD]
    rw [e, e2]
    refine ⟨i1.set _ _ (mvQ_length h hl n (by omega) _ (by omega)), fun y => ?_⟩
    rw [List.getElem?_set]
    by_cases ey : H - 1 - j = y
    · subst ey
      rw [if_pos rfl, if_pos (by omega), if_pos (by omega)]
    · rw [if_neg ey, i2]
      by_cases h1 : H - j ≤ y ∧ y < H
      · rw [if_pos h1, if_pos (by omega)]
      · rw [if_neg h1, if_neg (by omega)]
theorem lose_whole {W : Nat} {rows : List (List Ce)} (h : Wide W rows) (c d : Nat) : mapR (loseL (0 : Nat) W) c d rows = rows := mapR_id _ _ _ _ fun r hr => by
  have := h r hr
  subst this
  exact loseF_whole r.length _ _ r rfl
theorem Good.wide {S : Sc} (h : Good S) : Wide S.W S.rows := fun r hr => (h.row r hr).1
theorem scroll_whole {S : Sc} (h : Good S) (n : Int) (hn : n ≠ 0) (y : Nat) (hy : y < S.H) : (S.scroll 0 0 S.W S.H n).rows[y]? = some (mvQ S.H S.W n S.rows y) := by
  unfold Sc.scroll
  rw [if_neg hn, (span_whole S.W).1, (span_whole S.W).2, (span_whole S.H).1, (span_whole S.H).2]
  show (scrollR 0 S.W 0 S.H n S.rows)[y]? = _
  unfold scrollR
  rw [lose_whole h.wide, Nat.sub_zero]
  by_cases hp : 0 < n
  · rw [if_pos hp, (mvUp_whole h.wide h.len n hp S.H (Nat.le_refl _)).2, if_pos hy]
  · rw [if_neg hp, (mvDn_whole h.wide h.len n (by omega) S.H (Nat.le_refl _)).2, if_pos (by omega)]
theorem Sc.scroll_size (S : Sc) (x y a b n : Int) : (S.scroll x y a b n).W = S.W ∧ (S.scroll x y a b n).H = S.H := by
  unfold Sc.scroll; split <;> exact ⟨rfl, rfl⟩
/-- up and down again -/
theorem scroll_back {S : Sc} (h : Good S) (k : Int) (y : Nat) (hy : y < S.H) (hin : ¬ ((0 < k ∧ (y : Int) < k) ∨ (k < 0 ∧ (S.H : Int) + k ≤ y))) : ((S.scroll 0 0 S.W S.H k).scroll 0 0 S.W S.H (-k)).rows[y]? = S.rows[y]? := by
  by_cases hk : k = 0
  · subst hk
    have e0 : S.scroll 0 0 S.W S.H 0 = S := by unfold Sc.scroll; rw [if_pos rfl]
    rw [e0, Int.neg_zero, e0]
  · obtain ⟨T, hT⟩ : ∃ T, T = S.scroll 0 0 S.W S.H k := ⟨_, rfl⟩
    have hTg : Good T := by rw [hT]; exact h.scroll _ _ _ _ _
    have hTs : T.W = S.W ∧ T.H = S.H := by rw [hT]; exact S.scroll_size _ _ _ _ _
    have h1 := scroll_whole hTg (-k) (by omega) y (by omega)
    rw [hTs.1, hTs.2] at h1
    rw [← hT, h1]
    unfold mvQ
    rw [if_neg (by omega), List.getD_eq_getElem?_getD, hT, scroll_whole h k hk _ (by omega)]
    unfold mvQ
    rw [if_neg (by omega)]
    have e : ((((y : Int) + -k).toNat : Int) + k).toNat = y := by omega
    rw [e, Option.getD_some, List.getD_eq_getElem?_getD, List.getElem?_eq_getElem (by rw [h.len]; exact hy)]
    rfl
/-- all rows out -/
theorem scroll_all {S : Sc} (h : Good S) (n : Int) (hn : (S.H : Int) ≤ n) (hn0 : 0 < n) : (S.scroll 0 0 S.W S.H n).rows = List.replicate S.H (zeroR S.W) := by
  have hg : Good (S.scroll 0 0 S.W S.H n) := h.scroll _ _ _ _ _
  apply List.ext_getElem?
  intro y
  by_cases hy : y < S.H
  · rw [scroll_whole h n (by omega) y hy, List.getElem?_replicate, if_pos hy]
    unfold mvQ
    rw [if_pos (by omega)]
  · rw [List.getElem?_eq_none (by rw [hg.len, (S.scroll_size _ _ _ _ _).2]; omega), List.getElem?_replicate, if_neg hy]
theorem clear_all {S : Sc} (h : Good S) : (S.clear 0 0 S.W S.H).rows = List.replicate S.H (zeroR S.W) := by
  have hg : Good (S.clear 0 0 S.W S.H) := h.clear _ _ _ _
  apply List.ext_getElem?
  intro y
  unfold Sc.clear
  rw [(span_whole S.W).1, (span_whole S.W).2, (span_whole S.H).1, (span_whole S.H).2]
  show (mapR _ _ _ _)[y]? = _
  rw [mapR_at]
  by_cases hy : y < S.H
  · have hyl : y < S.rows.length := by rw [h.len]; exact hy
    rw [List.getElem?_eq_getElem hyl, List.getElem?_replicate, if_pos hy, Option.map_some, if_pos (by omega)]
    unfold clearRow
    rw [Nat.sub_zero, blit_whole _ _ (by rw [List.length_replicate, loseL_length]; exact (h.wide _ (List.getElem_mem hyl)).symm)]
    rfl
  · rw [List.getElem?_eq_none (by rw [h.len]; omega), List.getElem?_replicate, if_neg hy]
    rfl
end Go.Proofs.Ytohkjopdoejedaa
