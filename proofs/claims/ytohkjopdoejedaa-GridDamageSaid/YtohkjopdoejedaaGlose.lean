/- package grid: lose. -/
import Derived.Test.YtohkjopdoejedaaGblank
import Derived.Test.YtohkjopdoejedaaMinMax
namespace Go.Proofs.Ytohkjopdoejedaa
open Go.RowKit
theorem lay_sub (L : List Value) (o i : Nat) (l s : List Ce) (h : o + l.length * 6 ≤ L.length) (hs : i + s.length ≤ l.length) : lay (lay L o l) (o + i * 6) s = lay L o (l.take i ++ s ++ l.drop (i + s.length)) := by
  have hl := lay_length L o l h
  have hln : (l.take i ++ s ++ l.drop (i + s.length)).length = l.length := by simp; omega
  have h2 : o + i * 6 + s.length * 6 ≤ (lay L o l).length := by omega
  apply List.ext_getElem?
  intro p
  by_cases hin : o ≤ p ∧ p < o + l.length * 6
  · obtain ⟨q, j, hj, hp⟩ : ∃ q j, j < 6 ∧ p = o + q * 6 + j := ⟨(p - o) / 6, (p - o) % 6, Nat.mod_lt _ (by omega), by omega⟩
    have hq : q < l.length := by omega
    rw [hp, lay_at L o _ (by rw [hln]; exact h) q (by rw [hln]; exact hq) j hj]
    have ht : (l.take i).length = i := by simp; omega
    have key : ∀ (x : Ce), (l.take i ++ s ++ l.drop (i + s.length))[q]? = some x → (l.take i ++ s ++ l.drop (i + s.length))[q]'(by rw [hln]; exact hq) = x := fun x hx => by
      rw [List.getElem?_eq_getElem (by rw [hln]; exact hq)] at hx
      injection hx
    by_cases h1 : q < i
    · rw [lay_other _ _ _ h2 _ (.inl (by omega)), lay_at L o l h q hq j hj]
      rw [key l[q] (by
        rw [List.getElem?_append_left (by simp; omega), List.getElem?_append_left (by omega), List.getElem?_take, if_pos h1, List.getElem?_eq_getElem hq])]
    · by_cases h3 : q < i + s.length
      · obtain ⟨q', hq'⟩ : ∃ q', q = i + q' := ⟨q - i, by omega⟩
        subst hq'
        rw [show o + (i + q') * 6 + j = o + i * 6 + q' * 6 + j by omega, lay_at (lay L o l) (o + i * 6) s h2 q' (by omega) j hj]
        rw [key (s[q']'(by omega)) (by
          rw [List.getElem?_append_left (by simp; omega), List.getElem?_append_right (by omega), ht, Nat.add_sub_cancel_left, List.getElem?_eq_getElem (by omega)])]
      · rw [lay_other _ _ _ h2 _ (.inr (by omega)), lay_at L o l h q hq j hj]
        rw [key l[q] (by
          rw [List.getElem?_append_right (by simp; omega), List.getElem?_drop]
          rw [show i + s.length + (q - (l.take i ++ s).length) = q by simp; omega, List.getElem?_eq_getElem hq])]
  · rw [lay_other L o _ (by rw [hln]; exact h) p (by rw [hln]; omega), lay_other _ _ _ h2 _ (by omega), lay_other L o l h p (by omega)]
theorem lay_same (L : List Value) (o i e : Nat) (l : List Ce) (h : o + l.length * 6 ≤ L.length) (hi : i ≤ e) (he : e ≤ l.length) : lay (lay L o l) (o + i * 6) ((l.take e).drop i) = lay L o l := by
  have hs : ((l.take e).drop i).length = e - i := by simp; omega
  rw [lay_sub L o i l _ h (by omega), hs]
  congr 1
  rw [show i + (e - i) = e by omega]
  have e1 : l.take i ++ (l.take e).drop i = l.take e := by
    have := List.take_append_drop i (l.take e)
    rw [List.take_take, Nat.min_eq_left hi] at this
    exact this
  rw [e1, List.take_append_drop]
theorem lay_blankR (L : List Value) (o i e : Nat) (l : List Ce) (h : o + l.length * 6 ≤ L.length) (hi : i ≤ e) (he : e ≤ l.length) : lay (lay L o l) (o + i * 6) (((l.take e).drop i).map Ce.blank) = lay L o (blankR l i e) := by
  have hs : (((l.take e).drop i).map Ce.blank).length = e - i := by simp; omega
  rw [lay_sub L o i l _ h (by omega), hs]
  congr 1
  unfold blankR
  rw [show i + (e - i) = e by omega]
def PartOK (l : List Ce) : Prop := ∀ k, -128 ≤ (l.getD k Ce.zero).part ∧ (l.getD k Ce.zero).part < 128
theorem PartOK.of_mem {l : List Ce} (h : ∀ c ∈ l, -128 ≤ c.part ∧ c.part < 128) : PartOK l := fun k => by
  by_cases hk : k < l.length
  · rw [List.getD_eq_getElem?_getD, List.getElem?_eq_getElem hk]
    exact h _ (List.getElem_mem hk)
  · rw [List.getD_eq_getElem?_getD, List.getElem?_eq_none (by omega)]
    simp [Ce.zero]
theorem PartOK.mem {l : List Ce} (h : PartOK l) : ∀ c ∈ l, -128 ≤ c.part ∧ c.part < 128 := fun c hc => by
  obtain ⟨k, hk, e⟩ := List.mem_iff_getElem.1 hc
  have := h k
  rw [List.getD_eq_getElem?_getD, List.getElem?_eq_getElem hk] at this
  simpa [e] using this
theorem PartOK.blankR {l : List Ce} (h : PartOK l) (a b : Nat) : PartOK (blankR l a b) := PartOK.of_mem fun c hc => by
  unfold Go.Proofs.Ytohkjopdoejedaa.blankR at hc
  rcases List.mem_append.1 hc with hc | hc
  · rcases List.mem_append.1 hc with hc | hc
    · exact h.mem c (List.mem_of_mem_take hc)
    · obtain ⟨d, _, e⟩ := List.mem_map.1 hc
      rw [← e]
      simp [Ce.blank, Ce.zero]
  · exact h.mem c (List.mem_of_mem_drop hc)
end Go.Proofs.Ytohkjopdoejedaa
