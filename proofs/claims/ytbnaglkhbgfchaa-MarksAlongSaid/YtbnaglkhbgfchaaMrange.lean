/- package marks: a range over the map: an iterator anywhere in memory, stretches written on the way. -/
import Derived.Test.YtbnaglkhbgfchaaMmap
namespace Go.Proofs.Ytbnaglkhbgfchaa
open Go.RowKit
def IterAt (w : World) (ib mb ck : Nat) (seen : Array Nat) : Prop := w.heap[ib]? = some (.mapIter (some mb) ck seen ck)
section
variable {w w' : World} {mb ib ck : Nat} {L : List EN} {seen : Array Nat}
theorem IterAt.lt (h : IterAt w ib mb ck seen) : ib < w.heap.size := by
  rcases Nat.lt_or_ge ib w.heap.size with h1 | h1
  · exact h1
  · unfold IterAt at h
    simp [Array.getElem?_eq_none h1] at h
theorem IterAt.stay {F : List Nat} (h : IterAt w ib mb ck seen) (hs : Stay F w w') (hF : ib ∉ F) : IterAt w' ib mb ck seen := (hs.block ib h.lt hF).trans h
theorem range_run (h : MapAt w mb L ck) : (Instr.range 59 (.map (some mb))).run Try.prog w = .ok (.pointer (some ⟨w.heap.size, 0, none⟩)) (w.alloc (.mapIter (some mb) ck #[] ck)) :=
  run_range_map w 59 3 67 mb _ ck u59 h.h
theorem IterAt.new (w : World) (mb ck : Nat) : IterAt (w.alloc (.mapIter (some mb) ck #[] ck)) w.heap.size mb ck #[] := heap_alloc_new w _
theorem mem_ent {x : MapEntry} (h : x ∈ (L.map EN.ent).toArray) : ∃ e ∈ L, x = e.ent := by
  have h1 : x ∈ L.map EN.ent := by simpa using h
  obtain ⟨e, he, rfl⟩ := List.mem_map.1 h1
  exact ⟨e, he, rfl⟩
/-- the step: nothing is left, or one that has not come -/
theorem next_run (ty : TypeId) (hm : MapAt w mb L ck) (hi : IterAt w ib mb ck seen) :
    ((∀ x ∈ L, seen.contains x.bn = true) ∧ (Instr.next (.pointer (some ⟨ib, 0, none⟩)) false ty).run Try.prog w = .ok (.tuple #[.bool false]) w) ∨
    ∃ x ∈ L, seen.contains x.bn = false ∧ ∃ w1, (Instr.next (.pointer (some ⟨ib, 0, none⟩)) false ty).run Try.prog w = .ok (.tuple #[.bool true, .int .i64 x.id, x.st.val]) w1 ∧ Stay [ib] w w1 ∧ IterAt w1 ib mb ck (seen.push x.bn) := by
  have hold : ∀ y ∈ (L.map EN.ent).toArray.toList, y.born < ck := fun y hy => by
    obtain ⟨e, he, rfl⟩ := mem_ent (L := L) (by simpa using hy)
    exact hm.lt e he
  unfold IterAt at hi
  have hmh := hm.h
  simp only [Instr.next, getObj, Sem.run_bind, Sem.run, hi, hmh, Result.andThen, next_test_false seen _ ck ck hold (Nat.le_refl _), Bool.false_eq_true, if_false]
  obtain ⟨Le, hLe⟩ : ∃ Le, Le = Array.filter (fun e => !seen.contains e.born) (L.map EN.ent).toArray := ⟨_, rfl⟩
  have hmem : ∀ y ∈ Le.toList, y.born < ck := fun y hy => hold y (by rw [hLe] at hy; simp at hy ⊢; exact hy.1)
  have hmem2 : ∀ y ∈ Le.toList, ∃ x ∈ L, y = x.ent ∧ seen.contains x.bn = false := fun y hy => by
    rw [hLe] at hy
    simp at hy
    obtain ⟨⟨x, hx, rfl⟩, h2⟩ := hy
    exact ⟨x, hx, rfl, by simpa [EN.ent] using h2⟩
  have hall : Le.size = 0 → ∀ x ∈ L, seen.contains x.bn = true := fun h0 x hx => by
    cases hc : seen.contains x.bn with
    | true => rfl
    | false =>
      have h1 : Le = #[] := Array.eq_empty_of_size_eq_zero h0
      rw [hLe, Array.filter_eq_empty_iff] at h1
      have h2 := h1 x.ent (by simpa using ⟨x, hx, rfl⟩)
      have hc' : seen.contains x.ent.born = false := hc
      rw [hc'] at h2
      exact absurd rfl h2
  rw [← hLe]
  clear hLe
  have e1 : Le.filter (fun x => decide (x.born < ck)) = Le := Array.filter_eq_self.2 (fun x hx => by simpa using hmem x (by simpa using hx))
  have e2 : Le.filter (fun x => decide (x.born ≥ ck)) = #[] := by
    rw [Array.filter_eq_empty_iff]
    intro x hx
    have := hmem x (by simpa using hx)
    simp
    omega
  simp only [e1, e2, Array.append_empty]
  by_cases h0 : Le.size = 0
  · left
    refine ⟨hall h0, ?_⟩
    have : Le = #[] := Array.eq_empty_of_size_eq_zero h0
    subst this
    simp [choose, Sem.run, Question.forced]
  · right
    have hne : Le.isEmpty = false := by simp [Array.isEmpty, h0]
    simp only [hne, Bool.false_eq_true, if_false, Array.empty_append, Array.size_map]
    have hch : ∃ (j : Nat) (w1 : World), j < Le.size ∧ w1.heap = w.heap ∧ Stay [] w w1 ∧ (choose (Question.mapNext Le.size)).run Try.prog w = .ok j w1 := by
      by_cases hf : Le.size ≤ 1
      · exact ⟨0, w, by omega, rfl, Stay.refl _ _, by simp [choose, Sem.run, Question.forced, hf]⟩
      · exact ⟨_, w.drew, Nat.mod_lt _ (by omega), rfl, Stay.drew _, by
          simp only [choose, Sem.run, Question.forced, decide_eq_true_eq, hf, if_false, Question.cut]
          rfl⟩
    obtain ⟨j, w1, hj, hhp, hst, hrun⟩ := hch
    obtain ⟨x, hx, hxe, hxs⟩ := hmem2 Le[j] (by simp)
    have hi1 : w1.heap[ib]? = some (.mapIter (some mb) ck seen ck) := by rw [hhp]; exact hi
    have hlt : ib < w1.heap.size := IterAt.lt hi1
    refine ⟨x, hx, hxs, setO w1 ib (.mapIter (some mb) ck (seen.push x.bn) ck), ?_, (hst.mono (by simp)).trans (Stay.setO _ (by simp)), setO_get hlt⟩
    simp only [hrun, Array.getElem?_map, Array.getElem?_eq_getElem hj, Option.map_some, Sem.run_bind, Result.andThen, setObj_iter hi1]
    rw [hxe]
    rfl
/-- what the round reads -/
theorem entry_run {x : EN} (hm : MapAt w mb L ck) (hx : x ∈ L) (hi : IterAt w ib mb ck (seen.push x.bn)) :
    (Instr.entry (.pointer (some ⟨ib, 0, none⟩))).run Try.prog w = .ok (.tuple #[.int .i64 x.id, x.st.val]) w := by
  unfold IterAt at hi
  have hmh := hm.h
  have hf : (L.map EN.ent).toArray.find? (·.born == x.bn) = some x.ent := by
    rw [← Array.find?_toList]
    refine find_born x.ent (L.map EN.ent) ?_ (List.mem_map.2 ⟨x, hx, rfl⟩)
    rw [List.map_map]
    exact hm.nb
  simp only [Instr.entry, getObj, Sem.run_bind, Sem.run, hi, hmh, Result.andThen, Array.back?_push, bne_self_eq_false, Bool.false_eq_true, if_false, hf]
  rfl
end
end Go.Proofs.Ytbnaglkhbgfchaa
