/- norm: plain: what order keeps at each place. -/
import Derived.Test.YtlphmcodajookaaDoorNAplain
import Derived.Test.YtlphmcodajookaaDoorNsame
namespace Go.Proofs.YtlphmcodajookaaDoor
theorem ordK_at {α : Type} [DecidableEq α] (key : α → Int) : ∀ (l acc : List α), (∀ x ∈ acc, key x ≠ 0) →
    (∀ i x, (ordK key acc l)[i]? = some x → i < acc.length → key x ≠ 0) ∧ ∀ i x y, l[i]? = some x → (ordK key acc l)[acc.length + i]? = some y → (key x = 0 → y = x) ∧ (key x = 0 ↔ key y = 0)
  | [], acc, h => by
    refine ⟨fun i x hx _ => ?_, fun i x y hx _ => by simp at hx⟩
    rw [ordK_nil] at hx
    exact h x ((isortK_mem _ _ _).1 (List.mem_of_getElem? hx))
  | z :: l, acc, h => by
    have hil : (isortK key acc).length = acc.length := (isortK_perm key acc).length_eq
    by_cases h0 : key z = 0
    · obtain ⟨_, ih⟩ := ordK_at key l [] (by simp)
      rw [ordK_zero acc l h0]
      refine ⟨fun i x hx hi => ?_, fun i x y hx hy => ?_⟩
      · rw [List.getElem?_append_left (by omega)] at hx
        exact h x ((isortK_mem _ _ _).1 (List.mem_of_getElem? hx))
      · rw [List.getElem?_append_right (by omega), hil, Nat.add_sub_cancel_left] at hy
        cases i with
        | zero =>
          simp only [List.getElem?_cons_zero, Option.some.injEq] at hx hy
          subst hx; subst hy
          exact ⟨fun _ => rfl, Iff.rfl⟩
        | succ i =>
          rw [List.getElem?_cons_succ] at hx hy
          exact ih i x y hx (by simpa using hy)
    · have hacc : ∀ x ∈ acc ++ [z], key x ≠ 0 := fun x hx => by
        rcases List.mem_append.1 hx with hx | hx
        · exact h x hx
        · rw [List.mem_singleton.1 hx]; exact h0
      obtain ⟨ih1, ih2⟩ := ordK_at key l (acc ++ [z]) hacc
      rw [ordK_mark acc l h0]
      refine ⟨fun i x hx hi => ih1 i x hx (by rw [List.length_append]; omega), fun i x y hx hy => ?_⟩
      cases i with
      | zero =>
        simp only [List.getElem?_cons_zero, Option.some.injEq] at hx
        subst hx
        have := ih1 _ y hy (by rw [List.length_append]; simp)
        exact ⟨fun h => absurd h h0, ⟨fun h => absurd h h0, fun h => absurd h this⟩⟩
      | succ i =>
        rw [List.getElem?_cons_succ] at hx
        exact ih2 i x y hx (by rw [List.length_append, List.length_singleton, Nat.add_assoc, Nat.add_comm 1 i]; exact hy)
end Go.Proofs.YtlphmcodajookaaDoor
