/- A slice of numbers that came in, as the walks are told of it. -/
import Derived.Test.YtlphmcodajookaaDoorNAbase
namespace Go.Proofs.YtlphmcodajookaaDoor
open Go.RowKit
def IsRow (k : IntKind) (w : World) (a : Option Addr) (len cap : Nat) (zs : List Int) : Prop :=
  (a = none ∧ len = 0 ∧ cap = 0 ∧ zs = []) ∨ ∃ x, a = some x ∧ len ≤ cap ∧ cap ≤ maxLen ∧ zs.length = cap ∧ (∀ i, i < zs.length → w.cell? (x.add i) = some (.int k (zs.getD i 0))) ∧ ∀ n ∈ zs, (Lit.int k n).wf = true
section
variable {w : World} {q : IntKind} {a : Option Addr} {len cap : Nat} {zs : List Int}
theorem sl_row (h : (a = none ∧ len = 0 ∧ cap = 0 ∧ zs = []) ∨ ∃ x, a = some x ∧ len ≤ cap ∧ cap ≤ maxLen ∧ zs.length = cap ∧ (∀ i, i < zs.length → w.cell? (x.add i) = some (.int q (zs.getD i 0))) ∧ ∀ n ∈ zs, (Lit.int q n).wf = true) :
    Sl w w.heap.size a (ints q (zs.take len)) ∧ (zs.take len).length = len ∧ len ≤ cap ∧ cap ≤ maxLen ∧ ∀ n ∈ zs.take len, (Lit.int q n).wf = true := by
  rcases h with ⟨rfl, rfl, rfl, rfl⟩ | ⟨x, rfl, h1, h2, h3, h4, h5⟩
  · exact ⟨Sl.nil_ _ _ _, rfl, Nat.le_refl _, Nat.zero_le _, by simp⟩
  · refine ⟨fun j u hj => ?_, by simp; omega, h1, h2, fun n hn => h5 n (List.mem_of_mem_take hn)⟩
    have hjl : j < len ∧ j < zs.length := by
      have := (List.getElem?_eq_some_iff.1 hj).1
      simp [ints] at this
      omega
    have hc := h4 j hjl.2
    refine ⟨x, rfl, ?_, ?_⟩
    · have := World.block_lt_of_cell? w _ hc
      rwa [add_block] at this
    · rw [hc]
      simp [ints, hjl.1, hjl.2] at hj ⊢
      exact hj
end
end Go.Proofs.YtlphmcodajookaaDoor
