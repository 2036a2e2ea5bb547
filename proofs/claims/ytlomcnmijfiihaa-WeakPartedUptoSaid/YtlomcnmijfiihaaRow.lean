/- A slice of int8 that came in, as the walks are told of it. -/
import Derived.Test.YtlomcnmijfiihaaSpec
namespace Go.Proofs.Ytlomcnmijfiihaa
open Go.RowKit
theorem sl_row {w : World} {a : Option Addr} {len cap : Nat} {zs : List Int}
    (h : (a = none ∧ len = 0 ∧ cap = 0 ∧ zs = []) ∨ ∃ x, a = some x ∧ len ≤ cap ∧ cap ≤ maxLen ∧ zs.length = cap ∧ (∀ i, i < zs.length → w.cell? (x.add i) = some (.int .i8 (zs.getD i 0))) ∧ ∀ n ∈ zs, (Lit.int .i8 n).wf = true) :
    Sl w w.heap.size a (i8s (zs.take len)) ∧ (zs.take len).length = len := by
  rcases h with ⟨rfl, rfl, rfl, rfl⟩ | ⟨x, rfl, h1, h2, h3, h4, _⟩
  · exact ⟨Sl.nil_ _ _ _, rfl⟩
  · refine ⟨fun j u hj => ?_, by simp; omega⟩
    have hjl : j < len ∧ j < zs.length := by
      have := (List.getElem?_eq_some_iff.1 hj).1
      simp [i8s] at this
      omega
    have hc := h4 j hjl.2
    refine ⟨x, rfl, ?_, ?_⟩
    · have := World.block_lt_of_cell? w _ hc
      rwa [add_block] at this
    · rw [hc]
      simp [i8s, hjl.1, hjl.2] at hj ⊢
      exact hj
theorem bytes23 (P : Program) (h : P.bytesOf 23 = 1) {n : Nat} (hn : n * P.bytesOf 23 ≤ 140737488351232) : n ≤ 140737488351232 := by rw [h] at hn; omega
end Go.Proofs.Ytlomcnmijfiihaa
