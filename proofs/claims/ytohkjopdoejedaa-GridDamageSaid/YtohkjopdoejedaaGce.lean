/- cells compared whole. -/
import Derived.Test.YtohkjopdoejedaaGagain0
namespace Go.Proofs.Ytohkjopdoejedaa
open Go.RowKit
def ceB (a b : Ce) : Bool := decide (a.text = b.text) && decide (a.part = b.part) && decide (a.at_ = b.at_) && decide (a.len = b.len) && decide (a.right = b.right) && decide (a.style = b.style)
theorem ceB_self (a : Ce) : ceB a a = true := by simp [ceB]
theorem ceB_eq {a b : Ce} (h : ceB a b = true) : a = b := by
  cases a; cases b
  simp [ceB] at h
  simp [h]
theorem ce_neq (t1 t2 : ByteArray) (p1 p2 a1 a2 l1 l2 : Int) (r1 r2 : Bool) (s1 s2 : Int) (w : World) : (binOp .neq 49 (.agg #[.string t1, .int .i8 p1, .int .i64 a1, .int .i64 l1, .bool r1, .int .u16 s1]) (.agg #[.string t2, .int .i8 p2, .int .i64 a2, .int .i64 l2, .bool r2, .int .u16 s2])).run Try.prog w = .ok (.bool (!(decide (t1 = t2) && decide (p1 = p2) && decide (a1 = a2) && decide (l1 = l2) && decide (r1 = r2) && decide (s1 = s2)))) w := by
  have hS : Try.prog.underlying 49 = some (.struct (Try.prog.fieldsOf 49)) := by kernel_rfl
  have hp : Try.prog.stoodInHeld 49 = false := by kernel_rfl
  rw [run_neq_struct, show (10000 : Nat) = 9999 + 1 from rfl, run_equalIn_agg w 9999 49 _ _ hS hp]
  simp only [Program.fieldsOf, Try.underlying49]
  go_simp
  by_cases h1 : t1 = t2 <;> by_cases h2 : p1 = p2 <;> by_cases h3 : a1 = a2 <;> by_cases h4 : l1 = l2 <;> by_cases h5 : r1 = r2 <;> by_cases h6 : s1 = s2 <;> simp [h1, h2, h3, h4, h5, h6, str_eq]
theorem ce_guard : Try.prog.eqGuardType Try.prog.depth 49 = false := by kernel_rfl
/-- a cell of an owned row -/
theorem own_cell {w : World} {B g n c : Nat} {t : TypeId} {l : List Ce} (h : w.ownsRow B t 6 (.slice (some ⟨g, 0, none⟩) n c) n (rowCells l)) (i : Nat) (hi : i < l.length) (hn : l.length = n) (ce : Ce) (hce : l[i] = ce) :
    w.cell? ⟨g, i * 6, none⟩ = some (.string ce.text) ∧ w.cell? ⟨g, i * 6 + 1, none⟩ = some (.int .i8 ce.part) ∧ w.cell? ⟨g, i * 6 + 2, none⟩ = some (.int .i64 ce.at_) ∧ w.cell? ⟨g, i * 6 + 3, none⟩ = some (.int .i64 ce.len) ∧ w.cell? ⟨g, i * 6 + 4, none⟩ = some (.bool ce.right) ∧ w.cell? ⟨g, i * 6 + 5, none⟩ = some (.int .u16 ce.style) := by
  subst hce
  have key : ∀ j v, (l[i]).cells[j]? = some v → w.cell? ⟨g, i * 6 + j, none⟩ = some v := fun j v hj => by
    have hj6 : j < 6 := by have := (List.getElem?_eq_some_iff.1 hj).1; exact this
    rw [World.ownsRow.cellAt h (i * 6 + j) (by omega), rowCells_at _ i hi j hj6, hj]
  exact ⟨key 0 _ rfl, key 1 _ rfl, key 2 _ rfl, key 3 _ rfl, key 4 _ rfl, key 5 _ rfl⟩
theorem flat_same {W : Nat} {r1 r2 : List (List Ce)} (h1 : ∀ r ∈ r1, r.length = W) (h2 : ∀ r ∈ r2, r.length = W) (i : Nat) (he : r1[i]? = r2[i]?) (k : Nat) (hk : k < W) : r1.flatten[i * W + k]? = r2.flatten[i * W + k]? := by
  rw [flatAt W r1 h1 i k hk, flatAt W r2 h2 i k hk, List.getD_eq_getElem?_getD, List.getD_eq_getElem?_getD, he]
end Go.Proofs.Ytohkjopdoejedaa
