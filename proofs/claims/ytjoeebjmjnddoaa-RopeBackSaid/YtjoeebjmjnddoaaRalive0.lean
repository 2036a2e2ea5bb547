/- shuttlelaw18: alive: what is asked of each call. -/
import Derived.Test.YtjoeebjmjnddoaaRdo2
import Derived.Laws.Concat
namespace Go.Proofs.Ytjoeebjmjnddoaa
open Go.RowKit Go.Shelf
theorem ba_inj {a b : ByteArray} (h : a.data.toList = b.data.toList) : a = b := by
  cases a with | mk a => cases b with | mk b => congr 1; exact Array.toList_inj.1 h
theorem str_beq (a b : ByteArray) : a.toList = b.toList ↔ a = b :=
  ⟨fun h => ba_inj (by rw [ByteArray.toList_eq, ByteArray.toList_eq] at h; exact h), fun h => by rw [h]⟩
theorem frame_named {c : Code} {F : Fence} {n : Nat} {P : Program} {Q : Exit → Act → World → Prop} {a : Act} {w : World} (h : ∀ A, A = a → c.wpIn F n P Q A w) : c.wpIn F n P Q a w := h a rfl
theorem func_nil (f : FuncId) (x y : Array Value) (w : World) : (binOp .eql 32 (.func (.func f) x y) .nilFunc).run Try.prog w = .ok (.bool false) w := by kernel_rfl
theorem edit_eql (a d a' d' : Int) (s s' : ByteArray) (w : World) : (binOp .eql 37 (.agg #[.int .i64 a, .int .i64 d, .string s]) (.agg #[.int .i64 a', .int .i64 d', .string s'])).run Try.prog w = .ok (.bool (decide (a = a') && decide (d = d') && decide (s = s'))) w := by
  have hS : Try.prog.underlying 37 = some (.struct (Try.prog.fieldsOf 37)) := by kernel_rfl
  have hp : Try.prog.stoodInHeld 37 = false := by kernel_rfl
  rw [run_eql_struct, show (10000 : Nat) = 9999 + 1 from rfl, run_equalIn_agg w 9999 37 _ _ hS hp]
  simp only [Program.fieldsOf, Try.underlying37]
  go_simp
  by_cases h1 : a = a' <;> by_cases h2 : d = d' <;> by_cases h3 : s = s' <;> simp [h1, h2, h3, str_beq]
end Go.Proofs.Ytjoeebjmjnddoaa
