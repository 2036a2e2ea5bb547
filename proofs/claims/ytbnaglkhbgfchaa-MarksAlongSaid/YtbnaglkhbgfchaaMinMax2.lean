/- min and max of two ints in a walk, the result as a letter with its bounds (for all seats). -/
import Derived.Test.YtbnaglkhbgfchaaMinMax
namespace Go.Proofs.Ytbnaglkhbgfchaa
open Go.RowKit
theorem wpList_min_i {P : Program} {w : World} {ops : Array Oper} {rest : List Oper} {o : Oper} {ac : Act} {Q : Exit → Act → World → Prop} (hgd : o.guard = none) (s x : Operand) (ts : Array TypeId)
    (ho : o.op = .call { callee := .builtin .min, args := #[s, x], argTypes := ts }) (a b : Int) (hs : ac.eval s = .int .i64 a) (hx : ac.eval x = .int .i64 b)
    (h : ∀ r : Int, Hid (r = min a b) → r ≤ a → r ≤ b → wpList P ops Q rest (ac.put o.dst (.int .i64 r)) w) : wpList P ops Q (o :: rest) ac w :=
  wpList_min' hgd s x ts ho _ _ (.int .i64 (min a b)) hs hx (fun ts t w => min_ints a b ts t w) (h _ rfl (by omega) (by omega))
theorem wpList_max_i {P : Program} {w : World} {ops : Array Oper} {rest : List Oper} {o : Oper} {ac : Act} {Q : Exit → Act → World → Prop} (hgd : o.guard = none) (s x : Operand) (ts : Array TypeId)
    (ho : o.op = .call { callee := .builtin .max, args := #[s, x], argTypes := ts }) (a b : Int) (hs : ac.eval s = .int .i64 a) (hx : ac.eval x = .int .i64 b)
    (h : ∀ r : Int, Hid (r = max a b) → a ≤ r → b ≤ r → wpList P ops Q rest (ac.put o.dst (.int .i64 r)) w) : wpList P ops Q (o :: rest) ac w :=
  wpList_max' hgd s x ts ho _ _ (.int .i64 (max a b)) hs hx (fun ts t w => max_ints a b ts t w) (h _ rfl (by omega) (by omega))
end Go.Proofs.Ytbnaglkhbgfchaa
