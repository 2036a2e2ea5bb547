/- min and max of two numbers in a walk (for other seats). -/
import Derived.Test.YtbnaglkhbgfchaaInts
import Derived.RegionTactic
import Derived.BigRegion
namespace Go.Proofs.Ytbnaglkhbgfchaa
open Go.RowKit
theorem wpList_min' {P : Program} {w : World} {ops : Array Oper} {rest : List Oper} {o : Oper} {ac : Act} {Q : Exit → Act → World → Prop} (hgd : o.guard = none) (s x : Operand) (ts : Array TypeId)
    (ho : o.op = .call { callee := .builtin .min, args := #[s, x], argTypes := ts }) (v u r : Value) (hs : ac.eval s = v) (hx : ac.eval x = u)
    (hr : ∀ (ts : Array TypeId) (t : TypeId) (w : World), (Builtin.min_ ts t #[v, u]).run P w = .ok r w)
    (h : wpList P ops Q rest (ac.put o.dst r) w) : wpList P ops Q (o :: rest) ac w := by
  refine wpList_plain hgd fun K hK => ?_
  unfold Oper.wp execOp
  simp only [ho, resolve, invoke, builtin, Sem.run_bind, Sem.run_pure, Result.andThen_ok, List.map_toArray, List.map_cons, List.map_nil, hs, hx, hr]
  exact hK _ _ h
theorem wpList_max' {P : Program} {w : World} {ops : Array Oper} {rest : List Oper} {o : Oper} {ac : Act} {Q : Exit → Act → World → Prop} (hgd : o.guard = none) (s x : Operand) (ts : Array TypeId)
    (ho : o.op = .call { callee := .builtin .max, args := #[s, x], argTypes := ts }) (v u r : Value) (hs : ac.eval s = v) (hx : ac.eval x = u)
    (hr : ∀ (ts : Array TypeId) (t : TypeId) (w : World), (Builtin.max_ ts t #[v, u]).run P w = .ok r w)
    (h : wpList P ops Q rest (ac.put o.dst r) w) : wpList P ops Q (o :: rest) ac w := by
  refine wpList_plain hgd fun K hK => ?_
  unfold Oper.wp execOp
  simp only [ho, resolve, invoke, builtin, Sem.run_bind, Sem.run_pure, Result.andThen_ok, List.map_toArray, List.map_cons, List.map_nil, hs, hx, hr]
  exact hK _ _ h
theorem min_ints {P : Program} (a b : Int) (ts : Array TypeId) (t : TypeId) (w : World) : (Builtin.min_ ts t #[.int .i64 a, .int .i64 b]).run P w = .ok (.int .i64 (min a b)) w := by
  by_cases h : b < a
  · have e : min a b = b := by omega
    rw [e]
    simp [Builtin.min_, Builtin.min2, go_sem, h]
  · have e : min a b = a := by omega
    rw [e]
    simp [Builtin.min_, Builtin.min2, go_sem, h]
theorem max_ints {P : Program} (a b : Int) (ts : Array TypeId) (t : TypeId) (w : World) : (Builtin.max_ ts t #[.int .i64 a, .int .i64 b]).run P w = .ok (.int .i64 (max a b)) w := by
  by_cases h : a < b
  · have e : max a b = b := by omega
    rw [e]
    simp [Builtin.max_, Builtin.max2, go_sem, h]
  · have e : max a b = a := by omega
    rw [e]
    simp [Builtin.max_, Builtin.max2, go_sem, h]
end Go.Proofs.Ytbnaglkhbgfchaa
