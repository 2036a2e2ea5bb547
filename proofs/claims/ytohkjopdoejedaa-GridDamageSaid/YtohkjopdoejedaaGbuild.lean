/- package grid: a new screen's value. -/
import Derived.Test.YtohkjopdoejedaaGscr
import Derived.Laws.Tables
namespace Go.Proofs.Ytohkjopdoejedaa
open Go.RowKit
def nils : List Value := List.replicate 1024 (.slice none 0 0)
set_option maxRecDepth 100000 in
theorem built67 (W H : Int) : Try.prog.built 67 [(2, .int .i64 W), (3, .int .i64 H), (4, .int .i64 (-1)), (5, .int .i64 (-1))] = some (nils ++ (nils ++ [Value.int .i64 W, Value.int .i64 H, Value.int .i64 (-1), Value.int .i64 (-1)])).toArray := by kernel_rfl
theorem wpList_built {P : Program} {ops : Array Oper} {rest : List Oper} {o : Oper} {a : Act} {w : World} {Q : Exit → Act → World → Prop} (hg : o.guard = none) (t : TypeId) (parts : Array (Nat × Operand)) (ho : o.op = .build t parts)
    (vs : List (Nat × Value)) (hv : (parts.map fun (i, x) => (i, a.eval x)).toList = vs) (cells : Array Value) (hc : P.built t vs = some cells)
    (h : wpList P ops Q rest (a.put o.dst (.agg cells)) w) : wpList P ops Q (o :: rest) a w :=
  wpList_build hg t parts ho (by rw [hv, hc]; rfl) (by rw [hv, hc]; exact h)
theorem size67 : (Try.prog.info? 67).map (·.size) = some 2052 := by kernel_rfl
theorem new_ones (W H : Int) : (nils ++ (nils ++ [Value.int .i64 W, Value.int .i64 H, Value.int .i64 (-1), Value.int .i64 (-1)])).toArray.all (·.oneCell') = true := by
  have hn : nils.all (·.oneCell') = true := by
    unfold nils
    rw [List.all_eq_true]
    intro u hu
    rw [List.eq_of_mem_replicate hu]
    rfl
  rw [List.all_toArray, List.all_append, List.all_append, hn]
  rfl
theorem nils_length : nils.length = 1024 := List.length_replicate
theorem Scr.fresh {w : World} {s : Nat} {rv ov : List Value} {W H X Y : Int} (h : Scr w s rv ov W H X Y) (W' H' : Int) : Scr (w.setRow s (nils ++ (nils ++ [Value.int .i64 W', Value.int .i64 H', Value.int .i64 (-1), Value.int .i64 (-1)])).toArray) s nils nils W' H' (-1) (-1) :=
  ⟨setRow_heap w s _ _ 67 (0, 0) h.blk, nils_length, nils_length⟩
theorem Stay.setRow {w : World} (s : Nat) (cs : Array Value) : Stay [s] w (w.setRow s cs) :=
  ⟨rfl, rfl, rfl, by simp [World.setRow], fun i _ hn => setRow_other w s i cs (by simpa using hn)⟩
def sizeB (x y : Int) : Bool := decide (0 ≤ x) && decide (0 ≤ y) && decide (x ≤ 1024) && decide (y ≤ 1024)
theorem resize_nil (x y : Int) (w : World) : Calls Try.prog 25 #[.pointer none, .int .i64 x, .int .i64 y] w fun e w' => e = .returned (.int .i64 1) ∧ w = w' := by
  go_enter Try.func25, Try.ntmps25
  go_wp2_with fail
  go_ret
  exact ⟨rfl, rfl⟩
theorem resize_bad (s : Nat) (x y : Int) (w : World) (h : x < 0 ∨ y < 0 ∨ 1024 < x ∨ 1024 < y) : Calls Try.prog 25 #[.pointer (some ⟨s, 0, none⟩), .int .i64 x, .int .i64 y] w fun e w' => e = .returned (.int .i64 5) ∧ w = w' := by
  by_cases h1 : x < 0
  · go_enter Try.func25, Try.ntmps25
    go_wp2_with fail
    go_ret
    exact ⟨rfl, rfl⟩
  · by_cases h2 : y < 0
    · go_enter Try.func25, Try.ntmps25
      go_wp2_with fail
      go_ret
      exact ⟨rfl, rfl⟩
    · by_cases h3 : 1024 < x
      · go_enter Try.func25, Try.ntmps25
        go_wp2_with fail
        go_ret
        exact ⟨rfl, rfl⟩
      · have h4 : 1024 < y := by omega
        go_enter Try.func25, Try.ntmps25
        go_wp2_with fail
        go_ret
        exact ⟨rfl, rfl⟩
end Go.Proofs.Ytohkjopdoejedaa
