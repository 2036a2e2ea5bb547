/- GridNil: the row, proved: for every input the law returns true and leaves its arguments as they were. The walk is a text of its own; the struct is opened by hand. -/
import Derived.Test.YtohkjopdoejedaaRows
import Derived.Test.YtohkjopdoejedaaGnillaw
import Derived.SizedLaws
import Derived.WalkKit
import Derived.Below
import Derived.ProofKit
import Derived.OpenShut
import Derived.ChangeOld
namespace Go.Proofs.Ytohkjopdoejedaa.gridNil
open Go.ChangeShapes Go.WideShapes Go.ChangeAt Go.RowKit
set_option linter.unusedVariables false

theorem own : ownKnob Try.prog.godebug = none := by kernel_rfl
theorem laidOut : laidOutB Try.prog = true := by kernel_rfl
theorem c37 : Try.prog.cellsOf 37 = 9 := by kernel_rfl
theorem c3 : Try.prog.cellsOf 3 = 1 := by kernel_rfl
theorem c35 : Try.prog.cellsOf 35 = 4 := by kernel_rfl

theorem list9 {l : List Value} (h : l.length = 9) : ∃ w0 w1 w2 w3 w4 w5 w6 w7 w8, l = [w0, w1, w2, w3, w4, w5, w6, w7, w8] := by
  obtain ⟨w0, l, rfl⟩ := List.exists_cons_of_length_eq_add_one h
  obtain ⟨w1, l, rfl⟩ := List.exists_cons_of_length_eq_add_one (Nat.succ.inj h)
  obtain ⟨w2, l, rfl⟩ := List.exists_cons_of_length_eq_add_one (Nat.succ.inj (Nat.succ.inj h))
  have h3 : l.length = 6 := by simpa using h
  obtain ⟨w3, l, rfl⟩ := List.exists_cons_of_length_eq_add_one h3
  obtain ⟨w4, l, rfl⟩ := List.exists_cons_of_length_eq_add_one (Nat.succ.inj h3)
  obtain ⟨w5, l, rfl⟩ := List.exists_cons_of_length_eq_add_one (Nat.succ.inj (Nat.succ.inj h3))
  have h6 : l.length = 3 := by simpa using h3
  obtain ⟨w6, l, rfl⟩ := List.exists_cons_of_length_eq_add_one h6
  obtain ⟨w7, l, rfl⟩ := List.exists_cons_of_length_eq_add_one (Nat.succ.inj h6)
  obtain ⟨w8, l, rfl⟩ := List.exists_cons_of_length_eq_add_one (Nat.succ.inj (Nat.succ.inj h6))
  have h9 : l.length = 0 := by simpa using h6
  rw [List.length_eq_zero_iff.1 h9]
  exact ⟨w0, w1, w2, w3, w4, w5, w6, w7, w8, rfl⟩
/-! ### THE ROW's STEP -/
set_option maxHeartbeats 2000000 in
set_option maxRecDepth 100000 in
theorem lifted (os : Os) (started : os.Started) (H : Type) (enc : TypeId × Value → H) :
    ReturnsInHanded {} Try.checked os 7 .any (Rows.gridNilSpec.pre6 enc Try.prog Try.f7 Rows.gridNilRow.domain false) (Rows.gridNilSpec.post enc Try.prog Try.f7 false true false false) := by
  refine returnsInHanded_of_change (C := Try.checked) own started (by kernel_rfl) Try.func7
    (ChangeSpec.witness6 (enc := enc) (C := Try.checked) false ⟨#[], #[.agg #[.int .i64 0, .int .i64 0, .int .i64 0, .slice none 0 0, .int .i64 0, .int .i64 0, .int .i64 0, .int .i64 0, .int .i64 0]], []⟩ 8 (by kernel_rfl) (by kernel_rfl) (by kernel_rfl) (by kernel_rfl)) ?_
  intro W base args ds gs before hval0 hW hcnd _
  have hval : ∀ (j : Nat) t v, Try.f7.params[j]? = some t → args[j]? = some v → Value.okWide Try.prog W .any base t v := hval0
  have hW' := hW
  obtain ⟨p, q, hA0, hV, rfl, hfz, hnd⟩ := hW
  have hA : DataW.TrodAll enc Try.prog W 0 (fun _ => true) true Try.f7.params.toList args.toList ds p := hA0
  rw [Try.params7] at hA hval
  obtain ⟨v0, vs0, d0, ds0, p0, q0, hargs, rfl, rfl, h0, r0⟩ := trodAll_cons hA
  obtain ⟨rfl, rfl, rfl⟩ := trodAll_nil r0
  obtain rfl : args = #[v0] := by cases args; simp_all
  obtain ⟨rfl, rfl⟩ := trodVars_none hV
  have k0 := h0
  have lt0 : ∀ x ∈ p0, x.block < W.heap.size := by obtain ⟨m, hm⟩ := k0; exact DataW.trod_lt m _ _ _ hm
  obtain ⟨cs, rfl, hsz⟩ := okWide_struct Try.underlying37 (hval 0 37 v0 rfl rfl)
  obtain ⟨l⟩ := cs
  have hsz' : l.length = 9 := hsz.trans c37
  obtain ⟨w0, w1, w2, w3, w4, w5, w6, w7, w8, rfl⟩ := list9 hsz'
  obtain ⟨fuel, hf⟩ := h0
  obtain ⟨xs, n, _, hx, _, hlen, hg⟩ := DataW.trod_struct Try.underlying37 hf
  obtain ⟨y0, y1, y2, y3, y4, y5, rfl⟩ : ∃ y0 y1 y2 y3 y4 y5, xs = [y0, y1, y2, y3, y4, y5] := by
    match xs, hlen with
    | [y0, y1, y2, y3, y4, y5], _ => exact ⟨y0, y1, y2, y3, y4, y5, rfl⟩
  have g0 : DataW.trod enc Try.prog W 0 (fun _ => true) true n 3 (List.take (Try.prog.cellsOf 3) [w0, w1, w2, w3, w4, w5, w6, w7, w8]) = some y0 := hg 0 _ rfl
  have g1 : DataW.trod enc Try.prog W 0 (fun _ => true) true n 3 (List.take (Try.prog.cellsOf 3) [w1, w2, w3, w4, w5, w6, w7, w8]) = some y1 := hg 1 _ rfl
  have g2 : DataW.trod enc Try.prog W 0 (fun _ => true) true n 3 (List.take (Try.prog.cellsOf 3) [w2, w3, w4, w5, w6, w7, w8]) = some y2 := hg 2 _ rfl
  have g4 : DataW.trod enc Try.prog W 0 (fun _ => true) true n 35 (List.take (Try.prog.cellsOf 35) [w4, w5, w6, w7, w8]) = some y4 := hg 4 _ rfl
  have g5 : DataW.trod enc Try.prog W 0 (fun _ => true) true n 3 (List.take (Try.prog.cellsOf 3) [w8]) = some y5 := hg 5 _ rfl
  rw [c3] at g0 g1 g2 g5
  rw [c35] at g4
  obtain ⟨xs4, n4, _, hx4, _, hlen4, hg4⟩ := DataW.trod_struct Try.underlying35 g4
  obtain ⟨z0, z1, z2, z3, rfl⟩ : ∃ z0 z1 z2 z3, xs4 = [z0, z1, z2, z3] := by
    match xs4, hlen4 with
    | [z0, z1, z2, z3], _ => exact ⟨z0, z1, z2, z3, rfl⟩
  have k4 : DataW.trod enc Try.prog W 0 (fun _ => true) true n4 3 (List.take (Try.prog.cellsOf 3) [w4, w5, w6, w7]) = some z0 := hg4 0 _ rfl
  have k5 : DataW.trod enc Try.prog W 0 (fun _ => true) true n4 3 (List.take (Try.prog.cellsOf 3) [w5, w6, w7]) = some z1 := hg4 1 _ rfl
  have k6 : DataW.trod enc Try.prog W 0 (fun _ => true) true n4 3 (List.take (Try.prog.cellsOf 3) [w6, w7]) = some z2 := hg4 2 _ rfl
  have k7 : DataW.trod enc Try.prog W 0 (fun _ => true) true n4 3 (List.take (Try.prog.cellsOf 3) [w7]) = some z3 := hg4 3 _ rfl
  rw [c3] at k4 k5 k6 k7
  obtain ⟨i0, hc0, _, _⟩ := DataW.trod_int Try.underlying3 g0
  obtain ⟨i1, hc1, _, _⟩ := DataW.trod_int Try.underlying3 g1
  obtain ⟨i2, hc2, _, _⟩ := DataW.trod_int Try.underlying3 g2
  obtain ⟨i4, hc4, _, _⟩ := DataW.trod_int Try.underlying3 k4
  obtain ⟨i5, hc5, _, _⟩ := DataW.trod_int Try.underlying3 k5
  obtain ⟨i6, hc6, _, _⟩ := DataW.trod_int Try.underlying3 k6
  obtain ⟨i7, hc7, _, _⟩ := DataW.trod_int Try.underlying3 k7
  obtain ⟨i8, hc8, _, _⟩ := DataW.trod_int Try.underlying3 g5
  obtain rfl : w0 = .int .i64 i0 := by injection hc0
  obtain rfl : w1 = .int .i64 i1 := by injection hc1
  obtain rfl : w2 = .int .i64 i2 := by injection hc2
  obtain rfl : w4 = .int .i64 i4 := by injection hc4
  obtain rfl : w5 = .int .i64 i5 := by injection hc5
  obtain rfl : w6 = .int .i64 i6 := by injection hc6
  obtain rfl : w7 = .int .i64 i7 := by injection hc7
  obtain rfl : w8 = .int .i64 i8 := by injection hc8
  clear hA0 hval0
  refine (nillaw_any i0 i1 i2 w3 i4 i5 i6 i7 i8 W).mono fun e W' ⟨he, bel⟩ => ?_
  subst he
  exact ⟨_, rfl, _, _, _, [], _, [], hW', trodAll_cons_mk (shut_bool Try.underlying4 _) trodAll_mk0, (trodAll_cons_mk (Below.trod laidOut (by kernel_rfl) (of_decide_eq_true (by kernel_rfl)) k0 bel lt0) trodAll_mk0), rfl, bel.frame _, fun h => by cases h⟩

theorem over : Rows.gridNilRow.holds Try.pinned (OpenSpec.ofChange Rows.gridNilSpec) :=
  OpenClaim.holds_of_wide 7 Try.f7 rfl rfl rfl rfl rfl rfl rfl ⟨rfl, rfl, rfl, rfl, rfl⟩ rfl rfl rfl rfl rfl (by kernel_rfl) Try.func7 (by kernel_rfl)
    (of_decide_eq_true (by kernel_rfl)) (by unfold Func.isWrapper; first | (rw [if_pos (by decide +kernel)]; kernel_rfl) | (rw [if_neg (by decide +kernel)]; exact ⟨rfl, rfl⟩))
    (fun os started H enc _ => lifted os started H enc)

/-- ████ THE STATEMENT ████ -/
theorem proved : Rows.GridNilSaid :=
  over
#print axioms proved
end Go.Proofs.Ytohkjopdoejedaa.gridNil
