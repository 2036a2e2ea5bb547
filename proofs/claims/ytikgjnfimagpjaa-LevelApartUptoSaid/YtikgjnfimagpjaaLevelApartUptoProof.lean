/- LevelApart, the second form: the row, proved: for every input of bulk at most 1048576 the law returns true and leaves its arguments as they were. The walk is a text of its own; the struct is opened by hand. -/
import Derived.Test.YtikgjnfimagpjaaRows
import Derived.Test.YtikgjnfimagpjaaBulk
import Derived.Test.YtikgjnfimagpjaaLapartlaw
import Derived.Test.YtikgjnfimagpjaaLrow
import Derived.Lib.SmallJoins
import Derived.JoinedCond
import Derived.WalkKit
import Derived.ProofKit
import Derived.OpenShut
import Derived.ChangeOld
import Derived.Below
namespace Go.Proofs.Ytikgjnfimagpjaa.levelApartUpto
open Go.ChangeShapes Go.WideShapes Go.ChangeAt Go.RowKit
set_option linter.unusedVariables false

theorem own : ownKnob Try.prog.godebug = none := by kernel_rfl
theorem laidOut : laidOutB Try.prog = true := by kernel_rfl
theorem c22 : Try.prog.cellsOf 22 = 1 := by kernel_rfl
theorem c23 : Try.prog.cellsOf 23 = 1 := by kernel_rfl
theorem c5 : Try.prog.cellsOf 5 = 1 := by kernel_rfl
theorem c47 : Try.prog.cellsOf 47 = 6 := by kernel_rfl

/-- a slice of numbers as the walk wants it, its length and what it weighs -/
def FieldRow (w : World) (v : Value) (n : Nat) : Prop :=
  ∃ (a : Option Addr) (zs : List Int) (cap : Nat), v = .slice a zs.length cap ∧ Sl w w.heap.size a (ints .i8 zs) ∧ zs.length + 1 ≤ n
theorem field_row {H : Type} {enc : TypeId × Value → H} {W : World} {fuel : Nat} {v : Value} {y : DataW H × List MemPlace}
    (h : DataW.trod enc Try.prog W 0 (fun _ => true) true fuel 22 [v] = some y) : FieldRow W v (Rows.uptoBulk y.1) := by
  rcases open_ints Try.underlying22 Try.underlying23 (by kernel_rfl) h with ⟨hcs, hx⟩ | ⟨x, l, c, zs, hcs, _, hl, hm, hz, hx, hcell, hwz⟩
  · injection hcs with hcs
    subst hcs
    exact ⟨none, [], 0, rfl, Sl.nil_ _ _ _, by rw [hx]; simp [Rows.uptoBulk]⟩
  · injection hcs with hcs
    subst hcs
    simp only [if_true] at hz
    obtain ⟨hs, hl2, _⟩ := sl_row (q := .i8) (a := some x) (len := l) (cap := c) (zs := zs) (w := W) (.inr ⟨x, rfl, hl, hm, hz, hcell, hwz⟩)
    refine ⟨some x, zs.take l, c, by rw [hl2], hs, ?_⟩
    have hb := bulk_length (lits (H := H) .i8 (zs.take l))
    have hc := bulk_length (lits (H := H) .i8 (zs.drop l))
    rw [hx]
    simp only [Rows.uptoBulk]
    simp only [lits, List.length_map] at hb
    simp only [lits] at hc ⊢
    omega

/-! ### THE ROW's STEP -/
theorem contract (H : Type) (enc : TypeId × Value → H) (W : World) (base : Nat) (args : Array Value) (ds gs : List (DataW H)) (before : List MemPlace)
    (hval : ∀ (j : Nat) t v, Try.f8.params[j]? = some t → args[j]? = some v → Value.okWide Try.prog W .any base t v)
    (hW : DataW.Whole enc Try.prog Try.f8.params.toList Rows.levelApartSpec.vars false W args.toList ds gs before) (hk : Rows.uptoSmall H (ds ++ gs) = true) :
    Calls Try.prog 8 args W fun e W' => ∃ v, e = .returned v ∧ Rows.levelApartSpec.post enc Try.prog Try.f8 false true false false W args v W' := by
  have hW' := hW
  obtain ⟨p, q, hA0, hV, rfl, hfz, hnd⟩ := hW
  have hA : DataW.TrodAll enc Try.prog W 0 (fun _ => true) true Try.f8.params.toList args.toList ds p := hA0
  rw [Try.params8] at hA hval
  obtain ⟨v0, vs0, d0, ds0, p0, q0, hargs, rfl, rfl, h0, r0⟩ := trodAll_cons hA
  obtain ⟨rfl, rfl, rfl⟩ := trodAll_nil r0
  obtain rfl : args = #[v0] := by cases args; simp_all
  obtain ⟨rfl, rfl⟩ := trodVars_none hV
  have k0 := h0
  have lt0 : ∀ x ∈ p0, x.block < W.heap.size := by obtain ⟨m, hm⟩ := k0; exact DataW.trod_lt m _ _ _ hm
  obtain ⟨cs, rfl, hsz⟩ := okWide_struct Try.underlying47 (hval 0 47 v0 rfl rfl)
  obtain ⟨l⟩ := cs
  have hsz' : l.length = 6 := hsz.trans c47
  obtain ⟨w0, w1, w2, w3, w4, w5, rfl⟩ : ∃ w0 w1 w2 w3 w4 w5, l = [w0, w1, w2, w3, w4, w5] := by
    match l, hsz' with
    | [w0, w1, w2, w3, w4, w5], _ => exact ⟨w0, w1, w2, w3, w4, w5, rfl⟩
  obtain ⟨fuel, hf⟩ := h0
  obtain ⟨xs, n, _, hx, _, hlen, hg⟩ := DataW.trod_struct Try.underlying47 hf
  obtain ⟨y0, y1, y2, y3, y4, y5, rfl⟩ : ∃ y0 y1 y2 y3 y4 y5, xs = [y0, y1, y2, y3, y4, y5] := by
    match xs, hlen with
    | [y0, y1, y2, y3, y4, y5], _ => exact ⟨y0, y1, y2, y3, y4, y5, rfl⟩
  have g0 : DataW.trod enc Try.prog W 0 (fun _ => true) true n 22 (List.take (Try.prog.cellsOf 22) [w0, w1, w2, w3, w4, w5]) = some y0 := hg 0 _ rfl
  rw [c22] at g0
  have g1 : DataW.trod enc Try.prog W 0 (fun _ => true) true n 22 (List.take (Try.prog.cellsOf 22) [w1, w2, w3, w4, w5]) = some y1 := hg 1 _ rfl
  rw [c22] at g1
  have g2 : DataW.trod enc Try.prog W 0 (fun _ => true) true n 22 (List.take (Try.prog.cellsOf 22) [w2, w3, w4, w5]) = some y2 := hg 2 _ rfl
  rw [c22] at g2
  have g3 : DataW.trod enc Try.prog W 0 (fun _ => true) true n 22 (List.take (Try.prog.cellsOf 22) [w3, w4, w5]) = some y3 := hg 3 _ rfl
  rw [c22] at g3
  have g4 : DataW.trod enc Try.prog W 0 (fun _ => true) true n 23 (List.take (Try.prog.cellsOf 23) [w4, w5]) = some y4 := hg 4 _ rfl
  rw [c23] at g4
  have g5 : DataW.trod enc Try.prog W 0 (fun _ => true) true n 5 (List.take (Try.prog.cellsOf 5) [w5]) = some y5 := hg 5 _ rfl
  rw [c5] at g5
  obtain ⟨a0, z0, cap0, rfl, s0, b0⟩ := field_row g0
  obtain ⟨a1, z1, cap1, rfl, s1, b1⟩ := field_row g1
  obtain ⟨a2, z2, cap2, rfl, s2, b2⟩ := field_row g2
  obtain ⟨a3, z3, cap3, rfl, s3, b3⟩ := field_row g3
  obtain ⟨sg, hcs4, hx4, wf4⟩ := DataW.trod_int Try.underlying23 g4
  obtain ⟨bs, hcs5, hx5, wf5⟩ := DataW.trod_int Try.underlying5 g5
  obtain rfl : w4 = .int .i8 sg := by injection hcs4
  obtain rfl : w5 = .int .u8 bs := by injection hcs5
  simp only [Prod.mk.injEq] at hx
  have hsum : z0.length + z1.length + z2.length + z3.length + 2 < 1048576 := by
    have h0 : Rows.uptoBulkAll ([d0] ++ []) ≤ 1048576 := of_decide_eq_true hk
    rw [hx.1] at h0
    have h4 := bulk_pos y4.1
    have h5 := bulk_pos y5.1
    simp only [List.map_cons, List.map_nil, List.append_nil, Rows.uptoBulkAll, Rows.uptoBulk] at h0
    omega
  obtain ⟨m, rfl⟩ : ∃ m : Nat, bs = m := by
    have e1 : IntKind.u8.min = 0 := rfl
    simp only [Lit.wf, e1] at wf5
    have : 0 ≤ bs := by simp at wf5; omega
    exact ⟨bs.toNat, by omega⟩
  clear hA0
  refine (apartlaw_any z0 z1 z2 z3 a0 a1 a2 a3 cap0 cap1 cap2 cap3 sg m W (by omega) s0 s1 s2 s3).mono fun e W' ⟨he, bel⟩ => ?_
  subst he
  exact ⟨_, rfl, _, _, _, [], _, [], hW', trodAll_mk1 (shut_bool Try.underlying4 _), (trodAll_cons_mk (Below.trod laidOut (by kernel_rfl) (of_decide_eq_true (by kernel_rfl)) k0 bel lt0) trodAll_mk0), rfl, bel.frame _, fun h => by cases h⟩

set_option maxRecDepth 100000 in
theorem lifted (os : Os) (started : os.Started) (H : Type) (enc : TypeId × Value → H) (F : Stop.Interp) :
    ReturnsInHanded {} Try.checked os 8 .any ((Rows.OpenSpec.upto Rows.levelApartSpec).pre6 enc Try.prog Try.f8 Rows.levelApartUptoRow.domain false) (((Rows.OpenSpec.upto Rows.levelApartSpec).at F).post enc Try.prog Try.f8 false true false false) := by
  refine returnsInHanded_of_cond (C := Try.checked) (s := Rows.OpenSpec.upto Rows.levelApartSpec) (k := Rows.uptoSmall) rfl own started (by kernel_rfl) Try.func8
    (OpenSpec.witness (enc := enc) (C := Try.checked) (s := Rows.OpenSpec.upto Rows.levelApartSpec) (k := Rows.uptoSmall) rfl false ⟨#[], #[.agg #[.slice none 0 0, .slice none 0 0, .slice none 0 0, .slice none 0 0, .int .i8 0, .int .u8 0]], []⟩ 8 (by kernel_rfl) (by kernel_rfl) (by kernel_rfl)
      (x := ([.agg [.nil, .nil, .nil, .nil, .lit (.int .i8 0), .lit (.int .u8 0)]], [], [])) (by kernel_rfl) rfl (by kernel_rfl)) ?_
  intro W base args ds gs before hval hW _ hk _
  exact contract H enc W base args ds gs before hval hW hk

theorem over : Rows.levelApartUptoRow.holds Try.pinned (Rows.OpenSpec.upto Rows.levelApartSpec) :=
  OpenClaim.holds_of_cond 8 Try.f8 rfl rfl rfl rfl rfl rfl rfl ⟨rfl, rfl, rfl, rfl, rfl⟩ rfl rfl rfl rfl rfl (by kernel_rfl) Try.func8 (by kernel_rfl)
    (of_decide_eq_true (by kernel_rfl)) (by unfold Func.isWrapper; first | (rw [if_pos (by decide +kernel)]; kernel_rfl) | (rw [if_neg (by decide +kernel)]; exact ⟨rfl, rfl⟩))
    (fun os started H enc _ F => lifted os started H enc F)

/-- ████ THE STATEMENT ████ -/
theorem proved : Rows.LevelApartUptoSaid := over
#print axioms proved
end Go.Proofs.Ytikgjnfimagpjaa.levelApartUpto
