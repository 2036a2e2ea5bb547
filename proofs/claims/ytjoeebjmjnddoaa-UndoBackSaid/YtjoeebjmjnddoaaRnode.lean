/- package rope: part, bytes, feeds, deep. -/
import Derived.Test.YtjoeebjmjnddoaaRspec
namespace Go.Proofs.Ytjoeebjmjnddoaa
open Go.RowKit
theorem countNl (l : List UInt8) : Lib.countByte l 10 = nl l := by
  unfold Lib.countByte nl
  rfl
set_option maxRecDepth 20000 in
set_option maxHeartbeats 4000000 in
theorem part_any (l : List UInt8) (w : World) (hl : l.length ≤ 4398046511104) : Calls Try.prog 67 #[.string (str l)] w fun e w' => e = .returned (leafV l) ∧ w = w' := by
  have HC := Lib.hid (show Calls Try.prog 71 #[.string (str l), .string ⟨#[10]⟩] w fun e w' => e = .returned (.int .i64 (nl l)) ∧ w' = w from by
    have h := Try.strings_Count_one (str l) 10 w
    rw [str_list, countNl] at h
    exact h)
  obtain ⟨s, hs⟩ : ∃ s, s = str l := ⟨_, rfl⟩
  obtain ⟨n, hn⟩ : ∃ n, n = nl l := ⟨_, rfl⟩
  have HE := Lib.hid (And.intro hs hn)
  rw [← hs, ← hn] at HC
  rw [← hs]
  clear hs hn
  go_enter Try.func67, Try.ntmps67
  go_wp2_with fail
  refine HC.out.mono ?_
  rintro e w' ⟨rfl, rfl⟩
  go_wp2_with fail
  go_ret
  exact ⟨by unfold leafV; rw [HE.out.1, HE.out.2]; rfl, rfl⟩
theorem meth1 (v : Value) (w : World) : (method 237 108 v "shuttle/rope.bytes").run Try.prog w = .ok (100, v) w := by kernel_rfl
theorem meth2 (v : Value) (w : World) : (method 237 108 v "shuttle/rope.feeds").run Try.prog w = .ok (101, v) w := by kernel_rfl
theorem meth3 (v : Value) (w : World) : (method 237 109 v "shuttle/rope.bytes").run Try.prog w = .ok (102, v) w := by kernel_rfl
theorem meth4 (v : Value) (w : World) : (method 237 109 v "shuttle/rope.feeds").run Try.prog w = .ok (103, v) w := by kernel_rfl
theorem asrt1 (v : Value) (w : World) : (Instr.typeAssert (.iface 108 v) 74 109 true).run Try.prog w = .ok (.tuple #[.pointer none, .bool false]) w := by kernel_rfl
theorem asrt2 (v : Value) (w : World) : (Instr.typeAssert (.iface 109 v) 74 109 true).run Try.prog w = .ok (.tuple #[v, .bool true]) w := by kernel_rfl
theorem asrt3 (v : Value) (w : World) : (Instr.typeAssert (.iface 108 v) 74 108 true).run Try.prog w = .ok (.tuple #[v, .bool true]) w := by kernel_rfl
theorem asrt4 (v : Value) (w : World) : (Instr.typeAssert (.iface 109 v) 74 108 true).run Try.prog w = .ok (.tuple #[.agg #[.string ⟨#[]⟩, .int .i64 0], .bool false]) w := by kernel_rfl
set_option maxRecDepth 20000 in
set_option maxHeartbeats 4000000 in
theorem deep_leaf (l : List UInt8) (w : World) : Calls Try.prog 55 #[leafV l] w fun e w' => e = .returned (.int .i64 0) ∧ w = w' := by
  unfold leafV
  have ha := asrt1
  go_enter Try.func55, Try.ntmps55
  go_wp2_with fail
  go_ret
  exact ⟨rfl, rfl⟩
set_option maxRecDepth 20000 in
set_option maxHeartbeats 4000000 in
theorem deep_pair (g : Nat) (va vb : Value) (n f d : Int) (w : World) (h : w.heap[g]? = some (.cells #[va, vb, .int .i64 n, .int .i64 f, .int .i64 d] 111)) : Calls Try.prog 55 #[.iface 109 (.pointer (some ⟨g, 0, none⟩))] w fun e w' => e = .returned (.int .i64 d) ∧ w = w' := by
  have c4 : w.cell? ⟨g, 4, none⟩ = some (.int .i64 d) := by rw [cell_of_row w g 4 _ 111 (0, 0) h]; rfl
  have ha := asrt2
  clear h
  go_enter Try.func55, Try.ntmps55
  go_wp2_with fail
  go_ret
  exact ⟨rfl, rfl⟩
set_option maxRecDepth 20000 in
set_option maxHeartbeats 4000000 in
theorem bytes_leaf (l : List UInt8) (w : World) : Calls Try.prog 100 #[.agg #[.string (str l), .int .i64 (nl l)]] w fun e w' => e = .returned (.int .i64 l.length) ∧ Stay [] w w' := by
  have HS := Lib.hid (str_size l)
  obtain ⟨s, hs⟩ : ∃ s, s = str l := ⟨_, rfl⟩
  rw [← hs] at HS ⊢
  have HT := Lib.hid (Stay.alloc (F := []) w (.cells #[.string s, .int .i64 (nl l)] 108))
  clear hs
  go_enter Try.func100, Try.ntmps100
  go_wp2_with fail
  go_ret
  exact ⟨by simp [HS.out], HT.out⟩
set_option maxRecDepth 20000 in
set_option maxHeartbeats 4000000 in
theorem feeds_leaf (l : List UInt8) (w : World) : Calls Try.prog 101 #[.agg #[.string (str l), .int .i64 (nl l)]] w fun e w' => e = .returned (.int .i64 (nl l)) ∧ Stay [] w w' := by
  obtain ⟨s, hs⟩ : ∃ s, s = str l := ⟨_, rfl⟩
  obtain ⟨n, hn⟩ : ∃ n, n = nl l := ⟨_, rfl⟩
  rw [← hs, ← hn]
  have HT := Lib.hid (Stay.alloc (F := []) w (.cells #[.string s, .int .i64 n] 108))
  clear hs hn
  go_enter Try.func101, Try.ntmps101
  go_wp2_with fail
  go_ret
  exact ⟨by simp, HT.out⟩
set_option maxRecDepth 20000 in
set_option maxHeartbeats 4000000 in
theorem bytes_pair (g : Nat) (va vb : Value) (n f d : Int) (w : World) (h : w.heap[g]? = some (.cells #[va, vb, .int .i64 n, .int .i64 f, .int .i64 d] 111)) : Calls Try.prog 102 #[.pointer (some ⟨g, 0, none⟩)] w fun e w' => e = .returned (.int .i64 n) ∧ w = w' := by
  have c4 : w.cell? ⟨g, 2, none⟩ = some (.int .i64 n) := by rw [cell_of_row w g 2 _ 111 (0, 0) h]; rfl
  clear h
  go_enter Try.func102, Try.ntmps102
  go_wp2_with fail
  go_ret
  exact ⟨rfl, rfl⟩
set_option maxRecDepth 20000 in
set_option maxHeartbeats 4000000 in
theorem feeds_pair (g : Nat) (va vb : Value) (n f d : Int) (w : World) (h : w.heap[g]? = some (.cells #[va, vb, .int .i64 n, .int .i64 f, .int .i64 d] 111)) : Calls Try.prog 103 #[.pointer (some ⟨g, 0, none⟩)] w fun e w' => e = .returned (.int .i64 f) ∧ w = w' := by
  have c4 : w.cell? ⟨g, 3, none⟩ = some (.int .i64 f) := by rw [cell_of_row w g 3 _ 111 (0, 0) h]; rfl
  clear h
  go_enter Try.func103, Try.ntmps103
  go_wp2_with fail
  go_ret
  exact ⟨rfl, rfl⟩
/-- what a piece's two methods are -/
structure Dyn (v : Value) (t : Rp) (T : TypeId) (p : Value) (fb ff : FuncId) : Prop where
  val : v = .iface T p
  mb : ∀ w, (method 237 T p "shuttle/rope.bytes").run Try.prog w = .ok (fb, p) w
  mf : ∀ w, (method 237 T p "shuttle/rope.feeds").run Try.prog w = .ok (ff, p) w
  cb : ∀ args w, (callFunc fb args).run Try.prog w = .ok (.enter fb args) w
  cf : ∀ args w, (callFunc ff args).run Try.prog w = .ok (.enter ff args) w
  bytes : ∀ u, Node u v t → Calls Try.prog fb #[p] u fun e w' => e = .returned (.int .i64 t.len) ∧ Stay [] u w'
  feeds : ∀ u, Node u v t → Calls Try.prog ff #[p] u fun e w' => e = .returned (.int .i64 t.nls) ∧ Stay [] u w'
theorem node_dyn {w : World} {v : Value} {t : Rp} (h : Node w v t) : ∃ T p fb ff, Dyn v t T p fb ff := by
  cases t with
  | leaf l =>
    cases h
    exact ⟨108, _, 100, 101, rfl, meth1 _, meth2 _, enters_of Try.func100 (by kernel_rfl) rfl, enters_of Try.func101 (by kernel_rfl) rfl, fun u _ => bytes_leaf l u, fun u _ => feeds_leaf l u⟩
  | pair a b =>
    obtain ⟨g, va, vb, rfl, -⟩ := h
    refine ⟨109, _, 102, 103, rfl, meth3 _, meth4 _, enters_of Try.func102 (by kernel_rfl) rfl, enters_of Try.func103 (by kernel_rfl) rfl, fun u hu => ?_, fun u hu => ?_⟩
    · obtain ⟨g', va, vb, e, hg, -⟩ := hu
      cases e
      refine (bytes_pair _ _ _ _ _ _ u hg).mono ?_
      rintro e w' ⟨rfl, rfl⟩
      exact ⟨rfl, Stay.refl _ _⟩
    · obtain ⟨g', va, vb, e, hg, -⟩ := hu
      cases e
      refine (feeds_pair _ _ _ _ _ _ u hg).mono ?_
      rintro e w' ⟨rfl, rfl⟩
      exact ⟨rfl, Stay.refl _ _⟩
theorem node_leaf {w : World} {v : Value} {t : Rp} (h : Node w v t) : ∃ s q lf, (∀ w, (Instr.typeAssert v 74 108 true).run Try.prog w = .ok (.tuple #[.agg #[.string s, .int .i64 q], .bool lf]) w) ∧ (lf = true → ∃ l, t = .leaf l ∧ s = str l ∧ v = leafV l) := by
  cases t with
  | leaf l => cases h; exact ⟨str l, nl l, true, fun w => asrt3 _ w, fun _ => ⟨l, rfl, rfl, rfl⟩⟩
  | pair a b =>
    obtain ⟨g, va, vb, rfl, -⟩ := h
    exact ⟨⟨#[]⟩, 0, false, fun w => asrt4 _ w, fun h => by cases h⟩
theorem deep_any {w : World} {v : Value} {t : Rp} (h : Node w v t) : Calls Try.prog 55 #[v] w fun e w' => e = .returned (.int .i64 t.deep) ∧ w = w' := by
  cases t with
  | leaf l => cases h; exact deep_leaf l w
  | pair a b =>
    obtain ⟨g, va, vb, rfl, hg, -⟩ := h
    exact deep_pair g va vb _ _ _ w hg
end Go.Proofs.Ytjoeebjmjnddoaa
