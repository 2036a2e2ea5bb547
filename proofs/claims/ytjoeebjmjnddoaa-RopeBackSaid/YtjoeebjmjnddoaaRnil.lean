/- package rope: what there is not. -/
import Derived.Test.YtjoeebjmjnddoaaRalive
namespace Go.Proofs.Ytjoeebjmjnddoaa
open Go.RowKit Go.Shelf
attribute [local go_sem] Oper.semAt_some
set_option maxRecDepth 20000
set_option maxHeartbeats 4000000
theorem len_nil (w : World) : Calls Try.prog 23 #[.pointer none] w fun e w' => e = .returned (.int .i64 0) ∧ w = w' := by
  go_enter Try.func23, Try.ntmps23
  go_wp2_with fail
  go_ret
  exact ⟨rfl, rfl⟩
theorem lines_nil (w : World) : Calls Try.prog 22 #[.pointer none] w fun e w' => e = .returned (.int .i64 0) ∧ w = w' := by
  go_enter Try.func22, Try.ntmps22
  go_wp2_with fail
  go_ret
  exact ⟨rfl, rfl⟩
theorem stamp_nil (w : World) : Calls Try.prog 20 #[.pointer none] w fun e w' => e = .returned (.int .u64 0) ∧ w = w' := by
  go_enter Try.func20, Try.ntmps20
  go_wp2_with fail
  go_ret
  exact ⟨rfl, rfl⟩
theorem twin_nil (w : World) : Calls Try.prog 16 #[.pointer none] w fun e w' => e = .returned (.pointer none) ∧ w = w' := by
  go_enter Try.func16, Try.ntmps16
  go_wp2_with fail
  go_ret
  exact ⟨rfl, rfl⟩
theorem line_nil (i : Int) (w : World) : Calls Try.prog 24 #[.pointer none, .int .i64 i] w fun e w' => e = .returned (.tuple #[.int .i64 0, .int .i64 0]) ∧ w = w' := by
  go_enter Try.func24, Try.ntmps24
  go_wp2_with fail
  go_ret2
  exact ⟨rfl, rfl⟩
theorem lineat_nil (i : Int) (w : World) : Calls Try.prog 26 #[.pointer none, .int .i64 i] w fun e w' => e = .returned (.int .i64 0) ∧ w = w' := by
  go_enter Try.func26, Try.ntmps26
  go_wp2_with fail
  go_ret
  exact ⟨rfl, rfl⟩
theorem pieces_nil (at_ n : Int) (w : World) : Calls Try.prog 15 #[.pointer none, .int .i64 at_, .int .i64 n] w fun e w' => e = .returned (.func (.func 39) #[] #[]) ∧ w = w' := by
  go_enter Try.func15, Try.ntmps15
  go_wp2_with fail
  go_ret
  exact ⟨rfl, rfl⟩
theorem do_nil (a d : Int) (s : ByteArray) (w : World) : Calls Try.prog 21 #[.pointer none, .agg #[.int .i64 a, .int .i64 d, .string s]] w fun e w' => e = .returned (.tuple #[.agg #[.int .i64 0, .int .i64 0, .string ⟨#[]⟩], .int .i64 1]) ∧ Below w.heap.size w w' := by
  obtain ⟨Wb, hWb, hst, hb1, hb2, hsz⟩ := do_boxes w a d s
  have q0 := hb2.cell 0
  have q1 := hb2.cell 1
  have q2 := hb2.cell 2
  have f0 := hb2.free 0
  have f1 := hb2.free 1
  have f2 := hb2.free 2
  change _ = some (Value.int .i64 0) at q0
  change _ = some (Value.int .i64 0) at q1
  change _ = some (Value.string ⟨#[]⟩) at q2
  have HWb := Lib.hid hWb
  have HSt := Lib.hid hst
  obtain ⟨B, hB⟩ : ∃ B, B = w.heap.size := ⟨_, rfl⟩
  rw [← hB] at q0 q1 q2 f0 f1 f2
  have HBe := Lib.hid hB
  have HBf := Lib.hid (show ∀ u0 u1 u2 : Value, Below w.heap.size w (((Wb.setCell ⟨B + 1, 0, none⟩ u0).setCell ⟨B + 1, 1, none⟩ u1).setCell ⟨B + 1, 2, none⟩ u2) from fun u0 u1 u2 => by
    have hb := hst.toBelow (B := w.heap.size) (Nat.le_refl _) (by simp)
    exact ((hb.setCell (p := ⟨B + 1, 0, none⟩) (by rw [hB]; simp) _).setCell (p := ⟨B + 1, 1, none⟩) (by rw [hB]; simp) _).setCell (p := ⟨B + 1, 2, none⟩) (by rw [hB]; simp) _)
  clear hWb hst hb1 hb2 hsz hB
  go_enter Try.func21, Try.ntmps21
  go_upto_region 1 with (fail)
  rw [← HWb.out, ← HBe.out]
  go_wp2_with fail
  exact bodyPost_ret (v := .tuple #[.agg #[.int .i64 0, .int .i64 0, .string ⟨#[]⟩], .int .i64 1]) (by simp [results, Try.results21, go_sem, q0, q1, q2]) rfl ⟨rfl, HBf.out _ _ _⟩
/-- the iterator that gives nothing -/
theorem none_stops (n : Nat) (w : World) : SeqStopsK Fence.wide n Try.prog 39 #[] encP (Below w.heap.size) (fun ys => ys = []) (fun _ => False) 0 w := fun l J Jx W hW hab _ hY h0 => by
  show CallsIn Fence.wide n Try.prog 39 #[.func (.yield l) #[] #[]] W _
  have HJ := Lib.hid h0
  clear hY h0 hab
  refine callsIn_of_wp Try.func39 rfl trivial ?_ rfl
  simp only [Try.ntmps39, List.size_toArray, List.length_cons, List.length_nil, Nat.reduceAdd, Nat.reduceSub, Array.replicate_succ, Array.replicate_zero, List.push_toArray, List.append_toArray, List.nil_append, List.cons_append]
  gi_wp2
  go_end0
  exact ⟨⟨_, rfl⟩, .inl ⟨[], rfl, HJ.out⟩⟩
set_option maxRecDepth 100000 in
theorem slicer_nil (at_ n : Int) (w : World) : Calls Try.prog 25 #[.pointer none, .int .i64 at_, .int .i64 n] w fun e w' => e = .returned (.string ⟨#[]⟩) ∧ Below w.heap.size w w' := by
  refine (callsIn_wide (n := 3)).1 ?_
  refine callsIn_of_wp_marks Try.func25 rfl trivial ?_ rfl
  simp only [Try.ntmps25, List.size_toArray, List.length_cons, List.length_nil, Nat.reduceAdd, Nat.reduceSub, Array.replicate_succ, Array.replicate_zero, List.push_toArray, List.append_toArray, List.nil_append, List.cons_append]
  gi_wp2
  obtain ⟨W1, hW1⟩ : ∃ W1, W1 = w.alloc (.cells #[.pointer none, .slice none 0 0] 91) := ⟨_, rfl⟩
  rw [← hW1]
  have HP := Lib.hid (pieces_nil at_ n W1)
  refine ⟨trivial, (callsIn_wide.2 HP.out).mono ?_⟩
  rintro e W2 ⟨rfl, rfl⟩
  have hBW : Below w.heap.size w W1 := by rw [hW1]; exact (Below.refl _ _).alloc (Nat.le_refl _) _
  have hbk : W1.heap[w.heap.size]? = some (.cells #[.pointer none, .slice none 0 0] 91) := by rw [hW1]; exact heap_alloc_new w _
  have HBW := Lib.hid hBW
  have Hlt := Lib.hid (show w.heap.size < W1.heap.size from (Array.getElem?_eq_some_iff.1 hbk).1)
  have hst := none_stops 2 W1
  clear hW1
  gi_wp2
  refine wpIn_rangeFunc_ownF (F := Fence.wide) rfl (by omega) (gf := 39) (lb := #[]) rfl trivial (enters_of Try.func39 (by kernel_rfl) rfl) hst belowK_t (belowK_b (Nat.le_refl _)) (Below.refl _ _) (fun _ => rfl)
    (fun pre W => Lib.IsBuilderF 91 5 w.heap.size w.heap.size (Lib.byteCells (joinC pre)) W ∧ Below w.heap.size w W) (fun _ _ _ => False)
    (OwnFrom.and builder_own (ownFrom_below (Nat.le_refl _) hBW.size)) (fun _ _ _ _ _ hs _ _ => hs)
    ⟨.inl ⟨Nat.le_refl _, .slice none 0 0, hbk, ⟨rfl, .inl ⟨rfl, rfl⟩⟩, by simp [Value.ownBlock]⟩, hBW⟩
    (fun x => { tmps := #[.pointer none, .int .i64 at_, .int .i64 n, undef, undef, undef, .string ⟨#[]⟩, .pointer (some ⟨w.heap.size, 0, none⟩), undef, .string (str (clipS x.2)), .pointer none, .int .i64 at_, .int .i64 n, .func (.func 39) #[] #[], .int .i64 (clipA x.1), .string (str (clipS x.2)), undef, undef, undef], defers := [] }) ?assign ?body ?done ?stop
  case assign =>
    intro l x W K hK
    unfold encP
    gi_wp2
    exact hK
  case body =>
    rintro l pre x W _ hpl
    exact absurd hpl (Nat.not_lt_zero _)
  case done =>
    rintro D ys W hD rfl ⟨hb, hB⟩ hK
    have HS := Lib.hid (Try.Builder_String_any_k w.heap.size w.heap.size (joinC []) W hb hB.size)
    have HB := Lib.hid hB
    have HKd := Lib.hid hK
    have hDb : D ≠ w.heap.size := by have := Hlt.out; omega
    clear hb hB hK
    gi_wp2
    refine ⟨trivial, (callsIn_wide.2 HS.out).mono ?_⟩
    rintro e W' ⟨rfl, h1, h2, h3⟩
    have hK' : W'.heap[D]? = some (.deferred (some [])) := h3 D _ HKd.out (fun e => hDb (by injection e)) (fun c fz e => by cases e)
    have H2 := Lib.hid (HB.out.trans h2)
    have HKw := Lib.hid hK'
    clear h1 h2 h3 hK'
    gi_wp2
    refine ⟨by simp, .inl ⟨_, _, rfl, run_takeDeferred HKw.out, ?_⟩⟩
    exact ⟨_, results_tmp rfl _ _ _, rfl, H2.out.trans (belowK_b (w := w) (Nat.le_refl _) W' D _ _ (by have := Hlt.out; omega) HKw.out rfl rfl)⟩
  case stop =>
    rintro D c pre W _ _ h _
    exact h.elim
theorem text_nil (w : World) : Calls Try.prog 19 #[.pointer none] w fun e w' => e = .returned (.string ⟨#[]⟩) ∧ Below w.heap.size w w' := by
  have HS := Lib.hid (slicer_nil 0 0 w)
  have HL := Lib.hid (len_nil w)
  go_enter Try.func19, Try.ntmps19
  go_wp2_with fail
  refine HL.out.mono ?_
  rintro e w1 ⟨rfl, rfl⟩
  go_wp2_with fail
  refine HS.out.mono ?_
  rintro e w2 ⟨rfl, hb⟩
  have HB := Lib.hid hb
  clear hb
  go_wp2_with fail
  go_ret
  exact ⟨rfl, HB.out⟩
end Go.Proofs.Ytjoeebjmjnddoaa
