/- package marks: New, cut, mark, over, Get. -/
import Derived.Test.YtbnaglkhbgfchaaMspec
import Derived.Test.YtbnaglkhbgfchaaMinMax2
import Derived.Lib.Hide
namespace Go.Proofs.Ytbnaglkhbgfchaa
open Go.RowKit
set_option maxRecDepth 20000 in
set_option maxHeartbeats 4000000 in
theorem cut_any (p at_ del : Int) (w : World) (h0 : 0 ≤ p ∧ p ≤ 2305843009213693952) (ha : 0 ≤ at_ ∧ at_ ≤ 9223372036854775807) (hd : 0 ≤ del ∧ del ≤ 9223372036854775807) :
    Calls Try.prog 31 #[.int .i64 p, .int .i64 at_, .int .i64 del] w fun e w' => e = .returned (.int .i64 (cutP p at_ del)) ∧ w' = w := by
  have h1 : IntKind.i64.wrap (p - at_) = p - at_ := by simp only [IntKind.wrap, IntKind.bits, IntKind.signed]; simp; omega
  by_cases hc : del < p - at_
  · have h2 : IntKind.i64.wrap (p - del) = p - del := by simp only [IntKind.wrap, IntKind.bits, IntKind.signed]; simp; omega
    have e : cutP p at_ del = p - del := by unfold cutP; rw [if_pos hc]
    rw [e]
    clear h0 ha hd e
    go_enter Try.func31, Try.ntmps31
    go_wp2_with fail
    go_ret
    exact ⟨rfl, rfl⟩
  · have e : cutP p at_ del = min p at_ := by unfold cutP; rw [if_neg hc]
    rw [e]
    have hm := fun ts t (w : World) => min_ints (P := Try.prog) p at_ ts t w
    clear h0 ha hd e
    go_enter Try.func31, Try.ntmps31
    go_wp2_with fail
    go_ret
    exact ⟨rfl, rfl⟩
set_option maxRecDepth 20000 in
set_option maxHeartbeats 4000000 in
theorem mark_any (x : St) (id : Int) (w : World) (hx : x.ok) :
    Calls Try.prog 30 #[.agg #[.int .i64 x.b, .int .i64 x.e, .bool x.g, .int .u16 x.s], .int .i64 id] w fun e w' => e = .returned (.agg #[.int .i64 id, .int .i64 x.b, .int .i64 (x.e - x.b), .bool x.g, .int .u16 x.s]) ∧ Stay [] w w' := by
  obtain ⟨xb, xe, xg, xs⟩ := x
  obtain ⟨h0, h1, h2⟩ := hx
  simp only at h0 h1 h2 ⊢
  have hsub : IntKind.i64.wrap (xe - xb) = xe - xb := by simp only [IntKind.wrap, IntKind.bits, IntKind.signed]; simp; omega
  obtain ⟨W1, hW1⟩ : ∃ W, W = w.alloc (.cells #[.int .i64 xb, .int .i64 xe, .bool xg, .int .u16 xs] 67) := ⟨_, rfl⟩
  obtain ⟨W2, hW2⟩ : ∃ W, W = W1.alloc (.cells #[.int .i64 id, .int .i64 xb, .int .i64 (xe - xb), .bool xg, .int .u16 xs] 35) := ⟨_, rfl⟩
  have HS := Lib.hid (show Stay [] w W2 from by rw [hW2, hW1]; exact (Stay.alloc _ _).alloc')
  have HB := Lib.hid (show Blk W2 (w.heap.size + 1) [.int .i64 id, .int .i64 xb, .int .i64 (xe - xb), .bool xg, .int .u16 xs] 35 from by
    have h := Blk.new W1 [.int .i64 id, .int .i64 xb, .int .i64 (xe - xb), .bool xg, .int .u16 xs] 35
    rw [hW2, show w.heap.size + 1 = W1.heap.size by rw [hW1, size_alloc']]
    exact h)
  have HW := Lib.hid (show W2 = (w.alloc (.cells #[.int .i64 xb, .int .i64 xe, .bool xg, .int .u16 xs] 67)).alloc (.cells #[.int .i64 id, .int .i64 xb, .int .i64 (xe - xb), .bool xg, .int .u16 xs] 35) from by rw [hW2, hW1])
  clear h0 h1 h2 hW1 hW2
  go_enter Try.func30, Try.ntmps30
  go_wp2_with fail
  rw [← HW.out]
  have x0 := HB.out.cell 0
  have x1 := HB.out.cell 1
  have x2 := HB.out.cell 2
  have x3 := HB.out.cell 3
  have x4 := HB.out.cell 4
  exact bodyPost_ret (v := .agg #[.int .i64 id, .int .i64 xb, .int .i64 (xe - xb), .bool xg, .int .u16 xs]) (by simp at x0 x1 x2 x3 x4; simp [results, Try.results30, go_sem, x0, x1, x2, x3, x4]) rfl ⟨rfl, HS.out⟩
set_option maxRecDepth 20000 in
set_option maxHeartbeats 4000000 in
theorem mnew_any (w : World) : Calls Try.prog 8 #[] w fun e w' => ∃ sb mb, e = .returned (.pointer (some ⟨sb, 0, none⟩)) ∧ w.heap.size ≤ sb ∧ w.heap.size ≤ mb ∧ SetAt w' sb mb [] 0 0 ∧ Stay [] w w' := by
  have hmk : ∀ w, (Instr.makeMap 59 none).run Try.prog w = .ok (.map (some w.heap.size)) (w.alloc (.map #[] 0)) := fun w => by kernel_rfl
  have HF := Lib.hid (show w.heap.size ≤ w.heap.size + 1 ∧ w.heap.size ≤ w.heap.size ∧ SetAt ((w.alloc (.map #[] 0)).alloc (.cells #[.map (some w.heap.size), .int .i64 0] 61)) (w.heap.size + 1) w.heap.size [] 0 0 ∧ Stay [] w ((w.alloc (.map #[] 0)).alloc (.cells #[.map (some w.heap.size), .int .i64 0] 61)) from by
    refine ⟨Nat.le_succ _, Nat.le_refl _, ⟨?_, ⟨?_, by simp, by simp, by simp⟩, by simp, by simp, by omega⟩, (Stay.alloc _ _).alloc'⟩
    · have h := Blk.new (w.alloc (.map #[] 0)) [.map (some w.heap.size), .int .i64 0] 61
      rw [size_alloc'] at h
      exact h
    · rw [heap_alloc_old _ _ (by rw [size_alloc']; exact Nat.lt_succ_self _)]
      exact heap_alloc_new w _)
  go_enter Try.func8, Try.ntmps8
  go_wp2_with fail
  go_ret
  exact ⟨_, _, rfl, HF.out⟩
end Go.Proofs.Ytbnaglkhbgfchaa
