/- package marks: over, Get, Drop. -/
import Derived.Test.YtbnaglkhbgfchaaMsmall
namespace Go.Proofs.Ytbnaglkhbgfchaa
open Go.RowKit
set_option maxRecDepth 20000 in
set_option maxHeartbeats 8000000 in
theorem over_any (x : St) (at_ n : Int) (w : World) (hx : x.ok) (ha : -1152921504606846976 ≤ at_ ∧ at_ ≤ 9223372036854775807) (hn : 0 ≤ n) :
    Calls Try.prog 32 #[.agg #[.int .i64 x.b, .int .i64 x.e, .bool x.g, .int .u16 x.s], .int .i64 at_, .int .i64 n] w fun e w' => e = .returned (.bool (overP x at_ n)) ∧ Stay [] w w' := by
  obtain ⟨xb, xe, xg, xs⟩ := x
  obtain ⟨h0, h1, h2⟩ := hx
  simp only at h0 h1 h2 ⊢
  have hsub : IntKind.i64.wrap (xb - at_) = xb - at_ := by simp only [IntKind.wrap, IntKind.bits, IntKind.signed]; simp; omega
  obtain ⟨W1, hW1⟩ : ∃ W, W = w.alloc (.cells #[.int .i64 xb, .int .i64 xe, .bool xg, .int .u16 xs] 67) := ⟨_, rfl⟩
  have HS := Lib.hid (show Stay [] w W1 from by rw [hW1]; exact Stay.alloc _ _)
  have hB : Blk W1 w.heap.size [.int .i64 xb, .int .i64 xe, .bool xg, .int .u16 xs] 67 := by rw [hW1]; exact Blk.new w _ _
  have c0 : W1.cell? ⟨w.heap.size, 0, none⟩ = some (.int .i64 xb) := hB.cell 0
  have c1 : W1.cell? ⟨w.heap.size, 1, none⟩ = some (.int .i64 xe) := hB.cell 1
  have HW := Lib.hid hW1
  clear h0 h1 h2 ha hW1 hB
  by_cases q1 : xb < xe ∧ 0 < n
  · have e : overP ⟨xb, xe, xg, xs⟩ at_ n = (decide (at_ < xe) && decide (xb - at_ < n)) := by unfold overP; rw [if_pos q1]
    obtain ⟨q2, q3⟩ := q1
    rw [e]
    clear e hn
    by_cases q4 : at_ < xe
    · go_enter Try.func32, Try.ntmps32
      go_upto_region 1 with fail
      rw [← HW.out]
      go_wp2_with fail
      go_ret
      exact ⟨by first | (simp [q4]; done) | (simp; omega), HS.out⟩
    · go_enter Try.func32, Try.ntmps32
      go_upto_region 1 with fail
      rw [← HW.out]
      go_wp2_with fail
      go_ret
      exact ⟨by first | (simp [q4]; done) | (simp; omega), HS.out⟩
  · by_cases q5 : n = 0
    · have e : overP ⟨xb, xe, xg, xs⟩ at_ n = (decide (xb ≤ at_) && decide (at_ ≤ xe)) := by unfold overP; rw [if_neg q1, if_pos q5]
      rw [e]
      subst q5
      have q3 : ¬ (0 : Int) < 0 := by omega
      clear e hn q1
      by_cases q2 : xb < xe
      · by_cases q4 : xb ≤ at_
        · go_enter Try.func32, Try.ntmps32
          go_upto_region 1 with fail
          rw [← HW.out]
          go_wp2_with fail
          go_ret
          exact ⟨by first | (simp [q4]; done) | (simp; omega), HS.out⟩
        · go_enter Try.func32, Try.ntmps32
          go_upto_region 1 with fail
          rw [← HW.out]
          go_wp2_with fail
          go_ret
          exact ⟨by first | (simp [q4]; done) | (simp; omega), HS.out⟩
      · by_cases q4 : xb ≤ at_
        · go_enter Try.func32, Try.ntmps32
          go_upto_region 1 with fail
          rw [← HW.out]
          go_wp2_with fail
          go_ret
          exact ⟨by first | (simp [q4]; done) | (simp; omega), HS.out⟩
        · go_enter Try.func32, Try.ntmps32
          go_upto_region 1 with fail
          rw [← HW.out]
          go_wp2_with fail
          go_ret
          exact ⟨by first | (simp [q4]; done) | (simp; omega), HS.out⟩
    · have e : overP ⟨xb, xe, xg, xs⟩ at_ n = (decide (at_ ≤ xb) && decide (xb - at_ ≤ n)) := by unfold overP; rw [if_neg q1, if_neg q5]
      have q2 : ¬ xb < xe := by omega
      have q6 : decide (n = 0) = false := decide_eq_false q5
      rw [e]
      clear e hn q1
      by_cases q4 : at_ ≤ xb
      · go_enter Try.func32, Try.ntmps32
        go_upto_region 1 with fail
        rw [← HW.out]
        go_wp2_with fail
        go_ret
        exact ⟨by first | (simp [q4]; done) | (simp; omega), HS.out⟩
      · go_enter Try.func32, Try.ntmps32
        go_upto_region 1 with fail
        rw [← HW.out]
        go_wp2_with fail
        go_ret
        exact ⟨by first | (simp [q4]; done) | (simp; omega), HS.out⟩
def zeroM : List Value := [.int .i64 0, .int .i64 0, .int .i64 0, .bool false, .int .u16 0]
theorem two_news (w : World) (l1 l2 : List Value) (t1 t2 : TypeId) : Blk ((w.alloc (.cells l1.toArray t1)).alloc (.cells l2.toArray t2)) w.heap.size l1 t1 ∧ Blk ((w.alloc (.cells l1.toArray t1)).alloc (.cells l2.toArray t2)) (w.heap.size + 1) l2 t2 ∧ Stay [] w ((w.alloc (.cells l1.toArray t1)).alloc (.cells l2.toArray t2)) := by
  have h2 := Blk.new (w.alloc (.cells l1.toArray t1)) l2 t2
  rw [size_alloc'] at h2
  exact ⟨(Blk.new w l1 t1).stay (F := []) (Stay.alloc _ _) (by simp), h2, (Stay.alloc _ _).alloc'⟩
set_option maxRecDepth 20000 in
set_option maxHeartbeats 8000000 in
theorem get_there {w : World} {sb mb ck : Nat} {L : List EN} {last : Int} (h : SetAt w sb mb L ck last) {x : EN} (hx : x ∈ L) :
    Calls Try.prog 14 #[.pointer (some ⟨sb, 0, none⟩), .int .i64 x.id] w fun e w' => e = .returned (.tuple #[.agg #[.int .i64 x.id, .int .i64 x.st.b, .int .i64 (x.st.e - x.st.b), .bool x.st.g, .int .u16 x.st.s], .bool true]) ∧ Stay [] w w' := by
  obtain ⟨id, ⟨xb, xe, xg, xs⟩, bn⟩ := x
  have hok := h.ok _ hx
  obtain ⟨W1, hW1⟩ : ∃ W, W = w.alloc (.cells zeroM.toArray 35) := ⟨_, rfl⟩
  have hs1 : Stay [] w W1 := by rw [hW1]; exact Stay.alloc _ _
  have h1 := h.stay0 hs1
  have c0 : W1.cell? ⟨sb, 0, none⟩ = some (.map (some mb)) := h1.blk.cell 0
  have hlk := look_there h1.m hx
  simp only [St.val] at hlk
  obtain ⟨W2, hW2⟩ : ∃ W, W = W1.alloc (.cells #[.int .i64 xb, .int .i64 xe, .bool xg, .int .u16 xs] 67) := ⟨_, rfl⟩
  have ht := two_news w zeroM [.int .i64 xb, .int .i64 xe, .bool xg, .int .u16 xs] 35 67
  rw [← hW1, ← hW2] at ht
  have HT := Lib.hid ht
  have hd0 : W2.cell? ⟨w.heap.size + 1, 0, none⟩ = some (.int .i64 xb) := ht.2.1.cell 0
  have hd1 : W2.cell? ⟨w.heap.size + 1, 1, none⟩ = some (.int .i64 xe) := ht.2.1.cell 1
  have hd2 : W2.cell? ⟨w.heap.size + 1, 2, none⟩ = some (.bool xg) := ht.2.1.cell 2
  have hd3 : W2.cell? ⟨w.heap.size + 1, 3, none⟩ = some (.int .u16 xs) := ht.2.1.cell 3
  have HM := Lib.hid (mark_any ⟨xb, xe, xg, xs⟩ id W2 hok)
  have HW1 := Lib.hid (show W1 = w.alloc (.cells #[.int .i64 0, .int .i64 0, .int .i64 0, .bool false, .int .u16 0] 35) from hW1)
  have HW2 := Lib.hid (show W2 = W1.alloc (.cells #[.int .i64 xb, .int .i64 xe, .bool xg, .int .u16 xs] 67) from hW2)
  have hz1 : W1.heap.size = w.heap.size + 1 := by rw [hW1, size_alloc']
  have HZ := Lib.hid hz1
  clear h hx hok hs1 h1 hW1 hW2 ht hz1
  go_enter Try.func14, Try.ntmps14
  go_upto_region 3 with fail
  rw [← HW1.out]
  go_upto_region 6 with fail
  rw [← HW2.out, HZ.out]
  go_wp2_with fail
  refine HM.out.mono ?_
  rintro e w3 ⟨rfl, hs3⟩
  have hb := HT.out.1.stay hs3 (by simp)
  have f0 := hb.free 0
  have f1 := hb.free 1
  have f2 := hb.free 2
  have f3 := hb.free 3
  have f4 := hb.free 4
  have z0 : w3.cell? ⟨w.heap.size, 0, none⟩ = some (.int .i64 0) := hb.cell 0
  have z1 : w3.cell? ⟨w.heap.size, 1, none⟩ = some (.int .i64 0) := hb.cell 1
  have z2 : w3.cell? ⟨w.heap.size, 2, none⟩ = some (.int .i64 0) := hb.cell 2
  have z3 : w3.cell? ⟨w.heap.size, 3, none⟩ = some (.bool false) := hb.cell 3
  have z4 : w3.cell? ⟨w.heap.size, 4, none⟩ = some (.int .u16 0) := hb.cell 4
  obtain ⟨w4, hw4⟩ : ∃ x, x = ((((w3.setCell ⟨w.heap.size, 0, none⟩ (.int .i64 id)).setCell ⟨w.heap.size, 1, none⟩ (.int .i64 xb)).setCell ⟨w.heap.size, 2, none⟩ (.int .i64 (xe - xb))).setCell ⟨w.heap.size, 3, none⟩ (.bool xg)).setCell ⟨w.heap.size, 4, none⟩ (.int .u16 xs) := ⟨_, rfl⟩
  have HB4 := Lib.hid (show Blk w4 w.heap.size [.int .i64 id, .int .i64 xb, .int .i64 (xe - xb), .bool xg, .int .u16 xs] 35 from by
    rw [hw4]
    exact ((((hb.set 0 (.int .i64 id)).set 1 (.int .i64 xb)).set 2 (.int .i64 (xe - xb))).set 3 (.bool xg)).set 4 (.int .u16 xs))
  have HS4 := Lib.hid (show Stay [] w w4 from by
    rw [hw4]
    have hss : ∀ (u : World) (j : Nat) (v : Value), Stay [w.heap.size] u (u.setCell ⟨w.heap.size, j, none⟩ v) := fun u j v => Stay.setCell _ _ _ (by simp)
    exact (HT.out.2.2.trans hs3).trans' (((((hss w3 0 _).trans (hss _ 1 _)).trans (hss _ 2 _)).trans (hss _ 3 _)).trans (hss _ 4 _)) (fun g hg => .inr (by rw [List.mem_singleton] at hg; omega)))
  have HW4 := Lib.hid hw4
  clear hs3 hb hw4 HM
  go_wp2_with fail
  rw [← HW4.out]
  have x0 := HB4.out.cell 0
  have x1 := HB4.out.cell 1
  have x2 := HB4.out.cell 2
  have x3 := HB4.out.cell 3
  have x4 := HB4.out.cell 4
  exact bodyPost_ret (v := .tuple #[.agg #[.int .i64 id, .int .i64 xb, .int .i64 (xe - xb), .bool xg, .int .u16 xs], .bool true]) (by simp at x0 x1 x2 x3 x4; simp [results, Try.results14, go_sem, x0, x1, x2, x3, x4]) rfl ⟨rfl, HS4.out⟩
end Go.Proofs.Ytbnaglkhbgfchaa
