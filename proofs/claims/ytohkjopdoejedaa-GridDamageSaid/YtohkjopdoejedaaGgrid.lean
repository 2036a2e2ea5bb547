/- package grid: Grid. -/
import Derived.Test.YtohkjopdoejedaaGclear
namespace Go.Proofs.Ytohkjopdoejedaa
open Go.RowKit
theorem rowCells_flat (l : List (List Ce)) : rowCells l.flatten = (l.map rowCells).flatten := by
  induction l with
  | nil => rfl
  | cons r l ih => rw [List.flatten_cons, rowCells_app, ih]; rfl
theorem rowCells_one (l : List Ce) : ∀ u ∈ rowCells l, u.oneCell' = true := by
  intro u hu
  obtain ⟨c, _, hc⟩ := List.mem_flatMap.1 hu
  simp only [Ce.cells, List.mem_cons, List.not_mem_nil, or_false] at hc
  rcases hc with rfl | rfl | rfl | rfl | rfl | rfl <;> rfl
set_option maxRecDepth 20000 in
set_option maxHeartbeats 4000000 in
theorem grid_any (s base : Nat) (os : List Nat) (S : Sc) (w : World) (h : Sm w s base os S) :
    Calls Try.prog 16 #[.pointer (some ⟨s, 0, none⟩)] w fun e w' => ∃ A c, e = .returned (.agg #[.int .i64 S.W, .int .i64 S.H, .slice A (S.H * S.W) c, .int .i64 S.X, .int .i64 S.Y]) ∧
      w'.ownsRow w.heap.size 49 6 (.slice A (S.H * S.W) c) (S.H * S.W) (rowCells S.rows.flatten) ∧ Below w.heap.size w w' := by
  have HS0 := Lib.hid h
  have hW0 := h.ok.w
  have hH0 := h.ok.h
  obtain ⟨W, hWe⟩ : ∃ W, W = S.W := ⟨_, rfl⟩
  obtain ⟨H, hHe⟩ : ∃ H, H = S.H := ⟨_, rfl⟩
  obtain ⟨X, hXe⟩ : ∃ X, X = S.X := ⟨_, rfl⟩
  obtain ⟨Y, hYe⟩ : ∃ Y, Y = S.Y := ⟨_, rfl⟩
  have HWe := Lib.hid hWe
  have HHe := Lib.hid hHe
  have HXe := Lib.hid hXe
  have HYe := Lib.hid hYe
  have c2048 := h.scr.w_
  have c2049 := h.scr.h_
  have c2050 := h.scr.x_
  have c2051 := h.scr.y_
  rw [← hWe] at c2048 hW0
  rw [← hHe] at c2049 hH0
  rw [← hXe] at c2050
  rw [← hYe] at c2051
  rw [← hWe, ← hHe, ← hXe, ← hYe]
  have hH0' : (H : Int) ≤ 1024 := by omega
  have hH1' : (0 : Int) ≤ H := by omega
  have hlt := h.scr.lt
  clear hWe hHe hXe hYe h
  obtain ⟨A0, hA0⟩ : ∃ A0 : Array Value, A0 = #[.int .i64 0, .int .i64 0, .slice none 0 0, .int .i64 0, .int .i64 0] := ⟨_, rfl⟩
  have HBx := Lib.hid (show Blk (w.alloc (.cells A0 40)) w.heap.size [.int .i64 0, .int .i64 0, .slice none 0 0, .int .i64 0, .int .i64 0] 40 from by rw [hA0]; exact Blk.new w _ 40)
  have HT1 := Lib.hid (Stay.alloc (F := []) w (.cells A0 40))
  have HZ1 := Lib.hid (size_alloc' w (.cells A0 40))
  have d2048 := (HS0.out.scr.stay HT1.out (by simp)).w_
  have d2049 := (HS0.out.scr.stay HT1.out (by simp)).h_
  have d2050 := (HS0.out.scr.stay HT1.out (by simp)).x_
  have d2051 := (HS0.out.scr.stay HT1.out (by simp)).y_
  rw [← HWe.out] at d2048
  rw [← HHe.out] at d2049
  rw [← HXe.out] at d2050
  rw [← HYe.out] at d2051
  have hlt1 := (HS0.out.scr.stay HT1.out (by simp)).lt
  go_enter Try.func16, Try.ntmps16
  go_wp2_with fail
  rw [← hA0]
  obtain ⟨B2, hB2⟩ : ∃ B2, B2 = w.heap.size := ⟨_, rfl⟩
  rw [← hB2] at HBx HZ1 ⊢
  have HB2 := Lib.hid hB2
  clear hB2 hA0 c2048 c2049 c2050 c2051
  generalize w.alloc (.cells A0 40) = W1 at *
  go_region
  obtain ⟨l3, hl3⟩ : ∃ l3 : Array Value, l3 = #[.int .i64 W, .int .i64 H, .slice none 0 0, .int .i64 X, .int .i64 Y] := ⟨_, rfl⟩
  have HBy := Lib.hid (show Blk (W1.alloc (.cells l3 40)).drew (B2 + 1) [.int .i64 W, .int .i64 H, .slice none 0 0, .int .i64 X, .int .i64 Y] 40 from by
    have h1 := Blk.new W1 [.int .i64 W, .int .i64 H, .slice none 0 0, .int .i64 X, .int .i64 Y] 40
    rw [HZ1.out] at h1
    rw [hl3]
    exact h1.stay (F := []) (Stay.drew _) (by simp))
  have HBx3 := Lib.hid ((HBx.out.stay (F := []) (Stay.alloc W1 (.cells l3 40)) (by simp)).stay (F := []) (Stay.drew _) (by simp))
  have HT3 := Lib.hid ((HT1.out.alloc' (o := .cells l3 40)).drew')
  have HZ3 := Lib.hid (show (W1.alloc (.cells l3 40)).drew.heap.size = B2 + 2 from by
    show (W1.alloc (.cells l3 40)).heap.size = _
    rw [size_alloc', HZ1.out])
  have e2049 := (HS0.out.scr.stay HT3.out (by simp)).h_
  rw [← HHe.out] at e2049
  rw [← hl3, HZ1.out]
  clear hl3 d2048 d2049 d2050 d2051 HBx HT1 HZ1 hlt1
  generalize (W1.alloc (.cells l3 40)).drew = W3 at *
  clear W1
  go_wp2_with fail
  go_quiet (fail)
  go_wp2_with fail
  have HBx4 := Lib.hid (HBx3.out.stay (F := []) (Stay.drewN W3 nq) (by simp))
  have HBy4 := Lib.hid (HBy.out.stay (F := []) (Stay.drewN W3 nq) (by simp))
  have HT4 := Lib.hid (HT3.out.drewN' (n := nq))
  have HZ4 := Lib.hid (show (W3.drewN nq).heap.size = B2 + 2 from HZ3.out)
  clear e2049 HBx3 HBy HT3 HZ3
  generalize W3.drewN nq = W4 at *
  go_loopw [35] (fun yv wr => ∃ (k : Nat) (A : Option Addr) (c : Nat), k ≤ H ∧ yv = .int .i64 k ∧ Hid (Blk wr B2 [.int .i64 0, .int .i64 0, .slice none 0 0, .int .i64 0, .int .i64 0] 40) ∧ Hid (Blk wr (B2 + 1) [.int .i64 W, .int .i64 H, .slice A (k * W) c, .int .i64 X, .int .i64 Y] 40) ∧
    Hid (wr.ownsRow (B2 + 2) 49 6 (.slice A (k * W) c) (k * W) (rowCells (S.rows.take k).flatten)) ∧ Hid (Stay [] w wr) ∧ Hid (B2 + 2 ≤ wr.heap.size)) (fun yv _ => H - (intOf yv).toNat)
  case atStart =>
    refine ⟨0, none, 0, by omega, rfl, HBx4.out, ?_, ?_, HT4.out, by show _ ≤ _; rw [HZ4.out]; exact Nat.le_refl _⟩
    · show Blk _ _ _ _
      rw [Nat.zero_mul]; exact HBy4.out
    · show World.ownsRow _ _ _ _ _ _ _
      rw [Nat.zero_mul]; exact World.ownsRow_nil _ _ _ _
  case round =>
    obtain ⟨k, A, c, hk, rfl, HBxk, HByk, HOk, HTk, HZk⟩ := hrel
    have g2 := HByk.out.cell 2
    have g0 := HByk.out.cell 0
    simp only [List.getElem?_cons_zero, List.getElem?_cons_succ] at g2 g0
    by_cases hlt2 : k < H
    · have hlt' : (k : Int) < H := by omega
      have hk0 : (0 : Int) ≤ k := by omega
      have hk1 : (k : Int) < 1024 := by omega
      obtain ⟨i49, hi49, hz490, hz491, hz492⟩ := info_parts info49
      have HI := Lib.hid (And.intro hi49 (And.intro hz490 (And.intro hz491 hz492)))
      clear hi49 hz490 hz491 hz492
      have hkH : k < S.H := by rw [← HHe.out]; omega
      have HSk := Lib.hid (HS0.out.stay HTk.out (by simp))
      have hcell2 : wr.cell? ⟨s, k, none⟩ = some (.slice (some ⟨base + k, 0, none⟩) W W) := by rw [HSk.out.row k hkH, ← HWe.out]
      obtain ⟨r, hr, hrl, hrp, hrb⟩ := HSk.out.rowAt k hkH
      have hrl' : r.length = W := hrl.trans HWe.out.symm
      have HL := Lib.hid (show (rowCells r).length = W * 6 from by rw [rowCells_length, hrl'])
      have HN := Lib.hid (show ∀ j u, (rowCells r)[j]? = some u → wr.cell? ((⟨base + k, 0, none⟩ : Addr).add j) = some u from by
        intro j u hj
        rw [add_lit', Nat.zero_add, hrb.cell, hj])
      have hmul : k * W + W ≤ 1048576 := by
        have h1 := Nat.mul_le_mul (show k + 1 ≤ 1024 by omega) hW0
        rw [Nat.succ_mul] at h1
        exact h1
      have h63 : k * W + W ≤ maxLen := by simp only [maxLen]; omega
      have hby : (k * W + W) * 48 ≤ 140737488355328 := by omega
      have HM := Lib.hid (And.intro h63 hby)
      have HFl := Lib.hid (show rowCells (S.rows.take k).flatten ++ rowCells r = rowCells (S.rows.take (k + 1)).flatten from by
        have h1 : S.rows.take (k + 1) = S.rows.take k ++ [r] := by
          rw [List.take_add_one, hr]; rfl
        rw [h1, List.flatten_append, rowCells_app]
        simp)
      have HSu := Lib.hid (Nat.succ_mul k W)
      have HNe1 := Lib.hid (show (Value.slice A (k * W) c).ownBlock ≠ some (B2 + 1) from fun e => by have := (HOk.out.lt _ e).1; omega)
      have HNe2 := Lib.hid (show (Value.slice A (k * W) c).ownBlock ≠ some B2 from fun e => by have := (HOk.out.lt _ e).1; omega)
      clear hr hrl hrp hrb hrl' hmul h63 hby
      go_wp2_with (refine wpList_append_z rfl (.tmp 40) (.tmp 41) 33 rfl (B2 + 2) 49 i49 zero49 6 48 Try.underlying33 HI.out.1 HI.out.2.1 HI.out.2.2.1 HI.out.2.2.2 rfl (by omega) (.slice A (k * W) c) (k * W) _ rfl HOk.out ⟨base + k, 0, none⟩ W W rfl (rowCells r) HL.out HN.out (rowCells_one r) HM.out.1 HM.out.2 HZk.out ?_; intro A' c' w5 ho5 hg5 hv5; have hcw := (HByk.out.grown hg5 HNe1.out).cell 2; have hfw := (HByk.out.grown hg5 HNe1.out).free 2; simp only [List.getElem?_cons_zero, List.getElem?_cons_succ] at hcw)
      have HG5 := Lib.hid (And.intro ho5 (And.intro hg5 hv5))
      clear ho5 hg5 hv5
      go_roundw
      case rel =>
        obtain ⟨ho5, hg5, hv5⟩ := HG5.out
        refine ⟨k + 1, A', c', by omega, by go_num, ?_, ?_, ?_, ?_, ?_⟩
        · exact ((HBxk.out.grown hg5 HNe2.out)).stay (F := [B2 + 1]) (Stay.setCell _ _ _ (by simp)) (by simp)
        · have h1 := (HByk.out.grown hg5 HNe1.out).set 2 (.slice A' (k * W + W) c')
          show Blk _ _ _ _
          rw [HSu.out]
          exact h1
        · show World.ownsRow _ _ _ _ _ _ _
          rw [HSu.out, ← HFl.out]
          exact ownsRow_setCell_below ho5 (by simp) _
        · refine (HTk.out.new_ hg5 (fun g hg => .inr ?_)).set' (.inr ?_)
          · have := (HOk.out.lt _ hg).1
            have := HB2.out
            omega
          · have := HB2.out
            simp only
            omega
        · show _ ≤ _
          have h1 := hg5.size
          have h2 := HZk.out
          simp [World.setCell]
          omega
      case measure => simp [intOf]; omega
    · have hk' : k = H := by omega
      have hlt' : ¬ (k : Int) < H := by omega
      have HOf := Lib.hid (show wr.ownsRow (B2 + 2) 49 6 (.slice A (H * W) c) (H * W) (rowCells S.rows.flatten) from by
        have h1 := HOk.out
        have h2 : S.rows.take k = S.rows := List.take_of_length_le (by rw [HS0.out.ok.len, hk', HHe.out]; exact Nat.le_refl _)
        rw [h2, hk'] at h1
        exact h1)
      subst hk'
      clear HOk
      have g1 := HByk.out.cell 1
      have g3 := HByk.out.cell 3
      have g4 := HByk.out.cell 4
      simp only [List.getElem?_cons_zero, List.getElem?_cons_succ] at g1 g3 g4
      have f0 := HBxk.out.cell 0
      have f1 := HBxk.out.cell 1
      have f2 := HBxk.out.cell 2
      have f3 := HBxk.out.cell 3
      have f4 := HBxk.out.cell 4
      have z0 := HBxk.out.free 0
      have z1 := HBxk.out.free 1
      have z2 := HBxk.out.free 2
      have z3 := HBxk.out.free 3
      have z4 := HBxk.out.free 4
      simp only [List.getElem?_cons_zero, List.getElem?_cons_succ] at f0 f1 f2 f3 f4
      go_wp2_with fail
      have HBF := Lib.hid (((((HBxk.out.set 0 (.int .i64 W)).set 1 (.int .i64 k)).set 2 (.slice A (k * W) c)).set 3 (.int .i64 X)).set 4 (.int .i64 Y))
      have HOF := Lib.hid (ownsRow_setCell_below (ownsRow_setCell_below (ownsRow_setCell_below (ownsRow_setCell_below (ownsRow_setCell_below HOf.out (a := ⟨B2, 0, none⟩) (by simp) (.int .i64 W)) (a := ⟨B2, 1, none⟩) (by simp) (.int .i64 k)) (a := ⟨B2, 2, none⟩) (by simp) (.slice A (k * W) c)) (a := ⟨B2, 3, none⟩) (by simp) (.int .i64 X)) (a := ⟨B2, 4, none⟩) (by simp) (.int .i64 Y))
      have hB2 : w.heap.size ≤ B2 := by rw [HB2.out]; exact Nat.le_refl _
      have HTF := Lib.hid (((((HTk.out.set' (p := ⟨B2, 0, none⟩) (u := .int .i64 W) (.inr hB2)).set' (p := ⟨B2, 1, none⟩) (u := .int .i64 k) (.inr hB2)).set' (p := ⟨B2, 2, none⟩) (u := .slice A (k * W) c) (.inr hB2)).set' (p := ⟨B2, 3, none⟩) (u := .int .i64 X) (.inr hB2)).set' (p := ⟨B2, 4, none⟩) (u := .int .i64 Y) (.inr hB2))
      clear f0 f1 f2 f3 f4 z0 z1 z2 z3 z4 g0 g1 g2 g3 g4
      generalize ((((wr.setCell ⟨B2, 0, none⟩ (.int .i64 W)).setCell ⟨B2, 1, none⟩ (.int .i64 k)).setCell ⟨B2, 2, none⟩ (.slice A (k * W) c)).setCell ⟨B2, 3, none⟩ (.int .i64 X)).setCell ⟨B2, 4, none⟩ (.int .i64 Y) = WF at *
      have f0 := HBF.out.cell 0
      have f1 := HBF.out.cell 1
      have f2 := HBF.out.cell 2
      have f3 := HBF.out.cell 3
      have f4 := HBF.out.cell 4
      simp only [List.set_cons_zero, List.set_cons_succ, List.getElem?_cons_zero, List.getElem?_cons_succ] at f0 f1 f2 f3 f4
      exact bodyPost_ret (v := .agg #[.int .i64 W, .int .i64 k, .slice A (k * W) c, .int .i64 X, .int .i64 Y]) (by simp [results, Try.results16, go_sem, f0, f1, f2, f3, f4]) rfl
        ⟨A, c, rfl, ownsRow_mono HOF.out (by omega), HTF.out.toBelow (Nat.le_refl _) (by simp)⟩
end Go.Proofs.Ytohkjopdoejedaa
