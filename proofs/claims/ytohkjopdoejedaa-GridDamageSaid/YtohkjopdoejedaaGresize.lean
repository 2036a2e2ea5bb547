/- package grid: Resize. -/
import Derived.Test.YtohkjopdoejedaaGbuild
import Derived.Deep.RegionWith
import Derived.Deep.DeepCutAuto
import Derived.Test.YtohkjopdoejedaaMove
namespace Go.Proofs.Ytohkjopdoejedaa
open Go.RowKit
theorem info49 : (Try.prog.info? 49).map (fun i => (i.zero, i.size, i.bytes)) = some (some (.agg #[.string ByteArray.empty, .int .i8 0, .int .i64 0, .int .i64 0, .bool false, .int .u16 0]), 6, 48) := by kernel_rfl
/-- the rows of a new screen: block base + y for the row y -/
def newRows (base W k : Nat) : List Value := (List.range k).map (fun y => Value.slice (some ⟨base + y, 0, none⟩) W W) ++ List.replicate (1024 - k) (.slice none 0 0)
theorem newRows_zero (base W : Nat) : newRows base W 0 = nils := by
  unfold newRows nils
  simp only [List.range_zero, List.map_nil, List.nil_append, Nat.sub_zero]
theorem newRows_put (base W k : Nat) (hk : k < 1024) : (newRows base W k).set k (.slice (some ⟨base + k, 0, none⟩) W W) = newRows base W (k + 1) := by
  unfold newRows
  have hl : ((List.range k).map (fun y => Value.slice (some ⟨base + y, 0, none⟩) W W)).length = k := by rw [List.length_map, List.length_range]
  rw [List.set_append_right _ _ (by omega), hl, Nat.sub_self, List.range_succ, List.map_append, List.append_assoc]
  congr 1
  obtain ⟨m, hm⟩ : ∃ m, 1024 - k = m + 1 := ⟨1023 - k, by omega⟩
  rw [hm, show 1024 - (k + 1) = m by omega, List.replicate_succ]
  rfl
theorem Scr.putRow {w : World} {s : Nat} {rv ov : List Value} {W H X Y : Int} (h : Scr w s rv ov W H X Y) (k : Nat) (hk : k < 1024) (u : Value) : Scr (w.setCell ⟨s, k, none⟩ u) s (rv.set k u) ov W H X Y := by
  refine ⟨?_, by rw [List.length_set]; exact h.lr, h.lo⟩
  have h1 := h.blk.set k u
  rw [List.set_append_left _ _ (by rw [h.lr]; exact hk)] at h1
  exact h1
theorem rowCells_replicate (n : Nat) (c : Ce) : rowCells (List.replicate n c) = (List.replicate n c.cells).flatten := by
  simp [rowCells, List.flatMap]
def zero49 : Value := .agg #[.string ByteArray.empty, .int .i8 0, .int .i64 0, .int .i64 0, .bool false, .int .u16 0]
theorem made49 (x : Nat) : madeCells zero49.cells (x * 6) = (rowCells (List.replicate x Ce.zero)).toArray := by
  have h : (madeCells zero49.cells (x * 6)).toList = rowCells (List.replicate x Ce.zero) := by
    rw [rowCells_replicate]
    exact zeroCells_list zero49.cells x
  rw [← h]
set_option maxRecDepth 20000 in
set_option maxHeartbeats 4000000 in
theorem resize_any (s : Nat) (rv ov : List Value) (W0 H0 X Y : Int) (x y : Nat) (w : World) (hx : x ≤ 1024) (hy : y ≤ 1024) (h : Scr w s rv ov W0 H0 X Y) :
    Calls Try.prog 25 #[.pointer (some ⟨s, 0, none⟩), .int .i64 x, .int .i64 y] w fun e w' => e = .returned (.int .i64 0) ∧ Scr w' s (newRows w.heap.size x y) nils x y (-1) (-1) ∧ Stay [s] w w' ∧ w'.heap.size = w.heap.size + y ∧ ∀ j, j < y → Blk w' (w.heap.size + j) (rowCells (List.replicate x Ce.zero)) 49 := by
  have hx1 : (x : Int) ≤ 1024 := by omega
  have hy1 : (y : Int) ≤ 1024 := by omega
  have hx0 : (0 : Int) ≤ x := by omega
  have hy0 : (0 : Int) ≤ y := by omega
  have HFr := Lib.hid (h.fresh x y)
  have HBl := Lib.hid h
  have hb := Lib.hid (built67 x y)
  have hon := Lib.hid (new_ones x y)
  obtain ⟨cells, hcells⟩ : ∃ cells, cells = (nils ++ (nils ++ [Value.int .i64 (x : Int), Value.int .i64 (y : Int), Value.int .i64 (-1), Value.int .i64 (-1)])).toArray := ⟨_, rfl⟩
  have hsz : cells.size = 2052 := by
    rw [hcells, List.size_toArray, List.length_append, List.length_append, nils_length]
    rfl
  rw [← hcells] at HFr hb hon
  have hold : (rv ++ (ov ++ [Value.int .i64 W0, Value.int .i64 H0, Value.int .i64 X, Value.int .i64 Y])).toArray.size = cells.size := by
    rw [hsz, List.size_toArray, List.length_append, List.length_append, h.lr, h.lo]
    rfl
  have HOld := Lib.hid hold
  have HSz := Lib.hid hsz
  have HLt := Lib.hid h.lt
  obtain ⟨CL, hCL⟩ : ∃ CL, CL = rowCells (List.replicate x Ce.zero) := ⟨_, rfl⟩
  have HCL := Lib.hid (made49 x)
  rw [← hCL] at HCL ⊢
  clear h hcells hsz hold hCL
  go_enter Try.func25, Try.ntmps25
  go_wp2_with (first
    | (refine wpList_built rfl 67 #[(2, .tmp 27), (3, .tmp 28), (4, .const (.int .i64 (-1))), (5, .const (.int .i64 (-1)))] rfl [(2, .int .i64 x), (3, .int .i64 y), (4, .int .i64 (-1)), (5, .int .i64 (-1))] (by simp only [List.map_toArray, List.map_cons, List.map_nil]; rfl) cells hb.out ?_)
    | (refine wpList_store_row rfl 67 (.tmp 30) (.tmp 29) rfl s cells rfl rfl 67 _ HBl.out.blk (by rw [size67, HSz.out]) HOld.out hon.out ?_))
  go_loopw [32] (fun iv wr => ∃ k : Nat, k ≤ y ∧ iv = .int .i64 k ∧ Hid (Scr wr s (newRows w.heap.size x k) nils x y (-1) (-1)) ∧ Hid (wr.heap.size = w.heap.size + k) ∧ Hid (Stay [s] w wr) ∧ Hid (∀ j, j < k → Blk wr (w.heap.size + j) CL 49)) (fun iv _ => y - (intOf iv).toNat)
  case atStart =>
    refine ⟨0, by omega, rfl, ?_, ?_, Stay.setRow s cells, fun j hj => by omega⟩
    · show Scr _ _ _ _ _ _ _ _
      rw [newRows_zero]; exact HFr.out
    · show _ = _
      simp [World.setRow]
  case round =>
    obtain ⟨k, hk, rfl, HSc, HSize, HSt, HBs⟩ := hrel
    by_cases hlt : k < y
    · have hlt' : (k : Int) < y := by omega
      have hk0 : (0 : Int) ≤ k := by omega
      have hk1 : (k : Int) < 1024 := by omega
      obtain ⟨i49, hi49, hz490, hz491, hz492⟩ := info_parts info49
      have hfr := HSc.out.free k
      have hlts := HSc.out.lt
      have hmk : ∀ w, (Instr.makeSlice 33 (.int .i64 x) (.int .i64 x)).run Try.prog w = .ok (.slice (some ⟨w.heap.size, 0, none⟩) x x) (w.alloc (.cells CL.toArray 49)) := by
        intro w
        have hr := run_make (P := Try.prog) w 33 49 i49 _ Try.underlying33 hi49 hz490 .i64 .i64 x x hx0 (Int.le_refl _) (by rw [hz492]; omega) (by omega)
        simp only [Int.toNat_natCast, hz491] at hr
        exact hr.trans (by rw [← HCL.out]; rfl)
      clear hi49 hz490 hz491 hz492
      obtain ⟨u, hu⟩ : ∃ u, wr.cell? ⟨s, k, none⟩ = some u := ⟨_, (HSc.out.row k (by omega)).trans (List.getElem?_eq_getElem (by rw [HSc.out.lr]; omega))⟩
      have HSc2 := Lib.hid (show Scr (wr.setCell ⟨s, k, none⟩ (.slice (some ⟨wr.heap.size, 0, none⟩) x x)) s (newRows w.heap.size x (k + 1)) nils x y (-1) (-1) from by
        have h1 := HSc.out.putRow k (by omega) (.slice (some ⟨wr.heap.size, 0, none⟩) x x)
        rw [HSize.out] at h1 ⊢
        rw [newRows_put _ _ _ (by omega)] at h1
        exact h1)
      have HSt2 := Lib.hid (HSt.out.set' (p := ⟨s, k, none⟩) (u := .slice (some ⟨wr.heap.size, 0, none⟩) x x) (.inl (by simp)))
      go_wp2_with fail
      go_region
      go_wp2_with fail
      go_roundw
      case rel =>
        refine ⟨k + 1, by omega, by go_num, (HSc2.out.stay (F := []) (Stay.alloc _ _) (by simp)).stay (F := []) (Stay.drew _) (by simp), ?_, HSt2.out.alloc'.drew', ?_⟩
        · have h1 := HSize.out
          have h2 : ((wr.setCell ⟨s, k, none⟩ (.slice (some ⟨wr.heap.size, 0, none⟩) x x)).alloc (.cells CL.toArray 49)).heap.size = wr.heap.size + 1 := by simp [World.setCell]
          show ((wr.setCell ⟨s, k, none⟩ (.slice (some ⟨wr.heap.size, 0, none⟩) x x)).alloc (.cells CL.toArray 49)).heap.size = w.heap.size + (k + 1)
          omega
        · intro j hj
          have hss := HSize.out
          have hls := HLt.out
          have key : Blk ((wr.setCell ⟨s, k, none⟩ (.slice (some ⟨wr.heap.size, 0, none⟩) x x)).alloc (.cells CL.toArray 49)) (w.heap.size + j) CL 49 := by
            by_cases e : j = k
            · subst e
              have := Blk.new (wr.setCell ⟨s, j, none⟩ (.slice (some ⟨wr.heap.size, 0, none⟩) x x)) CL 49
              rw [← hss]
              simpa [World.setCell] using this
            · exact ((HBs.out j (by omega)).stay (Stay.setCell (F := [s]) wr ⟨s, k, none⟩ _ (by simp)) (by simp; omega)).stay (F := []) (Stay.alloc _ _) (by simp)
          exact key.stay (F := []) (Stay.drew _) (by simp)
      case measure => simp [intOf]; omega
    · have hk' : k = y := by omega
      have hlt' : ¬ (k : Int) < y := by omega
      have HF := Lib.hid (show Scr wr s (newRows w.heap.size x y) nils x y (-1) (-1) from by have := HSc.out; rw [hk'] at this; exact this)
      have HZ := Lib.hid (show wr.heap.size = w.heap.size + y from by have := HSize.out; rw [hk'] at this; exact this)
      have HBf := Lib.hid (show ∀ j, j < y → Blk wr (w.heap.size + j) CL 49 from by have := HBs.out; rw [hk'] at this; exact this)
      clear hk' HSc HBs
      go_wp2_with fail
      go_ret
      exact ⟨rfl, HF.out, HSt.out, HZ.out, HBf.out⟩
end Go.Proofs.Ytohkjopdoejedaa
