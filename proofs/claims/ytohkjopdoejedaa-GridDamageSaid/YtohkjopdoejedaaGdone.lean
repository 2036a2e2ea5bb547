/- package grid: of, Done. -/
import Derived.Test.YtohkjopdoejedaaGgrid
namespace Go.Proofs.Ytohkjopdoejedaa
open Go.RowKit
def Ce.agg (c : Ce) : Value := .agg #[.string c.text, .int .i8 c.part, .int .i64 c.at_, .int .i64 c.len, .bool c.right, .int .u16 c.style]
def Ce.lagg (c : Ce) : Value := .agg #[.string c.text, .int .i8 c.part, .int .u16 c.style]
set_option maxRecDepth 20000 in
set_option maxHeartbeats 4000000 in
theorem of_any (c : Ce) (w : World) : Calls Try.prog 42 #[c.agg] w fun e w' => e = .returned c.lagg ∧ Stay [] w w' := by
  obtain ⟨tx, pa, at_, le, ri, st⟩ := c
  unfold Ce.agg Ce.lagg
  simp only
  go_enter Try.func42, Try.ntmps42
  go_wp2_with fail
  have HT := Lib.hid ((Stay.refl [] w).alloc' (o := .cells #[.string tx, .int .i8 pa, .int .i64 at_, .int .i64 le, .bool ri, .int .u16 st] 49))
  have hz := size_alloc' w (.cells #[.string tx, .int .i8 pa, .int .i64 at_, .int .i64 le, .bool ri, .int .u16 st] 49)
  generalize w.alloc (.cells #[.string tx, .int .i8 pa, .int .i64 at_, .int .i64 le, .bool ri, .int .u16 st] 49) = W1 at *
  have f0 := box_cell W1 #[.string tx, .int .i8 pa, .int .u16 st] 78 0 _ rfl
  have f1 := box_cell W1 #[.string tx, .int .i8 pa, .int .u16 st] 78 1 _ rfl
  have f2 := box_cell W1 #[.string tx, .int .i8 pa, .int .u16 st] 78 2 _ rfl
  rw [hz] at f0 f1 f2
  exact bodyPost_ret (v := .agg #[.string tx, .int .i8 pa, .int .u16 st]) (by simp [results, Try.results42, go_sem, f0, f1, f2]) rfl ⟨rfl, HT.out.alloc'⟩
theorem lookRow_cons (c : Ce) (l : List Ce) : lookRow (c :: l) = c.look ++ lookRow l := rfl
theorem lookRow_length (l : List Ce) : (lookRow l).length = l.length * 3 := by
  induction l with
  | nil => rfl
  | cons c l ih =>
    rw [lookRow_cons, List.length_append, ih]
    simp [Ce.look]
    omega
theorem lookRow_set : ∀ (l : List Ce) (x : Nat) (c : Ce), x < l.length → (((lookRow l).set (x * 3) (.string c.text)).set (x * 3 + 1) (.int .i8 c.part)).set (x * 3 + 2) (.int .u16 c.style) = lookRow (l.set x c)
  | [], x, c, h => by simp at h
  | d :: l, 0, c, _ => by simp [lookRow_cons, Ce.look]
  | d :: l, x + 1, c, h => by
    have hd : d.look.length = 3 := rfl
    rw [List.set_cons_succ, lookRow_cons, lookRow_cons, ← lookRow_set l x c (by simpa using h)]
    rw [List.set_append_right _ _ (by omega), List.set_append_right _ _ (by omega), List.set_append_right _ _ (by omega), hd]
    rw [show (x + 1) * 3 - 3 = x * 3 by omega, show (x + 1) * 3 + 1 - 3 = x * 3 + 1 by omega, show (x + 1) * 3 + 2 - 3 = x * 3 + 2 by omega]
theorem lookRow_at : ∀ (l : List Ce) (x : Nat) (h : x < l.length) (j : Nat), j < 3 → (lookRow l)[x * 3 + j]? = (l[x]).look[j]?
  | [], x, h, _, _ => by simp at h
  | d :: l, 0, _, j, hj => by
    rw [lookRow_cons, List.getElem?_append_left (by simp [Ce.look]; omega)]
    simp
  | d :: l, x + 1, h, j, hj => by
    have hd : d.look.length = 3 := rfl
    rw [lookRow_cons, List.getElem?_append_right (by omega), hd, show (x + 1) * 3 + j - 3 = x * 3 + j by omega, lookRow_at l x (by simpa using h) j hj]
    rfl
/-- the first x cells are taken over -/
def takeZ (r : List Ce) (x : Nat) : List Ce := r.take x ++ List.replicate (r.length - x) Ce.zero
theorem takeZ_length (r : List Ce) (x : Nat) (h : x ≤ r.length) : (takeZ r x).length = r.length := by unfold takeZ; simp; omega
theorem takeZ_step (r : List Ce) (x : Nat) (h : x < r.length) : (takeZ r x).set x r[x] = takeZ r (x + 1) := by
  unfold takeZ
  rw [List.set_append_right _ _ (by simp; omega), List.take_succ_eq_append_getElem h]
  obtain ⟨m, hm⟩ : ∃ m, r.length - x = m + 1 := ⟨r.length - x - 1, by omega⟩
  rw [hm, show r.length - (x + 1) = m by omega, List.replicate_succ]
  have : x - (r.take x).length = 0 := by simp; omega
  rw [this, List.set_cons_zero, List.append_assoc]
  rfl
theorem lookRow_replicate (n : Nat) (c : Ce) : lookRow (List.replicate n c) = (List.replicate n c.look).flatten := by
  simp [lookRow, List.flatMap]
def zero78 : Value := .agg #[.string ByteArray.empty, .int .i8 0, .int .u16 0]
theorem made78 (x : Nat) : madeCells zero78.cells (x * 3) = (lookRow (List.replicate x Ce.zero)).toArray := by
  have h : (madeCells zero78.cells (x * 3)).toList = lookRow (List.replicate x Ce.zero) := by
    rw [lookRow_replicate]
    exact zeroCells_list zero78.cells x
  rw [← h]
theorem info78 : (Try.prog.info? 78).map (fun i => (i.zero, i.size, i.bytes)) = some (some zero78, 3, 24) := by kernel_rfl
theorem Scr.putOld {w : World} {s : Nat} {rv ov : List Value} {W H X Y : Int} (h : Scr w s rv ov W H X Y) (k : Nat) (hk : k < 1024) (u : Value) : Scr (w.setCell ⟨s, 1024 + k, none⟩ u) s rv (ov.set k u) W H X Y := by
  refine ⟨?_, h.lr, by rw [List.length_set]; exact h.lo⟩
  have h1 := h.blk.set (1024 + k) u
  rw [List.set_append_right _ _ (by rw [h.lr]; omega), h.lr, show 1024 + k - 1024 = k by omega, List.set_append_left _ _ (by rw [h.lo]; exact hk)] at h1
  exact h1
/-- the olds' slices when k rows are done -/
def oldK (osn os : List Nat) (W : Nat) : List Value := osn.map (fun o => Value.slice (some ⟨o, 0, none⟩) W W) ++ (oldRows os W).drop osn.length
theorem oldRows_length (os : List Nat) (W : Nat) (h : os.length ≤ 1024) : (oldRows os W).length = 1024 := by
  unfold oldRows; simp; omega
theorem oldK_put (osn os : List Nat) (W o : Nat) (h : os.length ≤ 1024) (hn : osn.length < 1024) : (oldK osn os W).set osn.length (.slice (some ⟨o, 0, none⟩) W W) = oldK (osn ++ [o]) os W := by
  unfold oldK
  have hl := oldRows_length os W h
  rw [List.set_append_right _ _ (by simp), List.length_map, Nat.sub_self, List.map_append, List.length_append, List.length_singleton, List.drop_eq_getElem_cons (by omega), List.set_cons_zero, List.append_assoc]
  rfl
theorem oldK_nil (os : List Nat) (W : Nat) : oldK [] os W = oldRows os W := by unfold oldK; simp
theorem oldK_end (osn os : List Nat) (W H : Nat) (h : osn.length = H) (ho : os.length ≤ H) (hH : H ≤ 1024) : oldK osn os W = oldRows osn W := by
  unfold oldK oldRows
  congr 1
  rw [List.drop_append, List.drop_of_length_le (by simp; omega), List.nil_append, List.drop_replicate, List.length_map]
  congr 1
  omega
theorem Sm.osl {w : World} {s base : Nat} {os : List Nat} {S : Sc} (h : Sm w s base os S) : os.length ≤ S.H := by
  cases ho : S.old with
  | none => rw [h.non ho]; simp
  | some l => rw [(h.olds l ho).1]; exact Nat.le_refl _
set_option maxRecDepth 20000 in
set_option maxHeartbeats 4000000 in
theorem done_any (s base : Nat) (os : List Nat) (S : Sc) (w : World) (h : Sm w s base os S) :
    Calls Try.prog 15 #[.pointer (some ⟨s, 0, none⟩)] w fun e w' => e = .returned (.tuple #[]) ∧ ∃ osn, Sm w' s base osn { S with old := some S.rows } ∧ Stay [s] w w' ∧ ∀ o ∈ osn, w.heap.size ≤ o := by
  have HS0 := Lib.hid h
  have hW0 := h.ok.w
  have hH0 := h.ok.h
  obtain ⟨W, hWe⟩ : ∃ W, W = S.W := ⟨_, rfl⟩
  obtain ⟨H, hHe⟩ : ∃ H, H = S.H := ⟨_, rfl⟩
  have HWe := Lib.hid hWe
  have HHe := Lib.hid hHe
  have HOl := Lib.hid h.osl
  have c2049 := h.scr.h_
  rw [← hWe] at hW0
  rw [← hHe] at c2049 hH0
  have hH0' : (H : Int) ≤ 1024 := by omega
  have hH1' : (0 : Int) ≤ H := by omega
  have hlt := h.scr.lt
  clear hWe hHe h
  go_enter Try.func15, Try.ntmps15
  go_wp2_with fail
  go_quiet (fail)
  go_wp2_with fail
  go_loopw [17] (fun yv wr => ∃ (k : Nat) (osn : List Nat), k ≤ H ∧ yv = .int .i64 k ∧ Hid (osn.length = k) ∧ Hid (Scr wr s (newRows base S.W S.H) (oldK osn os S.W) S.W S.H S.X S.Y) ∧ Hid (∀ (y o : Nat) (r : List Ce), osn[y]? = some o → S.rows[y]? = some r → Blk wr o (lookRow r) 78) ∧
    Hid (∀ o ∈ osn, w.heap.size ≤ o) ∧ Hid (Stay [s] w wr)) (fun yv _ => H - (intOf yv).toNat)
  case atStart =>
    refine ⟨0, [], by omega, rfl, rfl, ?_, fun y o r h => by simp at h, fun o h => by simp at h, (Stay.refl _ _).drewN'⟩
    show Scr _ _ _ _ _ _ _ _
    rw [oldK_nil]
    exact HS0.out.scr.stay (F := []) (Stay.drewN _ _) (by simp)
  case round =>
    obtain ⟨k, osn, hk, rfl, HKl, HSc, HBo, HGe, HTk⟩ := hrel
    by_cases hlt2 : k < H
    · have hlt' : (k : Int) < H := by omega
      have hk0 : (0 : Int) ≤ k := by omega
      have hk1 : (k : Int) < 1024 := by omega
      obtain ⟨i78, hi78, hz780, hz781, hz782⟩ := info_parts info78
      have hW1 : (0 : Int) ≤ W := by omega
      have hmk : ∀ w, (Instr.makeSlice 64 (.int .i64 W) (.int .i64 W)).run Try.prog w = .ok (.slice (some ⟨w.heap.size, 0, none⟩) W W) (w.alloc (.cells (lookRow (List.replicate W Ce.zero)).toArray 78)) := by
        intro w
        have hr := run_make (P := Try.prog) w 64 78 i78 _ Try.underlying64 hi78 hz780 .i64 .i64 W W hW1 (Int.le_refl _) (by rw [hz782]; omega) (by omega)
        simp only [Int.toNat_natCast, hz781] at hr
        exact hr.trans (by rw [← made78])
      clear hi78 hz780 hz781 hz782
      have hkH : k < S.H := by rw [← HHe.out]; omega
      have hsb := HS0.out.sep
      have HRow := Lib.hid (HS0.out.rowAt k hkH)
      obtain ⟨r, hr, hrl, hrp, hrb⟩ := HRow.out
      have hrl' : r.length = W := hrl.trans HWe.out.symm
      have hblt := hrb.lt
      have HRb := Lib.hid (hrb.stay HTk.out (by simp; omega))
      have hcell : wr.cell? ⟨s, k, none⟩ = some (.slice (some ⟨base + k, 0, none⟩) W W) := by
        rw [HSc.out.row k (by omega), newRows_at _ _ _ _ hkH HS0.out.ok.h, ← HWe.out]
      have HR := Lib.hid (And.intro hr hrl')
      obtain ⟨u, hu⟩ : ∃ u, wr.cell? ⟨s, 1024 + k, none⟩ = some u := ⟨_, (HSc.out.old k (by omega)).trans (List.getElem?_eq_getElem (by rw [HSc.out.lo]; omega))⟩
      have hfr := HSc.out.free (1024 + k)
      have hlts := HSc.out.lt
      clear hr hrl hrp hrb hrl' HRow
      go_wp2_with fail
      go_region
      obtain ⟨o, ho⟩ : ∃ o, o = wr.heap.size := ⟨_, rfl⟩
      rw [← ho]
      have HSc6 := Lib.hid (show Scr ((wr.setCell ⟨s, 1024 + k, none⟩ (.slice (some ⟨o, 0, none⟩) W W)).alloc (.cells (lookRow (List.replicate W Ce.zero)).toArray 78)).drew s (newRows base S.W S.H) (oldK (osn ++ [o]) os S.W) S.W S.H S.X S.Y from by
        have h1 := HSc.out.putOld k (by omega) (.slice (some ⟨o, 0, none⟩) W W)
        have h2 := oldK_put osn os S.W o (by have := HOl.out; have := HS0.out.ok.h; omega) (by rw [HKl.out]; omega)
        rw [HKl.out, ← HWe.out] at h2
        rw [← HWe.out] at h1 ⊢
        rw [h2] at h1
        exact (h1.stay (F := []) (Stay.alloc _ _) (by simp)).stay (F := []) (Stay.drew _) (by simp))
      have HT6 := Lib.hid (((Stay.setCell (F := [s]) wr ⟨s, 1024 + k, none⟩ (.slice (some ⟨o, 0, none⟩) W W) (by simp)).alloc' (o := .cells (lookRow (List.replicate W Ce.zero)).toArray 78)).drew')
      have HB6 := Lib.hid (show Blk ((wr.setCell ⟨s, 1024 + k, none⟩ (.slice (some ⟨o, 0, none⟩) W W)).alloc (.cells (lookRow (List.replicate W Ce.zero)).toArray 78)).drew o (lookRow (takeZ r 0)) 78 from by
        have h1 := Blk.new (wr.setCell ⟨s, 1024 + k, none⟩ (.slice (some ⟨o, 0, none⟩) W W)) (lookRow (List.replicate W Ce.zero)) 78
        have h2 : (wr.setCell ⟨s, 1024 + k, none⟩ (.slice (some ⟨o, 0, none⟩) W W)).heap.size = o := by rw [ho]; simp [World.setCell]
        rw [h2] at h1
        have h3 : takeZ r 0 = List.replicate W Ce.zero := by unfold takeZ; simp [HR.out.2]
        rw [h3]
        exact h1.stay (F := []) (Stay.drew _) (by simp))
      have HRb6 := Lib.hid (HRb.out.stay HT6.out (by simp; omega))
      have HOw := Lib.hid (show w.heap.size ≤ o from by rw [ho]; exact HTk.out.size)
      have HOr := Lib.hid (show base + k ≠ o from by have := HRb.out.lt; omega)
      have HOs := Lib.hid (show s ≠ o from by omega)
      have HOo := Lib.hid (show o = wr.heap.size from ho)
      have HBo6 := Lib.hid (show ∀ (y o' : Nat) (r' : List Ce), osn[y]? = some o' → S.rows[y]? = some r' → Blk ((wr.setCell ⟨s, 1024 + k, none⟩ (.slice (some ⟨o, 0, none⟩) W W)).alloc (.cells (lookRow (List.replicate W Ce.zero)).toArray 78)).drew o' (lookRow r') 78 ∧ o' ≠ o from fun y o' r' h1 h2 => by
        have h3 := HBo.out y o' r' h1 h2
        have h4 := HGe.out o' (List.mem_of_getElem? h1)
        have h5 := h3.lt
        exact ⟨h3.stay HT6.out (by simp; omega), by omega⟩)
      have HTk6 := Lib.hid (HTk.out.trans HT6.out)
      clear hu hfr ho hcell hmk
      generalize ((wr.setCell ⟨s, 1024 + k, none⟩ (.slice (some ⟨o, 0, none⟩) W W)).alloc (.cells (lookRow (List.replicate W Ce.zero)).toArray 78)).drew = W6 at *
      go_wp2_with fail
      go_loopw [32] (fun xv wx => ∃ x : Nat, x ≤ W ∧ xv = .int .i64 x ∧ Hid (Blk wx o (lookRow (takeZ r x)) 78) ∧ Hid (Stay [o] W6 wx)) (fun xv _ => W - (intOf xv).toNat)
      case atStart => exact ⟨0, by omega, rfl, HB6.out, Stay.refl _ _⟩
      case round =>
        obtain ⟨x, hx, rfl, HBx, HTx⟩ := hrel
        by_cases hxl : x < W
        · have hxl' : (x : Int) < W := by omega
          have hx0 : (0 : Int) ≤ x := by omega
          have HRx := Lib.hid (HRb6.out.stay HTx.out (by have := HOr.out; simpa using this))
          have hcl : ∀ (j : Nat) (v : Value), (r[x]'(by rw [HR.out.2]; exact hxl)).cells[j]? = some v → wr.cell? ⟨base + k, x * 6 + j, none⟩ = some v := fun j v hj => by
            rw [HRx.out.cell, rowCells_at r x (by rw [HR.out.2]; exact hxl) j (by have := (List.getElem?_eq_some_iff.1 hj).1; exact this), hj]
          have c0 := hcl 0 _ rfl
          rw [Nat.add_zero] at c0
          have c1 := hcl 1 _ rfl
          have c2 := hcl 2 _ rfl
          have c3 := hcl 3 _ rfl
          have c4 := hcl 4 _ rfl
          have c5 := hcl 5 _ rfl
          have HP := Lib.hid (show (takeZ r x).set x (r[x]'(by rw [HR.out.2]; exact hxl)) = takeZ r (x + 1) from takeZ_step r x (by rw [HR.out.2]; exact hxl))
          obtain ⟨ce, hce⟩ : ∃ ce, ce = r[x]'(by rw [HR.out.2]; exact hxl) := ⟨_, rfl⟩
          rw [← hce] at c0 c1 c2 c3 c4 c5 HP
          have HLk := Lib.hid (lookRow_set (takeZ r x) x ce (by rw [takeZ_length r x (by rw [HR.out.2]; exact hx), HR.out.2]; exact hxl))
          rw [HP.out] at HLk
          have HOf := Lib.hid (of_any ce)
          unfold Ce.agg Ce.lagg at HOf
          clear hce hcl
          obtain ⟨tx, pa, at_, le, ri, st⟩ := ce
          simp only at c0 c1 c2 c3 c4 c5
          change Hid (∀ w, Calls Try.prog 42 #[.agg #[.string tx, .int .i8 pa, .int .i64 at_, .int .i64 le, .bool ri, .int .u16 st]] w fun e w' => e = .returned (.agg #[.string tx, .int .i8 pa, .int .u16 st]) ∧ Stay [] w w') at HOf
          change Hid ((((lookRow (takeZ r x)).set (x * 3) (.string tx)).set (x * 3 + 1) (.int .i8 pa)).set (x * 3 + 2) (.int .u16 st) = lookRow (takeZ r (x + 1))) at HLk
          go_wp2_with fail
          clear c0 c1 c2 c3 c4 c5
          have hoK : (oldK (osn ++ [o]) os S.W)[k]? = some (.slice (some ⟨o, 0, none⟩) W W) := by
            have h1 := HKl.out
            unfold oldK
            rw [List.map_append, List.append_assoc, List.getElem?_append_right (by simp; omega), List.length_map, h1, Nat.sub_self, ← HWe.out]
            rfl
          have HT7 := Lib.hid (HTx.out.alloc' (o := .cells #[.string tx, .int .i8 pa, .int .i64 at_, .int .i64 le, .bool ri, .int .u16 st] 49))
          have HB7 := Lib.hid (HBx.out.stay (F := []) (Stay.alloc wr (.cells #[.string tx, .int .i8 pa, .int .i64 at_, .int .i64 le, .bool ri, .int .u16 st] 49)) (by simp))
          have b0 := box_cell wr #[.string tx, .int .i8 pa, .int .i64 at_, .int .i64 le, .bool ri, .int .u16 st] 49 0 (.string tx) rfl
          have b1 := box_cell wr #[.string tx, .int .i8 pa, .int .i64 at_, .int .i64 le, .bool ri, .int .u16 st] 49 1 (.int .i8 pa) rfl
          have b2 := box_cell wr #[.string tx, .int .i8 pa, .int .i64 at_, .int .i64 le, .bool ri, .int .u16 st] 49 2 (.int .i64 at_) rfl
          have b3 := box_cell wr #[.string tx, .int .i8 pa, .int .i64 at_, .int .i64 le, .bool ri, .int .u16 st] 49 3 (.int .i64 le) rfl
          have b4 := box_cell wr #[.string tx, .int .i8 pa, .int .i64 at_, .int .i64 le, .bool ri, .int .u16 st] 49 4 (.bool ri) rfl
          have b5 := box_cell wr #[.string tx, .int .i8 pa, .int .i64 at_, .int .i64 le, .bool ri, .int .u16 st] 49 5 (.int .u16 st) rfl
          have hso := (HSc6.out.stay HT7.out (by have := HOs.out; simpa using this)).old k (by omega)
          rw [hoK] at hso
          clear hoK
          obtain ⟨B7, hB7⟩ : ∃ B7, B7 = wr.heap.size := ⟨_, rfl⟩
          rw [← hB7] at b0 b1 b2 b3 b4 b5 ⊢
          clear hB7
          generalize wr.alloc (.cells #[.string tx, .int .i8 pa, .int .i64 at_, .int .i64 le, .bool ri, .int .u16 st] 49) = W7 at *
          have hxW : (x : Int) < W := hxl'
          have HAft : Hid (∀ w8, Stay [] W7.drew w8 → w8.cell? ⟨s, 1024 + k, none⟩ = some (.slice (some ⟨o, 0, none⟩) W W) ∧ Blk w8 o (lookRow (takeZ r x)) 78 ∧ Stay [o] W6 w8 ∧ w8.frozen? ⟨o, x * 3, none⟩ = false ∧ w8.frozen? ⟨o, x * 3 + 1, none⟩ = false ∧ w8.frozen? ⟨o, x * 3 + 2, none⟩ = false ∧
              (∃ v, w8.cell? ⟨o, x * 3, none⟩ = some v) ∧ (∃ v, w8.cell? ⟨o, x * 3 + 1, none⟩ = some v) ∧ ∃ v, w8.cell? ⟨o, x * 3 + 2, none⟩ = some v) := by
            show ∀ w8, _ → _
            intro w8 hst8
            have h1 := HB7.out.stay (F := []) (Stay.trans (Stay.drew _) hst8) (by simp)
            have h2 : ∀ j, j < W * 3 → ∃ v, w8.cell? ⟨o, j, none⟩ = some v := fun j hj =>
              ⟨_, (h1.cell j).trans (List.getElem?_eq_getElem (by rw [lookRow_length, takeZ_length r x (by rw [HR.out.2]; exact hx), HR.out.2]; omega))⟩
            exact ⟨by rw [← hso]; exact hst8.cell_ (by rw [show s = s from rfl]; exact (show s < W7.heap.size from (HSc6.out.stay HT7.out (by have := HOs.out; simpa using this)).lt)) (by simp), h1, HT7.out.trans (Stay.mono (Stay.trans (Stay.drew (F := []) _) hst8) (by simp)), h1.free _, h1.free _, h1.free _, h2 _ (by omega), h2 _ (by omega), h2 _ (by omega)⟩
          go_region_with (first
            | (go_at_call 42; refine (HOf.out _).mono ?_; rintro e w8 ⟨rfl, hst8⟩
               obtain ⟨hso8, hB8, hT8, z0, z1, z2, ⟨v0, y0⟩, ⟨v1, y1⟩, ⟨v2, y2⟩⟩ := HAft.out w8 hst8
               have HB8 := Lib.hid hB8
               have HT8 := Lib.hid hT8
               clear hst8 hB8 hT8))
          all_goals
            go_wp2_with fail
            go_roundw
            case rel =>
              refine ⟨x + 1, by omega, by go_num, ?_, ((HT8.out.set' (.inl (by simp))).set' (.inl (by simp))).set' (.inl (by simp))⟩
              show Blk _ _ _ _
              rw [← HLk.out]
              exact ((HB8.out.set _ _).set _ _).set _ _
            case measure => simp [intOf]; omega
        · have hx' : x = W := by omega
          have hxl' : ¬ (x : Int) < W := by omega
          have HBf := Lib.hid (show Blk wr o (lookRow r) 78 from by
            have h1 := HBx.out
            have h2 : takeZ r x = r := by unfold takeZ; rw [List.take_of_length_le (by rw [HR.out.2, hx']; exact Nat.le_refl _), HR.out.2, hx']; simp
            rw [h2] at h1
            exact h1)
          clear hx' HBx
          go_wp2_with fail
          go_roundw
          case rel =>
            refine ⟨k + 1, osn ++ [o], by omega, by go_num, ?_, HSc6.out.stay HTx.out (by have := HOs.out; simpa using this), ?_, ?_, HTk6.out.trans' HTx.out (by have := HOw.out; simp; omega)⟩
            · show _ = _
              rw [List.length_append, HKl.out]; rfl
            · intro y o' r' h1 h2
              by_cases e : y < k
              · rw [List.getElem?_append_left (by rw [HKl.out]; exact e)] at h1
                obtain ⟨h3, h4⟩ := HBo6.out y o' r' h1 h2
                exact h3.stay HTx.out (by simpa using h4)
              · have e2 : y = k := by
                  have := (List.getElem?_eq_some_iff.1 h1).1
                  rw [List.length_append, HKl.out] at this
                  simp at this
                  omega
                subst e2
                rw [List.getElem?_append_right (by rw [HKl.out]; exact Nat.le_refl _), HKl.out, Nat.sub_self] at h1
                simp at h1
                subst h1
                rw [HR.out.1] at h2
                injection h2 with h2
                subst h2
                exact HBf.out
            · intro o' ho'
              rcases List.mem_append.1 ho' with h | h
              · exact HGe.out o' h
              · simp at h
                subst h
                exact HOw.out
          case measure => simp [intOf]; omega
    · have hk' : k = H := by omega
      have hlt' : ¬ (k : Int) < H := by omega
      have HF := Lib.hid (show Sm wr s base osn { S with old := some S.rows } from by
        have hH : osn.length = S.H := by rw [HKl.out, hk', HHe.out]
        have h1 := HSc.out
        rw [oldK_end osn os S.W S.H hH HOl.out HS0.out.ok.h] at h1
        have hsb := HS0.out.sep
        refine ⟨h1, fun y r hr => (HS0.out.rows y r hr).stay HTk.out (by simp; omega), fun l hl => ?_, (fun h => by cases h), hsb, fun o ho => ?_, ⟨HS0.out.ok.w, HS0.out.ok.h, HS0.out.ok.len, HS0.out.ok.row, fun l hl => ?_⟩⟩
        · injection hl with hl
          subst hl
          exact ⟨hH, HBo.out⟩
        · have h2 := HGe.out o ho
          by_cases e : S.H = 0
          · have : osn = [] := List.eq_nil_of_length_eq_zero (by rw [hH, e])
            subst this
            cases ho
          · have h3 := HS0.out.lt (S.H - 1) (by omega)
            show base + S.H ≤ o
            omega
        · injection hl with hl
          subst hl
          exact ⟨HS0.out.ok.len, fun r hr => (HS0.out.ok.row r hr).1⟩)
      clear hk' HSc
      go_wp2_with fail
      exact bodyPost_end (v := .tuple #[]) (by simp [results, Try.results15, go_sem]) rfl ⟨rfl, osn, HF.out, HTk.out, HGe.out⟩
end Go.Proofs.Ytohkjopdoejedaa
