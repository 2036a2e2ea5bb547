/- package undo: New, Depth, Changed, Save; groups as chains of texts; the steps as they come in; same, beyond. -/
import Derived.Test.YtjoeebjmjnddoaaUbook
import Derived.Deep.DeepCutAuto
import Derived.Test.YtjoeebjmjnddoaaRopen2
namespace Go.Proofs.Ytjoeebjmjnddoaa
open Go.RowKit
set_option maxRecDepth 20000 in
set_option maxHeartbeats 4000000 in
theorem unew_any (rb : Nat) (t : Rp) (rs : Int) (w : World) (h : RopeAt w rb t rs) : Calls Try.prog 29 #[.pointer (some ⟨rb, 0, none⟩)] w fun e w' => e = .returned (.pointer (some ⟨w.heap.size, 0, none⟩)) ∧ Blk w' w.heap.size (bcells rb rs (.slice none 0 0) (.slice none 0 0) 0 0 0) 98 ∧ Stay [] w w' := by
  have HS := Lib.hid (stamp_any rb t rs w h)
  have HB := Lib.hid (Blk.new w (bcells rb rs (.slice none 0 0) (.slice none 0 0) 0 0 0) 98)
  have HT := Lib.hid (Stay.alloc (F := []) w (.cells (bcells rb rs (.slice none 0 0) (.slice none 0 0) 0 0 0).toArray 98))
  clear h
  go_enter Try.func29, Try.ntmps29
  go_wp2_with fail
  refine HS.out.mono ?_
  rintro e w' ⟨rfl, rfl⟩
  go_wp2_with fail
  go_ret
  exact ⟨rfl, HB.out, HT.out⟩
set_option maxRecDepth 20000 in
set_option maxHeartbeats 4000000 in
theorem unew_nil (w : World) : Calls Try.prog 29 #[.pointer none] w fun e w' => e = .returned (.pointer none) ∧ w' = w := by
  go_enter Try.func29, Try.ntmps29
  go_wp2_with fail
  go_ret
  exact ⟨rfl, rfl⟩
set_option maxRecDepth 20000 in
set_option maxHeartbeats 4000000 in
theorem depth_nil (w : World) : Calls Try.prog 30 #[.pointer none] w fun e w' => e = .returned (.tuple #[.int .i64 0, .int .i64 0]) ∧ w' = w := by
  go_enter Try.func30, Try.ntmps30
  go_wp2_with fail
  go_ret2
  exact ⟨rfl, rfl⟩
set_option maxRecDepth 20000 in
set_option maxHeartbeats 4000000 in
theorem undo_nil (w : World) : Calls Try.prog 33 #[.pointer none] w fun e w' => e = .returned (.tuple #[.slice none 0 0, .int .i64 1]) ∧ w' = w := by
  go_enter Try.func33, Try.ntmps33
  go_wp2_with fail
  go_ret2
  exact ⟨rfl, rfl⟩
set_option maxRecDepth 20000 in
set_option maxHeartbeats 4000000 in
theorem redo_nil (w : World) : Calls Try.prog 34 #[.pointer none] w fun e w' => e = .returned (.tuple #[.slice none 0 0, .int .i64 1]) ∧ w' = w := by
  go_enter Try.func34, Try.ntmps34
  go_wp2_with fail
  go_ret2
  exact ⟨rfl, rfl⟩
set_option maxRecDepth 20000 in
set_option maxHeartbeats 4000000 in
theorem changed_nil (w : World) : Calls Try.prog 35 #[.pointer none] w fun e w' => e = .returned (.bool false) ∧ w' = w := by
  go_enter Try.func35, Try.ntmps35
  go_wp2_with fail
  go_ret
  exact ⟨rfl, rfl⟩
set_option maxRecDepth 20000 in
set_option maxHeartbeats 4000000 in
theorem save_nil (w : World) : Calls Try.prog 36 #[.pointer none] w fun e w' => e = .returned (.tuple #[]) ∧ w' = w := by
  go_enter Try.func36, Try.ntmps36
  go_wp2_with fail
  exact bodyPost_ret (v := .tuple #[]) (by simp [results, Try.results36, go_sem]) rfl ⟨rfl, rfl⟩
set_option maxRecDepth 20000 in
set_option maxHeartbeats 4000000 in
theorem udo_nil (a d : Int) (s : ByteArray) (b : Bool) (w : World) : Calls Try.prog 31 #[.pointer none, .agg #[.int .i64 a, .int .i64 d, .string s], .bool b] w fun e w' => e = .returned (.int .i64 1) ∧ Stay [] w w' := by
  have HT := Lib.hid (Stay.alloc (F := []) w (.cells #[.int .i64 a, .int .i64 d, .string s] 37))
  go_enter Try.func31, Try.ntmps31
  go_wp2_with fail
  go_ret
  exact ⟨rfl, HT.out⟩
set_option maxRecDepth 20000 in
set_option maxHeartbeats 4000000 in
theorem depth_any (bb rb : Nat) (sp : Int) (DA UA : Option Addr) (dn un dc uc : Nat) (st sv gv : Int) (t : Rp) (w : World) (h : Blk w bb (bcells rb sp (.slice DA dn dc) (.slice UA un uc) st sv gv) 98) (hr : RopeAt w rb t sp) :
    Calls Try.prog 30 #[.pointer (some ⟨bb, 0, none⟩)] w fun e w' => e = .returned (.tuple #[.int .i64 dn, .int .i64 un]) ∧ Stay [] w w' := by
  have HL := Lib.hid (look_same bb rb sp _ _ st sv gv t w h hr)
  have c2 : w.cell? ⟨bb, 2, none⟩ = some (.slice DA dn dc) := h.cell 2
  have c3 : w.cell? ⟨bb, 3, none⟩ = some (.slice UA un uc) := h.cell 3
  clear h hr
  go_enter Try.func30, Try.ntmps30
  go_wp2_with fail
  refine HL.out.mono ?_
  rintro e w' ⟨rfl, hwe⟩
  rw [hwe]
  clear hwe
  have HT := Lib.hid (fun n => Stay.drewN (F := []) w n)
  have HT1 := Lib.hid (Stay.drew (F := []) w)
  go_wp2_with fail
  go_quiet (fail)
  all_goals
    go_wp2_with fail
    go_ret2
    first | exact ⟨rfl, HT1.out⟩ | exact ⟨rfl, HT.out _⟩
set_option maxRecDepth 20000 in
set_option maxHeartbeats 4000000 in
theorem changed_any (bb rb : Nat) (sp : Int) (dv uv : Value) (st sv gv : Int) (t : Rp) (w : World) (h : Blk w bb (bcells rb sp dv uv st sv gv) 98) (hr : RopeAt w rb t sp) :
    Calls Try.prog 35 #[.pointer (some ⟨bb, 0, none⟩)] w fun e w' => e = .returned (.bool (st != sv)) ∧ Stay [] w w' := by
  have HL := Lib.hid (look_same bb rb sp _ _ st sv gv t w h hr)
  have c4 : w.cell? ⟨bb, 4, none⟩ = some (.int .i64 st) := h.cell 4
  have c5 : w.cell? ⟨bb, 5, none⟩ = some (.int .i64 sv) := h.cell 5
  clear h hr
  go_enter Try.func35, Try.ntmps35
  go_wp2_with fail
  refine HL.out.mono ?_
  rintro e w' ⟨rfl, hwe⟩
  rw [hwe]
  clear hwe
  have HT := Lib.hid (fun n => Stay.drewN (F := []) w n)
  have HT1 := Lib.hid (Stay.drew (F := []) w)
  go_wp2_with fail
  go_quiet (fail)
  all_goals
    go_wp2_with fail
    go_ret
    first | exact ⟨rfl, HT1.out⟩ | exact ⟨rfl, HT.out _⟩
set_option maxRecDepth 20000 in
set_option maxHeartbeats 4000000 in
theorem save_any (bb rb : Nat) (sp : Int) (dv uv : Value) (st sv gv : Int) (t : Rp) (w : World) (h : Blk w bb (bcells rb sp dv uv st sv gv) 98) (hr : RopeAt w rb t sp) :
    Calls Try.prog 36 #[.pointer (some ⟨bb, 0, none⟩)] w fun e w' => e = .returned (.tuple #[]) ∧ w' = w.setCell ⟨bb, 5, none⟩ (.int .i64 st) := by
  have HL := Lib.hid (look_same bb rb sp _ _ st sv gv t w h hr)
  have c4 : w.cell? ⟨bb, 4, none⟩ = some (.int .i64 st) := h.cell 4
  have c5 : w.cell? ⟨bb, 5, none⟩ = some (.int .i64 sv) := h.cell 5
  have f5 := h.free 5
  clear h hr
  go_enter Try.func36, Try.ntmps36
  go_wp2_with fail
  refine HL.out.mono ?_
  rintro e w' ⟨rfl, hwe⟩
  rw [hwe]
  clear hwe
  go_wp2_with fail
  exact bodyPost_end (v := .tuple #[]) (by simp [results, Try.results36, go_sem]) rfl ⟨rfl, rfl⟩
end Go.Proofs.Ytjoeebjmjnddoaa
namespace Go.Proofs.Ytjoeebjmjnddoaa
open Go.RowKit
/-- the edits, last to first, take y back to x -/
def GT (ed : List Ed) (x y : List UInt8) : Prop := ∃ p : Nat → List UInt8, p 0 = x ∧ p ed.length = y ∧ ∀ k, k < ed.length → Undoes (ed.getD k zeroE) (p (k + 1)) (p k)
/-- the edits, first to last, take x to y -/
def RF (ed : List Ed) (x y : List UInt8) : Prop := ∃ p : Nat → List UInt8, p 0 = x ∧ p ed.length = y ∧ ∀ k, k < ed.length → Undoes (ed.getD k zeroE) (p k) (p (k + 1))
theorem GT.one {b : Ed} {x y : List UInt8} (h : Undoes b y x) : GT [b] x y := by
  refine ⟨fun k => if k = 0 then x else y, rfl, rfl, fun k hk => ?_⟩
  simp only [List.length_cons, List.length_nil] at hk
  obtain rfl : k = 0 := by omega
  exact h
theorem GT.more {ed : List Ed} {b : Ed} {x y z : List UInt8} (h : GT ed x y) (hb : Undoes b z y) : GT (ed ++ [b]) x z := by
  obtain ⟨p, h0, h1, h2⟩ := h
  refine ⟨fun k => if k ≤ ed.length then p k else z, by simp [h0], by rw [List.length_append, List.length_singleton]; exact if_neg (by omega), fun k hk => ?_⟩
  simp only [List.length_append, List.length_cons, List.length_nil] at hk
  by_cases e : k < ed.length
  · simp only [show k + 1 ≤ ed.length from e, show k ≤ ed.length by omega, if_true]
    rw [List.getD_eq_getElem?_getD, List.getElem?_append_left e, ← List.getD_eq_getElem?_getD]
    exact h2 k e
  · obtain rfl : k = ed.length := by omega
    simp only [show ¬ ed.length + 1 ≤ ed.length by omega, if_false, Nat.le_refl, if_true]
    rw [List.getD_eq_getElem?_getD, List.getElem?_append_right (Nat.le_refl _), Nat.sub_self]
    simpa [h1] using hb
/-- what Undo wants -/
theorem GT.undo {ed : List Ed} {x y : List UInt8} (h : GT ed x y) : ∃ cur : Nat → List UInt8, cur 0 = y ∧ cur ed.length = x ∧ (∀ k, k < ed.length → Undoes (ed.getD (ed.length - 1 - k) zeroE) (cur k) (cur (k + 1))) ∧
    ∀ ed' : List Ed, ed'.length = ed.length → (∀ k, k < ed.length → ∃ a, ed'[ed.length - 1 - k]? = some a ∧ UndB a (ed.getD (ed.length - 1 - k) zeroE) (cur (k + 1)) (cur k)) → RF ed' x y := by
  obtain ⟨p, h0, h1, h2⟩ := h
  refine ⟨fun k => p (ed.length - k), by simpa using h1, by simpa using h0, fun k hk => ?_, fun ed' hl ha => ⟨p, h0, by rw [hl]; exact h1, fun k hk => ?_⟩⟩
  · have := h2 (ed.length - 1 - k) (by omega)
    rw [show ed.length - 1 - k + 1 = ed.length - k by omega, show ed.length - 1 - k = ed.length - (k + 1) by omega] at this
    rw [show ed.length - 1 - k = ed.length - (k + 1) by omega]
    exact this
  · rw [hl] at hk
    obtain ⟨a, h3, h4, _⟩ := ha (ed.length - 1 - k) (by omega)
    rw [show ed.length - 1 - (ed.length - 1 - k) = k by omega] at h3
    rw [List.getD_eq_getElem?_getD, h3]
    simp only [show ed.length - (ed.length - 1 - k + 1) = k by omega, show ed.length - (ed.length - 1 - k) = k + 1 by omega] at h4
    exact h4
/-- what Redo wants -/
theorem RF.redo {ed : List Ed} {x y : List UInt8} (h : RF ed x y) : ∃ cur : Nat → List UInt8, cur 0 = x ∧ cur ed.length = y ∧ (∀ k, k < ed.length → Undoes (ed.getD k zeroE) (cur k) (cur (k + 1))) ∧
    ∀ ed' : List Ed, ed'.length = ed.length → (∀ k, k < ed.length → ∃ a, ed'[k]? = some a ∧ UndB a (ed.getD k zeroE) (cur (k + 1)) (cur k)) → GT ed' x y := by
  obtain ⟨p, h0, h1, h2⟩ := h
  refine ⟨p, h0, h1, h2, fun ed' hl ha => ⟨p, h0, by rw [hl]; exact h1, fun k hk => ?_⟩⟩
  rw [hl] at hk
  obtain ⟨a, h3, h4, _⟩ := ha k hk
  rw [List.getD_eq_getElem?_getD, h3]
  exact h4
/-- a group as Do, Undo, Redo keep it -/
structure GI (g : MG) : Prop where
  n0 : 0 < g.ed.length
  n1 : g.ed.length ≤ 1024
  y0 : 0 ≤ g.by_
  y1 : g.by_ ≤ g.ed.length * 1048576
theorem byt_le : ∀ (D : List MG), (∀ g ∈ D, GI g) → byt D ≤ chg D * 1048576
  | [], _ => by simp [byt, chg]
  | g :: D, h => by
    rw [byt_cons, chg_cons]
    have h1 := (h g (by simp)).y1
    have h2 := byt_le D (fun x hx => h x (by simp [hx]))
    push_cast
    omega
theorem chg_ge : ∀ (D : List MG), (∀ g ∈ D, GI g) → D.length ≤ chg D
  | [], _ => by simp
  | g :: D, h => by
    rw [chg_cons, List.length_cons]
    have h1 := (h g (by simp)).n0
    have h2 := chg_ge D (fun x hx => h x (by simp [hx]))
    omega
/-- the groups done lie between the last texts -/
def DT (D : List MG) (T : List (List UInt8)) : Prop := D.length + 1 ≤ T.length ∧ ∀ i (hi : i < D.length), GT D[i].ed (T.getD (T.length - 1 - D.length + i) []) (T.getD (T.length - D.length + i) [])
theorem DT.drop {D : List MG} {T : List (List UInt8)} (h : DT D T) (j : Nat) (hj : j ≤ D.length) : DT (D.drop j) T := by
  obtain ⟨h1, h2⟩ := h
  refine ⟨by rw [List.length_drop]; omega, fun i hi => ?_⟩
  rw [List.length_drop] at hi
  have h3 := h2 (j + i) (by omega)
  rw [List.getElem_drop, List.length_drop]
  rw [show T.length - 1 - (D.length - j) + i = T.length - 1 - D.length + (j + i) by omega, show T.length - (D.length - j) + i = T.length - D.length + (j + i) by omega]
  exact h3
theorem DT.push {D : List MG} {T : List (List UInt8)} (h : DT D T) {g : MG} {z : List UInt8} (hg : GT g.ed (T.getD (T.length - 1) []) z) : DT (D ++ [g]) (T ++ [z]) := by
  obtain ⟨h1, h2⟩ := h
  refine ⟨by simp; omega, fun i hi => ?_⟩
  rw [List.length_append, List.length_singleton] at hi
  simp only [List.length_append, List.length_singleton]
  by_cases e : i < D.length
  · rw [List.getElem_append_left e]
    have h3 := h2 i e
    rw [show T.length + 1 - 1 - (D.length + 1) + i = T.length - 1 - D.length + i by omega, show T.length + 1 - (D.length + 1) + i = T.length - D.length + i by omega]
    rw [List.getD_eq_getElem?_getD, List.getElem?_append_left (by omega), ← List.getD_eq_getElem?_getD, List.getD_eq_getElem?_getD (l := T ++ [z]), List.getElem?_append_left (by omega), ← List.getD_eq_getElem?_getD]
    exact h3
  · obtain rfl : i = D.length := by omega
    rw [List.getElem_append_right (Nat.le_refl _)]
    simp only [Nat.sub_self, List.getElem_cons_zero]
    rw [show T.length + 1 - 1 - (D.length + 1) + D.length = T.length - 1 by omega, show T.length + 1 - (D.length + 1) + D.length = T.length by omega]
    rw [List.getD_eq_getElem?_getD, List.getElem?_append_left (by omega), ← List.getD_eq_getElem?_getD, List.getD_eq_getElem?_getD (l := T ++ [z]), List.getElem?_append_right (Nat.le_refl _), Nat.sub_self]
    exact hg
theorem DT.grow {D : List MG} {T : List (List UInt8)} {g g' : MG} {z : List UInt8} (h : DT (D ++ [g]) T) (hg : ∀ x y, GT g.ed x y → y = T.getD (T.length - 1) [] → GT g'.ed x z) : DT (D ++ [g']) (T.set (T.length - 1) z) := by
  obtain ⟨h1, h2⟩ := h
  simp only [List.length_append, List.length_singleton] at h1 h2
  refine ⟨by simp; omega, fun i hi => ?_⟩
  rw [List.length_append, List.length_singleton] at hi
  have h3 := h2 i hi
  simp only [List.length_append, List.length_singleton, List.length_set]
  by_cases e : i < D.length
  · rw [List.getElem_append_left e] at h3 ⊢
    rw [List.getD_eq_getElem?_getD, List.getElem?_set_ne (by omega), ← List.getD_eq_getElem?_getD, List.getD_eq_getElem?_getD (l := T.set _ _), List.getElem?_set_ne (by omega), ← List.getD_eq_getElem?_getD]
    exact h3
  · obtain rfl : i = D.length := by omega
    rw [List.getElem_append_right (Nat.le_refl _)] at h3 ⊢
    simp only [Nat.sub_self, List.getElem_cons_zero] at h3 ⊢
    rw [show T.length - (D.length + 1) + D.length = T.length - 1 by omega] at h3 ⊢
    have h4 := hg _ _ h3 rfl
    rw [List.getD_eq_getElem?_getD, List.getElem?_set_ne (by omega), ← List.getD_eq_getElem?_getD, List.getD_eq_getElem?_getD (l := T.set _ _), List.getElem?_set_self (by omega)]
    exact h4
end Go.Proofs.Ytjoeebjmjnddoaa
namespace Go.Proofs.Ytjoeebjmjnddoaa
open Go.RowKit Go.ChangeShapes
theorem cellsOf59 : Try.prog.cellsOf 59 = 1 := by kernel_rfl
theorem bytesOf65 : Try.prog.bytesOf 65 = 48 := by kernel_rfl
section
variable {H : Type} {enc : TypeId × Value → H} {w : World} {spare : Nat → Bool} {held : Bool}
set_option maxRecDepth 100000 in
theorem open_ustep {n : Nat} {cs : List Value} {y : DataW H × List MemPlace} (h : DataW.trod enc Try.prog w 0 spare held n 65 cs = some y) : ∃ s : USt, cs = s.cells ∧ s.OK := by
  obtain ⟨xs, m, _, _, hl, hxl, hg⟩ := DataW.trod_struct Try.underlying65 h
  rw [cellsOf65] at hl
  obtain ⟨w0, w1, w2, w3, w4, rfl⟩ : ∃ w0 w1 w2 w3 w4, cs = [w0, w1, w2, w3, w4] := by
    match cs, hl with
    | [w0, w1, w2, w3, w4], _ => exact ⟨w0, w1, w2, w3, w4, rfl⟩
  obtain ⟨y0, y1, y2, rfl⟩ : ∃ y0 y1 y2, xs = [y0, y1, y2] := by
    match xs, hxl with
    | [y0, y1, y2], _ => exact ⟨y0, y1, y2, rfl⟩
  have g0 : DataW.trod enc Try.prog w 0 spare held m 3 (List.take (Try.prog.cellsOf 3) [w0, w1, w2, w3, w4]) = some y0 := hg 0 _ rfl
  have g1 : DataW.trod enc Try.prog w 0 spare held m 37 (List.take (Try.prog.cellsOf 37) [w1, w2, w3, w4]) = some y1 := hg 1 _ rfl
  have g2 : DataW.trod enc Try.prog w 0 spare held m 4 (List.take (Try.prog.cellsOf 4) [w4]) = some y2 := hg 2 _ rfl
  rw [cellsOf3] at g0
  rw [cellsOf4] at g2
  rw [cellsOf37] at g1
  obtain ⟨i0, e0, _, h0⟩ := DataW.trod_int Try.underlying3 g0
  obtain ⟨ed, e1, h1⟩ := open_edit g1
  obtain ⟨i2, e2, _⟩ := DataW.trod_bool Try.underlying4 g2
  obtain rfl : w0 = .int .i64 i0 := by injection e0
  obtain rfl : w4 = .bool i2 := by injection e2
  have e1' : [w1, w2, w3] = ed.cells := e1
  obtain ⟨ea, ed', es⟩ := ed
  simp only [Ed.cells] at e1'
  injection e1' with f1 e1'
  injection e1' with f2 e1'
  injection e1' with f3 _
  subst f1 f2 f3
  exact ⟨⟨i0, ⟨ea, ed', es⟩, i2⟩, rfl, i64_wf h0, h1⟩
set_option maxRecDepth 100000 in
theorem open_usteps {n : Nat} {cs : List Value} {y : DataW H × List MemPlace} (h : DataW.trod enc Try.prog w 0 spare held n 59 cs = some y) (hw : ∀ x ∈ y.1.weights Try.prog 59, x ≤ reachBytes) :
    ∃ A c, ∃ L : List USt, cs = [.slice A L.length c] ∧ Sl w w.heap.size A (L.flatMap USt.cells) ∧ L.length ≤ c ∧ c ≤ maxLen ∧ (∀ e ∈ L, e.OK) ∧ L.length * 48 ≤ reachBytes := by
  rcases DataW.trod_slice Try.underlying59 h with ⟨rfl, _⟩ | ⟨a, len, cap, elems, rest, m, _, rfl, rfl, _, hl, hm, hlen, hel, _, _⟩
  · exact ⟨none, 0, [], rfl, Sl.nil_ _ _ _, Nat.le_refl _, by simp [maxLen], (fun e he => by cases he), by simp⟩
  · rw [cellsOf65] at hel
    obtain ⟨L, hL, hp⟩ := list_of (α := USt) (p := fun i e => e.OK ∧ ∀ j, j < 5 → w.cell? ((a.add (i * 5)).add j) = e.cells[j]?) len fun i hi => by
      have h1 := hel i hi
      have h2 : i < elems.length := by omega
      rw [List.getElem?_eq_getElem h2] at h1
      obtain ⟨cs', hc, ht⟩ := Option.bind_eq_some_iff.1 h1
      obtain ⟨e, rfl, he⟩ := open_ustep ht
      exact ⟨e, he, (cells_at hc).2⟩
    subst hL
    refine ⟨some a, cap, L, rfl, sl_of_rows USt.cells 5 (by omega) USt.len L fun i hi => (hp i hi).2, hl, hm, ?_, ?_⟩
    · intro e he
      obtain ⟨i, hi, rfl⟩ := List.mem_iff_getElem.1 he
      exact (hp i hi).1
    · have := hw ((elems.map (·.1)).length * 48 + (rest.map (·.1)).length * 48) (by simp only [DataW.weights, Try.underlying59, bytesOf65]; rw [← Nat.add_mul]; simp)
      simp only [List.length_map] at this
      omega
end
/-- the cells of the step k -/
theorem usteps_at {w : World} {B : Nat} {A : Option Addr} {L : List USt} (h : Sl w B A (L.flatMap USt.cells)) (k : Nat) (hk : k < L.length) : ∃ b o, A = some ⟨b, o, none⟩ ∧ b < B ∧ ∀ j u, L[k].cells[j]? = some u → w.cell? ⟨b, o + (k * 5 + j), none⟩ = some u := by
  have key : ∀ j u, L[k].cells[j]? = some u → (L.flatMap USt.cells)[k * 5 + j]? = some u := fun j u hj => by
    have hj3 : j < 5 := by
      have := (List.getElem?_eq_some_iff.1 hj).1
      rwa [USt.len] at this
    rw [flat_at USt.cells 5 USt.len L k hk j hj3]; exact hj
  obtain ⟨ad, e, hb, hc⟩ := h _ _ (key 0 _ rfl)
  have : ∃ b o, ad = ⟨b, o, none⟩ := by
    obtain ⟨b', o', sp⟩ := ad
    cases sp with
    | none => exact ⟨b', o', rfl⟩
    | some x =>
      obtain ⟨ad0, e0, hb0, hc0⟩ := h 0 ((L[0]'(by omega)).cells[0]'(by rw [USt.len]; omega)) (by
        have := flat_at USt.cells 5 USt.len L 0 (by omega) 0 (by omega)
        rw [Nat.zero_mul, Nat.add_zero] at this
        rw [this]; simp)
      rw [e] at e0
      injection e0 with e0
      subst e0
      exact plain_addr (show w.cell? ⟨b', o', some x⟩ = some _ from hc0)
  obtain ⟨b, o, rfl⟩ := this
  subst e
  refine ⟨b, o, rfl, hb, fun j u hj => ?_⟩
  obtain ⟨ad2, e2, _, hc2⟩ := h _ _ (key j u hj)
  injection e2 with e2
  subst e2
  rw [add_lit'] at hc2
  exact hc2
end Go.Proofs.Ytjoeebjmjnddoaa
namespace Go.Proofs.Ytjoeebjmjnddoaa
open Go.RowKit
set_option maxRecDepth 20000 in
set_option maxHeartbeats 8000000 in
theorem same_yes (B : Nat) (l : List Ed) (A1 A2 : Option Addr) (c1 c2 : Nat) (w : World) (hl : l.length ≤ 4096) (h1 : Win w B 37 3 A1 l.length c1 (eds l)) (h2 : Win w B 37 3 A2 l.length c2 (eds l)) :
    Calls Try.prog 37 #[.slice A1 l.length c1, .slice A2 l.length c2] w fun e w' => e = .returned (.bool true) ∧ Stay [] w w' := by
  have HC := Lib.hid (show ∀ u, Stay [] w u → ∀ k, k < l.length → ∃ (a b c d : Nat) (x y : Int) (s : ByteArray), A1 = some ⟨a, b, none⟩ ∧ A2 = some ⟨c, d, none⟩ ∧ (u.cell? ⟨a, b + k * 3, none⟩ = some (.int .i64 x) ∧ u.cell? ⟨a, b + k * 3 + 1, none⟩ = some (.int .i64 y) ∧ u.cell? ⟨a, b + k * 3 + 2, none⟩ = some (.string s)) ∧ (u.cell? ⟨c, d + k * 3, none⟩ = some (.int .i64 x) ∧ u.cell? ⟨c, d + k * 3 + 1, none⟩ = some (.int .i64 y) ∧ u.cell? ⟨c, d + k * 3 + 2, none⟩ = some (.string s)) from fun u hu k hk => by
    obtain ⟨a, b, rfl⟩ := h1.addr (by omega)
    obtain ⟨c, d, rfl⟩ := h2.addr (by omega)
    exact ⟨a, b, c, d, l[k].a, l[k].d, l[k].s, rfl, rfl, win_ed (h1.stay0 hu) k l[k] (by simp [hk]), win_ed (h2.stay0 hu) k l[k] (by simp [hk])⟩)
  obtain ⟨n, hn⟩ : ∃ n, n = l.length := ⟨_, rfl⟩
  rw [← hn] at HC hl ⊢
  clear h1 h2 hn
  go_enter Try.func37, Try.ntmps37
  go_wp2_with fail
  go_loopw [13] (fun i wr => ∃ k m : Nat, k ≤ n ∧ i = .int .i64 k ∧ wr = w.drewN m)
    (fun i _ => n - (intOf i).toNat)
  case atStart => exact ⟨0, 0, by omega, rfl, rfl⟩
  case round =>
    obtain ⟨k, m, hk, rfl, hw⟩ := hrel
    have hst : Stay [] w wr := by rw [hw]; exact Stay.drewN _ _
    by_cases hlt : k < n
    · obtain ⟨a, b, c, d, x, y, s, rfl, rfl, ⟨p0, p1, p2⟩, q0, q1, q2⟩ := HC.out wr hst k hlt
      have HW := Lib.hid hw
      have hlt' : (k : Int) < n := by omega
      have hk0 : (0 : Int) ≤ k := by omega
      clear hst hw HC
      go_wp2_with fail
      go_quiet (fail)
      go_wp2_with fail
      go_roundw
      case rel => exact ⟨k + 1, m + nq, by omega, by go_num, by rw [HW.out, World.drewN_drewN]⟩
      case measure => simp [intOf]; omega
    · have hk' : k = n := by omega
      subst hk'
      have HS := Lib.hid hst
      clear hw hst
      go_wp2_with fail
      go_ret
      exact ⟨rfl, HS.out⟩
def Beyo (n : Nat) (w : World) (e : Ending) (w' : World) : Prop := ∃ b, e = .returned (.bool b) ∧ (b = false → n ≤ 1300) ∧ Stay [] w w'
theorem Beyo.of {n : Nat} {w w' : World} (b : Bool) (h : b = false → n ≤ 1300) (hs : Stay [] w w') : Beyo n w (.returned (.bool b)) w' := ⟨b, rfl, h, hs⟩
set_option maxRecDepth 20000 in
set_option maxHeartbeats 8000000 in
/-- beyond: what it says of the number of calls -/
theorem beyond_any (text : ByteArray) (A : Option Addr) (c : Nat) (L : List USt) (w : World) (hsl : Sl w w.heap.size A (L.flatMap USt.cells)) (hlc : L.length ≤ maxLen) :
    Calls Try.prog 27 #[.string text, .slice A L.length c] w (Beyo L.length w) := by
  have HC := Lib.hid (show ∀ u, Stay [] w u → ∀ k, k < L.length → ∃ (b o : Nat) (s : ByteArray), A = some ⟨b, o, none⟩ ∧ u.cell? ⟨b, o + k * 5 + 1 + 2, none⟩ = some (.string s) from fun u hu k hk => by
    obtain ⟨b, o, rfl, hb, key⟩ := usteps_at hsl k hk
    have h3 := key 3 _ rfl
    refine ⟨b, o, L[k].e.s, rfl, ?_⟩
    rw [show o + k * 5 + 1 + 2 = o + (k * 5 + 3) by omega]
    exact (hu.cell_ (a := ⟨b, _, none⟩) hb (by simp)).trans h3)
  obtain ⟨n, hn⟩ : ∃ n, n = L.length := ⟨_, rfl⟩
  rw [← hn] at HC hlc ⊢
  have hnm : (n : Int) ≤ 9223372036854775807 := by simp only [maxLen] at hlc; omega
  clear hsl hn hlc
  go_enter Try.func27, Try.ntmps27
  go_wp2_with fail
  go_loopw [5, 11] (fun nv i wr => ∃ (k : Nat) (x : Int), k ≤ n ∧ i = .int .i64 k ∧ nv = .int .i64 x ∧ Hid (Stay [] w wr))
    (fun _ i _ => n - (intOf i).toNat)
  case atStart => exact ⟨0, _, by omega, rfl, rfl, Stay.refl _ _⟩
  case round =>
    obtain ⟨k, x, hk, rfl, rfl, HS⟩ := hrel
    by_cases hlt : k < n
    · obtain ⟨b, o, s, rfl, p0⟩ := HC.out wr HS.out k hlt
      have hlt' : (k : Int) < n := by omega
      have hk0 : (0 : Int) ≤ k := by omega
      clear HC
      go_wp2_with fail
      · go_ret
        exact Beyo.of true (fun h => by cases h) HS.out
      · go_roundw
        case rel => exact ⟨k + 1, _, by omega, by go_num, rfl, HS⟩
        case measure => simp [intOf]; omega
    · have hk' : k = n := by omega
      subst hk'
      clear HC
      go_wp2_with fail
      all_goals
        go_ret
        refine Beyo.of _ (fun h => ?_) HS.out
        simp at h <;> omega
end Go.Proofs.Ytjoeebjmjnddoaa
