/- shuttlelaw24: alive. -/
import Derived.Test.YtohkjopdoejedaaGalive0
namespace Go.Proofs.Ytohkjopdoejedaa
open Go.RowKit
theorem Blk.cat' {w : World} {b : Nat} {l : List Ce} {t : TypeId} (h : Blk w b (rowCells l) t) : CAt w b 0 l := Blk.cat (L := rowCells l) (by rw [lay_whole l l rfl]; exact h) (by rw [rowCells_length]; omega)
theorem foot_lt {w : World} {s base : Nat} {os : List Nat} {S : Sc} (h : Sm w s base os S) : ∀ i ∈ foot s base S.H, i < w.heap.size := by
  intro i hi
  rw [mem_foot] at hi
  rcases hi with rfl | ⟨h1, h2⟩
  · exact h.scr.lt
  · have := h.lt (i - base) (by omega)
    omega
theorem Stay.foot_below {s H : Nat} {a b : World} (h : Stay (foot s (s + 1) H) a b) (hs : s ≤ a.heap.size) : Below s a b := h.toBelow hs (fun g hg => by rw [mem_foot] at hg; omega)
theorem put_new (s base : Nat) (os : List Nat) (S : Sc) (x y : Int) (l : List Ce) (w : World) (A : Array Value) (n : Nat) (hA : (rowCells l).toArray = A) (hn : l.length = n) (hx : I64 x) (hy : I64 y) (hl : n ≤ 16777216) (hp : PartOK l) (h : Sm w s base os S) :
    Calls Try.prog 22 #[.pointer (some ⟨s, 0, none⟩), .int .i64 x, .int .i64 y, .slice (some ⟨w.heap.size, 0, none⟩) n n] (w.alloc (.cells A 49)) fun e w' => e = .returned (.tuple #[]) ∧ Sm w' s base os (S.put x y l) ∧ Stay (foot s base S.H) w w' := by
  subst hA
  subst hn
  have hb := Blk.new w (rowCells l) 49
  refine (put_any s base os S x y l w.heap.size 0 l.length (w.alloc (.cells (rowCells l).toArray 49)) hx hy hl hp ⟨Nat.le_refl _, by simp only [maxLen]; omega⟩ hb.cat' hb.lt (fun hm => by have := foot_lt h _ hm; omega) (h.stay (F := []) (Stay.alloc _ _) (by simp))).mono ?_
  rintro e w' ⟨rfl, h1, h2⟩
  exact ⟨rfl, h1, (Stay.alloc w _).trans h2⟩
theorem dmg_new (s base : Nat) (os : List Nat) (S : Sc) (want : List Int) (w : World) (A : Array Value) (n : Nat) (b : Bool) (hA : (ints .i64 want).toArray = A) (hn : want.length = n) (hl : n ≤ 4096) (hb : decide (dmgI (S.dmg S.H) = want) = b) (h : Sm w s base os S) :
    Calls Try.prog 28 #[.pointer (some ⟨s, 0, none⟩), .slice (some ⟨w.heap.size, 0, none⟩) n n] (w.alloc (.cells A 3)) fun e w' => e = .returned (.bool b) ∧ Sm w' s base os S ∧ Below w.heap.size w w' := by
  subst hA
  subst hn
  subst hb
  refine (dmgchk_any s base os S w.heap.size want (w.alloc (.cells (ints .i64 want).toArray 3)) hl (Blk.new w _ 3) (h.stay (F := []) (Stay.alloc _ _) (by simp))).mono ?_
  rintro e w' ⟨rfl, h1⟩
  have h2 : Below w.heap.size w w' := ((Below.refl _ _).alloc (Nat.le_refl _) _).trans (h1.mono (by simp))
  exact ⟨rfl, h.below h2, h2⟩
theorem row_at (s base : Nat) (os : List Nat) (S : Sc) (y : Nat) (w : World) (t : ByteArray) (hy : y < S.H) (htx : (S.rows.getD y []).all (fun c => decide (c.text.size ≤ 1024)) = true) (ht : rowS (S.rows.getD y []) = t) (h : Sm w s base os S) :
    Calls Try.prog 27 #[.pointer (some ⟨s, 0, none⟩), .int .i64 y] w fun e w' => e = .returned (.string t) ∧ Sm w' s base os S ∧ Below w.heap.size w w' := by
  subst ht
  refine (row_any s base os S y w hy (fun c hc => by simpa using List.all_eq_true.1 htx c hc) h).mono ?_
  rintro e w' ⟨rfl, h1⟩
  exact ⟨rfl, h.below h1, h1⟩
theorem resize_sm (s base : Nat) (os : List Nat) (S : Sc) (x y : Nat) (w : World) (hx : x ≤ 1024) (hy : y ≤ 1024) (h : Sm w s base os S) :
    Calls Try.prog 25 #[.pointer (some ⟨s, 0, none⟩), .int .i64 x, .int .i64 y] w fun e w' => e = .returned (.int .i64 0) ∧ Sm w' s w.heap.size [] (newS x y) ∧ Stay [s] w w' ∧ w'.heap.size = w.heap.size + y := by
  refine (resize_any s _ _ _ _ _ _ x y w hx hy h.scr).mono ?_
  rintro e w' ⟨rfl, hs, hst, hsz, hbl⟩
  refine ⟨rfl, ⟨hs, fun k r hr => ?_, (fun l h => by cases h), fun _ => rfl, h.scr.lt, (fun o h => by cases h), newS_ok x y hx hy⟩, hst, hsz⟩
  obtain ⟨h1, h2⟩ := List.getElem?_eq_some_iff.1 hr
  have h3 : k < y := by simpa [newS] using h1
  have h4 : r = List.replicate x Ce.zero := by rw [← h2]; simp [newS]
  rw [h4]
  exact hbl k h3
theorem caret_sm (s base : Nat) (os : List Nat) (S : Sc) (x y : Int) (w : World) (h : Sm w s base os S) :
    Calls Try.prog 24 #[.pointer (some ⟨s, 0, none⟩), .int .i64 x, .int .i64 y] w fun e w' => e = .returned (.tuple #[]) ∧ Sm w' s base os (S.caret x y) ∧ Stay [s] w w' := by
  refine (caret_any s _ _ _ _ _ _ x y w h.scr).mono ?_
  rintro e w' ⟨rfl, hs, hst⟩
  have hsep := h.sep
  refine ⟨rfl, ⟨hs, fun k r hr => (h.rows k r hr).stay hst (by simp; omega), fun l hl => ⟨(h.olds l hl).1, fun k o r ho hr => ((h.olds l hl).2 k o r ho hr).stay hst (by have := h.sepo o (List.mem_of_getElem? ho); simp; omega)⟩, h.non, h.sep, h.sepo, ⟨h.ok.w, h.ok.h, h.ok.len, h.ok.row, h.ok.old⟩⟩, hst⟩
theorem partOK_all {l : List Ce} (h : l.all (fun c => decide (-128 ≤ c.part) && decide (c.part < 128)) = true) : PartOK l := PartOK.of_mem fun c hc => by simpa using List.all_eq_true.1 h c hc
theorem bup {s : Nat} {w a b : World} (hs : s = w.heap.size) (h : Below s w a) (k : Below a.heap.size a b) : Below s w b := h.trans (k.mono (by rw [hs]; exact h.size))
theorem bst {s : Nat} {F : List Nat} {w a b : World} (hs : s = w.heap.size) (h : Below s w a) (k : Stay F a b) (hF : ∀ g ∈ F, s ≤ g) : Below s w b := h.trans (k.toBelow (by rw [hs]; exact h.size) hF)
theorem foot_ge {s H : Nat} : ∀ g ∈ foot s (s + 1) H, s ≤ g := fun g hg => by rw [mem_foot] at hg; omega
set_option maxRecDepth 20000 in
set_option maxHeartbeats 8000000 in
theorem alive_any (w : World) : Calls Try.prog 10 #[] w fun e w' => e = .returned (.bool true) ∧ Below w.heap.size w w' := by
  obtain ⟨s, hs⟩ : ∃ s, s = w.heap.size := ⟨_, rfl⟩
  have HSe := Lib.hid hs
  have HN := Lib.hid (show Calls Try.prog 11 #[.int .i64 4, .int .i64 2] w fun e w' => e = .returned (.tuple #[.pointer (some ⟨s, 0, none⟩), .int .i64 0]) ∧ Sm w' s (s + 1) [] al0 ∧ Below s w w' from by
    rw [hs]
    refine (new_any 4 2 w (by omega) (by omega)).mono ?_
    rintro e w' ⟨rfl, h1, h2, _⟩
    exact ⟨rfl, h1, h2⟩)
  rw [← hs]
  clear hs
  go_enter Try.func10, Try.ntmps10
  go_wp2_with fail
  refine HN.out.mono ?_
  rintro e w1 ⟨rfl, h1, h2⟩
  have HS1 := Lib.hid h1
  have HB1 := Lib.hid h2
  have HC1 := Lib.hid (dmg_new s (s + 1) [] al0 [0, 0, 4, 0, 1, 4] w1 #[.int .i64 0, .int .i64 0, .int .i64 4, .int .i64 0, .int .i64 1, .int .i64 4] 6 true rfl rfl (by omega) al_d0 h1)
  clear h1 h2
  go_wp2_with fail
  refine HC1.out.mono ?_
  rintro e w2 ⟨rfl, h1, h2⟩
  have HS2 := Lib.hid h1
  have HB2 := Lib.hid (bup HSe.out HB1.out h2)
  have HC2 := Lib.hid (done_any s (s + 1) [] al0 w2 h1)
  clear h1 h2
  go_wp2_with fail
  refine HC2.out.mono ?_
  rintro e w3 ⟨rfl, os, h1, h2, _⟩
  have HS3 := Lib.hid (show Sm w3 s (s + 1) os al1 from h1)
  have HB3 := Lib.hid (bst HSe.out HB2.out h2 (by simp))
  have HO := Lib.hid one_any
  clear h1 h2
  clear HN HC1 HS1 HB1 HC2 HS2 HB2
  go_wp2_with fail
  refine (HO.out _ _).mono ?_
  rintro e w4a ⟨rfl, hst⟩
  have HT4a := Lib.hid hst
  clear hst
  go_wp2_with fail
  refine (HO.out _ _).mono ?_
  rintro e w4 ⟨rfl, hst⟩
  have HT4 := Lib.hid hst
  clear hst
  go_wp2_with fail
  have HS4 := Lib.hid ((HS3.out.stay HT4a.out (by simp)).stay HT4.out (by simp))
  have HB4 := Lib.hid (bst HSe.out (bst HSe.out HB3.out HT4a.out (by simp)) HT4.out (by simp))
  have HC4 := Lib.hid (put_new s (s + 1) os al1 1 0 [oneC ⟨#[97]⟩, oneC ⟨#[98]⟩] w4 #[.string ⟨#[97]⟩, .int .i8 0, .int .i64 0, .int .i64 0, .bool false, .int .u16 0, .string ⟨#[98]⟩, .int .i8 0, .int .i64 0, .int .i64 0, .bool false, .int .u16 0] 2 rfl rfl (by unfold I64; omega) (by unfold I64; omega) (by omega) (partOK_all rfl) HS4.out)
  refine HC4.out.mono ?_
  rintro e w5 ⟨rfl, h1, h2⟩
  have HS5 := Lib.hid (show Sm w5 s (s + 1) os al2 from h1)
  have HB5 := Lib.hid (bst HSe.out HB4.out h2 foot_ge)
  have HC5 := Lib.hid (dmg_new s (s + 1) os al2 [1, 0, 2] w5 #[.int .i64 1, .int .i64 0, .int .i64 2] 3 true rfl rfl (by omega) al_d2 HS5.out)
  clear h1 h2 HC4 HS4 HB4 HS3 HB3 HT4a HT4
  go_wp2_with fail
  refine HC5.out.mono ?_
  rintro e w6 ⟨rfl, h1, h2⟩
  have HS6 := Lib.hid h1
  have HB6 := Lib.hid (bup HSe.out HB5.out h2)
  have HC6 := Lib.hid (wide_any w6)
  clear h1 h2 HC5 HS5 HB5
  go_wp2_with fail
  refine HC6.out.mono ?_
  rintro e w7 ⟨rfl, h1, h2⟩
  have HS7 := Lib.hid (HS6.out.stay h2 (by simp))
  have HB7 := Lib.hid (bst HSe.out HB6.out h2 (by simp))
  have HC7 := Lib.hid (show Calls Try.prog 22 #[.pointer (some ⟨s, 0, none⟩), .int .i64 2, .int .i64 0, .slice (some ⟨w6.heap.size, 0, none⟩) 2 2] w7 fun e w' => e = .returned (.tuple #[]) ∧ Sm w' s (s + 1) os al3 ∧ Stay (foot s (s + 1) 2) w7 w' from
    put_any s (s + 1) os al2 2 0 wideL w6.heap.size 0 2 w7 (by unfold I64; omega) (by unfold I64; omega) (by show 2 ≤ 16777216; omega) (partOK_all rfl) ⟨by show 2 ≤ 2; omega, by simp only [maxLen]; omega⟩ h1.cat' h1.lt (fun hm => by have := foot_lt HS6.out _ hm; omega) HS7.out)
  clear h1 h2 HC6 HS6 HB6
  go_wp2_with fail
  refine HC7.out.mono ?_
  rintro e w8 ⟨rfl, h1, h2⟩
  have HS8 := Lib.hid h1
  have HB8 := Lib.hid (bst HSe.out HB7.out h2 foot_ge)
  have HC8 := Lib.hid (show Calls Try.prog 27 #[.pointer (some ⟨s, 0, none⟩), .int .i64 0] w8 fun e w' => e = .returned (.string ⟨#[46, 97, 87, 39, 119, 39]⟩) ∧ Sm w' s (s + 1) os al3 ∧ Below w8.heap.size w8 w' from
    row_at s (s + 1) os al3 0 w8 _ (by show 0 < 2; omega) al_t3 al_r3 HS8.out)
  clear h1 h2 HC7 HS7 HB7
  go_wp2_with fail
  refine HC8.out.mono ?_
  rintro e w9 ⟨rfl, h1, h2⟩
  have HS9 := Lib.hid h1
  have HB9 := Lib.hid (bup HSe.out HB8.out h2)
  clear h1 h2 HC8 HS8 HB8
  go_wp2_with fail
  refine (HO.out _ _).mono ?_
  rintro e w10 ⟨rfl, hst⟩
  have HT10 := Lib.hid hst
  clear hst
  go_wp2_with fail
  have HS10 := Lib.hid (HS9.out.stay HT10.out (by simp))
  have HB10 := Lib.hid (bst HSe.out HB9.out HT10.out (by simp))
  have HC10 := Lib.hid (put_new s (s + 1) os al3 3 0 [oneC ⟨#[99]⟩] w10 #[.string ⟨#[99]⟩, .int .i8 0, .int .i64 0, .int .i64 0, .bool false, .int .u16 0] 1 rfl rfl (by unfold I64; omega) (by unfold I64; omega) (by omega) (partOK_all rfl) HS10.out)
  refine HC10.out.mono ?_
  rintro e w11 ⟨rfl, h1, h2⟩
  have HS11 := Lib.hid (show Sm w11 s (s + 1) os al4 from h1)
  have HB11 := Lib.hid (bst HSe.out HB10.out h2 foot_ge)
  have HC11 := Lib.hid (show Calls Try.prog 27 #[.pointer (some ⟨s, 0, none⟩), .int .i64 0] w11 fun e w' => e = .returned (.string ⟨#[46, 97, 46, 39, 99]⟩) ∧ Sm w' s (s + 1) os al4 ∧ Below w11.heap.size w11 w' from
    row_at s (s + 1) os al4 0 w11 _ (by show 0 < 2; omega) al_t4 al_r4 HS11.out)
  clear h1 h2 HC10 HS10 HB10 HT10 HS9 HB9
  go_wp2_with fail
  refine HC11.out.mono ?_
  rintro e w12 ⟨rfl, h1, h2⟩
  have HS12 := Lib.hid h1
  have HB12 := Lib.hid (bup HSe.out HB11.out h2)
  have HC12 := Lib.hid (scroll_any s (s + 1) os al4 0 0 4 2 (-1) w12 (by unfold I64; omega) (by unfold I64; omega) (by unfold I64; omega) (by unfold I64; omega) (by unfold I64; omega) h1)
  clear h1 h2 HC11 HS11 HB11
  go_wp2_with fail
  refine HC12.out.mono ?_
  rintro e w13 ⟨rfl, h1, h2⟩
  have HS13 := Lib.hid (show Sm w13 s (s + 1) os al5 from h1)
  have HB13 := Lib.hid (bst HSe.out HB12.out h2 foot_ge)
  have HC13 := Lib.hid (caret_sm s (s + 1) os al5 3 1 w13 h1)
  clear h1 h2 HC12 HS12 HB12
  go_wp2_with fail
  refine HC13.out.mono ?_
  rintro e w14 ⟨rfl, h1, h2⟩
  have HS14 := Lib.hid (show Sm w14 s (s + 1) os al6 from h1)
  have HB14 := Lib.hid (bst HSe.out HB13.out h2 (by simp))
  have HC14 := Lib.hid (show Calls Try.prog 27 #[.pointer (some ⟨s, 0, none⟩), .int .i64 1] w14 fun e w' => e = .returned (.string ⟨#[46, 97, 46, 39, 99]⟩) ∧ Sm w' s (s + 1) os al6 ∧ Below w14.heap.size w14 w' from
    row_at s (s + 1) os al6 1 w14 _ (by show 1 < 2; omega) al_t61 al_r61 HS14.out)
  clear h1 h2 HC13 HS13 HB13
  go_wp2_with fail
  refine HC14.out.mono ?_
  rintro e w15 ⟨rfl, h1, h2⟩
  have HS15 := Lib.hid h1
  have HB15 := Lib.hid (bup HSe.out HB14.out h2)
  have HC15 := Lib.hid (show Calls Try.prog 27 #[.pointer (some ⟨s, 0, none⟩), .int .i64 0] w15 fun e w' => e = .returned (.string ⟨#[46, 46, 46, 46]⟩) ∧ Sm w' s (s + 1) os al6 ∧ Below w15.heap.size w15 w' from
    row_at s (s + 1) os al6 0 w15 _ (by show 0 < 2; omega) al_t60 al_r60 HS15.out)
  clear h1 h2 HC14 HS14 HB14
  go_wp2_with fail
  refine HC15.out.mono ?_
  rintro e w16 ⟨rfl, h1, h2⟩
  have HS16 := Lib.hid h1
  have HB16 := Lib.hid (bup HSe.out HB15.out h2)
  have HC16 := Lib.hid (show Calls Try.prog 16 #[.pointer (some ⟨s, 0, none⟩)] w16 fun e w' => ∃ A n c Y, e = .returned (.agg #[.int .i64 4, .int .i64 2, .slice A n c, .int .i64 3, .int .i64 Y]) ∧ Below w16.heap.size w16 w' from by
    refine (grid_any s (s + 1) os al6 w16 h1).mono ?_
    rintro e w' ⟨A, c, rfl, _, hb⟩
    exact ⟨A, _, c, _, rfl, hb⟩)
  clear h1 h2 HC15 HS15 HB15
  go_wp2_with fail
  refine HC16.out.mono ?_
  rintro e w17 ⟨A, gn, gc, gy, rfl, h2⟩
  have HS17 := Lib.hid (HS16.out.below h2)
  have HB17 := Lib.hid (bup HSe.out HB16.out h2)
  have HC17 := Lib.hid (clear_any s (s + 1) os al6 (-5) 1 99 1 w17 (by unfold I64; omega) (by unfold I64; omega) (by unfold I64; omega) (by unfold I64; omega) HS17.out)
  have hfd : ∀ (a0 a1 a2 a3 a4 : Value) (w : World), (Instr.field 40 (.agg #[a0, a1, a2, a3, a4]) 3).run Try.prog w = .ok a3 w := fun _ _ _ _ _ _ => by kernel_rfl
  clear h2 HC16 HS16 HB16
  go_wp2_with fail
  refine HC17.out.mono ?_
  rintro e w18 ⟨rfl, h1, h2⟩
  have HS18 := Lib.hid (show Sm w18 s (s + 1) os al7 from h1)
  have HB18 := Lib.hid (bst HSe.out HB17.out h2 foot_ge)
  have HC18 := Lib.hid (show Calls Try.prog 27 #[.pointer (some ⟨s, 0, none⟩), .int .i64 1] w18 fun e w' => e = .returned (.string ⟨#[46, 46, 46, 46]⟩) ∧ Sm w' s (s + 1) os al7 ∧ Below w18.heap.size w18 w' from
    row_at s (s + 1) os al7 1 w18 _ (by show 1 < 2; omega) al_t7 al_r7 HS18.out)
  clear h1 h2 HC17 HS17 HB17
  go_wp2_with fail
  refine HC18.out.mono ?_
  rintro e w19 ⟨rfl, h1, h2⟩
  have HB19 := Lib.hid (bup HSe.out HB18.out h2)
  have HC19 := Lib.hid (show Calls Try.prog 25 #[.pointer (some ⟨s, 0, none⟩), .int .i64 1, .int .i64 1] w19 fun e w' => e = .returned (.int .i64 0) ∧ Sm w' s w19.heap.size [] (newS 1 1) ∧ Stay [s] w19 w' ∧ w'.heap.size = w19.heap.size + 1 from resize_sm s (s + 1) os al7 1 1 w19 (by omega) (by omega) h1)
  clear h1 h2 HC18 HS18 HB18
  go_wp2_with fail
  refine HC19.out.mono ?_
  rintro e w20 ⟨rfl, -, h2, -⟩
  have HB20 := Lib.hid (bst HSe.out HB19.out h2 (by simp))
  clear h2 HC19 HB19
  go_wp2_with fail
  exact bodyPost_ret (v := .bool true) (by simp [results, Try.results10, go_sem]) rfl ⟨rfl, HB20.out⟩
end Go.Proofs.Ytohkjopdoejedaa
