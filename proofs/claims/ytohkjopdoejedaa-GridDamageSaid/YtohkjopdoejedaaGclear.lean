/- package grid: Clear. -/
import Derived.Test.YtohkjopdoejedaaGnew
import Derived.Test.YtohkjopdoejedaaMinMax2
namespace Go.Proofs.Ytohkjopdoejedaa
open Go.RowKit
theorem same_symm {f : FuncId} {args : Array Value} {w : World} {v : Value} (h : Calls Try.prog f args w fun e w' => e = .returned v ∧ w = w') : Calls Try.prog f args w fun e w' => e = .returned v ∧ w' = w :=
  h.mono fun _ _ ⟨h1, h2⟩ => ⟨h1, h2.symm⟩
theorem rowCells_cons (c : Ce) (l : List Ce) : rowCells (c :: l) = c.cells ++ rowCells l := rfl
theorem rowCells_take : ∀ (l : List Ce) (a : Nat), (rowCells l).take (a * 6) = rowCells (l.take a)
  | [], a => by simp [rowCells]
  | c :: l, 0 => by simp [rowCells]
  | c :: l, a + 1 => by
    have hc : c.cells.length = 6 := rfl
    rw [List.take_succ_cons, rowCells_cons, rowCells_cons, List.take_append, hc, show (a + 1) * 6 - 6 = a * 6 by omega, rowCells_take l a, List.take_of_length_le (by rw [hc]; omega)]
theorem rowCells_drop : ∀ (l : List Ce) (a : Nat), (rowCells l).drop (a * 6) = rowCells (l.drop a)
  | [], a => by simp [rowCells]
  | c :: l, 0 => by simp [rowCells]
  | c :: l, a + 1 => by
    have hc : c.cells.length = 6 := rfl
    rw [List.drop_succ_cons, rowCells_cons, List.drop_append, hc, show (a + 1) * 6 - 6 = a * 6 by omega, rowCells_drop l a, List.drop_of_length_le (by rw [hc]; omega), List.nil_append]
/-- blit: other cells from place a on -/
def blit (a : Nat) (s r : List Ce) : List Ce := r.take a ++ s ++ r.drop (a + s.length)
theorem blit_length (a : Nat) (s r : List Ce) (h : a + s.length ≤ r.length) : (blit a s r).length = r.length := by
  unfold blit; simp; omega
theorem blit_cells (a : Nat) (s r : List Ce) : (rowCells r).take (a * 6) ++ rowCells s ++ (rowCells r).drop (a * 6 + (rowCells s).length) = rowCells (blit a s r) := by
  unfold blit
  rw [rowCells_take, rowCells_length, ← Nat.add_mul, rowCells_drop, rowCells_app, rowCells_app]
theorem blit_part {a : Nat} {s r : List Ce} (hs : PartOK s) (hr : PartOK r) : PartOK (blit a s r) := PartOK.of_mem fun c hc => by
  unfold blit at hc
  rcases List.mem_append.1 hc with hc | hc
  · rcases List.mem_append.1 hc with hc | hc
    · exact hr.mem c (List.mem_of_mem_take hc)
    · exact hs.mem c hc
  · exact hr.mem c (List.mem_of_mem_drop hc)
theorem loseF_length (a b : Int) : ∀ (f i : Nat) (l : List Ce), (loseF a b f i l).length = l.length
  | 0, _, _ => rfl
  | f + 1, i, l => by
    by_cases hi : i < l.length
    · rw [loseF_succ a b f i l hi, loseF_length a b f]
      split
      · exact blankR_length l i _ (by have := (chainE_bd l i hi).1; omega) (chainE_bd l i hi).2
      · rfl
    · rw [loseF_end a b _ i l (by omega)]
theorem loseL_length (a b : Int) (l : List Ce) : (loseL a b l).length = l.length := loseF_length a b _ _ l
theorem loseF_part (a b : Int) : ∀ (f i : Nat) (l : List Ce), PartOK l → PartOK (loseF a b f i l)
  | 0, _, _, h => h
  | f + 1, i, l, h => by
    by_cases hi : i < l.length
    · rw [loseF_succ a b f i l hi]
      refine loseF_part a b f _ _ ?_
      split
      · exact h.blankR _ _
      · exact h
    · rw [loseF_end a b _ i l (by omega)]; exact h
theorem loseL_part {a b : Int} {l : List Ce} (h : PartOK l) : PartOK (loseL a b l) := loseF_part a b _ _ l h
/-- rows from c up to d are turned -/
def mapR (f : List Ce → List Ce) (c d : Nat) (rows : List (List Ce)) : List (List Ce) := rows.mapIdx fun i r => if c ≤ i ∧ i < d then f r else r
theorem mapR_at (f : List Ce → List Ce) (c d : Nat) (rows : List (List Ce)) (i : Nat) : (mapR f c d rows)[i]? = (rows[i]?).map fun r => if c ≤ i ∧ i < d then f r else r := by
  simp [mapR, List.getElem?_mapIdx]
theorem mapR_length (f : List Ce → List Ce) (c d : Nat) (rows : List (List Ce)) : (mapR f c d rows).length = rows.length := by simp [mapR]
theorem mapR_start (f : List Ce → List Ce) (c : Nat) (rows : List (List Ce)) : mapR f c c rows = rows := by
  apply List.ext_getElem?
  intro i
  rw [mapR_at]
  have : ¬ (c ≤ i ∧ i < c) := by omega
  simp [this]
theorem mapR_step (f : List Ce → List Ce) (c k : Nat) (rows : List (List Ce)) (r : List Ce) (hr : rows[k]? = some r) (hc : c ≤ k) : (mapR f c k rows).set k (f r) = mapR f c (k + 1) rows := by
  have hk := (List.getElem?_eq_some_iff.1 hr).1
  apply List.ext_getElem?
  intro i
  rw [mapR_at, List.getElem?_set, mapR_at]
  by_cases e : k = i
  · subst e
    rw [if_pos rfl, if_pos (by rw [mapR_length]; exact hk), hr]
    simp [hc]
  · rw [if_neg e]
    have : (c ≤ i ∧ i < k + 1) ↔ (c ≤ i ∧ i < k) := by omega
    simp only [this]
def clearRow (a b : Nat) (r : List Ce) : List Ce := blit a (List.replicate (b - a) Ce.zero) (loseL a b r)
theorem clearRow_length (a b : Nat) (r : List Ce) (h : a ≤ b) (hb : b ≤ r.length) : (clearRow a b r).length = r.length := by
  unfold clearRow
  rw [blit_length _ _ _ (by simp [loseL_length]; omega), loseL_length]
theorem clearRow_part (a b : Nat) {r : List Ce} (h : PartOK r) : PartOK (clearRow a b r) := blit_part (partOK_zero _) (loseL_part h)
/-- Clear -/
def Sc.clear (S : Sc) (x y wd hg : Int) : Sc :=
  { S with rows := mapR (clearRow (spanL x wd S.W).1.toNat (spanL x wd S.W).2.toNat) (spanL y hg S.H).1.toNat (spanL y hg S.H).2.toNat S.rows }
theorem span_nat (x n : Int) (m : Nat) : ∃ a b : Nat, (spanL x n m).1 = a ∧ (spanL x n m).2 = b ∧ a ≤ b ∧ b ≤ m ∧ (spanL x n m).1.toNat = a ∧ (spanL x n m).2.toNat = b := by
  have h := spanL_bd x n m (by omega)
  exact ⟨(spanL x n m).1.toNat, (spanL x n m).2.toNat, by omega, by omega, by omega, by omega, rfl, rfl⟩
theorem zero49_one : ∀ v ∈ zero49.cells.toList, v.oneCell' = true := by decide
theorem zeros49 (n : Nat) : (List.replicate n zero49.cells.toList).flatten = rowCells (List.replicate n Ce.zero) := (rowCells_replicate n Ce.zero).symm
def I64 (x : Int) : Prop := -9223372036854775808 ≤ x ∧ x ≤ 9223372036854775807
set_option maxRecDepth 20000 in
set_option maxHeartbeats 4000000 in
theorem clear_any (s base : Nat) (os : List Nat) (S : Sc) (x y wd hg : Int) (w : World) (hx : I64 x) (hy : I64 y) (hw : I64 wd) (hh : I64 hg) (h : Sm w s base os S) :
    Calls Try.prog 21 #[.pointer (some ⟨s, 0, none⟩), .agg #[.int .i64 x, .int .i64 y, .int .i64 wd, .int .i64 hg]] w fun e w' => e = .returned (.tuple #[]) ∧ Sm w' s base os (S.clear x y wd hg) ∧ Stay (foot s base S.H) w w' := by
  obtain ⟨a, b, ha, hb, hab, hbw, ha', hb'⟩ := span_nat x wd S.W
  obtain ⟨c, d, hc, hd, hcd, hdh, hc', hd'⟩ := span_nat y hg S.H
  have HSp1 := Lib.hid (fun W => span_any x wd S.W W hx hw ⟨by omega, by have := h.ok.w; omega⟩)
  have HSp2 := Lib.hid (fun W => span_any y hg S.H W hy hh ⟨by omega, by have := h.ok.h; omega⟩)
  rw [ha, hb] at HSp1
  rw [hc, hd] at HSp2
  have HCl := Lib.hid (show S.clear x y wd hg = { S with rows := mapR (clearRow a b) c d S.rows } from by unfold Sc.clear; rw [ha', hb', hc', hd'])
  have HS0 := Lib.hid h
  have hW0 := h.ok.w
  have hH0 := h.ok.h
  obtain ⟨W, hWe⟩ : ∃ W, W = S.W := ⟨_, rfl⟩
  obtain ⟨H, hHe⟩ : ∃ H, H = S.H := ⟨_, rfl⟩
  have HWe := Lib.hid hWe
  have HHe := Lib.hid hHe
  rw [← hWe] at HSp1 hbw hW0
  rw [← hHe] at HSp2 hdh hH0
  have c2048 := h.scr.w_
  have c2049 := h.scr.h_
  rw [← hWe] at c2048
  rw [← hHe] at c2049
  have hlt := h.scr.lt
  clear ha hb ha' hb' hc hd hc' hd' hx hy hw hh h hWe hHe
  have b0 := box_cell w #[.int .i64 x, .int .i64 y, .int .i64 wd, .int .i64 hg] 35 0 _ rfl
  have b1 := box_cell w #[.int .i64 x, .int .i64 y, .int .i64 wd, .int .i64 hg] 35 1 _ rfl
  have b2 := box_cell w #[.int .i64 x, .int .i64 y, .int .i64 wd, .int .i64 hg] 35 2 _ rfl
  have b3 := box_cell w #[.int .i64 x, .int .i64 y, .int .i64 wd, .int .i64 hg] 35 3 _ rfl
  have HS1 := Lib.hid (HS0.out.stay (F := []) (Stay.alloc w (.cells #[.int .i64 x, .int .i64 y, .int .i64 wd, .int .i64 hg] 35)) (by simp))
  have HT1 := Lib.hid (Stay.alloc (F := foot s base H) w (.cells #[.int .i64 x, .int .i64 y, .int .i64 wd, .int .i64 hg] 35))
  have d2048 := HS1.out.scr.w_
  have d2049 := HS1.out.scr.h_
  rw [← HWe.out] at d2048
  rw [← HHe.out] at d2049
  obtain ⟨B0, hB0⟩ : ∃ B0, B0 = w.heap.size := ⟨_, rfl⟩
  rw [← hB0] at b0 b1 b2 b3
  go_enter Try.func21, Try.ntmps21
  go_wp2_with fail
  rw [← hB0]
  have HB0 := Lib.hid hB0
  clear hB0
  generalize w.alloc (.cells #[.int .i64 x, .int .i64 y, .int .i64 wd, .int .i64 hg] 35) = W1 at *
  go_quiet ((go_at_call 43; exact Calls.quiet_of_same (same_symm (HSp1.out _))))
  go_wp2_with fail
  have HS2 := Lib.hid (HS1.out.stay (F := []) (Stay.drewN W1 nq) (by simp))
  have HT2 := Lib.hid (HT1.out.drewN' (n := nq))
  have e1 : (W1.drewN nq).cell? ⟨B0, 1, none⟩ = some (.int .i64 y) := b1
  have e3 : (W1.drewN nq).cell? ⟨B0, 3, none⟩ = some (.int .i64 hg) := b3
  have e2 : (W1.drewN nq).cell? ⟨s, 2049, none⟩ = some (.int .i64 H) := d2049
  clear b0 b1 b2 b3 d2048 d2049 c2048 c2049 HS1 HT1
  generalize W1.drewN nq = W2 at *
  go_quiet ((go_at_call 43; exact Calls.quiet_of_same (same_symm (HSp2.out _))))
  go_wp2_with fail
  go_loopw [8] (fun yv wr => ∃ k : Nat, c ≤ k ∧ k ≤ d ∧ yv = .int .i64 k ∧ Hid (Sm wr s base os { S with rows := mapR (clearRow a b) c k S.rows }) ∧ Hid (Stay (foot s base H) w wr)) (fun yv _ => d - (intOf yv).toNat)
  case atStart =>
    refine ⟨c, Nat.le_refl _, hcd, rfl, ?_, ?_⟩
    · show Sm _ _ _ _ _
      rw [mapR_start]
      exact HS2.out.stay (F := []) (Stay.drewN _ _) (by simp)
    · exact HT2.out.drewN'
  case round =>
    obtain ⟨k, hck, hkd, rfl, HSk, HTk⟩ := hrel
    by_cases hlt2 : k < d
    · have hlt' : (k : Int) < d := by omega
      have hk0 : (0 : Int) ≤ k := by omega
      have hk1 : (k : Int) < 1024 := by omega
      obtain ⟨i49, hi49, hz490, hz491, hz492⟩ := info_parts info49
      have HI := Lib.hid (And.intro hi49 hz490)
      clear hi49 hz490 hz491 hz492
      have hkH : k < S.H := by rw [← HHe.out]; omega
      have hcell := HSk.out.row k hkH
      have hcell2 : wr.cell? ⟨s, k, none⟩ = some (.slice (some ⟨base + k, 0, none⟩) W W) := by rw [hcell, ← HWe.out]
      obtain ⟨r, hr, hrl, hrp, hrb⟩ := HSk.out.rowAt k hkH
      have hr0 : S.rows[k]? = some r := by
        have h1 : (mapR (clearRow a b) c k S.rows)[k]? = some r := hr
        rw [mapR_at] at h1
        simpa using h1
      have hrl' : r.length = W := hrl.trans HWe.out.symm
      have hlo := lose_any r (base + k) 0 W a b (rowCells r) 49 wr (by omega) (by omega) (by omega) hrp (by simp only [maxLen]; omega) (by rw [rowCells_length]; omega) (by rw [lay_whole r r rfl]; exact hrb)
      rw [hrl'] at hlo
      have HLo := Lib.hid hlo
      have HR := Lib.hid (And.intro hr0 (And.intro hrl' hrp))
      have hss := HSk.out.sep
      clear hcell hr hrl hrp hrb hr0 hrl' hlo
      go_wp2_with fail
      refine HLo.out.mono ?_
      rintro e w3 ⟨rfl, hb3, hs3⟩
      rw [lay_whole r _ (loseL_length _ _ _)] at hb3
      have HB3 := Lib.hid hb3
      have HSt3 := Lib.hid hs3
      have hcell3 : w3.cell? ⟨s, k, none⟩ = some (.slice (some ⟨base + k, 0, none⟩) W W) := by
        have h1 := (HSk.out.scr.stay hs3 (by simp; omega)).row k (by have := HSk.out.ok.h; omega)
        rw [h1, newRows_at _ _ _ _ hkH HSk.out.ok.h, ← HWe.out]
      clear hb3 hs3 hcell2
      have hfit : a * 6 + (b - a) * 6 ≤ (rowCells (loseL a b r)).length := by
        rw [rowCells_length, loseL_length, HR.out.2.1]; omega
      have HFit := Lib.hid hfit
      have HFin : Hid (∀ w4, Blk w4 (base + k) ((rowCells (loseL a b r)).take (a * 6) ++ (List.replicate (b - a) zero49.cells.toList).flatten ++ (rowCells (loseL a b r)).drop (a * 6 + (b - a) * 6)) 49 → Stay [base + k] w3 w4 →
          Sm w4 s base os { S with rows := mapR (clearRow a b) c (k + 1) S.rows } ∧ Stay (foot s base H) w w4) := by
        show ∀ w4, _ → _ → _
        intro w4 h1 h2
        have h3 := HSt3.out.trans h2
        have e1 : (List.replicate (b - a) zero49.cells.toList).flatten = rowCells (List.replicate (b - a) Ce.zero) := zeros49 _
        have e2 : a * 6 + (b - a) * 6 = a * 6 + (rowCells (List.replicate (b - a) Ce.zero)).length := by rw [rowCells_length, List.length_replicate]
        rw [e2, e1, blit_cells] at h1
        refine ⟨?_, HTk.out.trans (h3.mono (by intro g hg; simp at hg; rw [mem_foot]; omega))⟩
        have h4 := HSk.out.setRow k hkH (clearRow a b r) (by rw [clearRow_length a b r hab (by rw [HR.out.2.1]; exact hbw), HR.out.2.1]; exact HWe.out) (clearRow_part a b HR.out.2.2) h1 h3
        have h5 : (mapR (clearRow a b) c k S.rows).set k (clearRow a b r) = mapR (clearRow a b) c (k + 1) S.rows := mapR_step _ _ _ _ _ HR.out.1 hck
        exact h5 ▸ h4
      by_cases hWa : W = a
      · have hba : b = a := by omega
        have hbW : b = W := by omega
        subst hWa
        subst hba
        clear hbW
        have HFin0 : Hid (∀ w4, Blk w4 (base + k) (rowCells (loseL b b r)) 49 → Stay [base + k] w3 w4 → Sm w4 s base os { S with rows := mapR (clearRow b b) c (k + 1) S.rows } ∧ Stay (foot s base H) w w4) := by
          show ∀ w4, _ → _ → _
          intro w4 h1 h2
          refine HFin.out w4 ?_ h2
          rw [Nat.sub_self, List.replicate_zero, List.flatten_nil, Nat.zero_mul, Nat.add_zero, List.append_nil, List.take_append_drop]
          exact h1
        have HFit0 := Lib.hid (show 0 + 0 * zero49.cells.size ≤ (rowCells (loseL b b r)).length by omega)
        go_wp2_with (refine wpList_clear_blk rfl (.tmp 58) 33 rfl 49 i49 zero49 Try.underlying33 HI.out.1 HI.out.2 zero49_one (base + k) 0 0 0 rfl (rowCells (loseL b b r)) 49 HB3.out HFit0.out ?_; intro w4 hb4 hs4)
        have HF4 := Lib.hid (HFin0.out w4 (by simpa using hb4) hs4)
        clear hb4 hs4
        go_roundw
        case rel => exact ⟨k + 1, by omega, by omega, by go_num, HF4.out.1, HF4.out.2⟩
        case measure => simp [intOf]; omega
      · have hWa' : ¬ (W : Int) = a := by omega
        go_wp2_with (refine wpList_clear_blk rfl (.tmp 58) 33 rfl 49 i49 zero49 Try.underlying33 HI.out.1 HI.out.2 zero49_one (base + k) (a * 6) (b - a) (W - a) rfl (rowCells (loseL a b r)) 49 HB3.out HFit.out ?_; intro w4 hb4 hs4)
        have HF4 := Lib.hid (HFin.out w4 hb4 hs4)
        clear hb4 hs4
        go_roundw
        case rel => exact ⟨k + 1, by omega, by omega, by go_num, HF4.out.1, HF4.out.2⟩
        case measure => simp [intOf]; omega
    · have hkd' : k = d := by omega
      have hlt' : ¬ (k : Int) < d := by omega
      have HFi := Lib.hid (show Sm wr s base os (S.clear x y wd hg) from by rw [HCl.out, ← hkd']; exact HSk.out)
      clear hkd'
      go_wp2_with fail
      exact bodyPost_end (v := .tuple #[]) (by simp [results, Try.results21, go_sem]) rfl ⟨rfl, HFi.out, by rw [← HHe.out]; exact HTk.out⟩
end Go.Proofs.Ytohkjopdoejedaa
