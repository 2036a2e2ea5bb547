/- package grid: the closure of Scroll. -/
import Derived.Test.YtohkjopdoejedaaGput
namespace Go.Proofs.Ytohkjopdoejedaa
open Go.RowKit
def mvRow (a b c d : Nat) (n : Int) (rows : List (List Ce)) (y : Nat) : List (List Ce) :=
  rows.set y (if (n < 0 ∧ n < (c : Int) - y) ∨ (0 < n ∧ (d : Int) - y ≤ n) then blit a (List.replicate (b - a) Ce.zero) (rows.getD y []) else blit a (((rows.getD ((y : Int) + n).toNat []).take b).drop a) (rows.getD y []))
set_option maxRecDepth 20000 in
set_option maxHeartbeats 4000000 in
theorem move_any (s base : Nat) (os : List Nat) (S : Sc) (bn bc bd bs ba bb : Nat) (n : Int) (a b c d y : Nat) (w : World) (h1 : w.cell? ⟨bn, 0, none⟩ = some (.int .i64 n)) (h2 : w.cell? ⟨bc, 0, none⟩ = some (.int .i64 c)) (h3 : w.cell? ⟨bd, 0, none⟩ = some (.int .i64 d))
    (h4 : w.cell? ⟨bs, 0, none⟩ = some (.pointer (some ⟨s, 0, none⟩))) (h5 : w.cell? ⟨ba, 0, none⟩ = some (.int .i64 a)) (h6 : w.cell? ⟨bb, 0, none⟩ = some (.int .i64 b)) (hcy : c ≤ y) (hyd : y < d) (hdH : d ≤ S.H) (hab : a ≤ b) (hbW : b ≤ S.W) (hn : I64 n) (hn0 : n ≠ 0) (h : Sm w s base os S) :
    Calls Try.prog 45 #[.int .i64 y, .pointer (some ⟨bn, 0, none⟩), .pointer (some ⟨bc, 0, none⟩), .pointer (some ⟨bd, 0, none⟩), .pointer (some ⟨bs, 0, none⟩), .pointer (some ⟨ba, 0, none⟩), .pointer (some ⟨bb, 0, none⟩)] w
      fun e w' => e = .returned (.tuple #[]) ∧ Sm w' s base os { S with rows := mvRow a b c d n S.rows y } ∧ Stay [base + y] w w' := by
  have HS0 := Lib.hid h
  have hW0 := h.ok.w
  have hH0 := h.ok.h
  obtain ⟨W, hWe⟩ : ∃ W, W = S.W := ⟨_, rfl⟩
  obtain ⟨H, hHe⟩ : ∃ H, H = S.H := ⟨_, rfl⟩
  have HWe := Lib.hid hWe
  have HHe := Lib.hid hHe
  rw [← hWe] at hW0 hbW
  rw [← hHe] at hH0 hdH
  have hsep := h.sep
  have hlt := h.scr.lt
  obtain ⟨hn1, hn2⟩ := hn
  have hyH : y < S.H := by omega
  have hcell : w.cell? ⟨s, y, none⟩ = some (.slice (some ⟨base + y, 0, none⟩) W W) := by rw [h.row y hyH, ← hWe]
  obtain ⟨r, hr, hrl, hrp, hrb⟩ := h.rowAt y hyH
  have HR := Lib.hid (show S.rows[y]? = some r ∧ r.length = W ∧ PartOK r from ⟨hr, hrl.trans hWe.symm, hrp⟩)
  have HG := Lib.hid (show S.rows.getD y [] = r from by rw [List.getD_eq_getElem?_getD, hr]; rfl)
  have HB := Lib.hid hrb
  obtain ⟨i49, hi49, hz490, hz491, hz492⟩ := info_parts info49
  have HI := Lib.hid (And.intro hi49 hz490)
  have HFin := Lib.hid (show ∀ (q : List Ce) (w4 : World), mvRow a b c d n S.rows y = S.rows.set y (blit a q r) → q.length = b - a → PartOK q → Blk w4 (base + y) (rowCells (blit a q r)) 49 → Stay [base + y] w w4 → Sm w4 s base os { S with rows := mvRow a b c d n S.rows y } from by
    intro q w4 he hq hqp hb4 hs4
    rw [he]
    exact HS0.out.setRow y hyH _ (by rw [blit_length a q r (by rw [hq, HR.out.2.1]; omega), HR.out.2.1]; exact hWe) (blit_part hqp HR.out.2.2) hb4 hs4)
  have hW1 : (W : Int) ≤ 1024 := by omega
  have hy1 : (y : Int) < 1024 := by omega
  have hd1 : (d : Int) ≤ 1024 := by omega
  have hc1 : (c : Int) ≤ y := by omega
  have hab1 : (a : Int) ≤ b := by omega
  have hbW1 : (b : Int) ≤ W := by omega
  have hz : (List.replicate (b - a) zero49.cells.toList).flatten = rowCells (List.replicate (b - a) Ce.zero) := zeros49 _
  have HZ := Lib.hid hz
  have HMv := Lib.hid (show mvRow a b c d n S.rows y = S.rows.set y (if (n < 0 ∧ n < (c : Int) - y) ∨ (0 < n ∧ (d : Int) - y ≤ n) then blit a (List.replicate (b - a) Ce.zero) r else blit a (((S.rows.getD ((y : Int) + n).toNat []).take b).drop a) r) from by unfold mvRow; rw [HG.out])
  clear hr hrl hrp hrb hi49 hz490 hz491 hz492 h hWe hHe hz
  by_cases hclr : (n < 0 ∧ n < (c : Int) - y) ∨ (0 < n ∧ (d : Int) - y ≤ n)
  · have HMe := Lib.hid (HMv.out.trans (by rw [if_pos hclr]))
    have HFin0 := Lib.hid (show ∀ w4, Blk w4 (base + y) ((rowCells r).take (a * 6) ++ (List.replicate (b - a) zero49.cells.toList).flatten ++ (rowCells r).drop (a * 6 + (b - a) * 6)) 49 → Stay [base + y] w w4 → Sm w4 s base os { S with rows := mvRow a b c d n S.rows y } from by
      intro w4 hb4 hs4
      have e2 : a * 6 + (b - a) * 6 = a * 6 + (rowCells (List.replicate (b - a) Ce.zero)).length := by rw [rowCells_length, List.length_replicate]
      rw [e2, HZ.out, blit_cells] at hb4
      exact HFin.out _ w4 HMe.out (by simp) (partOK_zero _) hb4 hs4)
    have HFit := Lib.hid (show a * 6 + (b - a) * 6 ≤ (rowCells r).length from by rw [rowCells_length, HR.out.2.1]; omega)
    have HBd := Lib.hid (HB.out.stay (F := []) (Stay.drew w) (by simp))
    have HSd := Lib.hid (Stay.drew (F := [base + y]) w)
    by_cases hWa : W = a
    · have hba : b = a := by omega
      have hbW' : b = W := by omega
      subst hWa
      subst hba
      have HFin1 := Lib.hid (show ∀ w4, Blk w4 (base + y) (rowCells r) 49 → Stay [base + y] w w4 → Sm w4 s base os { S with rows := mvRow b b c d n S.rows y } from by
        intro w4 hb4 hs4
        refine HFin0.out w4 ?_ hs4
        rw [Nat.sub_self, List.replicate_zero, List.flatten_nil, Nat.zero_mul, Nat.add_zero, List.append_nil, List.take_append_drop]
        exact hb4)
      have HFit0 := Lib.hid (show 0 + 0 * zero49.cells.size ≤ (rowCells r).length by omega)
      clear hbW'
      have hcs : (n < 0 ∧ n < (c : Int) - y) ∨ (¬ n < 0 ∧ 0 < n ∧ (d : Int) - y ≤ n) := by omega
      clear hclr
      rcases hcs with ⟨hc2, hc3⟩ | ⟨hc2, hc3, hc4⟩
      all_goals
        go_enter Try.func45, Try.ntmps45
        go_wp2_with fail
        go_still_tail 9, (by kernel_rfl)
        change wpList _ _ _ _ _ w.drew
        generalize w.drew = w2 at *
        go_wp2_with (refine wpList_clear_blk rfl (.tmp 36) 33 rfl 49 i49 zero49 Try.underlying33 HI.out.1 HI.out.2 zero49_one (base + y) 0 0 0 rfl (rowCells r) 49 HBd.out HFit0.out ?_; intro w4 hb4 hs4)
        have hs5 := HSd.out.trans hs4
        exact bodyPost_ret (v := .tuple #[]) (by simp [results, Try.results45, go_sem]) rfl ⟨rfl, HFin1.out w4 (by simpa using hb4) hs5, hs5⟩
    · have hWa' : ¬ (W : Int) = a := by omega
      have hcs : (n < 0 ∧ n < (c : Int) - y) ∨ (¬ n < 0 ∧ 0 < n ∧ (d : Int) - y ≤ n) := by omega
      clear hclr
      rcases hcs with ⟨hc2, hc3⟩ | ⟨hc2, hc3, hc4⟩
      all_goals
        go_enter Try.func45, Try.ntmps45
        go_wp2_with fail
        go_still_tail 9, (by kernel_rfl)
        change wpList _ _ _ _ _ w.drew
        generalize w.drew = w2 at *
        go_wp2_with (refine wpList_clear_blk rfl (.tmp 36) 33 rfl 49 i49 zero49 Try.underlying33 HI.out.1 HI.out.2 zero49_one (base + y) (a * 6) (b - a) (W - a) rfl (rowCells r) 49 HBd.out HFit.out ?_; intro w4 hb4 hs4)
        have hs5 := HSd.out.trans hs4
        exact bodyPost_ret (v := .tuple #[]) (by simp [results, Try.results45, go_sem]) rfl ⟨rfl, HFin0.out w4 hb4 hs5, hs5⟩
  · obtain ⟨m, hm⟩ : ∃ m : Nat, (y : Int) + n = m := ⟨((y : Int) + n).toNat, by omega⟩
    have hmH : m < S.H := by rw [← HHe.out]; omega
    have hmH1 : (m : Int) < 1024 := by omega
    obtain ⟨q, hq, hql, hqp, hqb⟩ := HS0.out.rowAt m hmH
    have hmcell : w.cell? ⟨s, m, none⟩ = some (.slice (some ⟨base + m, 0, none⟩) W W) := by rw [HS0.out.row m hmH, ← HWe.out]
    have HMe := Lib.hid (show mvRow a b c d n S.rows y = S.rows.set y (blit a ((q.take b).drop a) r) from HMv.out.trans (by
      rw [if_neg hclr, show ((y : Int) + n).toNat = m by omega, List.getD_eq_getElem?_getD, hq]; rfl))
    have hql' : q.length = W := hql.trans HWe.out.symm
    have hcl := cut_length q a b (by omega)
    have HQ := Lib.hid (And.intro hql' (And.intro hqp hcl))
    have HSr := Lib.hid (show ∀ (j : Nat) (v : Value), (rowCells ((q.take b).drop a))[j]? = some v → w.drew.cell? ((⟨base + m, a * 6, none⟩ : Addr).add j) = some v from fun j v hj => by
      have h1 : CAt w (base + m) 0 q := Blk.cat (L := rowCells q) (by rw [lay_whole q q rfl]; exact hqb) (by rw [rowCells_length]; omega)
      have h2 := h1.cut a b j v hj
      rw [Nat.zero_add] at h2
      exact h2)
    have hwm : IntKind.i64.wrap (m : Int) = m := by simp only [IntKind.wrap, IntKind.bits, IntKind.signed]; simp; omega
    have HBd := Lib.hid (HB.out.stay (F := []) (Stay.drew w) (by simp))
    have HSd := Lib.hid (Stay.drew (F := [base + y]) w)
    have HFt := Lib.hid (show a * 6 + (rowCells ((q.take b).drop a)).length ≤ (rowCells r).length from by rw [rowCells_length, rowCells_length, hcl, HR.out.2.1]; omega)
    have HCs := Lib.hid (show (rowCells ((q.take b).drop a)).length = Nat.min (b - a) (b - a) * 6 from by rw [rowCells_length, hcl, show Nat.min (b - a) (b - a) = b - a from Nat.min_self _])
    have HFin0 := Lib.hid (show ∀ w4, Blk w4 (base + y) ((rowCells r).take (a * 6) ++ rowCells ((q.take b).drop a) ++ (rowCells r).drop (a * 6 + (rowCells ((q.take b).drop a)).length)) 49 → Stay [base + y] w w4 → Sm w4 s base os { S with rows := mvRow a b c d n S.rows y } from by
      intro w4 hb4 hs4
      rw [blit_cells] at hb4
      exact HFin.out _ w4 HMe.out HQ.out.2.2 (cut_part HQ.out.2.1 _ _) hb4 hs4)
    have hcs : (n < 0 ∧ ¬ n < (c : Int) - y) ∨ (¬ n < 0 ∧ 0 < n ∧ ¬ (d : Int) - y ≤ n) := by omega
    clear hq hql hqp hqb hql' hcl hclr
    have hab2 : a ≤ b := hab
    by_cases hWa : W = a
    · have hba : b = a := by omega
      have hbW' : b = W := by omega
      have HFin1 := Lib.hid (show ∀ w4, Blk w4 (base + y) (rowCells r) 49 → Stay [base + y] w w4 → Sm w4 s base os { S with rows := mvRow a b c d n S.rows y } from by
        intro w4 hb4 hs4
        refine HFin0.out w4 ?_ hs4
        have e : (q.take b).drop a = [] := List.eq_nil_of_length_eq_zero (by rw [HQ.out.2.2]; omega)
        rw [e]
        simp only [rowCells, List.flatMap_nil, List.append_nil, List.length_nil, Nat.add_zero, List.take_append_drop]
        exact hb4)
      subst hWa
      subst hba
      clear hbW'
      rcases hcs with ⟨hc2, hc3⟩ | ⟨hc2, hc3, hc4⟩
      all_goals
        go_enter Try.func45, Try.ntmps45
        go_wp2_with fail
        go_still_tail 20, (by kernel_rfl)
        change wpList _ _ _ _ _ w.drew
        generalize w.drew = w2 at *
        go_wp2_with (refine wpList_copy_blk rfl (.tmp 45) (.tmp 56) 33 33 rfl 49 6 Try.underlying33 hz49 (base + y) 0 0 0 rfl ⟨base + m, 0, none⟩ 0 0 rfl (rowCells r) 49 HBd.out [] rfl (by simp) (by simp) (by simp) ?_; intro w4 hb4 hs4)
        have hs5 := HSd.out.trans hs4
        exact bodyPost_end (v := .tuple #[]) (by simp [results, Try.results45, go_sem]) rfl ⟨rfl, HFin1.out w4 (by simpa using hb4) hs5, hs5⟩
    · have hWa' : ¬ (W : Int) = a := by omega
      rcases hcs with ⟨hc2, hc3⟩ | ⟨hc2, hc3, hc4⟩
      all_goals
        go_enter Try.func45, Try.ntmps45
        go_wp2_with fail
        go_still_tail 20, (by kernel_rfl)
        change wpList _ _ _ _ _ w.drew
        generalize w.drew = w2 at *
        go_wp2_with (refine wpList_copy_blk rfl (.tmp 45) (.tmp 56) 33 33 rfl 49 6 Try.underlying33 hz49 (base + y) (a * 6) (b - a) (W - a) rfl ⟨base + m, a * 6, none⟩ (b - a) (W - a) rfl (rowCells r) 49 HBd.out (rowCells ((q.take b).drop a)) HCs.out HSr.out HFt.out (rowCells_one _) ?_; intro w4 hb4 hs4)
        have hs5 := HSd.out.trans hs4
        exact bodyPost_end (v := .tuple #[]) (by simp [results, Try.results45, go_sem]) rfl ⟨rfl, HFin0.out w4 hb4 hs5, hs5⟩
end Go.Proofs.Ytohkjopdoejedaa
