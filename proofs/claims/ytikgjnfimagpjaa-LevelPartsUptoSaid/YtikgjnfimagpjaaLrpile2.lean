/- package level: the document's above, said, begin, embeds, isolates (printed by gen_rpile2.py). -/
import Derived.Test.YtikgjnfimagpjaaLrpile
namespace Go.Proofs.Ytikgjnfimagpjaa
open Go.RowKit
theorem rabove_any (odd : Bool) (lev : Int) (h0 : 0 ≤ lev) (h1 : lev ≤ 125) (w : World) : Calls Try.prog 67 #[.int .u8 lev, .bool odd] w fun e w' => e = .returned (.int .u8 (upL odd lev)) ∧ w = w' := by
  have hw1 : IntKind.u8.wrap (lev + 1) = lev + 1 := by simp [IntKind.wrap, IntKind.signed, IntKind.bits]; omega
  have hw2 : IntKind.u8.wrap (lev + 1 + 1) = lev + 1 + 1 := by simp [IntKind.wrap, IntKind.signed, IntKind.bits]; omega
  obtain ⟨q, hq⟩ : ∃ q : Int, lev = 2 * q ∨ lev = 2 * q + 1 := ⟨lev / 2, by omega⟩
  rcases hq with rfl | rfl
  · have hm : (2 * q + 1).tmod 2 = 1 := by rw [Int.tmod_eq_emod_of_nonneg (by omega)]; omega
    have hm2 : (2 * q + 1) % 2 = 1 := by omega
    have HU := Lib.hid (show upL odd (2 * q) = if odd = true then 2 * q + 1 else 2 * q + 2 from by
      unfold upL
      have : (2 * q % 2 == 1) = false := by
        have : 2 * q % 2 = 0 := by omega
        rw [this]; rfl
      rw [this]
      cases odd <;> simp)
    cases odd <;> go_enter Try.func67, Try.ntmps67 <;> go_wp2 <;> go_ret <;> exact ⟨ret_int' (HU.out.trans (by simp; try omega)), rfl⟩
  · have hm : (2 * q + 1 + 1).tmod 2 = 0 := by rw [Int.tmod_eq_emod_of_nonneg (by omega)]; omega
    have hm2 : (2 * q + 1 + 1) % 2 = 0 := by omega
    have HU := Lib.hid (show upL odd (2 * q + 1) = if odd = true then 2 * q + 1 + 2 else 2 * q + 1 + 1 from by
      unfold upL
      have : ((2 * q + 1) % 2 == 1) = true := by
        have : (2 * q + 1) % 2 = 1 := by omega
        rw [this]; rfl
      rw [this]
      cases odd <;> simp)
    cases odd <;> go_enter Try.func67, Try.ntmps67 <;> go_wp2 <;> go_ret <;> exact ⟨ret_int' (HU.out.trans (by simp; try omega)), rfl⟩
theorem rsaid_any (l o d : Int) (i : Bool) (ho : -1 ≤ o) (w : World) : Calls Try.prog 60 #[.agg #[.int .u8 l, .int .i8 o, .bool i], .int .i8 d] w fun e w' => e = .returned (.int .i8 (saidL o d)) ∧ Stay [] w w' := by
  by_cases h : 0 ≤ o
  · have HX := Lib.hid (show saidL o d = o from by unfold saidL; rw [if_neg (by omega)])
    have b1 : decide (o ≥ 0) = true := by simpa using h
    go_enter Try.func60, Try.ntmps60
    go_wp2
    go_ret
    exact ⟨ret_int' HX.out, Stay.alloc _ _⟩
  · have HX := Lib.hid (show saidL o d = d from by unfold saidL; rw [if_pos (by omega)])
    have b1 : decide (o ≥ 0) = false := by simpa using h
    go_enter Try.func60, Try.ntmps60
    go_wp2
    go_ret
    exact ⟨ret_int' HX.out, Stay.alloc _ _⟩
set_option maxHeartbeats 4000000 in
theorem rembed14 (B b g n c : Nat) (low : Int) (prv : Value) (p : PL) (hG : GoodP p) (w : World) (hp : RPileAt w B b g n c low prv p.ps) (hn : n ≤ 2097152) (hlo : p.lost ≤ 2097152) :
    Calls Try.prog 59 #[.pointer (some ⟨b, 0, none⟩), .int .i8 14] w fun e w' => e = .returned (.tuple #[]) ∧ ∃ g' n' c', n' ≤ n + 1 ∧ RPileAt w' B b g' n' c' low prv (embedP 14 p).ps ∧ Stay [b, g] w w' ∧ (g' = g ∨ w.heap.size ≤ g') := by
  have HE := Lib.hid (show embedP 14 p = (match layP false (-1) false p with
    | some q => q
    | none => if p.deep = 0 then { p with lost := p.lost + 1 } else p) from rfl)
  obtain ⟨i0, hi0, hz0, hz1, hz2⟩ := info_parts info78
  obtain ⟨t, r, hstk, hsts, h0, h1⟩ := hG.top
  have HT := Lib.hid (rtop_any B b g n c low prv p.ps _ t hsts w hp)
  have HPW := Lib.hid (fun w' (hst : Stay [] w w') => hp.stay (F := []) hst (by simp) (by simp))
  have HL0 := Lib.hid (fun h => layP_none (odd := false) (over := (-1)) (iso := false) hstk h)
  have HL1 := Lib.hid (fun q h => layP_some (odd := false) (over := (-1)) (iso := false) (p := p) (q := q) h)
  have HBw := Lib.hid (show B ≤ w.heap.size from by have := hp.base; have := hp.blk.lt; omega)
  have HSK := Lib.hid hstk
  have hbz := hp.blk.lt
  have hgb := hp.far
  have HA := Lib.hid (fun w => rabove_any false t.level h0 h1 w)
  clear hsts hp hG
  obtain ⟨lev, hlev⟩ : ∃ lev, lev = t.level := ⟨_, rfl⟩
  obtain ⟨ov, hov⟩ : ∃ ov, ov = t.over := ⟨_, rfl⟩
  obtain ⟨si, hsi⟩ : ∃ si, si = t.iso := ⟨_, rfl⟩
  rw [← hlev] at HT HA HL0 h0 h1
  rw [← hov, ← hsi] at HT
  obtain ⟨x, hx⟩ : ∃ x, x = upL false lev := ⟨_, rfl⟩
  rw [← hx] at HA HL0
  have HX := Lib.hid (And.intro hx hlev)
  clear hx hlev hov hsi hstk
  cases hl : layP false (-1) false p with
  | some q =>
    rw [hl] at HE
    obtain ⟨t', r', hs', hx1, hd, hlost, hq⟩ := HL1.out q hl
    have hxx : x ≤ 125 := by
      rw [HSK.out] at hs'
      injection hs' with e1 e2
      rw [HX.out.1, HX.out.2, e1]
      exact hx1
    have HQ := Lib.hid (show q = { p with stk := ⟨x, -1, false⟩ :: p.stk } from by
      rw [HSK.out] at hs'
      injection hs' with e1 e2
      rw [hq, HX.out.1, HX.out.2, e1])
    have b1 : decide (x ≤ 125) = true := by simpa using hxx
    clear hl hs' hx1 hq
    go_enter Try.func59, Try.ntmps59
    go_wp2_with (first
      | (go_at_call 58; refine HT.out.mono ?_; rintro e w1 ⟨rfl, hst1⟩
         have hst2 := hst1.trans (Stay.alloc (F := []) w1 (.cells #[.int .u8 lev, .int .i8 ov, .bool si] 78))
         have hc0 := (HPW.out _ hst2).blk.cell 0
         have hc1 := (HPW.out _ hst2).blk.cell 1
         have hc2 := (HPW.out _ hst2).blk.cell 2
         have hc3 := (HPW.out _ hst2).blk.cell 3
         have hf0 := (HPW.out _ hst2).blk.free 0
         have hf1 := (HPW.out _ hst2).blk.free 1
         have hf2 := (HPW.out _ hst2).blk.free 2
         have hf3 := (HPW.out _ hst2).blk.free 3
         simp only [List.getElem?_cons_zero, List.getElem?_cons_succ, PL.ps, hd, hlost] at hc0 hc1 hc2 hc3)
      | (go_at_call 67; refine (HA.out _).mono ?_; rintro e w' ⟨rfl, rfl⟩)
      | (at_builtin; refine wpList_append_row rfl (.tmp 42) (.tmp 46) 55 rfl i0 _ 3 Try.underlying55 hi0 hz0 hz1 hz2 rfl rfl ((HPW.out _ hst2).row.stay (F := []) (Stay.alloc _ _) (by simp)) _ 1 1 [.int .u8 x, .int .i8 (-1), .bool false] rfl rfl (cells_new _ _ _ _ (by simp)) (one_st _ _ _) (by unfold maxLen; omega) (by omega) (by rw [size_alloc']; have := HBw.out; have := hst2.size; simp at this ⊢; omega) ?_; intro g' c' w3 hr3 hst3 hg3
         have hb3 := ((HPW.out _ hst2).blk.stay (F := []) (Stay.alloc _ (.cells #[.int .u8 x, .int .i8 (-1), .bool false] 78)) (by simp)).stay hst3 (by simpa using fun e : b = g => hgb e.symm)
         have hc30 := hb3.cell 0
         have hf30 := hb3.free 0
         simp only [List.getElem?_cons_zero] at hc30
         have HR := Lib.hid (RPileAt.laid (st := ⟨x, -1, false⟩) ((HPW.out _ hst2).stay (F := []) (Stay.alloc _ (.cells #[.int .u8 x, .int .i8 (-1), .bool false] 78)) (by simp) (by simp)) hst3 hr3 hg3 (hst2.trans (Stay.alloc _ _)))
         clear hr3 hst3 hg3 hb3))
    exact bodyPost_ret (v := .tuple #[]) (by simp [results, Try.results59, go_sem]) rfl ⟨rfl, g', n + 1, c', Nat.le_refl _, by rw [HE.out, HQ.out]; simpa [PL.ps] using HR.out.1, HR.out.2⟩
  | none =>
    rw [hl] at HE
    have hno := HL0.out hl
    clear hl
    by_cases hd : p.deep = 0
    · have HE2 := Lib.hid (HE.out.trans (if_pos hd))
      by_cases hx : x ≤ 125
      · have b1 : decide (x ≤ 125) = true := by simpa using hx
        have hlp : 0 < p.lost := by omega
        have bl : ((p.lost : Int) == 0) = false := by
          have : p.lost ≠ 0 := by omega
          simpa using this
        clear hno hx
        go_enter Try.func59, Try.ntmps59
        go_wp2_with (first
          | (go_at_call 58; refine HT.out.mono ?_; rintro e w1 ⟨rfl, hst1⟩
             have hst2 := hst1.trans (Stay.alloc (F := []) w1 (.cells #[.int .u8 lev, .int .i8 ov, .bool si] 78))
             have hc0 := (HPW.out _ hst2).blk.cell 0
             have hc1 := (HPW.out _ hst2).blk.cell 1
             have hc2 := (HPW.out _ hst2).blk.cell 2
             have hc3 := (HPW.out _ hst2).blk.cell 3
             have hf0 := (HPW.out _ hst2).blk.free 0
             have hf1 := (HPW.out _ hst2).blk.free 1
             have hf2 := (HPW.out _ hst2).blk.free 2
             have hf3 := (HPW.out _ hst2).blk.free 3
             simp only [List.getElem?_cons_zero, List.getElem?_cons_succ, PL.ps, hd] at hc0 hc1 hc2 hc3)
          | (go_at_call 67; refine (HA.out _).mono ?_; rintro e w' ⟨rfl, rfl⟩))
        exact bodyPost_end (v := .tuple #[]) (by simp [results, Try.results59, go_sem]) rfl ⟨rfl, g, n, c, Nat.le_succ _, by rw [HE2.out]; exact rlost_put (HPW.out _ hst2) ⟨rfl, rfl, rfl, by simp [PL.ps]⟩, (hst2.mono (by simp)).set' (.inl (by simp)), .inl rfl⟩
      · have b1 : decide (x ≤ 125) = false := by simpa using hx
        clear hno hx
        go_enter Try.func59, Try.ntmps59
        go_wp2_with (first
          | (go_at_call 58; refine HT.out.mono ?_; rintro e w1 ⟨rfl, hst1⟩
             have hst2 := hst1.trans (Stay.alloc (F := []) w1 (.cells #[.int .u8 lev, .int .i8 ov, .bool si] 78))
             have hc0 := (HPW.out _ hst2).blk.cell 0
             have hc1 := (HPW.out _ hst2).blk.cell 1
             have hc2 := (HPW.out _ hst2).blk.cell 2
             have hc3 := (HPW.out _ hst2).blk.cell 3
             have hf0 := (HPW.out _ hst2).blk.free 0
             have hf1 := (HPW.out _ hst2).blk.free 1
             have hf2 := (HPW.out _ hst2).blk.free 2
             have hf3 := (HPW.out _ hst2).blk.free 3
             simp only [List.getElem?_cons_zero, List.getElem?_cons_succ, PL.ps, hd] at hc0 hc1 hc2 hc3)
          | (go_at_call 67; refine (HA.out _).mono ?_; rintro e w' ⟨rfl, rfl⟩))
        exact bodyPost_end (v := .tuple #[]) (by simp [results, Try.results59, go_sem]) rfl ⟨rfl, g, n, c, Nat.le_succ _, by rw [HE2.out]; exact rlost_put (HPW.out _ hst2) ⟨rfl, rfl, rfl, by simp [PL.ps]⟩, (hst2.mono (by simp)).set' (.inl (by simp)), .inl rfl⟩
    · have HE2 := Lib.hid (HE.out.trans (if_neg hd))
      have bd : ((p.deep : Int) == 0) = false := by simpa using hd
      clear hno hd
      cases b1 : decide (x ≤ 125) with
      | true =>
        go_enter Try.func59, Try.ntmps59
        go_wp2_with (first
          | (go_at_call 58; refine HT.out.mono ?_; rintro e w1 ⟨rfl, hst1⟩
             have hst2 := hst1.trans (Stay.alloc (F := []) w1 (.cells #[.int .u8 lev, .int .i8 ov, .bool si] 78))
             have hc0 := (HPW.out _ hst2).blk.cell 0
             have hc1 := (HPW.out _ hst2).blk.cell 1
             have hc2 := (HPW.out _ hst2).blk.cell 2
             have hc3 := (HPW.out _ hst2).blk.cell 3
             have hf0 := (HPW.out _ hst2).blk.free 0
             have hf1 := (HPW.out _ hst2).blk.free 1
             have hf2 := (HPW.out _ hst2).blk.free 2
             have hf3 := (HPW.out _ hst2).blk.free 3
             simp only [List.getElem?_cons_zero, List.getElem?_cons_succ, PL.ps] at hc0 hc1 hc2 hc3)
          | (go_at_call 67; refine (HA.out _).mono ?_; rintro e w' ⟨rfl, rfl⟩))
        exact bodyPost_end (v := .tuple #[]) (by simp [results, Try.results59, go_sem]) rfl ⟨rfl, g, n, c, Nat.le_succ _, by rw [HE2.out]; exact HPW.out _ hst2, hst2.mono (by simp), .inl rfl⟩
      | false =>
        go_enter Try.func59, Try.ntmps59
        go_wp2_with (first
          | (go_at_call 58; refine HT.out.mono ?_; rintro e w1 ⟨rfl, hst1⟩
             have hst2 := hst1.trans (Stay.alloc (F := []) w1 (.cells #[.int .u8 lev, .int .i8 ov, .bool si] 78))
             have hc0 := (HPW.out _ hst2).blk.cell 0
             have hc1 := (HPW.out _ hst2).blk.cell 1
             have hc2 := (HPW.out _ hst2).blk.cell 2
             have hc3 := (HPW.out _ hst2).blk.cell 3
             have hf0 := (HPW.out _ hst2).blk.free 0
             have hf1 := (HPW.out _ hst2).blk.free 1
             have hf2 := (HPW.out _ hst2).blk.free 2
             have hf3 := (HPW.out _ hst2).blk.free 3
             simp only [List.getElem?_cons_zero, List.getElem?_cons_succ, PL.ps] at hc0 hc1 hc2 hc3)
          | (go_at_call 67; refine (HA.out _).mono ?_; rintro e w' ⟨rfl, rfl⟩))
        exact bodyPost_end (v := .tuple #[]) (by simp [results, Try.results59, go_sem]) rfl ⟨rfl, g, n, c, Nat.le_succ _, by rw [HE2.out]; exact HPW.out _ hst2, hst2.mono (by simp), .inl rfl⟩
set_option maxHeartbeats 4000000 in
theorem rembed15 (B b g n c : Nat) (low : Int) (prv : Value) (p : PL) (hG : GoodP p) (w : World) (hp : RPileAt w B b g n c low prv p.ps) (hn : n ≤ 2097152) (hlo : p.lost ≤ 2097152) :
    Calls Try.prog 59 #[.pointer (some ⟨b, 0, none⟩), .int .i8 15] w fun e w' => e = .returned (.tuple #[]) ∧ ∃ g' n' c', n' ≤ n + 1 ∧ RPileAt w' B b g' n' c' low prv (embedP 15 p).ps ∧ Stay [b, g] w w' ∧ (g' = g ∨ w.heap.size ≤ g') := by
  have HE := Lib.hid (show embedP 15 p = (match layP true (-1) false p with
    | some q => q
    | none => if p.deep = 0 then { p with lost := p.lost + 1 } else p) from rfl)
  obtain ⟨i0, hi0, hz0, hz1, hz2⟩ := info_parts info78
  obtain ⟨t, r, hstk, hsts, h0, h1⟩ := hG.top
  have HT := Lib.hid (rtop_any B b g n c low prv p.ps _ t hsts w hp)
  have HPW := Lib.hid (fun w' (hst : Stay [] w w') => hp.stay (F := []) hst (by simp) (by simp))
  have HL0 := Lib.hid (fun h => layP_none (odd := true) (over := (-1)) (iso := false) hstk h)
  have HL1 := Lib.hid (fun q h => layP_some (odd := true) (over := (-1)) (iso := false) (p := p) (q := q) h)
  have HBw := Lib.hid (show B ≤ w.heap.size from by have := hp.base; have := hp.blk.lt; omega)
  have HSK := Lib.hid hstk
  have hbz := hp.blk.lt
  have hgb := hp.far
  have HA := Lib.hid (fun w => rabove_any true t.level h0 h1 w)
  clear hsts hp hG
  obtain ⟨lev, hlev⟩ : ∃ lev, lev = t.level := ⟨_, rfl⟩
  obtain ⟨ov, hov⟩ : ∃ ov, ov = t.over := ⟨_, rfl⟩
  obtain ⟨si, hsi⟩ : ∃ si, si = t.iso := ⟨_, rfl⟩
  rw [← hlev] at HT HA HL0 h0 h1
  rw [← hov, ← hsi] at HT
  obtain ⟨x, hx⟩ : ∃ x, x = upL true lev := ⟨_, rfl⟩
  rw [← hx] at HA HL0
  have HX := Lib.hid (And.intro hx hlev)
  clear hx hlev hov hsi hstk
  cases hl : layP true (-1) false p with
  | some q =>
    rw [hl] at HE
    obtain ⟨t', r', hs', hx1, hd, hlost, hq⟩ := HL1.out q hl
    have hxx : x ≤ 125 := by
      rw [HSK.out] at hs'
      injection hs' with e1 e2
      rw [HX.out.1, HX.out.2, e1]
      exact hx1
    have HQ := Lib.hid (show q = { p with stk := ⟨x, -1, false⟩ :: p.stk } from by
      rw [HSK.out] at hs'
      injection hs' with e1 e2
      rw [hq, HX.out.1, HX.out.2, e1])
    have b1 : decide (x ≤ 125) = true := by simpa using hxx
    clear hl hs' hx1 hq
    go_enter Try.func59, Try.ntmps59
    go_wp2_with (first
      | (go_at_call 58; refine HT.out.mono ?_; rintro e w1 ⟨rfl, hst1⟩
         have hst2 := hst1.trans (Stay.alloc (F := []) w1 (.cells #[.int .u8 lev, .int .i8 ov, .bool si] 78))
         have hc0 := (HPW.out _ hst2).blk.cell 0
         have hc1 := (HPW.out _ hst2).blk.cell 1
         have hc2 := (HPW.out _ hst2).blk.cell 2
         have hc3 := (HPW.out _ hst2).blk.cell 3
         have hf0 := (HPW.out _ hst2).blk.free 0
         have hf1 := (HPW.out _ hst2).blk.free 1
         have hf2 := (HPW.out _ hst2).blk.free 2
         have hf3 := (HPW.out _ hst2).blk.free 3
         simp only [List.getElem?_cons_zero, List.getElem?_cons_succ, PL.ps, hd, hlost] at hc0 hc1 hc2 hc3)
      | (go_at_call 67; refine (HA.out _).mono ?_; rintro e w' ⟨rfl, rfl⟩)
      | (at_builtin; refine wpList_append_row rfl (.tmp 42) (.tmp 46) 55 rfl i0 _ 3 Try.underlying55 hi0 hz0 hz1 hz2 rfl rfl ((HPW.out _ hst2).row.stay (F := []) (Stay.alloc _ _) (by simp)) _ 1 1 [.int .u8 x, .int .i8 (-1), .bool false] rfl rfl (cells_new _ _ _ _ (by simp)) (one_st _ _ _) (by unfold maxLen; omega) (by omega) (by rw [size_alloc']; have := HBw.out; have := hst2.size; simp at this ⊢; omega) ?_; intro g' c' w3 hr3 hst3 hg3
         have hb3 := ((HPW.out _ hst2).blk.stay (F := []) (Stay.alloc _ (.cells #[.int .u8 x, .int .i8 (-1), .bool false] 78)) (by simp)).stay hst3 (by simpa using fun e : b = g => hgb e.symm)
         have hc30 := hb3.cell 0
         have hf30 := hb3.free 0
         simp only [List.getElem?_cons_zero] at hc30
         have HR := Lib.hid (RPileAt.laid (st := ⟨x, -1, false⟩) ((HPW.out _ hst2).stay (F := []) (Stay.alloc _ (.cells #[.int .u8 x, .int .i8 (-1), .bool false] 78)) (by simp) (by simp)) hst3 hr3 hg3 (hst2.trans (Stay.alloc _ _)))
         clear hr3 hst3 hg3 hb3))
    exact bodyPost_ret (v := .tuple #[]) (by simp [results, Try.results59, go_sem]) rfl ⟨rfl, g', n + 1, c', Nat.le_refl _, by rw [HE.out, HQ.out]; simpa [PL.ps] using HR.out.1, HR.out.2⟩
  | none =>
    rw [hl] at HE
    have hno := HL0.out hl
    clear hl
    by_cases hd : p.deep = 0
    · have HE2 := Lib.hid (HE.out.trans (if_pos hd))
      by_cases hx : x ≤ 125
      · have b1 : decide (x ≤ 125) = true := by simpa using hx
        have hlp : 0 < p.lost := by omega
        have bl : ((p.lost : Int) == 0) = false := by
          have : p.lost ≠ 0 := by omega
          simpa using this
        clear hno hx
        go_enter Try.func59, Try.ntmps59
        go_wp2_with (first
          | (go_at_call 58; refine HT.out.mono ?_; rintro e w1 ⟨rfl, hst1⟩
             have hst2 := hst1.trans (Stay.alloc (F := []) w1 (.cells #[.int .u8 lev, .int .i8 ov, .bool si] 78))
             have hc0 := (HPW.out _ hst2).blk.cell 0
             have hc1 := (HPW.out _ hst2).blk.cell 1
             have hc2 := (HPW.out _ hst2).blk.cell 2
             have hc3 := (HPW.out _ hst2).blk.cell 3
             have hf0 := (HPW.out _ hst2).blk.free 0
             have hf1 := (HPW.out _ hst2).blk.free 1
             have hf2 := (HPW.out _ hst2).blk.free 2
             have hf3 := (HPW.out _ hst2).blk.free 3
             simp only [List.getElem?_cons_zero, List.getElem?_cons_succ, PL.ps, hd] at hc0 hc1 hc2 hc3)
          | (go_at_call 67; refine (HA.out _).mono ?_; rintro e w' ⟨rfl, rfl⟩))
        exact bodyPost_end (v := .tuple #[]) (by simp [results, Try.results59, go_sem]) rfl ⟨rfl, g, n, c, Nat.le_succ _, by rw [HE2.out]; exact rlost_put (HPW.out _ hst2) ⟨rfl, rfl, rfl, by simp [PL.ps]⟩, (hst2.mono (by simp)).set' (.inl (by simp)), .inl rfl⟩
      · have b1 : decide (x ≤ 125) = false := by simpa using hx
        clear hno hx
        go_enter Try.func59, Try.ntmps59
        go_wp2_with (first
          | (go_at_call 58; refine HT.out.mono ?_; rintro e w1 ⟨rfl, hst1⟩
             have hst2 := hst1.trans (Stay.alloc (F := []) w1 (.cells #[.int .u8 lev, .int .i8 ov, .bool si] 78))
             have hc0 := (HPW.out _ hst2).blk.cell 0
             have hc1 := (HPW.out _ hst2).blk.cell 1
             have hc2 := (HPW.out _ hst2).blk.cell 2
             have hc3 := (HPW.out _ hst2).blk.cell 3
             have hf0 := (HPW.out _ hst2).blk.free 0
             have hf1 := (HPW.out _ hst2).blk.free 1
             have hf2 := (HPW.out _ hst2).blk.free 2
             have hf3 := (HPW.out _ hst2).blk.free 3
             simp only [List.getElem?_cons_zero, List.getElem?_cons_succ, PL.ps, hd] at hc0 hc1 hc2 hc3)
          | (go_at_call 67; refine (HA.out _).mono ?_; rintro e w' ⟨rfl, rfl⟩))
        exact bodyPost_end (v := .tuple #[]) (by simp [results, Try.results59, go_sem]) rfl ⟨rfl, g, n, c, Nat.le_succ _, by rw [HE2.out]; exact rlost_put (HPW.out _ hst2) ⟨rfl, rfl, rfl, by simp [PL.ps]⟩, (hst2.mono (by simp)).set' (.inl (by simp)), .inl rfl⟩
    · have HE2 := Lib.hid (HE.out.trans (if_neg hd))
      have bd : ((p.deep : Int) == 0) = false := by simpa using hd
      clear hno hd
      cases b1 : decide (x ≤ 125) with
      | true =>
        go_enter Try.func59, Try.ntmps59
        go_wp2_with (first
          | (go_at_call 58; refine HT.out.mono ?_; rintro e w1 ⟨rfl, hst1⟩
             have hst2 := hst1.trans (Stay.alloc (F := []) w1 (.cells #[.int .u8 lev, .int .i8 ov, .bool si] 78))
             have hc0 := (HPW.out _ hst2).blk.cell 0
             have hc1 := (HPW.out _ hst2).blk.cell 1
             have hc2 := (HPW.out _ hst2).blk.cell 2
             have hc3 := (HPW.out _ hst2).blk.cell 3
             have hf0 := (HPW.out _ hst2).blk.free 0
             have hf1 := (HPW.out _ hst2).blk.free 1
             have hf2 := (HPW.out _ hst2).blk.free 2
             have hf3 := (HPW.out _ hst2).blk.free 3
             simp only [List.getElem?_cons_zero, List.getElem?_cons_succ, PL.ps] at hc0 hc1 hc2 hc3)
          | (go_at_call 67; refine (HA.out _).mono ?_; rintro e w' ⟨rfl, rfl⟩))
        exact bodyPost_end (v := .tuple #[]) (by simp [results, Try.results59, go_sem]) rfl ⟨rfl, g, n, c, Nat.le_succ _, by rw [HE2.out]; exact HPW.out _ hst2, hst2.mono (by simp), .inl rfl⟩
      | false =>
        go_enter Try.func59, Try.ntmps59
        go_wp2_with (first
          | (go_at_call 58; refine HT.out.mono ?_; rintro e w1 ⟨rfl, hst1⟩
             have hst2 := hst1.trans (Stay.alloc (F := []) w1 (.cells #[.int .u8 lev, .int .i8 ov, .bool si] 78))
             have hc0 := (HPW.out _ hst2).blk.cell 0
             have hc1 := (HPW.out _ hst2).blk.cell 1
             have hc2 := (HPW.out _ hst2).blk.cell 2
             have hc3 := (HPW.out _ hst2).blk.cell 3
             have hf0 := (HPW.out _ hst2).blk.free 0
             have hf1 := (HPW.out _ hst2).blk.free 1
             have hf2 := (HPW.out _ hst2).blk.free 2
             have hf3 := (HPW.out _ hst2).blk.free 3
             simp only [List.getElem?_cons_zero, List.getElem?_cons_succ, PL.ps] at hc0 hc1 hc2 hc3)
          | (go_at_call 67; refine (HA.out _).mono ?_; rintro e w' ⟨rfl, rfl⟩))
        exact bodyPost_end (v := .tuple #[]) (by simp [results, Try.results59, go_sem]) rfl ⟨rfl, g, n, c, Nat.le_succ _, by rw [HE2.out]; exact HPW.out _ hst2, hst2.mono (by simp), .inl rfl⟩
set_option maxHeartbeats 4000000 in
theorem rembed16 (B b g n c : Nat) (low : Int) (prv : Value) (p : PL) (hG : GoodP p) (w : World) (hp : RPileAt w B b g n c low prv p.ps) (hn : n ≤ 2097152) (hlo : p.lost ≤ 2097152) :
    Calls Try.prog 59 #[.pointer (some ⟨b, 0, none⟩), .int .i8 16] w fun e w' => e = .returned (.tuple #[]) ∧ ∃ g' n' c', n' ≤ n + 1 ∧ RPileAt w' B b g' n' c' low prv (embedP 16 p).ps ∧ Stay [b, g] w w' ∧ (g' = g ∨ w.heap.size ≤ g') := by
  have HE := Lib.hid (show embedP 16 p = (match layP false (0) false p with
    | some q => q
    | none => if p.deep = 0 then { p with lost := p.lost + 1 } else p) from rfl)
  obtain ⟨i0, hi0, hz0, hz1, hz2⟩ := info_parts info78
  obtain ⟨t, r, hstk, hsts, h0, h1⟩ := hG.top
  have HT := Lib.hid (rtop_any B b g n c low prv p.ps _ t hsts w hp)
  have HPW := Lib.hid (fun w' (hst : Stay [] w w') => hp.stay (F := []) hst (by simp) (by simp))
  have HL0 := Lib.hid (fun h => layP_none (odd := false) (over := (0)) (iso := false) hstk h)
  have HL1 := Lib.hid (fun q h => layP_some (odd := false) (over := (0)) (iso := false) (p := p) (q := q) h)
  have HBw := Lib.hid (show B ≤ w.heap.size from by have := hp.base; have := hp.blk.lt; omega)
  have HSK := Lib.hid hstk
  have hbz := hp.blk.lt
  have hgb := hp.far
  have HA := Lib.hid (fun w => rabove_any false t.level h0 h1 w)
  clear hsts hp hG
  obtain ⟨lev, hlev⟩ : ∃ lev, lev = t.level := ⟨_, rfl⟩
  obtain ⟨ov, hov⟩ : ∃ ov, ov = t.over := ⟨_, rfl⟩
  obtain ⟨si, hsi⟩ : ∃ si, si = t.iso := ⟨_, rfl⟩
  rw [← hlev] at HT HA HL0 h0 h1
  rw [← hov, ← hsi] at HT
  obtain ⟨x, hx⟩ : ∃ x, x = upL false lev := ⟨_, rfl⟩
  rw [← hx] at HA HL0
  have HX := Lib.hid (And.intro hx hlev)
  clear hx hlev hov hsi hstk
  cases hl : layP false (0) false p with
  | some q =>
    rw [hl] at HE
    obtain ⟨t', r', hs', hx1, hd, hlost, hq⟩ := HL1.out q hl
    have hxx : x ≤ 125 := by
      rw [HSK.out] at hs'
      injection hs' with e1 e2
      rw [HX.out.1, HX.out.2, e1]
      exact hx1
    have HQ := Lib.hid (show q = { p with stk := ⟨x, 0, false⟩ :: p.stk } from by
      rw [HSK.out] at hs'
      injection hs' with e1 e2
      rw [hq, HX.out.1, HX.out.2, e1])
    have b1 : decide (x ≤ 125) = true := by simpa using hxx
    clear hl hs' hx1 hq
    go_enter Try.func59, Try.ntmps59
    go_wp2_with (first
      | (go_at_call 58; refine HT.out.mono ?_; rintro e w1 ⟨rfl, hst1⟩
         have hst2 := hst1.trans (Stay.alloc (F := []) w1 (.cells #[.int .u8 lev, .int .i8 ov, .bool si] 78))
         have hc0 := (HPW.out _ hst2).blk.cell 0
         have hc1 := (HPW.out _ hst2).blk.cell 1
         have hc2 := (HPW.out _ hst2).blk.cell 2
         have hc3 := (HPW.out _ hst2).blk.cell 3
         have hf0 := (HPW.out _ hst2).blk.free 0
         have hf1 := (HPW.out _ hst2).blk.free 1
         have hf2 := (HPW.out _ hst2).blk.free 2
         have hf3 := (HPW.out _ hst2).blk.free 3
         simp only [List.getElem?_cons_zero, List.getElem?_cons_succ, PL.ps, hd, hlost] at hc0 hc1 hc2 hc3)
      | (go_at_call 67; refine (HA.out _).mono ?_; rintro e w' ⟨rfl, rfl⟩)
      | (at_builtin; refine wpList_append_row rfl (.tmp 42) (.tmp 46) 55 rfl i0 _ 3 Try.underlying55 hi0 hz0 hz1 hz2 rfl rfl ((HPW.out _ hst2).row.stay (F := []) (Stay.alloc _ _) (by simp)) _ 1 1 [.int .u8 x, .int .i8 (0), .bool false] rfl rfl (cells_new _ _ _ _ (by simp)) (one_st _ _ _) (by unfold maxLen; omega) (by omega) (by rw [size_alloc']; have := HBw.out; have := hst2.size; simp at this ⊢; omega) ?_; intro g' c' w3 hr3 hst3 hg3
         have hb3 := ((HPW.out _ hst2).blk.stay (F := []) (Stay.alloc _ (.cells #[.int .u8 x, .int .i8 (0), .bool false] 78)) (by simp)).stay hst3 (by simpa using fun e : b = g => hgb e.symm)
         have hc30 := hb3.cell 0
         have hf30 := hb3.free 0
         simp only [List.getElem?_cons_zero] at hc30
         have HR := Lib.hid (RPileAt.laid (st := ⟨x, 0, false⟩) ((HPW.out _ hst2).stay (F := []) (Stay.alloc _ (.cells #[.int .u8 x, .int .i8 (0), .bool false] 78)) (by simp) (by simp)) hst3 hr3 hg3 (hst2.trans (Stay.alloc _ _)))
         clear hr3 hst3 hg3 hb3))
    exact bodyPost_ret (v := .tuple #[]) (by simp [results, Try.results59, go_sem]) rfl ⟨rfl, g', n + 1, c', Nat.le_refl _, by rw [HE.out, HQ.out]; simpa [PL.ps] using HR.out.1, HR.out.2⟩
  | none =>
    rw [hl] at HE
    have hno := HL0.out hl
    clear hl
    by_cases hd : p.deep = 0
    · have HE2 := Lib.hid (HE.out.trans (if_pos hd))
      by_cases hx : x ≤ 125
      · have b1 : decide (x ≤ 125) = true := by simpa using hx
        have hlp : 0 < p.lost := by omega
        have bl : ((p.lost : Int) == 0) = false := by
          have : p.lost ≠ 0 := by omega
          simpa using this
        clear hno hx
        go_enter Try.func59, Try.ntmps59
        go_wp2_with (first
          | (go_at_call 58; refine HT.out.mono ?_; rintro e w1 ⟨rfl, hst1⟩
             have hst2 := hst1.trans (Stay.alloc (F := []) w1 (.cells #[.int .u8 lev, .int .i8 ov, .bool si] 78))
             have hc0 := (HPW.out _ hst2).blk.cell 0
             have hc1 := (HPW.out _ hst2).blk.cell 1
             have hc2 := (HPW.out _ hst2).blk.cell 2
             have hc3 := (HPW.out _ hst2).blk.cell 3
             have hf0 := (HPW.out _ hst2).blk.free 0
             have hf1 := (HPW.out _ hst2).blk.free 1
             have hf2 := (HPW.out _ hst2).blk.free 2
             have hf3 := (HPW.out _ hst2).blk.free 3
             simp only [List.getElem?_cons_zero, List.getElem?_cons_succ, PL.ps, hd] at hc0 hc1 hc2 hc3)
          | (go_at_call 67; refine (HA.out _).mono ?_; rintro e w' ⟨rfl, rfl⟩))
        exact bodyPost_end (v := .tuple #[]) (by simp [results, Try.results59, go_sem]) rfl ⟨rfl, g, n, c, Nat.le_succ _, by rw [HE2.out]; exact rlost_put (HPW.out _ hst2) ⟨rfl, rfl, rfl, by simp [PL.ps]⟩, (hst2.mono (by simp)).set' (.inl (by simp)), .inl rfl⟩
      · have b1 : decide (x ≤ 125) = false := by simpa using hx
        clear hno hx
        go_enter Try.func59, Try.ntmps59
        go_wp2_with (first
          | (go_at_call 58; refine HT.out.mono ?_; rintro e w1 ⟨rfl, hst1⟩
             have hst2 := hst1.trans (Stay.alloc (F := []) w1 (.cells #[.int .u8 lev, .int .i8 ov, .bool si] 78))
             have hc0 := (HPW.out _ hst2).blk.cell 0
             have hc1 := (HPW.out _ hst2).blk.cell 1
             have hc2 := (HPW.out _ hst2).blk.cell 2
             have hc3 := (HPW.out _ hst2).blk.cell 3
             have hf0 := (HPW.out _ hst2).blk.free 0
             have hf1 := (HPW.out _ hst2).blk.free 1
             have hf2 := (HPW.out _ hst2).blk.free 2
             have hf3 := (HPW.out _ hst2).blk.free 3
             simp only [List.getElem?_cons_zero, List.getElem?_cons_succ, PL.ps, hd] at hc0 hc1 hc2 hc3)
          | (go_at_call 67; refine (HA.out _).mono ?_; rintro e w' ⟨rfl, rfl⟩))
        exact bodyPost_end (v := .tuple #[]) (by simp [results, Try.results59, go_sem]) rfl ⟨rfl, g, n, c, Nat.le_succ _, by rw [HE2.out]; exact rlost_put (HPW.out _ hst2) ⟨rfl, rfl, rfl, by simp [PL.ps]⟩, (hst2.mono (by simp)).set' (.inl (by simp)), .inl rfl⟩
    · have HE2 := Lib.hid (HE.out.trans (if_neg hd))
      have bd : ((p.deep : Int) == 0) = false := by simpa using hd
      clear hno hd
      cases b1 : decide (x ≤ 125) with
      | true =>
        go_enter Try.func59, Try.ntmps59
        go_wp2_with (first
          | (go_at_call 58; refine HT.out.mono ?_; rintro e w1 ⟨rfl, hst1⟩
             have hst2 := hst1.trans (Stay.alloc (F := []) w1 (.cells #[.int .u8 lev, .int .i8 ov, .bool si] 78))
             have hc0 := (HPW.out _ hst2).blk.cell 0
             have hc1 := (HPW.out _ hst2).blk.cell 1
             have hc2 := (HPW.out _ hst2).blk.cell 2
             have hc3 := (HPW.out _ hst2).blk.cell 3
             have hf0 := (HPW.out _ hst2).blk.free 0
             have hf1 := (HPW.out _ hst2).blk.free 1
             have hf2 := (HPW.out _ hst2).blk.free 2
             have hf3 := (HPW.out _ hst2).blk.free 3
             simp only [List.getElem?_cons_zero, List.getElem?_cons_succ, PL.ps] at hc0 hc1 hc2 hc3)
          | (go_at_call 67; refine (HA.out _).mono ?_; rintro e w' ⟨rfl, rfl⟩))
        exact bodyPost_end (v := .tuple #[]) (by simp [results, Try.results59, go_sem]) rfl ⟨rfl, g, n, c, Nat.le_succ _, by rw [HE2.out]; exact HPW.out _ hst2, hst2.mono (by simp), .inl rfl⟩
      | false =>
        go_enter Try.func59, Try.ntmps59
        go_wp2_with (first
          | (go_at_call 58; refine HT.out.mono ?_; rintro e w1 ⟨rfl, hst1⟩
             have hst2 := hst1.trans (Stay.alloc (F := []) w1 (.cells #[.int .u8 lev, .int .i8 ov, .bool si] 78))
             have hc0 := (HPW.out _ hst2).blk.cell 0
             have hc1 := (HPW.out _ hst2).blk.cell 1
             have hc2 := (HPW.out _ hst2).blk.cell 2
             have hc3 := (HPW.out _ hst2).blk.cell 3
             have hf0 := (HPW.out _ hst2).blk.free 0
             have hf1 := (HPW.out _ hst2).blk.free 1
             have hf2 := (HPW.out _ hst2).blk.free 2
             have hf3 := (HPW.out _ hst2).blk.free 3
             simp only [List.getElem?_cons_zero, List.getElem?_cons_succ, PL.ps] at hc0 hc1 hc2 hc3)
          | (go_at_call 67; refine (HA.out _).mono ?_; rintro e w' ⟨rfl, rfl⟩))
        exact bodyPost_end (v := .tuple #[]) (by simp [results, Try.results59, go_sem]) rfl ⟨rfl, g, n, c, Nat.le_succ _, by rw [HE2.out]; exact HPW.out _ hst2, hst2.mono (by simp), .inl rfl⟩
set_option maxHeartbeats 4000000 in
theorem rembed17 (B b g n c : Nat) (low : Int) (prv : Value) (p : PL) (hG : GoodP p) (w : World) (hp : RPileAt w B b g n c low prv p.ps) (hn : n ≤ 2097152) (hlo : p.lost ≤ 2097152) :
    Calls Try.prog 59 #[.pointer (some ⟨b, 0, none⟩), .int .i8 17] w fun e w' => e = .returned (.tuple #[]) ∧ ∃ g' n' c', n' ≤ n + 1 ∧ RPileAt w' B b g' n' c' low prv (embedP 17 p).ps ∧ Stay [b, g] w w' ∧ (g' = g ∨ w.heap.size ≤ g') := by
  have HE := Lib.hid (show embedP 17 p = (match layP true (1) false p with
    | some q => q
    | none => if p.deep = 0 then { p with lost := p.lost + 1 } else p) from rfl)
  obtain ⟨i0, hi0, hz0, hz1, hz2⟩ := info_parts info78
  obtain ⟨t, r, hstk, hsts, h0, h1⟩ := hG.top
  have HT := Lib.hid (rtop_any B b g n c low prv p.ps _ t hsts w hp)
  have HPW := Lib.hid (fun w' (hst : Stay [] w w') => hp.stay (F := []) hst (by simp) (by simp))
  have HL0 := Lib.hid (fun h => layP_none (odd := true) (over := (1)) (iso := false) hstk h)
  have HL1 := Lib.hid (fun q h => layP_some (odd := true) (over := (1)) (iso := false) (p := p) (q := q) h)
  have HBw := Lib.hid (show B ≤ w.heap.size from by have := hp.base; have := hp.blk.lt; omega)
  have HSK := Lib.hid hstk
  have hbz := hp.blk.lt
  have hgb := hp.far
  have HA := Lib.hid (fun w => rabove_any true t.level h0 h1 w)
  clear hsts hp hG
  obtain ⟨lev, hlev⟩ : ∃ lev, lev = t.level := ⟨_, rfl⟩
  obtain ⟨ov, hov⟩ : ∃ ov, ov = t.over := ⟨_, rfl⟩
  obtain ⟨si, hsi⟩ : ∃ si, si = t.iso := ⟨_, rfl⟩
  rw [← hlev] at HT HA HL0 h0 h1
  rw [← hov, ← hsi] at HT
  obtain ⟨x, hx⟩ : ∃ x, x = upL true lev := ⟨_, rfl⟩
  rw [← hx] at HA HL0
  have HX := Lib.hid (And.intro hx hlev)
  clear hx hlev hov hsi hstk
  cases hl : layP true (1) false p with
  | some q =>
    rw [hl] at HE
    obtain ⟨t', r', hs', hx1, hd, hlost, hq⟩ := HL1.out q hl
    have hxx : x ≤ 125 := by
      rw [HSK.out] at hs'
      injection hs' with e1 e2
      rw [HX.out.1, HX.out.2, e1]
      exact hx1
    have HQ := Lib.hid (show q = { p with stk := ⟨x, 1, false⟩ :: p.stk } from by
      rw [HSK.out] at hs'
      injection hs' with e1 e2
      rw [hq, HX.out.1, HX.out.2, e1])
    have b1 : decide (x ≤ 125) = true := by simpa using hxx
    clear hl hs' hx1 hq
    go_enter Try.func59, Try.ntmps59
    go_wp2_with (first
      | (go_at_call 58; refine HT.out.mono ?_; rintro e w1 ⟨rfl, hst1⟩
         have hst2 := hst1.trans (Stay.alloc (F := []) w1 (.cells #[.int .u8 lev, .int .i8 ov, .bool si] 78))
         have hc0 := (HPW.out _ hst2).blk.cell 0
         have hc1 := (HPW.out _ hst2).blk.cell 1
         have hc2 := (HPW.out _ hst2).blk.cell 2
         have hc3 := (HPW.out _ hst2).blk.cell 3
         have hf0 := (HPW.out _ hst2).blk.free 0
         have hf1 := (HPW.out _ hst2).blk.free 1
         have hf2 := (HPW.out _ hst2).blk.free 2
         have hf3 := (HPW.out _ hst2).blk.free 3
         simp only [List.getElem?_cons_zero, List.getElem?_cons_succ, PL.ps, hd, hlost] at hc0 hc1 hc2 hc3)
      | (go_at_call 67; refine (HA.out _).mono ?_; rintro e w' ⟨rfl, rfl⟩)
      | (at_builtin; refine wpList_append_row rfl (.tmp 42) (.tmp 46) 55 rfl i0 _ 3 Try.underlying55 hi0 hz0 hz1 hz2 rfl rfl ((HPW.out _ hst2).row.stay (F := []) (Stay.alloc _ _) (by simp)) _ 1 1 [.int .u8 x, .int .i8 (1), .bool false] rfl rfl (cells_new _ _ _ _ (by simp)) (one_st _ _ _) (by unfold maxLen; omega) (by omega) (by rw [size_alloc']; have := HBw.out; have := hst2.size; simp at this ⊢; omega) ?_; intro g' c' w3 hr3 hst3 hg3
         have hb3 := ((HPW.out _ hst2).blk.stay (F := []) (Stay.alloc _ (.cells #[.int .u8 x, .int .i8 (1), .bool false] 78)) (by simp)).stay hst3 (by simpa using fun e : b = g => hgb e.symm)
         have hc30 := hb3.cell 0
         have hf30 := hb3.free 0
         simp only [List.getElem?_cons_zero] at hc30
         have HR := Lib.hid (RPileAt.laid (st := ⟨x, 1, false⟩) ((HPW.out _ hst2).stay (F := []) (Stay.alloc _ (.cells #[.int .u8 x, .int .i8 (1), .bool false] 78)) (by simp) (by simp)) hst3 hr3 hg3 (hst2.trans (Stay.alloc _ _)))
         clear hr3 hst3 hg3 hb3))
    exact bodyPost_ret (v := .tuple #[]) (by simp [results, Try.results59, go_sem]) rfl ⟨rfl, g', n + 1, c', Nat.le_refl _, by rw [HE.out, HQ.out]; simpa [PL.ps] using HR.out.1, HR.out.2⟩
  | none =>
    rw [hl] at HE
    have hno := HL0.out hl
    clear hl
    by_cases hd : p.deep = 0
    · have HE2 := Lib.hid (HE.out.trans (if_pos hd))
      by_cases hx : x ≤ 125
      · have b1 : decide (x ≤ 125) = true := by simpa using hx
        have hlp : 0 < p.lost := by omega
        have bl : ((p.lost : Int) == 0) = false := by
          have : p.lost ≠ 0 := by omega
          simpa using this
        clear hno hx
        go_enter Try.func59, Try.ntmps59
        go_wp2_with (first
          | (go_at_call 58; refine HT.out.mono ?_; rintro e w1 ⟨rfl, hst1⟩
             have hst2 := hst1.trans (Stay.alloc (F := []) w1 (.cells #[.int .u8 lev, .int .i8 ov, .bool si] 78))
             have hc0 := (HPW.out _ hst2).blk.cell 0
             have hc1 := (HPW.out _ hst2).blk.cell 1
             have hc2 := (HPW.out _ hst2).blk.cell 2
             have hc3 := (HPW.out _ hst2).blk.cell 3
             have hf0 := (HPW.out _ hst2).blk.free 0
             have hf1 := (HPW.out _ hst2).blk.free 1
             have hf2 := (HPW.out _ hst2).blk.free 2
             have hf3 := (HPW.out _ hst2).blk.free 3
             simp only [List.getElem?_cons_zero, List.getElem?_cons_succ, PL.ps, hd] at hc0 hc1 hc2 hc3)
          | (go_at_call 67; refine (HA.out _).mono ?_; rintro e w' ⟨rfl, rfl⟩))
        exact bodyPost_end (v := .tuple #[]) (by simp [results, Try.results59, go_sem]) rfl ⟨rfl, g, n, c, Nat.le_succ _, by rw [HE2.out]; exact rlost_put (HPW.out _ hst2) ⟨rfl, rfl, rfl, by simp [PL.ps]⟩, (hst2.mono (by simp)).set' (.inl (by simp)), .inl rfl⟩
      · have b1 : decide (x ≤ 125) = false := by simpa using hx
        clear hno hx
        go_enter Try.func59, Try.ntmps59
        go_wp2_with (first
          | (go_at_call 58; refine HT.out.mono ?_; rintro e w1 ⟨rfl, hst1⟩
             have hst2 := hst1.trans (Stay.alloc (F := []) w1 (.cells #[.int .u8 lev, .int .i8 ov, .bool si] 78))
             have hc0 := (HPW.out _ hst2).blk.cell 0
             have hc1 := (HPW.out _ hst2).blk.cell 1
             have hc2 := (HPW.out _ hst2).blk.cell 2
             have hc3 := (HPW.out _ hst2).blk.cell 3
             have hf0 := (HPW.out _ hst2).blk.free 0
             have hf1 := (HPW.out _ hst2).blk.free 1
             have hf2 := (HPW.out _ hst2).blk.free 2
             have hf3 := (HPW.out _ hst2).blk.free 3
             simp only [List.getElem?_cons_zero, List.getElem?_cons_succ, PL.ps, hd] at hc0 hc1 hc2 hc3)
          | (go_at_call 67; refine (HA.out _).mono ?_; rintro e w' ⟨rfl, rfl⟩))
        exact bodyPost_end (v := .tuple #[]) (by simp [results, Try.results59, go_sem]) rfl ⟨rfl, g, n, c, Nat.le_succ _, by rw [HE2.out]; exact rlost_put (HPW.out _ hst2) ⟨rfl, rfl, rfl, by simp [PL.ps]⟩, (hst2.mono (by simp)).set' (.inl (by simp)), .inl rfl⟩
    · have HE2 := Lib.hid (HE.out.trans (if_neg hd))
      have bd : ((p.deep : Int) == 0) = false := by simpa using hd
      clear hno hd
      cases b1 : decide (x ≤ 125) with
      | true =>
        go_enter Try.func59, Try.ntmps59
        go_wp2_with (first
          | (go_at_call 58; refine HT.out.mono ?_; rintro e w1 ⟨rfl, hst1⟩
             have hst2 := hst1.trans (Stay.alloc (F := []) w1 (.cells #[.int .u8 lev, .int .i8 ov, .bool si] 78))
             have hc0 := (HPW.out _ hst2).blk.cell 0
             have hc1 := (HPW.out _ hst2).blk.cell 1
             have hc2 := (HPW.out _ hst2).blk.cell 2
             have hc3 := (HPW.out _ hst2).blk.cell 3
             have hf0 := (HPW.out _ hst2).blk.free 0
             have hf1 := (HPW.out _ hst2).blk.free 1
             have hf2 := (HPW.out _ hst2).blk.free 2
             have hf3 := (HPW.out _ hst2).blk.free 3
             simp only [List.getElem?_cons_zero, List.getElem?_cons_succ, PL.ps] at hc0 hc1 hc2 hc3)
          | (go_at_call 67; refine (HA.out _).mono ?_; rintro e w' ⟨rfl, rfl⟩))
        exact bodyPost_end (v := .tuple #[]) (by simp [results, Try.results59, go_sem]) rfl ⟨rfl, g, n, c, Nat.le_succ _, by rw [HE2.out]; exact HPW.out _ hst2, hst2.mono (by simp), .inl rfl⟩
      | false =>
        go_enter Try.func59, Try.ntmps59
        go_wp2_with (first
          | (go_at_call 58; refine HT.out.mono ?_; rintro e w1 ⟨rfl, hst1⟩
             have hst2 := hst1.trans (Stay.alloc (F := []) w1 (.cells #[.int .u8 lev, .int .i8 ov, .bool si] 78))
             have hc0 := (HPW.out _ hst2).blk.cell 0
             have hc1 := (HPW.out _ hst2).blk.cell 1
             have hc2 := (HPW.out _ hst2).blk.cell 2
             have hc3 := (HPW.out _ hst2).blk.cell 3
             have hf0 := (HPW.out _ hst2).blk.free 0
             have hf1 := (HPW.out _ hst2).blk.free 1
             have hf2 := (HPW.out _ hst2).blk.free 2
             have hf3 := (HPW.out _ hst2).blk.free 3
             simp only [List.getElem?_cons_zero, List.getElem?_cons_succ, PL.ps] at hc0 hc1 hc2 hc3)
          | (go_at_call 67; refine (HA.out _).mono ?_; rintro e w' ⟨rfl, rfl⟩))
        exact bodyPost_end (v := .tuple #[]) (by simp [results, Try.results59, go_sem]) rfl ⟨rfl, g, n, c, Nat.le_succ _, by rw [HE2.out]; exact HPW.out _ hst2, hst2.mono (by simp), .inl rfl⟩
end Go.Proofs.Ytikgjnfimagpjaa
