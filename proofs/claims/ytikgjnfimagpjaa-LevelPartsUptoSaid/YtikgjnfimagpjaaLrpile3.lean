/- package level: the document's isolates, begin, closes, ends (printed by gen_rpile3.py). -/
import Derived.Test.YtikgjnfimagpjaaLrpile2
namespace Go.Proofs.Ytikgjnfimagpjaa
open Go.RowKit
set_option maxHeartbeats 4000000 in
theorem risolates_any (odd : Bool) (B b g n c : Nat) (low : Int) (prv : Value) (p : PL) (hG : GoodP p) (w : World) (hp : RPileAt w B b g n c low prv p.ps) (hn : n ≤ 2097152) (hde : p.deep ≤ 2097152) (hop : p.opens ≤ 2097152) :
    Calls Try.prog 61 #[.pointer (some ⟨b, 0, none⟩), .bool odd] w fun e w' => e = .returned (.tuple #[]) ∧ ∃ g' n' c', n' ≤ n + 1 ∧ RPileAt w' B b g' n' c' low prv (isoP odd p).ps ∧ Stay [b, g] w w' ∧ (g' = g ∨ w.heap.size ≤ g') := by
  have HE := Lib.hid (show isoP odd p = (match layP odd (-1) true p with
    | some q => { q with opens := q.opens + 1 }
    | none => { p with deep := p.deep + 1 }) from rfl)
  obtain ⟨i0, hi0, hz0, hz1, hz2⟩ := info_parts info78
  obtain ⟨t, r, hstk, hsts, h0, h1⟩ := hG.top
  have HT := Lib.hid (rtop_any B b g n c low prv p.ps _ t hsts w hp)
  have HPW := Lib.hid (fun w' (hst : Stay [] w w') => hp.stay (F := []) hst (by simp) (by simp))
  have HL0 := Lib.hid (fun h => layP_none (odd := odd) (over := (-1)) (iso := true) hstk h)
  have HL1 := Lib.hid (fun q h => layP_some (odd := odd) (over := (-1)) (iso := true) (p := p) (q := q) h)
  have HBw := Lib.hid (show B ≤ w.heap.size from by have := hp.base; have := hp.blk.lt; omega)
  have HSK := Lib.hid hstk
  have hbz := hp.blk.lt
  have hgb := hp.far
  have HA := Lib.hid (fun w => rabove_any odd t.level h0 h1 w)
  clear hsts hp hG
  obtain ⟨lev, hlev⟩ : ∃ lev, lev = t.level := ⟨_, rfl⟩
  obtain ⟨ov, hov⟩ : ∃ ov, ov = t.over := ⟨_, rfl⟩
  obtain ⟨si, hsi⟩ : ∃ si, si = t.iso := ⟨_, rfl⟩
  rw [← hlev] at HT HA HL0 h0 h1
  rw [← hov, ← hsi] at HT
  obtain ⟨x, hx⟩ : ∃ x, x = upL odd lev := ⟨_, rfl⟩
  rw [← hx] at HA HL0
  have HX := Lib.hid (And.intro hx hlev)
  clear hx hlev hov hsi hstk
  cases hl : layP odd (-1) true p with
  | some q =>
    rw [hl] at HE
    obtain ⟨t', r', hs', hx1, hd, hlost, hq⟩ := HL1.out q hl
    have hxx : x ≤ 125 := by
      rw [HSK.out] at hs'
      injection hs' with e1 e2
      rw [HX.out.1, HX.out.2, e1]
      exact hx1
    have HQ := Lib.hid (show q = { p with stk := ⟨x, -1, true⟩ :: p.stk } from by
      rw [HSK.out] at hs'
      injection hs' with e1 e2
      rw [hq, HX.out.1, HX.out.2, e1])
    have b1 : decide (x ≤ 125) = true := by simpa using hxx
    clear hl hs' hx1 hq
    go_enter Try.func61, Try.ntmps61
    go_wp2_with (first
      | (go_at_call 58; refine HT.out.mono ?_; rintro e w1 ⟨rfl, hst1⟩
         have hst2 := hst1.trans (Stay.alloc (F := []) w1 (.cells #[.int .u8 lev, .int .i8 ov, .bool si] 78))
         have hc0 := (HPW.out _ hst2).blk.cell 0
         have hc1 := (HPW.out _ hst2).blk.cell 1
         have hc2 := (HPW.out _ hst2).blk.cell 2
         have hc3 := (HPW.out _ hst2).blk.cell 3
         have hf0 := (HPW.out _ hst2).blk.free 0
         have hf1 := (HPW.out _ hst2).blk.free 1
         have hf2 := (HPW.out _ hst2).blk.free 2
         have hf3 := (HPW.out _ hst2).blk.free 3
         simp only [List.getElem?_cons_zero, List.getElem?_cons_succ, PL.ps, hd, hlost] at hc0 hc1 hc2 hc3
         have HO3 := Lib.hid (ropen_put (HPW.out _ hst2) (q := { p.ps with opens := p.opens + 1 }) (v := (p.opens : Int) + 1) ⟨rfl, rfl, rfl, by simp⟩)
         have hd0 := HO3.out.blk.cell 0
         have hd0f := HO3.out.blk.free 0
         simp only [List.getElem?_cons_zero] at hd0
         have hst3' := (hst2.mono (G := [b, g]) (by simp)).set' (p := ⟨b, 1, none⟩) (u := .int .i64 ((p.opens : Int) + 1)) (.inl (by simp)))
      | (go_at_call 67; refine (HA.out _).mono ?_; rintro e w' ⟨rfl, rfl⟩)
      | (at_builtin; refine wpList_append_row rfl (.tmp 39) (.tmp 42) 55 rfl i0 _ 3 Try.underlying55 hi0 hz0 hz1 hz2 rfl rfl ((HO3.out).row.stay (F := []) (Stay.alloc _ _) (by simp)) _ 1 1 [.int .u8 x, .int .i8 (-1), .bool true] rfl rfl (cells_new _ _ _ _ (by simp)) (one_st _ _ _) (by unfold maxLen; omega) (by omega) (by rw [size_alloc']; have := HBw.out; have := hst3'.size; omega) ?_; intro g' c' w3 hr3 hst3 hg3
         have hb3 := ((HO3.out).blk.stay (F := []) (Stay.alloc _ (.cells #[.int .u8 x, .int .i8 (-1), .bool true] 78)) (by simp)).stay hst3 (by simpa using fun e : b = g => hgb e.symm)
         have hc30 := hb3.cell 0
         have hf30 := hb3.free 0
         simp only [List.getElem?_cons_zero] at hc30
         have HR := Lib.hid (RPileAt.laid (st := ⟨x, -1, true⟩) (HO3.out.stay (F := []) (Stay.alloc _ (.cells #[.int .u8 x, .int .i8 (-1), .bool true] 78)) (by simp) (by simp)) hst3 hr3 hg3 (Stay.refl _ _))
         have HZ := Lib.hid (show Stay [b, g] w ((w1.alloc (.cells #[.int .u8 lev, .int .i8 ov, .bool si] 78)).setCell ⟨b, 1, none⟩ (.int .i64 ((p.opens : Int) + 1))) from hst3')
         clear hr3 hst3 hg3 hb3))
    refine bodyPost_ret (v := .tuple #[]) (by simp [results, Try.results61, go_sem]) rfl ⟨rfl, g', n + 1, Nat.le_refl _, ⟨c', by rw [HE.out, HQ.out]; simpa [PL.ps] using HR.out.1⟩, (HZ.out.trans (Stay.alloc _ _)).trans HR.out.2.1, ?_⟩
    rcases HR.out.2.2 with h | h
    · exact .inl h
    · exact .inr (by have := HZ.out.size; rw [size_alloc'] at h; omega)
  | none =>
    rw [hl] at HE
    have hno := HL0.out hl
    clear hl
    by_cases hx : x ≤ 125
    · have b1 : decide (x ≤ 125) = true := by simpa using hx
      by_cases hd : p.deep = 0
      · have hlp : 0 < p.lost := by omega
        have bl : ((p.lost : Int) == 0) = false := by
          have : p.lost ≠ 0 := by omega
          simpa using this
        clear hno hx
        go_enter Try.func61, Try.ntmps61
        go_wp2_with (first
          | (go_at_call 58; refine HT.out.mono ?_; rintro e w1 ⟨rfl, hst1⟩
             have hst2 := hst1.trans (Stay.alloc (F := []) w1 (.cells #[.int .u8 lev, .int .i8 ov, .bool si] 78))
             have hc0 := (HPW.out _ hst2).blk.cell 0
             have hc1 := (HPW.out _ hst2).blk.cell 1
             have hc2 := (HPW.out _ hst2).blk.cell 2
             have hc3 := (HPW.out _ hst2).blk.cell 3
             have hf0 := (HPW.out _ hst2).blk.free 0
             have hf1 := (HPW.out _ hst2).blk.free 1
             have hf2 := (HPW.out _ hst2).blk.free 2
             have hf3 := (HPW.out _ hst2).blk.free 3
             simp only [List.getElem?_cons_zero, List.getElem?_cons_succ, PL.ps, hd] at hc0 hc1 hc2 hc3)
          | (go_at_call 67; refine (HA.out _).mono ?_; rintro e w' ⟨rfl, rfl⟩))
        exact bodyPost_end (v := .tuple #[]) (by simp [results, Try.results61, go_sem]) rfl ⟨rfl, g, n, c, Nat.le_succ _, by rw [HE.out]; exact rtwo_put (HPW.out _ hst2) ⟨rfl, rfl, rfl, by simp [PL.ps, hd]⟩, (hst2.mono (by simp)).set' (.inl (by simp)), .inl rfl⟩
      · have bd : ((p.deep : Int) == 0) = false := by simpa using hd
        clear hno hx hd
        go_enter Try.func61, Try.ntmps61
        go_wp2_with (first
          | (go_at_call 58; refine HT.out.mono ?_; rintro e w1 ⟨rfl, hst1⟩
             have hst2 := hst1.trans (Stay.alloc (F := []) w1 (.cells #[.int .u8 lev, .int .i8 ov, .bool si] 78))
             have hc0 := (HPW.out _ hst2).blk.cell 0
             have hc1 := (HPW.out _ hst2).blk.cell 1
             have hc2 := (HPW.out _ hst2).blk.cell 2
             have hc3 := (HPW.out _ hst2).blk.cell 3
             have hf0 := (HPW.out _ hst2).blk.free 0
             have hf1 := (HPW.out _ hst2).blk.free 1
             have hf2 := (HPW.out _ hst2).blk.free 2
             have hf3 := (HPW.out _ hst2).blk.free 3
             simp only [List.getElem?_cons_zero, List.getElem?_cons_succ, PL.ps] at hc0 hc1 hc2 hc3)
          | (go_at_call 67; refine (HA.out _).mono ?_; rintro e w' ⟨rfl, rfl⟩))
        exact bodyPost_end (v := .tuple #[]) (by simp [results, Try.results61, go_sem]) rfl ⟨rfl, g, n, c, Nat.le_succ _, by rw [HE.out]; exact rtwo_put (HPW.out _ hst2) ⟨rfl, rfl, rfl, by simp [PL.ps]⟩, (hst2.mono (by simp)).set' (.inl (by simp)), .inl rfl⟩
    · have b1 : decide (x ≤ 125) = false := by simpa using hx
      clear hno hx
      go_enter Try.func61, Try.ntmps61
      go_wp2_with (first
        | (go_at_call 58; refine HT.out.mono ?_; rintro e w1 ⟨rfl, hst1⟩
           have hst2 := hst1.trans (Stay.alloc (F := []) w1 (.cells #[.int .u8 lev, .int .i8 ov, .bool si] 78))
           have hc0 := (HPW.out _ hst2).blk.cell 0
           have hc1 := (HPW.out _ hst2).blk.cell 1
           have hc2 := (HPW.out _ hst2).blk.cell 2
           have hc3 := (HPW.out _ hst2).blk.cell 3
           have hf0 := (HPW.out _ hst2).blk.free 0
           have hf1 := (HPW.out _ hst2).blk.free 1
           have hf2 := (HPW.out _ hst2).blk.free 2
           have hf3 := (HPW.out _ hst2).blk.free 3
           simp only [List.getElem?_cons_zero, List.getElem?_cons_succ, PL.ps] at hc0 hc1 hc2 hc3)
        | (go_at_call 67; refine (HA.out _).mono ?_; rintro e w' ⟨rfl, rfl⟩))
      exact bodyPost_end (v := .tuple #[]) (by simp [results, Try.results61, go_sem]) rfl ⟨rfl, g, n, c, Nat.le_succ _, by rw [HE.out]; exact rtwo_put (HPW.out _ hst2) ⟨rfl, rfl, rfl, by simp [PL.ps]⟩, (hst2.mono (by simp)).set' (.inl (by simp)), .inl rfl⟩
set_option maxHeartbeats 2000000 in
theorem rbegin_any (B b : Nat) (low : Int) (prv v0 : Value) (o d l : Int) (w : World) (hb : Blk w b [v0, .int .i64 o, .int .i64 d, .int .i64 l, .int .u8 low, prv] 57) (hB : B ≤ b) :
    Calls Try.prog 41 #[.pointer (some ⟨b, 0, none⟩)] w fun e w' => e = .returned (.tuple #[]) ∧ RPileAt w' B b w.heap.size 1 1 low prv (beginP low).ps ∧ Stay [b] w w' := by
  have hc0 := hb.cell 0
  have hc1 := hb.cell 1
  have hc2 := hb.cell 2
  have hc3 := hb.cell 3
  have hc4 := hb.cell 4
  have hf0 := hb.free 0
  have hf1 := hb.free 1
  have hf2 := hb.free 2
  have hf3 := hb.free 3
  have hbl := hb.lt
  simp only [List.getElem?_cons_zero, List.getElem?_cons_succ] at hc0 hc1 hc2 hc3 hc4
  have HR := Lib.hid (show RPileAt (((((w.setCell ⟨b, 0, none⟩ (.slice (some ⟨w.heap.size, 0, none⟩) 1 1)).setCell ⟨b, 1, none⟩ (.int .i64 0)).setCell ⟨b, 2, none⟩ (.int .i64 0)).setCell ⟨b, 3, none⟩ (.int .i64 0)).alloc (.cells #[.int .u8 low, .int .i8 (-1), .bool false] 78)) B b w.heap.size 1 1 low prv (beginP low).ps ∧
      Stay [b] w (((((w.setCell ⟨b, 0, none⟩ (.slice (some ⟨w.heap.size, 0, none⟩) 1 1)).setCell ⟨b, 1, none⟩ (.int .i64 0)).setCell ⟨b, 2, none⟩ (.int .i64 0)).setCell ⟨b, 3, none⟩ (.int .i64 0)).alloc (.cells #[.int .u8 low, .int .i8 (-1), .bool false] 78)) from by
    have hb4 := (((hb.set 0 (.slice (some ⟨w.heap.size, 0, none⟩) 1 1)).set 1 (.int .i64 0)).set 2 (.int .i64 0)).set 3 (.int .i64 0)
    have st : Stay [b] w ((((w.setCell ⟨b, 0, none⟩ (.slice (some ⟨w.heap.size, 0, none⟩) 1 1)).setCell ⟨b, 1, none⟩ (.int .i64 0)).setCell ⟨b, 2, none⟩ (.int .i64 0)).setCell ⟨b, 3, none⟩ (.int .i64 0)) :=
      ((((Stay.refl _ _).set' (.inl (by simp))).set' (.inl (by simp))).set' (.inl (by simp))).set' (.inl (by simp))
    have hz : ((((w.setCell ⟨b, 0, none⟩ (.slice (some ⟨w.heap.size, 0, none⟩) 1 1)).setCell ⟨b, 1, none⟩ (.int .i64 0)).setCell ⟨b, 2, none⟩ (.int .i64 0)).setCell ⟨b, 3, none⟩ (.int .i64 0)).heap.size = w.heap.size := by simp [World.setCell]
    generalize ((((w.setCell ⟨b, 0, none⟩ (.slice (some ⟨w.heap.size, 0, none⟩) 1 1)).setCell ⟨b, 1, none⟩ (.int .i64 0)).setCell ⟨b, 2, none⟩ (.int .i64 0)).setCell ⟨b, 3, none⟩ (.int .i64 0)) = W at hb4 st hz ⊢
    have hr := Row.new W B 78 3 1 [.int .u8 low, .int .i8 (-1), .bool false] rfl (by decide) (by omega)
    rw [hz] at hr
    exact ⟨⟨hB, hb4.stay (F := []) (Stay.alloc _ _) (by simp), rfl, hr, by omega⟩, st.trans (Stay.alloc _ _)⟩)
  clear hb
  go_enter Try.func41, Try.ntmps41
  go_wp2
  exact bodyPost_end (v := .tuple #[]) (by simp [results, Try.results41, go_sem]) rfl ⟨rfl, HR.out⟩
set_option maxHeartbeats 4000000 in
theorem rends_any (B b g n c : Nat) (low : Int) (prv : Value) (p : PL) (hG : GoodP p) (w : World) (hp : RPileAt w B b g n c low prv p.ps) (hlo : p.lost ≤ 2097152) :
    Calls Try.prog 63 #[.pointer (some ⟨b, 0, none⟩)] w fun e w' => e = .returned (.tuple #[]) ∧ ∃ n' c', n' ≤ n ∧ RPileAt w' B b g n' c' low prv (endP p).ps ∧ Stay [b] w w' := by
  obtain ⟨t, r, hstk, hsts, h0, h1⟩ := hG.top
  have HT := Lib.hid (rtop_any B b g n c low prv p.ps _ t hsts w hp)
  have HPW := Lib.hid (fun w' (hst : Stay [] w w') => hp.stay (F := []) hst (by simp) (by simp))
  have hpk := hp.peek hsts
  have hbz := hp.blk.lt
  have hgb := hp.far
  have hnr : n = r.length + 1 := by simpa using hpk.1
  have hnc : n ≤ c := hpk.2.1
  have hcm : c ≤ maxLen := hpk.2.2.1
  have HS := Lib.hid hsts
  clear hp hG hpk hsts
  obtain ⟨lev, hlev⟩ : ∃ lev, lev = t.level := ⟨_, rfl⟩
  obtain ⟨ov, hov⟩ : ∃ ov, ov = t.over := ⟨_, rfl⟩
  rw [← hlev, ← hov] at HT
  clear hlev hov
  by_cases h2 : 0 < p.deep
  · have HE := Lib.hid (show endP p = p from by unfold endP; exact if_pos h2)
    have b2 : decide (0 < (p.deep : Int)) = true := by simpa using h2
    obtain ⟨si, hsi⟩ : ∃ si, si = t.iso := ⟨_, rfl⟩
    rw [← hsi] at HT
    clear hsi
    go_enter Try.func63, Try.ntmps63
    go_wp2_with (first
      | (go_at_call 58; refine HT.out.mono ?_; rintro e w1 ⟨rfl, hst1⟩
         have hst2 := hst1.trans (Stay.alloc (F := []) w1 (.cells #[.int .u8 lev, .int .i8 ov, .bool si] 78))
         have hc0 := (HPW.out _ hst2).blk.cell 0
         have hc1 := (HPW.out _ hst2).blk.cell 1
         have hc2 := (HPW.out _ hst2).blk.cell 2
         have hc3 := (HPW.out _ hst2).blk.cell 3
         have hf0 := (HPW.out _ hst2).blk.free 0
         have hf1 := (HPW.out _ hst2).blk.free 1
         have hf2 := (HPW.out _ hst2).blk.free 2
         have hf3 := (HPW.out _ hst2).blk.free 3
         simp only [List.getElem?_cons_zero, List.getElem?_cons_succ, PL.ps] at hc0 hc1 hc2 hc3))
    exact bodyPost_end (v := .tuple #[]) (by simp [results, Try.results63, go_sem]) rfl ⟨rfl, n, c, Nat.le_refl _, by rw [HE.out]; exact HPW.out _ hst2, hst2.mono (by simp)⟩
  have b2 : decide (0 < (p.deep : Int)) = false := by simpa using h2
  by_cases h3 : 0 < p.lost
  · have HE := Lib.hid (show endP p = { p with lost := p.lost - 1 } from by unfold endP; rw [if_neg h2, if_pos h3])
    have b3 : decide (0 < (p.lost : Int)) = true := by simpa using h3
    obtain ⟨si, hsi⟩ : ∃ si, si = t.iso := ⟨_, rfl⟩
    rw [← hsi] at HT
    clear hsi
    go_enter Try.func63, Try.ntmps63
    go_wp2_with (first
      | (go_at_call 58; refine HT.out.mono ?_; rintro e w1 ⟨rfl, hst1⟩
         have hst2 := hst1.trans (Stay.alloc (F := []) w1 (.cells #[.int .u8 lev, .int .i8 ov, .bool si] 78))
         have hc0 := (HPW.out _ hst2).blk.cell 0
         have hc1 := (HPW.out _ hst2).blk.cell 1
         have hc2 := (HPW.out _ hst2).blk.cell 2
         have hc3 := (HPW.out _ hst2).blk.cell 3
         have hf0 := (HPW.out _ hst2).blk.free 0
         have hf1 := (HPW.out _ hst2).blk.free 1
         have hf2 := (HPW.out _ hst2).blk.free 2
         have hf3 := (HPW.out _ hst2).blk.free 3
         simp only [List.getElem?_cons_zero, List.getElem?_cons_succ, PL.ps] at hc0 hc1 hc2 hc3))
    exact bodyPost_end (v := .tuple #[]) (by simp [results, Try.results63, go_sem]) rfl ⟨rfl, n, c, Nat.le_refl _, by rw [HE.out]; exact rlost_put (HPW.out _ hst2) ⟨rfl, rfl, rfl, by simp [PL.ps]; omega⟩, (hst2.mono (by simp)).set' (.inl (by simp))⟩
  have b3 : decide (0 < (p.lost : Int)) = false := by simpa using h3
  cases hi : t.iso with
  | true =>
    have HE := Lib.hid (show endP p = p from by
      unfold endP
      rw [if_neg h2, if_neg h3, hstk]
      cases r with
      | nil => rfl
      | cons u r => simp [hi])
    rw [hi] at HT
    clear hi
    go_enter Try.func63, Try.ntmps63
    go_wp2_with (first
      | (go_at_call 58; refine HT.out.mono ?_; rintro e w1 ⟨rfl, hst1⟩
         have hst2 := hst1.trans (Stay.alloc (F := []) w1 (.cells #[.int .u8 lev, .int .i8 ov, .bool true] 78))
         have hc0 := (HPW.out _ hst2).blk.cell 0
         have hc1 := (HPW.out _ hst2).blk.cell 1
         have hc2 := (HPW.out _ hst2).blk.cell 2
         have hc3 := (HPW.out _ hst2).blk.cell 3
         have hf0 := (HPW.out _ hst2).blk.free 0
         have hf1 := (HPW.out _ hst2).blk.free 1
         have hf2 := (HPW.out _ hst2).blk.free 2
         have hf3 := (HPW.out _ hst2).blk.free 3
         simp only [List.getElem?_cons_zero, List.getElem?_cons_succ, PL.ps] at hc0 hc1 hc2 hc3))
    exact bodyPost_end (v := .tuple #[]) (by simp [results, Try.results63, go_sem]) rfl ⟨rfl, n, c, Nat.le_refl _, by rw [HE.out]; exact HPW.out _ hst2, hst2.mono (by simp)⟩
  | false =>
    rw [hi] at HT
    cases r with
    | nil =>
      have HE := Lib.hid (show endP p = p from by unfold endP; rw [if_neg h2, if_neg h3, hstk])
      have hn1 : n = 1 := by simpa using hnr
      subst hn1
      clear hi hnr
      go_enter Try.func63, Try.ntmps63
      go_wp2_with (first
        | (go_at_call 58; refine HT.out.mono ?_; rintro e w1 ⟨rfl, hst1⟩
           have hst2 := hst1.trans (Stay.alloc (F := []) w1 (.cells #[.int .u8 lev, .int .i8 ov, .bool false] 78))
           have hc0 := (HPW.out _ hst2).blk.cell 0
           have hc1 := (HPW.out _ hst2).blk.cell 1
           have hc2 := (HPW.out _ hst2).blk.cell 2
           have hc3 := (HPW.out _ hst2).blk.cell 3
           have hf0 := (HPW.out _ hst2).blk.free 0
           have hf1 := (HPW.out _ hst2).blk.free 1
           have hf2 := (HPW.out _ hst2).blk.free 2
           have hf3 := (HPW.out _ hst2).blk.free 3
           simp only [List.getElem?_cons_zero, List.getElem?_cons_succ, PL.ps] at hc0 hc1 hc2 hc3))
      exact bodyPost_end (v := .tuple #[]) (by simp [results, Try.results63, go_sem]) rfl ⟨rfl, 1, c, Nat.le_refl _, by rw [HE.out]; exact HPW.out _ hst2, hst2.mono (by simp)⟩
    | cons u r =>
      have HE := Lib.hid (show endP p = { p with stk := u :: r } from by unfold endP; rw [if_neg h2, if_neg h3, hstk]; simp [hi])
      obtain ⟨k, hk⟩ : ∃ k, k = r.length + 1 := ⟨_, rfl⟩
      have hnk : n = k + 1 := by simp at hnr; omega
      subst hnk
      have hkb : (k : Int) ≤ 9223372036854775806 := by unfold maxLen at hcm; omega
      have hk0 : (0 : Int) ≤ k := by omega
      have hkk : (k : Int) ≤ (k : Int) + 1 := by omega
      have hk1 : (1 : Int) < (k : Int) + 1 := by omega
      have hkc : (k : Int) ≤ (c : Int) := by omega
      have hkw : IntKind.i64.wrap (k : Int) = k := by simp [IntKind.wrap, IntKind.signed, IntKind.bits]; omega
      have e1 : (k : Int).toNat = k := by omega
      have HKr := Lib.hid (show (u :: r).reverse.length = k from by simp [hk])
      clear hi hnr hk
      go_enter Try.func63, Try.ntmps63
      go_wp2_with (first
        | (go_at_call 58; refine HT.out.mono ?_; rintro e w1 ⟨rfl, hst1⟩
           have hst2 := hst1.trans (Stay.alloc (F := []) w1 (.cells #[.int .u8 lev, .int .i8 ov, .bool false] 78))
           have hc0 := (HPW.out _ hst2).blk.cell 0
           have hc1 := (HPW.out _ hst2).blk.cell 1
           have hc2 := (HPW.out _ hst2).blk.cell 2
           have hc3 := (HPW.out _ hst2).blk.cell 3
           have hf0 := (HPW.out _ hst2).blk.free 0
           have hf1 := (HPW.out _ hst2).blk.free 1
           have hf2 := (HPW.out _ hst2).blk.free 2
           have hf3 := (HPW.out _ hst2).blk.free 3
           simp only [List.getElem?_cons_zero, List.getElem?_cons_succ, PL.ps] at hc0 hc1 hc2 hc3
           have HR := Lib.hid ((HPW.out _ hst2).popped (l := (u :: r).reverse) (t := t) HS.out rfl)
           rw [HKr.out] at HR))
      go_region
      go_wp2
      exact bodyPost_end (v := .tuple #[]) (by simp [results, Try.results63, go_sem]) rfl ⟨rfl, k, c, Nat.le_succ _, by rw [HE.out]; exact HR.out.1.drew, ((hst2.mono (by simp)).trans HR.out.2).drew'⟩
end Go.Proofs.Ytikgjnfimagpjaa
