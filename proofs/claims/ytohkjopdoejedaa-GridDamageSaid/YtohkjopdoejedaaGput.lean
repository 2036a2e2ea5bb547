/- package grid: Put. -/
import Derived.Test.YtohkjopdoejedaaGdone
import Derived.StillTailTactics
namespace Go.Proofs.Ytohkjopdoejedaa
open Go.RowKit
/-- the chains of l from place i on are laid into the row -/
def putF (l : List Ce) (sk n x : Nat) : Nat → Nat → List Ce → List Ce
  | 0, _, r => r
  | f + 1, i, r =>
    if i < l.length then
      putF l sk n x f (chainE l i)
        (if max i sk < min (chainE l i) (sk + n) then
          (if (chainC l i || decide (i < max i sk) || decide (min (chainE l i) (sk + n) < chainE l i)) = true then
            blankR (blit (x + max i sk - sk) ((l.take (min (chainE l i) (sk + n))).drop (max i sk)) r) (x + max i sk - sk) (x + min (chainE l i) (sk + n) - sk)
          else blit (x + max i sk - sk) ((l.take (min (chainE l i) (sk + n))).drop (max i sk)) r)
        else r)
    else r
def putRow (sk n x : Nat) (l r : List Ce) : List Ce := putF l sk n x (l.length + 1) 0 (loseL x (x + n : Nat) r)
def Sc.put (S : Sc) (x y : Int) (l : List Ce) : Sc :=
  if y < 0 ∨ S.H ≤ y ∨ S.W ≤ x ∨ (x < 0 ∧ x ≤ -(l.length : Int)) ∨ min ((l.length : Int) - max 0 (-x)) ((S.W : Int) - max x 0) ≤ 0 then S
  else { S with rows := S.rows.modify y.toNat (putRow (max 0 (-x)).toNat (min ((l.length : Int) - max 0 (-x)) ((S.W : Int) - max x 0)).toNat (max x 0).toNat l) }
theorem putF_succ (l : List Ce) (sk n x f i : Nat) (r : List Ce) (hi : i < l.length) : putF l sk n x (f + 1) i r = putF l sk n x f (chainE l i)
        (if max i sk < min (chainE l i) (sk + n) then
          (if (chainC l i || decide (i < max i sk) || decide (min (chainE l i) (sk + n) < chainE l i)) = true then
            blankR (blit (x + max i sk - sk) ((l.take (min (chainE l i) (sk + n))).drop (max i sk)) r) (x + max i sk - sk) (x + min (chainE l i) (sk + n) - sk)
          else blit (x + max i sk - sk) ((l.take (min (chainE l i) (sk + n))).drop (max i sk)) r)
        else r) := by
  show (if i < l.length then _ else _) = _
  rw [if_pos hi]
theorem putF_end (l : List Ce) (sk n x f i : Nat) (r : List Ce) (hi : l.length ≤ i) : putF l sk n x f i r = r := by
  cases f with
  | zero => rfl
  | succ f =>
    show (if i < l.length then _ else _) = _
    rw [if_neg (by omega)]
theorem cut_length (l : List Ce) (a b : Nat) (hb : b ≤ l.length) : ((l.take b).drop a).length = b - a := by simp; omega
theorem cut_part {l : List Ce} (h : PartOK l) (a b : Nat) : PartOK ((l.take b).drop a) := PartOK.of_mem fun c hc => h.mem c (List.mem_of_mem_take (List.mem_of_mem_drop hc))
theorem CAt.cut {w : World} {b o : Nat} {l : List Ce} (h : CAt w b o l) (p q : Nat) : ∀ (j : Nat) (v : Value), (rowCells ((l.take q).drop p))[j]? = some v → w.cell? ((⟨b, o + p * 6, none⟩ : Addr).add j) = some v := by
  intro j v hj
  have h1 := (List.getElem?_eq_some_iff.1 hj).1
  rw [rowCells_length] at h1
  have hk : j / 6 < ((l.take q).drop p).length := by omega
  have h2 := rowCells_at _ (j / 6) hk (j % 6) (Nat.mod_lt _ (by omega))
  rw [show j / 6 * 6 + j % 6 = j by omega, hj] at h2
  have hk2 : p + j / 6 < l.length := by simp at hk; omega
  have e : ((l.take q).drop p)[j / 6] = l[p + j / 6] := by simp
  rw [e] at h2
  have h3 := h (p + j / 6) hk2 (j % 6) v h2.symm
  rw [add_lit', ← h3]
  congr 2
  omega
theorem CAt.stay {F : List Nat} {w w' : World} {b o : Nat} {l : List Ce} (h : CAt w b o l) (hs : Stay F w w') (hb : b < w.heap.size) (hn : b ∉ F) : CAt w' b o l := fun k hk j v hj => (hs.cell_ (a := ⟨b, o + k * 6 + j, none⟩) hb hn).trans (h k hk j v hj)
/-- what the round makes of the row -/
def putC1 (l : List Ce) (a b p q : Nat) (bl : Bool) (r : List Ce) : List Ce := if bl = true then blankR (blit a ((l.take q).drop p) r) a b else blit a ((l.take q).drop p) r
theorem putC1_length (l : List Ce) (a b p q : Nat) (bl : Bool) (r : List Ce) (hq : q ≤ l.length) (hp : p ≤ q) (hb : b = a + (q - p)) (hr : b ≤ r.length) : (putC1 l a b p q bl r).length = r.length := by
  have h1 := blit_length a ((l.take q).drop p) r (by rw [cut_length l p q hq]; omega)
  unfold putC1
  split
  · rw [blankR_length _ _ _ (by omega) (by rw [h1]; exact hr), h1]
  · exact h1
theorem putC1_part {l r : List Ce} (hl : PartOK l) (hr : PartOK r) (a b p q : Nat) (bl : Bool) : PartOK (putC1 l a b p q bl r) := by
  have h1 : PartOK (blit a ((l.take q).drop p) r) := blit_part (cut_part hl p q) hr
  unfold putC1
  split
  · exact h1.blankR _ _
  · exact h1
theorem blank_row (r : List Ce) (b0 a b c : Nat) (w : World) (hl : r.length ≤ 1024) (hab : a ≤ b) (hb : b ≤ r.length) (h : Blk w b0 (rowCells r) 49) :
    Calls Try.prog 47 #[.slice (some ⟨b0, a * 6, none⟩) (b - a) c] w fun e w' => e = .returned (.tuple #[]) ∧ Blk w' b0 (rowCells (blankR r a b)) 49 ∧ Stay [b0] w w' := by
  have hs : ((r.take b).drop a).length = b - a := cut_length r a b hb
  have h0 : lay (lay (rowCells r) 0 r) (0 + a * 6) ((r.take b).drop a) = rowCells r := by
    rw [lay_same (rowCells r) 0 a b r (by rw [rowCells_length]; omega) hab hb, lay_whole r r rfl]
  have h1 : lay (lay (rowCells r) 0 r) (0 + a * 6) (((r.take b).drop a).map Ce.blank) = rowCells (blankR r a b) := by
    rw [lay_blankR (rowCells r) 0 a b r (by rw [rowCells_length]; omega) hab hb, lay_whole r _ (blankR_length r a b hab hb)]
  have h2 := blank_any ((r.take b).drop a) b0 (0 + a * 6) c (lay (rowCells r) 0 r) 49 w (by omega) (by rw [lay_length _ _ _ (by rw [rowCells_length]; omega), rowCells_length, hs]; omega) (by rw [h0]; exact h)
  rw [hs, h1] at h2
  simpa using h2
theorem hz49 : (Try.prog.info? 49).map (·.size) = some 6 := by kernel_rfl
set_option maxRecDepth 20000 in
set_option maxHeartbeats 4000000 in
theorem put_main (s base : Nat) (os : List Nat) (S : Sc) (x : Int) (yn sk x' n : Nat) (l : List Ce) (bl o c : Nat) (w : World) (hl : l.length ≤ 16777216) (hp : PartOK l) (hc : l.length ≤ c ∧ c ≤ maxLen) (hL : CAt w bl o l) (hbl : bl < w.heap.size) (hnb : bl ≠ base + yn)
    (hxs : x + sk = x') (hmx : max 0 (-x) = (sk : Int)) (hsk : sk < l.length) (hxW : x' < S.W) (hyH : yn < S.H) (hn : min ((l.length : Int) - sk) ((S.W : Int) - x') = n) (hn0 : 0 < n) (h : Sm w s base os S) :
    Calls Try.prog 22 #[.pointer (some ⟨s, 0, none⟩), .int .i64 x, .int .i64 yn, .slice (some ⟨bl, o, none⟩) l.length c] w fun e w' => e = .returned (.tuple #[]) ∧ Sm w' s base os { S with rows := S.rows.set yn (putRow sk n x' l (S.rows.getD yn [])) } ∧ Stay [base + yn] w w' := by
  have HS0 := Lib.hid h
  have hW0 := h.ok.w
  have hH0 := h.ok.h
  obtain ⟨W, hWe⟩ : ∃ W, W = S.W := ⟨_, rfl⟩
  obtain ⟨H, hHe⟩ : ∃ H, H = S.H := ⟨_, rfl⟩
  obtain ⟨N, hNe⟩ : ∃ N, N = l.length := ⟨_, rfl⟩
  have HWe := Lib.hid hWe
  have HHe := Lib.hid hHe
  have HNe := Lib.hid hNe
  have c2048 := h.scr.w_
  have c2049 := h.scr.h_
  rw [← hWe] at hW0 c2048 hxW hn
  rw [← hHe] at c2049 hH0 hyH
  rw [← hNe] at hl hc hsk hn ⊢
  have hsep := h.sep
  have hlt := h.scr.lt
  have hcell : w.cell? ⟨s, yn, none⟩ = some (.slice (some ⟨base + yn, 0, none⟩) W W) := by rw [h.row yn (by omega), ← hWe]
  obtain ⟨r, hr, hrl, hrp, hrb⟩ := h.rowAt yn (by omega)
  have HR := Lib.hid (show S.rows[yn]? = some r ∧ r.length = W ∧ PartOK r from ⟨hr, hrl.trans hWe.symm, hrp⟩)
  have HG := Lib.hid (show S.rows.getD yn [] = r from by rw [List.getD_eq_getElem?_getD, hr]; rfl)
  have hcb := hc.2
  have hcl := hc.1
  have hn1 : n ≤ N - sk ∧ n ≤ W - x' := by omega
  obtain ⟨hn1, hn2⟩ := hn1
  have hxn : x' + n ≤ W := by omega
  have hlo := lose_any r (base + yn) 0 W x' ((x' : Int) + n) (rowCells r) 49 w (by omega) (by omega) (by omega) hrp (by simp only [maxLen]; omega) (by rw [rowCells_length]; omega) (by rw [lay_whole r r rfl]; exact hrb)
  rw [hrl, ← hWe, lay_whole r _ (loseL_length _ _ _)] at hlo
  have HLo := Lib.hid hlo
  have HCat := Lib.hid hL
  have HPl := Lib.hid hp
  have HMx := Lib.hid (show ∀ (ts : Array TypeId) (t : TypeId) (w : World), (Builtin.max_ ts t #[.int .i64 0, .int .i64 (-x)]).run Try.prog w = .ok (.int .i64 sk) w from fun ts t w => (max_ints (P := Try.prog) 0 (-x) ts t w).trans (by rw [hmx]))
  have HMn := Lib.hid (show ∀ (ts : Array TypeId) (t : TypeId) (w : World), (Builtin.min_ ts t #[.int .i64 ((N : Int) - sk), .int .i64 ((W : Int) - x')]).run Try.prog w = .ok (.int .i64 n) w from fun ts t w => (min_ints (P := Try.prog) _ _ ts t w).trans (by rw [hn]))
  have HXs := Lib.hid hxs
  have hxw : IntKind.i64.wrap (x + sk) = x' := by rw [hxs]; simp only [IntKind.wrap, IntKind.bits, IntKind.signed]; simp; omega
  have hx1 : x < W := by omega
  have hx2 : -16777216 < x := by omega
  have hx3 : x < 0 → ¬ x ≤ -(N : Int) := by omega
  have hW1 : (W : Int) ≤ 1024 := by omega
  have hH1 : (yn : Int) < H := by omega
  have hy1 : (yn : Int) < 1024 := by omega
  have hs1 : (sk : Int) < N := by omega
  have hN1 : (N : Int) ≤ 16777216 := by omega
  have hxn0 : (0 : Int) < n := by omega
  have hxp : (x' : Int) < W := by omega
  have hxk : x + sk ≤ W := by omega
  have hxk0 : 0 ≤ x + sk := by omega
  have hn3 : (n : Int) ≤ W := by omega
  clear h hr hrl hrp hrb hlo hL hp hmx hn hNe hWe hHe hc
  by_cases hneg : x < 0
  all_goals
    try have hx4 := hx3 hneg
    clear hx3
    go_enter Try.func22, Try.ntmps22
    go_wp2_with (first
      | (refine wpList_max' rfl (.const (.int .i64 0)) (.tmp 50) _ rfl (.int .i64 0) (.int .i64 (-x)) (.int .i64 sk) rfl rfl HMx.out ?_)
      | (refine wpList_min' rfl (.tmp 58) (.tmp 64) _ rfl (.int .i64 ((N : Int) - sk)) (.int .i64 ((W : Int) - x')) (.int .i64 n) rfl rfl HMn.out ?_))
    refine HLo.out.mono ?_
    rintro e w3 ⟨rfl, hb3, hs3⟩
    have HB3 := Lib.hid hb3
    have HS3 := Lib.hid hs3
    obtain ⟨fin, hfin⟩ : ∃ fin, fin = putRow sk n x' l r := ⟨_, rfl⟩
    have HFn := Lib.hid hfin
    have HLl := Lib.hid (show (loseL x' ((x' : Int) + n) r).length = W from by rw [loseL_length]; exact HR.out.2.1)
    have HLp := Lib.hid (show PartOK (loseL x' ((x' : Int) + n) r) from loseL_part HR.out.2.2)
    have HF0 := Lib.hid (show putF l sk n x' (N + 1) 0 (loseL x' ((x' : Int) + n) r) = fin from by rw [hfin]; unfold putRow; rw [HNe.out, Int.natCast_add])
    clear hb3 hs3 hfin
    go_wp2_with fail
    go_loopw [11] (fun iv wr => ∃ (i f : Nat) (q : List Ce), i ≤ N ∧ iv = .int .i64 i ∧ Hid (q.length = W) ∧ Hid (PartOK q) ∧ Hid (putF l sk n x' f i q = fin) ∧ Hid (N + 1 ≤ f + i) ∧ Hid (Blk wr (base + yn) (rowCells q) 49) ∧ Hid (Stay [base + yn] w wr)) (fun iv _ => N - (intOf iv).toNat)
    case atStart => exact ⟨0, N + 1, _, by omega, rfl, HLl.out, HLp.out, HF0.out, by show _ ≤ _; omega, HB3.out, HS3.out⟩
    case round =>
      obtain ⟨i, f, q, hi, rfl, HQl, HQp, HQf, HF, HB, HS⟩ := hrel
      by_cases hlt : i < N
      · have hlt' : (i : Int) < N := by omega
        have hi0 : (0 : Int) ≤ i := by omega
        have HCw := Lib.hid (HCat.out.stay HS.out hbl (by simpa using hnb))
        have hch := chain_any l bl o c i wr (by rw [← HNe.out]; exact hl) (by rw [← HNe.out]; exact hlt) HPl.out HCw.out
        rw [← HNe.out] at hch
        have hbd := chainE_bd l i (by rw [← HNe.out]; exact hlt)
        rw [← HNe.out] at hbd
        obtain ⟨f', hf'⟩ : ∃ f', f = f' + 1 := ⟨f - 1, by have := HF.out; omega⟩
        have HQ2 := Lib.hid (show putF l sk n x' f' (chainE l i) (if max i sk < min (chainE l i) (sk + n) then putC1 l (x' + max i sk - sk) (x' + min (chainE l i) (sk + n) - sk) (max i sk) (min (chainE l i) (sk + n)) (chainC l i || decide (i < max i sk) || decide (min (chainE l i) (sk + n) < chainE l i)) q else q) = fin from by
          rw [← HQf.out, hf', putF_succ l sk n x' f' i q (by rw [← HNe.out]; exact hlt)]; rfl)
        obtain ⟨e, he⟩ : ∃ e, e = chainE l i := ⟨_, rfl⟩
        obtain ⟨cb, hcb'⟩ : ∃ cb, cb = chainC l i := ⟨_, rfl⟩
        rw [← he] at hch hbd HQ2
        rw [← hcb'] at hch HQ2
        have HCh := Lib.hid hch
        clear hch he hcb'
        obtain ⟨fm, hfm⟩ : ∃ fm, fm = max i sk := ⟨_, rfl⟩
        obtain ⟨tm, htm⟩ : ∃ tm, tm = min e (sk + n) := ⟨_, rfl⟩
        rw [← hfm, ← htm] at HQ2
        have HM1 := Lib.hid (show ∀ (ts : Array TypeId) (t : TypeId) (w : World), (Builtin.max_ ts t #[.int .i64 i, .int .i64 sk]).run Try.prog w = .ok (.int .i64 fm) w from fun ts t w => (max_ints (P := Try.prog) _ _ ts t w).trans (by rw [show max (i : Int) sk = fm by omega]))
        have HM2 := Lib.hid (show ∀ (ts : Array TypeId) (t : TypeId) (w : World), (Builtin.min_ ts t #[.int .i64 e, .int .i64 ((sk : Int) + n)]).run Try.prog w = .ok (.int .i64 tm) w from fun ts t w => (min_ints (P := Try.prog) _ _ ts t w).trans (by rw [show min (e : Int) ((sk : Int) + n) = tm by omega]))
        obtain ⟨hbd1, hbd2⟩ := hbd
        have HEi := Lib.hid (And.intro hbd1 (And.intro hf' HF.out))
        have hfm1 : i ≤ fm ∧ sk ≤ fm ∧ (fm = i ∨ fm = sk) := by omega
        have htm1 : tm ≤ e ∧ tm ≤ sk + n := by omega
        obtain ⟨hfm1, hfm2, hfm3⟩ := hfm1
        obtain ⟨htm1, htm2⟩ := htm1
        clear hfm htm hf' hfm3
        by_cases hft : fm < tm
        · obtain ⟨a1, ha1⟩ : ∃ a1, a1 = x' + fm - sk := ⟨_, rfl⟩
          obtain ⟨b1, hb1⟩ : ∃ b1, b1 = x' + tm - sk := ⟨_, rfl⟩
          rw [← ha1, ← hb1, if_pos hft] at HQ2
          have hab : a1 < b1 := by omega
          have hbW : b1 ≤ W := by omega
          have hbt : b1 = a1 + (tm - fm) := by omega
          have hw1 : IntKind.i64.wrap ((x' : Int) + fm) = (x' : Int) + fm := by simp only [IntKind.wrap, IntKind.bits, IntKind.signed]; simp; omega
          have ha2 : IntKind.i64.wrap (IntKind.i64.wrap ((x' : Int) + fm) - sk) = a1 := by rw [hw1, show (x' : Int) + fm - sk = a1 by omega]; simp only [IntKind.wrap, IntKind.bits, IntKind.signed]; simp; omega
          clear hw1
          have ha3 : (x' : Int) + fm - sk = a1 := by omega
          have hb3 : (x' : Int) + tm - sk = b1 := by omega
          have hN1 : (tm : Int) ≤ c := by omega
          have hft' : (fm : Int) < tm := by omega
          have hfc : ¬ c = fm := by omega
          have hft2 : (fm : Int) ≤ tm := by omega
          have hft3 : fm ≤ tm := by omega
          have htc : tm ≤ c := by omega
          have haW2 : a1 ≤ W := by omega
          have haW : ¬ W = a1 := by omega
          have haW1 : (a1 : Int) ≤ W := by omega
          have hab1 : (a1 : Int) < b1 := by omega
          have hbW1 : (b1 : Int) ≤ W := by omega
          have HAB := Lib.hid (And.intro ha1 (And.intro hb1 hbt))
          have hcl' := cut_length l fm tm (by rw [← HNe.out]; omega)
          have HCs := Lib.hid (show (rowCells ((l.take tm).drop fm)).length = Nat.min (tm - fm) (W - a1) * 6 from by
            rw [rowCells_length, hcl', show Nat.min (tm - fm) (W - a1) = tm - fm from Nat.min_eq_left (by omega)])
          have HSr := Lib.hid (HCw.out.cut fm tm)
          have HFt := Lib.hid (show a1 * 6 + (rowCells ((l.take tm).drop fm)).length ≤ (rowCells q).length from by rw [rowCells_length, rowCells_length, hcl', HQl.out]; omega)
          have HAft := Lib.hid (show ∀ bb, (putC1 l a1 b1 fm tm bb q).length = W ∧ PartOK (putC1 l a1 b1 fm tm bb q) from fun bb => ⟨(putC1_length l a1 b1 fm tm bb q (by rw [← HNe.out]; omega) (by omega) (by omega) (by rw [HQl.out]; exact hbW)).trans HQl.out, putC1_part HPl.out HQp.out _ _ _ _ _⟩)
          clear ha1 hb1 hbt hcl'
          go_wp2_with (first
            | (go_at_call 46; refine HCh.out.mono ?_; rintro e' w' ⟨rfl, rfl⟩)
            | (refine wpList_max' rfl (.tmp 90) (.tmp 91) _ rfl (.int .i64 i) (.int .i64 sk) (.int .i64 fm) rfl rfl HM1.out ?_)
            | (refine wpList_min' rfl (.tmp 93) (.tmp 96) _ rfl (.int .i64 e) (.int .i64 ((sk : Int) + n)) (.int .i64 tm) rfl rfl HM2.out ?_))
          go_still_tail 11, (by kernel_rfl)
          change wpList _ _ _ _ _ wr.drew
          have HBd := Lib.hid (HB.out.stay (F := []) (Stay.drew wr) (by simp))
          have HSd := Lib.hid (HS.out.drew')
          have HSrd := Lib.hid (show ∀ (j : Nat) (v : Value), (rowCells ((l.take tm).drop fm))[j]? = some v → wr.drew.cell? ((⟨bl, o + fm * 6, none⟩ : Addr).add j) = some v from HSr.out)
          clear HSr HB HS HCw
          generalize wr.drew = w2 at *
          have HLb := Lib.hid (show (blit a1 ((l.take tm).drop fm) q).length = W from (blit_length _ _ _ (by rw [cut_length l fm tm (by rw [← HNe.out]; omega), HQl.out]; omega)).trans HQl.out)
          by_cases hbb : (cb || decide (i < fm) || decide (tm < e)) = true
          · have HQt := Lib.hid (show putF l sk n x' f' e (putC1 l a1 b1 fm tm true q) = fin from by rw [← HQ2.out, hbb])
            have hcase : cb = true ∨ (cb = false ∧ (i : Int) < fm) ∨ (cb = false ∧ ¬ (i : Int) < fm ∧ (tm : Int) < e) := by
              cases cb
              · simp only [Bool.false_or, Bool.or_eq_true, decide_eq_true_eq] at hbb
                by_cases h1 : (i : Int) < fm
                · exact .inr (.inl ⟨rfl, h1⟩)
                · exact .inr (.inr ⟨rfl, h1, by omega⟩)
              · exact .inl rfl
            clear hbb HQ2
            rcases hcase with hc1 | ⟨hc1, hc2⟩ | ⟨hc1, hc2, hc3⟩
            all_goals
              subst hc1
              go_wp2_with (first
                | (refine wpList_copy_blk rfl (.tmp 107) (.tmp 111) 33 33 rfl 49 6 Try.underlying33 hz49 (base + yn) (a1 * 6) (W - a1) (W - a1) rfl ⟨bl, o + fm * 6, none⟩ (tm - fm) (c - fm) rfl (rowCells q) 49 HBd.out (rowCells ((l.take tm).drop fm)) HCs.out HSrd.out HFt.out (rowCells_one _) ?_; intro w4 hb4 hs4))
              rw [blit_cells] at hb4
              have HBl := Lib.hid (blank_row (blit a1 ((l.take tm).drop fm) q) (base + yn) a1 b1 (W - a1) w4 (by have := HLb.out; omega) (by omega) (by rw [HLb.out]; exact hbW) hb4)
              have HS4 := Lib.hid (HSd.out.trans hs4)
              clear hb4 hs4
              refine HBl.out.mono ?_
              rintro e' w8 ⟨rfl, hB8, hS8⟩
              have HB8 := Lib.hid hB8
              have HS8 := Lib.hid (HS4.out.trans hS8)
              clear hB8 hS8
              go_wp2_with fail
              go_roundw
              case rel => exact ⟨e, f', putC1 l a1 b1 fm tm true q, by omega, rfl, (HAft.out true).1, (HAft.out true).2, HQt.out, by have := HEi.out; show _ ≤ _; omega, HB8.out, HS8.out⟩
              case measure => simp [intOf]; omega
          · have HQt := Lib.hid (show putF l sk n x' f' e (putC1 l a1 b1 fm tm false q) = fin from by rw [← HQ2.out, Bool.eq_false_iff.2 hbb])
            have hcase : cb = false ∧ ¬ (i : Int) < fm ∧ ¬ (tm : Int) < e := by
              cases cb
              · simp only [Bool.false_or, Bool.or_eq_true, decide_eq_true_eq] at hbb
                exact ⟨rfl, by omega, by omega⟩
              · simp at hbb
            clear hbb HQ2
            obtain ⟨hc1, hc2, hc3⟩ := hcase
            subst hc1
            go_wp2_with (first
              | (refine wpList_copy_blk rfl (.tmp 107) (.tmp 111) 33 33 rfl 49 6 Try.underlying33 hz49 (base + yn) (a1 * 6) (W - a1) (W - a1) rfl ⟨bl, o + fm * 6, none⟩ (tm - fm) (c - fm) rfl (rowCells q) 49 HBd.out (rowCells ((l.take tm).drop fm)) HCs.out HSrd.out HFt.out (rowCells_one _) ?_; intro w4 hb4 hs4))
            rw [blit_cells] at hb4
            have HB4 := Lib.hid hb4
            have HS4 := Lib.hid (HSd.out.trans hs4)
            clear hb4 hs4
            go_roundw
            case rel => exact ⟨e, f', putC1 l a1 b1 fm tm false q, by omega, rfl, (HAft.out false).1, (HAft.out false).2, HQt.out, by have := HEi.out; show _ ≤ _; omega, HB4.out, HS4.out⟩
            case measure => simp [intOf]; omega
        · have hft' : ¬ (fm : Int) < tm := by omega
          rw [if_neg hft] at HQ2
          go_wp2_with (first
            | (go_at_call 46; refine HCh.out.mono ?_; rintro e' w' ⟨rfl, rfl⟩)
            | (refine wpList_max' rfl (.tmp 90) (.tmp 91) _ rfl (.int .i64 i) (.int .i64 sk) (.int .i64 fm) rfl rfl HM1.out ?_)
            | (refine wpList_min' rfl (.tmp 93) (.tmp 96) _ rfl (.int .i64 e) (.int .i64 ((sk : Int) + n)) (.int .i64 tm) rfl rfl HM2.out ?_))
          go_roundw
          case rel => exact ⟨e, f', q, by omega, rfl, HQl.out, HQp.out, HQ2.out, by have := HEi.out; show _ ≤ _; omega, HB.out, HS.out⟩
          case measure => simp [intOf]; omega
      · have hlt' : ¬ (i : Int) < N := by omega
        have HBf := Lib.hid (show Blk wr (base + yn) (rowCells (putRow sk n x' l (S.rows.getD yn []))) 49 ∧ (putRow sk n x' l (S.rows.getD yn [])).length = S.W ∧ PartOK (putRow sk n x' l (S.rows.getD yn [])) from by
          have h1 := HQf.out
          rw [putF_end l sk n x' f i q (by rw [← HNe.out]; omega)] at h1
          rw [HG.out, ← HFn.out, ← h1]
          exact ⟨HB.out, HQl.out.trans HWe.out, HQp.out⟩)
        go_wp2_with fail
        exact bodyPost_end (v := .tuple #[]) (by simp [results, Try.results22, go_sem]) rfl ⟨rfl, HS0.out.setRow yn (by rw [← HHe.out]; exact hyH) _ HBf.out.2.1 HBf.out.2.2 HBf.out.1 HS.out, HS.out⟩
set_option maxRecDepth 20000 in
set_option maxHeartbeats 4000000 in
theorem put_out (s : Nat) (x y : Int) (v : Value) (N c : Nat) (A : Option Addr) (S : Sc) (base : Nat) (os : List Nat) (w : World) (hx : I64 x) (hy : I64 y) (hv : v = .slice A N c) (hN : N ≤ 16777216) (h : Sm w s base os S)
    (ho : y < 0 ∨ S.H ≤ y ∨ S.W ≤ x ∨ (x < 0 ∧ x ≤ -(N : Int)) ∨ min ((N : Int) - max 0 (-x)) ((S.W : Int) - max x 0) ≤ 0) :
    Calls Try.prog 22 #[.pointer (some ⟨s, 0, none⟩), .int .i64 x, .int .i64 y, v] w fun e w' => e = .returned (.tuple #[]) ∧ w' = w := by
  have c2048 := h.scr.w_
  have c2049 := h.scr.h_
  have hW0 := h.ok.w
  have hH0 := h.ok.h
  have hlt := h.scr.lt
  obtain ⟨W, hWe⟩ : ∃ W, W = S.W := ⟨_, rfl⟩
  obtain ⟨H, hHe⟩ : ∃ H, H = S.H := ⟨_, rfl⟩
  rw [← hWe] at c2048 hW0 ho
  rw [← hHe] at c2049 hH0 ho
  obtain ⟨hx1, hx2⟩ := hx
  obtain ⟨hy1, hy2⟩ := hy
  clear h hWe hHe
  subst hv
  have hN1 : (N : Int) ≤ 16777216 := by omega
  have hW1 : (W : Int) ≤ 1024 := by omega
  have hH1 : (H : Int) ≤ 1024 := by omega
  have fin : ∀ w : World, Try.prog = Try.prog := fun _ => rfl
  clear fin
  by_cases h1 : y < 0
  · clear ho
    go_enter Try.func22, Try.ntmps22
    go_wp2_with fail
    exact bodyPost_ret (v := .tuple #[]) (by simp [results, Try.results22, go_sem]) rfl ⟨rfl, rfl⟩
  · by_cases h2 : (H : Int) ≤ y
    · clear ho
      go_enter Try.func22, Try.ntmps22
      go_wp2_with fail
      exact bodyPost_ret (v := .tuple #[]) (by simp [results, Try.results22, go_sem]) rfl ⟨rfl, rfl⟩
    · by_cases h3 : (W : Int) ≤ x
      · clear ho
        go_enter Try.func22, Try.ntmps22
        go_wp2_with fail
        exact bodyPost_ret (v := .tuple #[]) (by simp [results, Try.results22, go_sem]) rfl ⟨rfl, rfl⟩
      · by_cases h4 : x < 0
        · by_cases h5 : x ≤ -(N : Int)
          · clear ho
            go_enter Try.func22, Try.ntmps22
            go_wp2_with fail
            exact bodyPost_ret (v := .tuple #[]) (by simp [results, Try.results22, go_sem]) rfl ⟨rfl, rfl⟩
          · have hn : min ((N : Int) - (-x)) (W : Int) ≤ 0 := by omega
            have hW2 : (W : Int) = 0 := by omega
            have hxx : IntKind.i64.wrap (x + -x) = 0 := by rw [show x + -x = 0 by omega]; rfl
            have HMx := Lib.hid (show ∀ (ts : Array TypeId) (t : TypeId) (w : World), (Builtin.max_ ts t #[.int .i64 0, .int .i64 (-x)]).run Try.prog w = .ok (.int .i64 (-x)) w from fun ts t w => (max_ints (P := Try.prog) 0 (-x) ts t w).trans (by rw [show max 0 (-x) = -x by omega]))
            obtain ⟨W0, rfl⟩ : W = 0 := by omega
            clear ho hn
            go_enter Try.func22, Try.ntmps22
            go_wp2_with (first
              | (refine wpList_max' rfl (.const (.int .i64 0)) (.tmp 50) _ rfl (.int .i64 0) (.int .i64 (-x)) (.int .i64 (-x)) rfl rfl HMx.out ?_))
            all_goals exact bodyPost_ret (v := .tuple #[]) (by simp [results, Try.results22, go_sem]) rfl ⟨rfl, rfl⟩
        · have hn : (N : Int) = 0 := by omega
          have hN0 : N = 0 := by omega
          subst hN0
          have HMx := Lib.hid (show ∀ (ts : Array TypeId) (t : TypeId) (w : World), (Builtin.max_ ts t #[.int .i64 0, .int .i64 (-x)]).run Try.prog w = .ok (.int .i64 0) w from fun ts t w => (max_ints (P := Try.prog) 0 (-x) ts t w).trans (by rw [show max 0 (-x) = 0 by omega]))
          clear ho hn
          go_enter Try.func22, Try.ntmps22
          go_wp2_with (first
            | (refine wpList_max' rfl (.const (.int .i64 0)) (.tmp 50) _ rfl (.int .i64 0) (.int .i64 (-x)) (.int .i64 0) rfl rfl HMx.out ?_))
          all_goals exact bodyPost_ret (v := .tuple #[]) (by simp [results, Try.results22, go_sem]) rfl ⟨rfl, rfl⟩
theorem Sc.put_out (S : Sc) (x y : Int) (l : List Ce) (h : y < 0 ∨ S.H ≤ y ∨ S.W ≤ x ∨ (x < 0 ∧ x ≤ -(l.length : Int)) ∨ min ((l.length : Int) - max 0 (-x)) ((S.W : Int) - max x 0) ≤ 0) : S.put x y l = S := if_pos h
theorem modify_set (rows : List (List Ce)) (y : Nat) (f : List Ce → List Ce) (h : y < rows.length) : rows.modify y f = rows.set y (f (rows.getD y [])) := by
  apply List.ext_getElem?
  intro i
  rw [List.getElem?_modify, List.getElem?_set, List.getD_eq_getElem?_getD, List.getElem?_eq_getElem h]
  by_cases e : y = i
  · subst e; simp [h]
  · simp [e]
theorem put_any (s base : Nat) (os : List Nat) (S : Sc) (x y : Int) (l : List Ce) (bl o c : Nat) (w : World) (hx : I64 x) (hy : I64 y) (hl : l.length ≤ 16777216) (hp : PartOK l) (hc : l.length ≤ c ∧ c ≤ maxLen) (hL : CAt w bl o l) (hbl : bl < w.heap.size) (hnb : bl ∉ foot s base S.H) (h : Sm w s base os S) :
    Calls Try.prog 22 #[.pointer (some ⟨s, 0, none⟩), .int .i64 x, .int .i64 y, .slice (some ⟨bl, o, none⟩) l.length c] w fun e w' => e = .returned (.tuple #[]) ∧ Sm w' s base os (S.put x y l) ∧ Stay (foot s base S.H) w w' := by
  by_cases ho : y < 0 ∨ S.H ≤ y ∨ S.W ≤ x ∨ (x < 0 ∧ x ≤ -(l.length : Int)) ∨ min ((l.length : Int) - max 0 (-x)) ((S.W : Int) - max x 0) ≤ 0
  · refine (Go.Proofs.Ytohkjopdoejedaa.put_out s x y _ l.length c _ S base os w hx hy rfl hl h ho).mono ?_
    rintro e w' ⟨rfl, rfl⟩
    exact ⟨rfl, by rw [S.put_out x y l ho]; exact h, Stay.refl _ _⟩
  · obtain ⟨yn, rfl⟩ : ∃ yn : Nat, y = yn := ⟨y.toNat, by omega⟩
    have hyH : yn < S.H := by omega
    refine (put_main s base os S x yn (max 0 (-x)).toNat (max x 0).toNat (min ((l.length : Int) - max 0 (-x)) ((S.W : Int) - max x 0)).toNat l bl o c w hl hp hc hL hbl (fun e => hnb (by rw [mem_foot]; omega)) (by omega) (by omega) (by omega) (by omega) hyH (by omega) (by omega) h).mono ?_
    rintro e w' ⟨rfl, h1, h2⟩
    refine ⟨rfl, ?_, h2.mono (by intro g hg; simp at hg; rw [mem_foot]; omega)⟩
    have e1 : S.put x yn l = { S with rows := S.rows.set yn (putRow (max 0 (-x)).toNat (min ((l.length : Int) - max 0 (-x)) ((S.W : Int) - max x 0)).toNat (max x 0).toNat l (S.rows.getD yn [])) } := by
      unfold Sc.put
      rw [if_neg ho, Int.toNat_natCast, modify_set _ _ _ (by rw [h.ok.len]; exact hyH)]
    rw [e1]
    exact h1
end Go.Proofs.Ytohkjopdoejedaa
