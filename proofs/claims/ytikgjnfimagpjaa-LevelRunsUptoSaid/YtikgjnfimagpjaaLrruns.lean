/- the document's answer: Runs. -/
import Derived.Test.YtikgjnfimagpjaaLrr0
import Derived.Deep.RegionWith
import Derived.Deep.DeepCutAuto
namespace Go.Proofs.Ytikgjnfimagpjaa
open Go.RowKit
/-- what the loops write: begins, goesOn -/
structure RR (w0 w : World) (gb gg n m : Nat) (bl : List Int) (gl : List Bool) : Prop where
  ob : Own w 3 w0.heap.size (.slice (some ⟨gb, 0, none⟩) n n) (ints .i64 bl)
  og : Own w 4 w0.heap.size (.slice (some ⟨gg, 0, none⟩) m m) (bools gl)
  ne : gb ≠ gg
  below : Below w0.heap.size w0 w
theorem RR.quiet {w0 w w' : World} {gb gg n m : Nat} {bl : List Int} {gl : List Bool} (h : RR w0 w gb gg n m bl gl) (hb : Below w.heap.size w w') : RR w0 w' gb gg n m bl gl :=
  ⟨h.ob.below_ hb, h.og.below_ hb, h.ne, h.below.trans (hb.mono h.below.size)⟩
theorem RR.putb {w0 w : World} {gb gg n m : Nat} {bl : List Int} {gl : List Bool} (h : RR w0 w gb gg n m bl gl) (i : Nat) (x : Int) : RR w0 (w.setCell ⟨gb, i, none⟩ (.int .i64 x)) gb gg n m (bl.set i x) gl :=
  ⟨own_put h.ob i x, h.og.set_far (p := ⟨gb, i, none⟩) (fun e => h.ne (by simpa [Value.ownBlock] using e.symm)) _, h.ne, h.below.setCell (p := ⟨gb, i, none⟩) (by exact (h.ob.lt gb rfl).1) _⟩
structure RR2 (w0 w : World) (gb gg gn n m : Nat) (bl : List Int) (gl : List Bool) (nl : List Int) : Prop where
  rr : RR w0 w gb gg n m bl gl
  on : Own w 3 w0.heap.size (.slice (some ⟨gn, 0, none⟩) m m) (ints .i64 nl)
  nb : gn ≠ gb
  ng : gn ≠ gg
theorem RR2.quiet {w0 w w' : World} {gb gg gn n m : Nat} {bl : List Int} {gl : List Bool} {nl : List Int} (h : RR2 w0 w gb gg gn n m bl gl nl) (hb : Below w.heap.size w w') : RR2 w0 w' gb gg gn n m bl gl nl :=
  ⟨h.rr.quiet hb, h.on.below_ hb, h.nb, h.ng⟩
theorem RR2.putn {w0 w : World} {gb gg gn n m : Nat} {bl : List Int} {gl : List Bool} {nl : List Int} (h : RR2 w0 w gb gg gn n m bl gl nl) (i : Nat) (x : Int) : RR2 w0 (w.setCell ⟨gn, i, none⟩ (.int .i64 x)) gb gg gn n m bl gl (nl.set i x) :=
  ⟨⟨h.rr.ob.set_far (p := ⟨gn, i, none⟩) (fun e => h.nb (by simpa [Value.ownBlock] using e.symm)) _, h.rr.og.set_far (p := ⟨gn, i, none⟩) (fun e => h.ng (by simpa [Value.ownBlock] using e.symm)) _, h.rr.ne, h.rr.below.setCell (p := ⟨gn, i, none⟩) (by exact (h.on.lt gn rfl).1) _⟩, own_put h.on i x, h.nb, h.ng⟩
theorem RR2.putg {w0 w : World} {gb gg gn n m : Nat} {bl : List Int} {gl : List Bool} {nl : List Int} (h : RR2 w0 w gb gg gn n m bl gl nl) (i : Nat) (x : Bool) : RR2 w0 (w.setCell ⟨gg, i, none⟩ (.bool x)) gb gg gn n m bl (gl.set i x) nl :=
  ⟨⟨h.rr.ob.set_far (p := ⟨gg, i, none⟩) (fun e => h.rr.ne (by simpa [Value.ownBlock] using e)) _, bown_put h.rr.og i x, h.rr.ne, h.rr.below.setCell (p := ⟨gg, i, none⟩) (by exact (h.rr.og.lt gg rfl).1) _⟩, h.on.set_far (p := ⟨gg, i, none⟩) (fun e => h.ng (by simpa [Value.ownBlock] using e)) _, h.nb, h.ng⟩
set_option maxRecDepth 20000 in
set_option maxHeartbeats 8000000 in
theorem rruns_any (zs lv : List Int) (A A2 : Option Addr) (c c2 : Nat) (w : World) (hl : zs.length < 1048576) (hc2 : lv.length ≤ c2 ∧ c2 ≤ maxLen) (hc : zs.length ≤ c ∧ c ≤ maxLen)
    (h : Sl w w.heap.size A (ints .i8 zs)) (h2 : Sl w w.heap.size A2 (ints .u8 lv)) :
    Calls Try.prog 22 #[.slice A zs.length c, .slice A2 lv.length c2] w fun e w' => ∃ OA oc rvs, e = .returned (.slice OA (runsL zs lv).length oc) ∧ Mem w' w.heap.size [] (.slice OA (runsL zs lv).length oc) rvs (runsL zs lv) ∧ Below w.heap.size w w' := by
  obtain ⟨i3, hi3, hz30, hz31, hz32⟩ := info_parts info3
  obtain ⟨i4, hi4, hz40, hz41, hz42⟩ := info_parts info4
  obtain ⟨i25, hi25, hz250, hz251, hz252⟩ := info_parts info25
  obtain ⟨n, hn⟩ : ∃ n : Nat, n = min zs.length lv.length := ⟨_, rfl⟩
  have hmin := Lib.hid (fun ts t w => (min_int (P := Try.prog) zs.length lv.length ts t w).trans (by rw [← hn]) : ∀ (ts : Array TypeId) (t : TypeId) (w : World), (Builtin.min_ ts t #[.int .i64 zs.length, .int .i64 lv.length]).run Try.prog w = .ok (.int .i64 n) w)
  have hn1 : n ≤ zs.length := by omega
  have hn2 : n ≤ lv.length := by omega
  have HRD := Lib.hid (runs_doc zs lv n hn)
  have HDE := Lib.hid (doc_each zs lv n hn)
  have HNX := Lib.hid (nx_fwd zs lv n hn1)
  have HSI := Lib.hid (sto_inv zs lv n)
  have hnl : (zs.take n).length = n := by simp; omega
  have HCl := Lib.hid (show Calls Try.prog 33 #[.slice A n c] w fun e w' => ∃ A' c', e = .returned (.slice A' n c') ∧ Own w' 23 w.heap.size (.slice A' n c') (ints .i8 (clsN zs n)) ∧ Below w.heap.size w w' from by
    have := classes_any (zs.take n) A c w (by omega) (by
      have h5 := sl_take h n
      simpa [ints, List.map_take] using h5)
    rw [hnl] at this
    exact this)
  have HPa := Lib.hid (fun W A' c' (hs : Sl W W.heap.size A' (ints .i8 (clsN zs n))) => (show Calls Try.prog 11 #[.slice A' n c'] W fun e w' => ∃ A' c', e = .returned (.slice A' n c') ∧ Own w' 3 W.heap.size (.slice A' n c') (ints .i64 (pairsL (zs.take n))) ∧ Below W.heap.size W w' from by
    have := rpairs_any (clsN zs n) A' c' W (by rw [clsN_length zs n hn1]; omega) hs
    rw [clsN_length zs n hn1] at this
    unfold clsN at this
    rw [pairsL_map] at this
    exact this))
  have HSt := Lib.hid (fun W A' c' (hb : Below w.heap.size w W) (hs : Sl W W.heap.size A' (ints .i8 (clsN zs n))) => stretches_any zs lv n A' A2 c' c2 W hn1 hn2 (by omega) hs ((h2.below hb).more hb.size))
  have HPB := Lib.hid (show (pairsL (zs.take n)).length = n ∧ ∀ i, i < n → -1 ≤ (pairsL (zs.take n)).getD i 0 ∧ (pairsL (zs.take n)).getD i 0 < (n : Int) from ⟨by simpa using hnl, fun i hi => by have := pairsL_bound (zs.take n) i (by omega); rw [hnl] at this; exact this⟩)
  obtain ⟨pr, hpr⟩ : ∃ pr, pr = pairsL (zs.take n) := ⟨_, rfl⟩
  rw [← hpr] at HRD HNX HPa HPB
  obtain ⟨S, hS⟩ : ∃ S, S = (sto zs lv n).1 := ⟨_, rfl⟩
  rw [← hS] at HRD HNX HSt
  have HSI := Lib.hid (show S.length ≤ n ∧ (∀ a, a < S.length → 0 < (S.getD a []).length) ∧ (∀ a, ∀ x ∈ S.getD a [], 0 ≤ x ∧ x < (n : Int)) ∧ ∀ a, (S.getD a []).length ≤ n from by
    rw [hS]; exact ⟨HSI.out.len, HSI.out.ne, HSI.out.bd, HSI.out.each⟩)
  have HNd := Lib.hid (fun a => (show nxN zs pr S a = if opensB (clsL (zs.getD (lastL (S.getD a [])).toNat 0)) = true ∧ 0 ≤ pr.getD (lastL (S.getD a [])).toNat 0 then begN S S.length (pr.getD (lastL (S.getD a [])).toNat 0) else 0 from rfl))
  obtain ⟨nx, hnx⟩ : ∃ nx, nx = nxN zs pr S := ⟨_, rfl⟩
  rw [← hnx] at HRD HNX HNd
  have hnc : (n : Int) ≤ c := by omega
  have hnc2 : (n : Int) ≤ c2 := by omega
  have hcc := hc.2
  have hcc2 := hc2.2
  have hnb : n < 1048576 := by omega
  clear hn h h2 hnl hc hc2 hpr hS hnx
  go_enter Try.func22, Try.ntmps22
  go_wp2_with (first | (refine wpList_min rfl (.tmp 20) (.tmp 22) #[3, 3] rfl (.int .i64 zs.length) (.int .i64 lv.length) (.int .i64 n) rfl rfl hmin.out ?_))
  refine HCl.out.mono ?_
  rintro e w1 ⟨CA, cc, rfl, ho1, hb1⟩
  have HB1 := Lib.hid hb1
  have HC1 := Lib.hid ho1
  clear hb1 ho1 HCl hmin
  go_wp2_with fail
  refine (HPa.out w1 CA cc HC1.out.sl).mono ?_
  rintro e w2 ⟨PA, pc, rfl, ho2, hb2⟩
  have HB2 := Lib.hid (HB1.out.trans (hb2.mono HB1.out.size))
  have HC2 := Lib.hid (HC1.out.below_ hb2)
  have HP2 := Lib.hid ho2
  clear hb2 ho2 HPa HC1 HB1
  go_wp2_with fail
  refine (HSt.out w2 CA cc HB2.out HC2.out.sl).mono ?_
  rintro e w4 ⟨OA, oc, rvs, rfl, hm, hb4⟩
  have HB4 := Lib.hid (HB2.out.trans (hb4.mono HB2.out.size))
  have HC4 := Lib.hid (HC2.out.below_ hb4)
  have HP4 := Lib.hid (HP2.out.below_ hb4)
  have HM4 := Lib.hid hm
  have hmn := HSI.out.1
  obtain ⟨m, hmS⟩ : ∃ m, m = S.length := ⟨_, rfl⟩
  rw [← hmS] at HM4 HRD HNX HNd hmn ⊢
  have HMS := Lib.hid hmS
  clear hb4 hm HC2 HP2 HB2 HSt hmS
  go_upto_region 6 with (first
    | (at_make; refine wpList_make_full _ rfl (.tmp 35) (.tmp 35) 25 rfl w4.heap.size 3 i3 _ 1 Try.underlying25 hi3 hz30 hz31 .i64 .i64 n n n rfl rfl rfl rfl (by rw [hz32]; omega) (by unfold maxLen; omega) (Nat.le_refl _) ?_; intro w5 hown5 hg5))
  rw [show (Value.int IntKind.i64 0).cells = #[Value.int .i64 0] from rfl, Nat.mul_one, toList_madeCells_one] at hown5
  have HO5 := Lib.hid (show Own w5 3 w4.heap.size (.slice (some ⟨w4.heap.size, 0, none⟩) n n) (ints .i64 (List.replicate n 0)) from by simpa [Own, ints] using hown5)
  have HB5 := Lib.hid (show Below w4.heap.size w4 w5 from (Below.refl _ _).grown hg5 (Nat.le_refl _) (by simp))
  clear hown5 hg5
  go_upto_region 7 with (first
    | (at_make; refine wpList_make_full _ rfl (.tmp 38) (.tmp 38) 69 rfl w5.heap.size 4 i4 _ 1 Try.underlying69 hi4 hz40 hz41 .i64 .i64 m m m rfl rfl rfl rfl (by rw [hz42]; omega) (by unfold maxLen; omega) (Nat.le_refl _) ?_; intro w6 hown6 hg6))
  rw [show (Value.bool false).cells = #[Value.bool false] from rfl, Nat.mul_one, toList_madeCells_one] at hown6
  have HR6 := Lib.hid (show RR w4 w6 w4.heap.size w5.heap.size n m (List.replicate n 0) (List.replicate m false) from
    ⟨HO5.out.below_ ((Below.refl _ _).grown hg6 (Nat.le_refl _) (by simp)), own_mono (by simpa [Own, bools] using hown6) HB5.out.size, by
      have := (HO5.out.lt w4.heap.size rfl).2; omega, HB5.out.trans (((Below.refl w5.heap.size w5).grown hg6 (Nat.le_refl _) (by simp)).mono HB5.out.size)⟩)
  clear hown6 hg6 HO5 HB5
  obtain ⟨gb, hgb⟩ : ∃ gb, gb = w4.heap.size := ⟨_, rfl⟩
  obtain ⟨gg, hgg⟩ : ∃ gg, gg = w5.heap.size := ⟨_, rfl⟩
  rw [← hgg, ← hgb] at HR6
  rw [← hgg, ← hgb]
  clear hgb hgg
  go_wp2_with fail
  go_loopw [11] (fun iv wr => ∃ (i : Nat) (bl : List Int), i ≤ m ∧ iv = .int .i64 i ∧ Hid (bl.length = n ∧ ∀ p : Nat, p < n → bl.getD p 0 = (begN S i p : Int)) ∧ Hid (RR w4 wr gb gg n m bl (List.replicate m false))) (fun iv _ => m - (intOf iv).toNat)
  case atStart => exact ⟨0, List.replicate n 0, by omega, rfl, ⟨by simp, fun p _ => by rw [getD_rep]; rfl⟩, HR6.out⟩
  case round =>
    obtain ⟨i, bl, hi, rfl, HBL, HRr⟩ := hrel
    by_cases hlt : i < m
    · have hlt' : (i : Int) < m := by omega
      have hi0 : (0 : Int) ≤ i := by omega
      obtain ⟨g, RA, rl, rc, rfl, -, hcO, -, -, hrl, hoR, -⟩ := (HM4.out.keep (G := []) (Stay.below HRr.out.below) (by simp)).at_ i (by have := HMS.out; omega)
      have hrp := HSI.out.2.1 i (by have := HMS.out; omega)
      obtain ⟨-, gr, rfl, -, -⟩ := hoR.form (by rw [ints_length]; omega)
      have hc0 := own_at hoR (i := 0) hrp
      have hh := HSI.out.2.2.1 i _ (headL_mem _ (List.length_pos_iff.1 hrp))
      obtain ⟨f, hf⟩ : ∃ f : Nat, headL (S.getD i []) = f := ⟨(headL (S.getD i [])).toNat, by omega⟩
      have hf' : (S.getD i []).getD 0 0 = f := hf
      rw [hf'] at hc0
      have hfn : f < n := by omega
      have hfn' : (f : Int) < n := by omega
      have hf0 : (0 : Int) ≤ f := by omega
      have hrl1 : (0 : Int) < rl := by omega
      have hsc := own_at HRr.out.ob (i := f) (by rw [HBL.out.1]; exact hfn)
      have hsf := HRr.out.ob.free f
      have HPut := Lib.hid (HRr.out.putb f ((i : Int) + 1))
      have HNb := Lib.hid (show (bl.set f ((i : Int) + 1)).length = n ∧ ∀ p : Nat, p < n → (bl.set f ((i : Int) + 1)).getD p 0 = (begN S (i + 1) p : Int) from by
        refine ⟨by simp [HBL.out.1], fun p hp => ?_⟩
        rw [getD_set _ _ _ _ (by rw [HBL.out.1]; exact hfn), show begN S (i + 1) (p : Int) = if headL (S.getD i []) = (p : Int) then i + 1 else begN S i p from rfl, hf, HBL.out.2 p hp]
        by_cases e : p = f
        · subst e; simp
        · rw [if_neg e, if_neg (by omega)])
      clear hoR hrl hh hf hf' hrp
      go_wp2_with fail
      go_roundw
      case rel => exact ⟨i + 1, _, by omega, by go_num, HNb.out, HPut.out⟩
      case measure => simp [intOf]; omega
    · have hi' : i = m := by omega
      subst hi'
      clear HR6
      go_upto_region 12 with (first
        | (at_make; refine wpList_make_full _ rfl (.tmp 57) (.tmp 57) 25 rfl wr.heap.size 3 i3 _ 1 Try.underlying25 hi3 hz30 hz31 .i64 .i64 i i i rfl rfl rfl rfl (by rw [hz32]; omega) (by unfold maxLen; omega) (Nat.le_refl _) ?_; intro w7 hown7 hg7))
      rw [show (Value.int IntKind.i64 0).cells = #[Value.int .i64 0] from rfl, Nat.mul_one, toList_madeCells_one] at hown7
      have HR7 := Lib.hid (show RR2 w4 w7 gb gg wr.heap.size n i bl (List.replicate i false) (List.replicate i 0) from
        ⟨HRr.out.quiet ((Below.refl _ _).grown hg7 (Nat.le_refl _) (by simp)), own_mono (by simpa [Own, ints] using hown7) HRr.out.below.size, by
          have := (HRr.out.ob.lt gb rfl).2; omega, by have := (HRr.out.og.lt gg rfl).2; omega⟩)
      obtain ⟨gn, hgn⟩ : ∃ gn, gn = wr.heap.size := ⟨_, rfl⟩
      rw [← hgn] at HR7 ⊢
      clear hown7 hg7 HRr hgn
      go_wp2_with fail
      go_loopw [13] (fun iv wr => ∃ (j : Nat) (nl : List Int) (gl : List Bool), j ≤ i ∧ iv = .int .i64 j ∧ Hid (nl.length = i ∧ ∀ a, a < i → nl.getD a 0 = if a < j then (nx a : Int) else 0) ∧ Hid (gl.length = i ∧ ∀ b, b < i → gl.getD b false = goesB nx j b) ∧ Hid (RR2 w4 wr gb gg gn n i bl gl nl)) (fun iv _ => i - (intOf iv).toNat)
      case atStart => exact ⟨0, List.replicate i 0, List.replicate i false, by omega, rfl, ⟨by simp, fun a _ => by rw [getD_rep, if_neg (by omega)]⟩, ⟨by simp, fun b _ => by rw [bget_rep]; rfl⟩, HR7.out⟩
      case round =>
        clear HR7
        obtain ⟨j, nl, gl, hj, rfl, HNL, HGL, HRr⟩ := hrel
        by_cases hlt : j < i
        · have hlt' : (j : Int) < i := by omega
          have hj0 : (0 : Int) ≤ j := by omega
          obtain ⟨g, RA, rl, rc, rfl, -, hcO, -, -, hrl, hoR, -⟩ := (HM4.out.keep (G := []) (Stay.below HRr.out.rr.below) (by simp)).at_ j (by have := HMS.out; omega)
          have hrp := HSI.out.2.1 j (by have := HMS.out; omega)
          have hrn := HSI.out.2.2.2 j
          obtain ⟨-, gr, rfl, -, -⟩ := hoR.form (by rw [ints_length]; omega)
          obtain ⟨l, hl0⟩ : ∃ l, rl = l + 1 := ⟨rl - 1, by omega⟩
          subst hl0
          have hc0 := own_at hoR (i := l) (by omega)
          have hh := HSI.out.2.2.1 j _ (lastL_mem _ (List.length_pos_iff.1 hrp))
          obtain ⟨t, ht⟩ : ∃ t : Nat, lastL (S.getD j []) = t := ⟨(lastL (S.getD j [])).toNat, by omega⟩
          have ht' : (S.getD j []).getD l 0 = t := by
            rw [← ht]; unfold lastL; rw [← hrl, Nat.add_sub_cancel]
          rw [ht'] at hc0
          have htn : t < n := by omega
          have hN := HNd.out j
          rw [ht, Int.toNat_natCast] at hN
          have HN := Lib.hid hN
          have hlw : IntKind.i64.wrap (l : Int) = l := by simp [IntKind.wrap, IntKind.signed, IntKind.bits]; omega
          have hl1 : (l : Int) < (l : Int) + 1 := by omega
          have hl00 : (0 : Int) ≤ l := by omega
          have hlb : (l : Int) ≤ 9223372036854775806 := by omega
          clear hoR hrl hh ht ht' hrp hN
          go_upto_region 15 with fail
          go_cut [14] (fun tv wx => tv = .int .i64 t ∧ Below wr.heap.size wr wx)
          case first => as_aux_lemma =>
            go_wp2_with fail
            go_quiet (fail)
            go_wp2_with fail
            go_meet
            exact ⟨rfl, below_drewN' (Below.refl _ _) _⟩
          case rest =>
            obtain ⟨rfl, hbx⟩ := hcut
            have HRw := Lib.hid (HRr.out.quiet hbx)
            clear hbx HRr hcO hc0
            obtain ⟨gc, hgc, -, -⟩ := own_is HC4.out (by rw [clsN_length zs n hn1]; omega)
            obtain ⟨gpp, hgp, -, -⟩ := own_is HP4.out (by rw [HPB.out.1]; omega)
            subst hgc hgp
            have hk1 := own_at (own_below_at HC4.out HRw.out.rr.below (fun g hg => (HC4.out.lt g hg).2)) (i := t) (by rw [clsN_length zs n hn1]; exact htn)
            have hk2 := own_at (own_below_at HP4.out HRw.out.rr.below (fun g hg => (HP4.out.lt g hg).2)) (i := t) (by rw [HPB.out.1]; exact htn)
            rw [clsN_at zs n t htn hn1] at hk1
            have hyb := HPB.out.2 t htn
            obtain ⟨d, hd⟩ : ∃ d, d = clsL (zs.getD t 0) := ⟨_, rfl⟩
            rw [← hd] at hk1 HN
            obtain ⟨y, hy⟩ : ∃ y, y = pr.getD t 0 := ⟨_, rfl⟩
            rw [← hy] at hk2 HN hyb
            clear hd hy
            have HO := Lib.hid (fun W => begins_any d W)
            have hno := own_at HRw.out.on (i := j) (by rw [HNL.out.1]; exact hlt)
            rw [HNL.out.2 j hlt, if_neg (by omega)] at hno
            have hnf := HRw.out.on.free j
            have htn' : (t : Int) < n := by omega
            have ht0 : (0 : Int) ≤ t := by omega
            cases ho : opensB d with
            | false =>
              rw [ho] at HO
              have HN0 := Lib.hid (HN.out.trans (if_neg (by rw [ho]; simp)))
              clear ho
              go_wp2_with (first | (go_at_call 34; refine (HO.out _).mono ?_; rintro e w' ⟨rfl, rfl⟩))
              go_roundw
              case rel =>
                refine ⟨j + 1, nl, gl, by omega, by go_num, ⟨HNL.out.1, fun a ha => ?_⟩, ⟨HGL.out.1, fun b hb => ?_⟩, HRw.out⟩
                · rw [HNL.out.2 a ha]
                  by_cases e : a = j
                  · subst e; rw [if_neg (by omega), if_pos (by omega), HN0.out]; rfl
                  · by_cases e2 : a < j
                    · rw [if_pos e2, if_pos (by omega)]
                    · rw [if_neg e2, if_neg (by omega)]
                · rw [HGL.out.2 b hb, show goesB nx (j + 1) b = (goesB nx j b || decide (nx j = b + 1)) from rfl, HN0.out]
                  simp
              case measure => simp [intOf]; omega
            | true =>
              rw [ho] at HO
              by_cases hy0 : 0 ≤ y
              · have HN1 := Lib.hid (HN.out.trans (if_pos ⟨ho, hy0⟩))
                obtain ⟨p, hp⟩ : ∃ p : Nat, y = p := ⟨y.toNat, by omega⟩
                subst hp
                have hpn : p < n := by omega
                have hb1 := own_at HRw.out.rr.ob (i := p) (by rw [HBL.out.1]; exact hpn)
                rw [HBL.out.2 p hpn] at hb1
                have hvS : nx j = begN S i p := HN1.out
                rw [← hvS] at hb1
                have HPn := Lib.hid (HRw.out.putn j (nx j : Int))
                have hno2 := own_at HPn.out.on (i := j) (by rw [List.length_set, HNL.out.1]; exact hlt)
                rw [getD_set _ _ _ _ (by rw [HNL.out.1]; exact hlt), if_pos rfl] at hno2
                have HNn := Lib.hid (show (nl.set j (nx j : Int)).length = i ∧ ∀ a, a < i → (nl.set j (nx j : Int)).getD a 0 = if a < j + 1 then (nx a : Int) else 0 from by
                  refine ⟨by simp [HNL.out.1], fun a ha => ?_⟩
                  rw [getD_set _ _ _ _ (by rw [HNL.out.1]; exact hlt), HNL.out.2 a ha]
                  by_cases e : a = j
                  · subst e; rw [if_pos rfl, if_pos (by omega)]
                  · rw [if_neg e]
                    by_cases e2 : a < j
                    · rw [if_pos e2, if_pos (by omega)]
                    · rw [if_neg e2, if_neg (by omega)])
                have hpn' : (p : Int) < n := by omega
                have hp0 : (0 : Int) ≤ p := by omega
                have HNX2 := Lib.hid (HNX.out j)
                clear hvS ho
                cases hv : nx j with
                | zero =>
                  rw [hv] at hb1 HPn hno2
                  have HN0 := Lib.hid hv
                  clear hv
                  go_wp2_with (first | (go_at_call 34; refine (HO.out _).mono ?_; rintro e w' ⟨rfl, rfl⟩))
                  go_roundw
                  case rel =>
                    refine ⟨j + 1, nl.set j ((0 : Nat) : Int), gl, by omega, by go_num, by have := HNn.out; rw [HN0.out] at this; exact this, ⟨HGL.out.1, fun b hb => ?_⟩, HPn.out⟩
                    rw [HGL.out.2 b hb, show goesB nx (j + 1) b = (goesB nx j b || decide (nx j = b + 1)) from rfl, HN0.out]
                    simp
                  case measure => simp [intOf]; omega
                | succ b =>
                  obtain ⟨hjb, hbi⟩ := HNX2.out b (by have := HMS.out; omega) hv
                  rw [hv] at hb1 HPn hno2
                  have HN0 := Lib.hid hv
                  have hgo := bown_at HPn.out.rr.og (i := b) (by rw [HGL.out.1]; exact hbi)
                  have hgf := HPn.out.rr.og.free b
                  have HPg := Lib.hid (HPn.out.putg b true)
                  have hbi' : (b : Int) < i := by omega
                  have hb0 : (0 : Int) ≤ b := by omega
                  obtain ⟨v, hve⟩ : ∃ v : Int, v = ((b + 1 : Nat) : Int) := ⟨_, rfl⟩
                  have hvb : (0 : Int) < v := by omega
                  have hvm : v - 1 = b := by omega
                  rw [← hve] at hb1 HPn hno2 HPg hgo hgf
                  have HVe := Lib.hid hve
                  clear hv hjb hve
                  go_wp2_with (first | (go_at_call 34; refine (HO.out _).mono ?_; rintro e w' ⟨rfl, rfl⟩))
                  go_roundw
                  case rel =>
                    refine ⟨j + 1, nl.set j v, gl.set b true, by omega, by go_num, by have := HNn.out; rw [HN0.out, ← HVe.out] at this; exact this, ⟨by simp [HGL.out.1], fun b' hb' => ?_⟩, HPg.out⟩
                    rw [bget_set _ _ _ _ (by rw [HGL.out.1]; exact hbi), HGL.out.2 b' hb', show goesB nx (j + 1) b' = (goesB nx j b' || decide (nx j = b' + 1)) from rfl, HN0.out]
                    by_cases e : b' = b
                    · subst e; simp
                    · rw [if_neg e]
                      have hne : decide (b + 1 = b' + 1) = false := by simp; omega
                      rw [hne, Bool.or_false]
                  case measure => simp [intOf]; omega
              · have HN0 := Lib.hid (HN.out.trans (if_neg (fun h => hy0 h.2)))
                have hy1 : ¬ 0 ≤ y := hy0
                have hy2 : decide (0 ≤ y) = false := by simpa using hy0
                clear ho hy0
                go_wp2_with (first | (go_at_call 34; refine (HO.out _).mono ?_; rintro e w' ⟨rfl, rfl⟩))
                go_roundw
                case rel =>
                  refine ⟨j + 1, nl, gl, by omega, by go_num, ⟨HNL.out.1, fun a ha => ?_⟩, ⟨HGL.out.1, fun b hb => ?_⟩, HRw.out⟩
                  · rw [HNL.out.2 a ha]
                    by_cases e : a = j
                    · subst e; rw [if_neg (by omega), if_pos (by omega), HN0.out]; rfl
                    · by_cases e2 : a < j
                      · rw [if_pos e2, if_pos (by omega)]
                      · rw [if_neg e2, if_neg (by omega)]
                  · rw [HGL.out.2 b hb, show goesB nx (j + 1) b = (goesB nx j b || decide (nx j = b + 1)) from rfl, HN0.out]
                    simp
                case measure => simp [intOf]; omega
        · have hj' : j = i := by omega
          subst hj'
          clear HBL HP4 HC4 HPB HNd
          obtain ⟨W0, hW0⟩ : ∃ W0, W0 = wr := ⟨_, rfl⟩
          rw [← hW0] at HRr ⊢
          clear hW0
          go_wp2_with fail
          go_loopw [15, 16] (fun ov iv wx => ∃ (i : Nat) (OB : Option Addr) (ob : Nat) (rvs' : List Value), i ≤ j ∧ iv = .int .i64 i ∧ ov = .slice OB (docR S nx i).length ob ∧ Hid (Mem wx W0.heap.size [] (.slice OB (docR S nx i).length ob) rvs' (docR S nx i)) ∧ Hid (Below W0.heap.size W0 wx)) (fun _ iv _ => j - (intOf iv).toNat)
          case atStart => exact ⟨0, none, 0, [], by omega, rfl, rfl, Mem.start _ _ _, Below.refl _ _⟩
          case round =>
            obtain ⟨i, OB, ob, rvs', hi, rfl, rfl, HMo, HBo⟩ := hrel
            by_cases hlt : i < j
            · have hlt' : (i : Int) < j := by omega
              have hi0 : (0 : Int) ≤ i := by omega
              have hdl := docR_len S nx i
              have hgo := bown_at (own_below_at HRr.out.rr.og HBo.out (fun g hg => (HRr.out.rr.og.lt g hg).2)) (i := i) (by rw [HGL.out.1]; exact hlt)
              rw [HGL.out.2 i hlt] at hgo
              have HDo := Lib.hid (show docR S nx (i + 1) = if goesB nx j i = true then docR S nx i else docR S nx i ++ [chainF S nx (j + 1) (i + 1)] from by
                rw [HMS.out]; rfl)
              have HDM := Lib.hid (fun hg : goesB nx j i = false => (show (chainF S nx (j + 1) (i + 1)).length ≤ n from HDE.out _ (by
                rw [HRD.out, HMS.out]
                exact docR_mem S nx i (by rw [← HMS.out]; exact hg) _ (by rw [← HMS.out]; exact hlt))))
              cases hg : goesB nx j i with
              | true =>
                rw [hg] at hgo
                have HD2 := Lib.hid (HDo.out.trans (if_pos hg))
                clear hg
                go_wp2_with fail
                go_roundw
                case rel => exact ⟨i + 1, OB, ob, rvs', by omega, by go_num, by rw [HD2.out], by show Mem _ _ _ _ _ _; rw [HD2.out]; exact HMo.out, HBo.out⟩
                case measure => simp [intOf]; omega
              | false =>
                rw [hg] at hgo
                have HD2 := Lib.hid (HDo.out.trans (if_neg (by rw [hg]; simp)))
                have hfl := HDM.out hg
                clear hg HDM HDo
                obtain ⟨full, hfull⟩ : ∃ full, full = chainF S nx (j + 1) (i + 1) := ⟨_, rfl⟩
                rw [← hfull] at HD2 hfl
                have HFU := Lib.hid hfull
                clear hfull
                go_wp2_with fail
                go_loopg [17, 18] (j - i) (fun gk rv kv wy => ∃ (k f : Nat) (run : List Int) (RB : Option Addr) (rb : Nat), k ≤ j ∧ gk = (if k = 0 then 0 else j + 1 - k) ∧ kv = .int .i64 k ∧ rv = .slice RB run.length rb ∧ Hid (run ++ chainF S nx f k = full) ∧ Hid (k ≠ 0 → j + 2 ≤ f + k) ∧ Hid (Own wy 3 W0.heap.size (.slice RB run.length rb) (ints .i64 run)) ∧ Hid (Mem wy W0.heap.size (Value.slice RB run.length rb).ownBlock.toList (.slice OB (docR S nx i).length ob) rvs' (docR S nx i)) ∧ Hid (Below W0.heap.size W0 wy))
                case atStart =>
                  refine ⟨i + 1, j + 1, [], none, 0, by omega, by rw [if_neg (by omega)]; omega, by go_num, rfl, ?_, fun _ => by omega, Own.nil_ _ _ _, ?_, HBo.out⟩
                  · show [] ++ _ = full
                    rw [List.nil_append, HFU.out]
                  · exact HMo.out
                case round =>
                  obtain ⟨k, f, run, RB, rb, hk, hgk, rfl, rfl, HCh, HFk, HRu, HMi, HBi⟩ := hrel
                  have hrun : run.length ≤ full.length := by rw [← HCh.out]; simp
                  by_cases hk0 : k = 0
                  · subst hk0
                    have HRF := Lib.hid (show run = full from by have := HCh.out; rw [chainF_zero, List.append_nil] at this; exact this)
                    have hsz := HBi.out.size
                    clear hgk HFk
                    go_wp2_with (first
                      | (at_builtin; refine wpList_append_sl2 _ rfl (.tmp 137) (.tmp 139) 37 rfl W0.heap.size 25 i25 _ 24 Try.underlying37 hi25 hz250 hz251 hz252 rfl (.slice OB (docR S nx i).length ob) (docR S nx i).length rvs' HMi.out.len rfl (HMi.out.own.alloc _) _ _ _ 1 [.slice RB run.length rb] rfl rfl (sl_one' _ _ _ _ (by simp)) (by simp [Value.oneCell']) (by unfold maxLen; omega) (by omega) (by rw [size_alloc']; omega) ?_; intro OB2 ob2 w8 ho8 ha8
                         have HM8 := Lib.hid (Mem.more_row (zs := run) ((HMi.out.less (G := []) (by simp)).keep (G := []) (Stay.alloc _ _) (by simp)) (HRu.out.alloc _)
                           (fun x hx => ⟨fun e => HMi.out.ofar x e (by rw [hx]; simp), by simp, fun j' u hj' e => (HMi.out.far j' u hj' x e).2 (by rw [hx]; simp)⟩) ho8 ha8 (by simp))
                         have HB8 := Lib.hid ((HBi.out.alloc hsz _).trans (appended_below ha8 (by rw [size_alloc']; omega) (fun g hg => (HMi.out.own.lt g hg).1)))
                         clear ho8 ha8))
                    go_roundw
                    case rel => exact ⟨i + 1, OB2, ob2, _, by omega, by go_num, by rw [HD2.out]; simp, by show Mem _ _ _ _ _ _; rw [HD2.out, ← HRF.out]; simp only [List.length_append, List.length_singleton]; exact HM8.out, HB8.out⟩
                    case measure => simp [intOf]; omega
                  · skip
                    obtain ⟨q, hq⟩ : ∃ q, k = q + 1 := ⟨k - 1, by omega⟩
                    have hqj : q < j := by omega
                    have h4 := HRr.out.rr.below.trans (HBi.out.mono HRr.out.rr.below.size)
                    obtain ⟨g, RA, rl, rc, rfl, -, hcO, -, -, hrl, hoR, -⟩ := (HM4.out.keep (G := []) (Stay.below h4) (by simp)).at_ q (by have := HMS.out; omega)
                    have hlen : run.length + rl ≤ full.length := by
                      rw [← HCh.out, hq]
                      obtain ⟨f', hf'⟩ : ∃ f', f = f' + 1 := ⟨f - 1, by have := HFk.out (by omega); omega⟩
                      rw [hf', hrl]
                      simp [chainF]
                    have HCh2 := Lib.hid (show run ++ S.getD q [] ++ chainF S nx (f - 1) (nx q) = full from by
                      rw [← HCh.out, hq]
                      obtain ⟨f', hf'⟩ : ∃ f', f = f' + 1 := ⟨f - 1, by have := HFk.out (by omega); omega⟩
                      rw [hf', Nat.add_sub_cancel, List.append_assoc]
                      rfl)
                    have HFk2 := Lib.hid (show nx q ≠ 0 → j + 2 ≤ f - 1 + nx q ∧ q + 1 < nx q ∧ nx q ≤ j from fun hne => by
                      obtain ⟨b, hb⟩ : ∃ b, nx q = b + 1 := ⟨nx q - 1, by omega⟩
                      have h1 := HNX.out q b (by have := HMS.out; omega) hb
                      have h2 := HFk.out (by omega)
                      have h3 := HMS.out
                      omega)
                    have HRL := Lib.hid hrl
                    have HSl := Lib.hid hoR.sl
                    have HQ := Lib.hid hq
                    have hkq : (k : Int) - 1 = q := by omega
                    have hq0 : (0 : Int) ≤ q := by omega
                    have hqj' : (q : Int) < j := by omega
                    have hk1 : (0 : Int) < k := by omega
                    have hsz := HBi.out.size
                    clear hq hoR hrl h4
                    go_wp2_with (first
                      | (at_builtin; refine wpList_append_sl2 _ rfl (.tmp 130) (.tmp 135) 25 rfl W0.heap.size 3 i3 _ 8 Try.underlying25 hi3 hz30 hz31 hz32 rfl (.slice RB run.length rb) run.length (ints .i64 run) (by simp) rfl HRu.out _ RA rc rl (ints .i64 (S.getD q [])) (by rw [ints_length, HRL.out]) rfl HSl.out (ints_one _ _) (by unfold maxLen; omega) (by omega) hsz ?_; intro RB2 rb2 w8 ho8 ha8
                         have HO8 := Lib.hid (show Own w8 3 W0.heap.size (.slice RB2 (run.length + rl) rb2) (ints .i64 (run ++ S.getD q [])) from by rw [ints_app]; exact ho8)
                         have HM8 := Lib.hid (HMi.out.grow ha8)
                         have HB8 := Lib.hid (HBi.out.trans (appended_below ha8 hsz (fun g hg => (HRu.out.lt g hg).1)))
                         have hno8 := own_at (own_below_at HRr.out.on HB8.out (fun g hg => (HRr.out.on.lt g hg).2)) (i := q) (by rw [HNL.out.1]; exact hqj)
                         rw [HNL.out.2 q hqj, if_pos hqj] at hno8
                         clear ho8 ha8))
                    go_roundg (if nx q = 0 then 0 else j + 1 - nx q)
                    case measure =>
                      rw [hgk, if_neg hk0]
                      by_cases hz : nx q = 0
                      · rw [if_pos hz]; omega
                      · have h1 := HFk2.out hz
                        have h2 := HQ.out
                        rw [if_neg hz]; omega
                    case rel =>
                      have hll : (run ++ S.getD q []).length = run.length + rl := by rw [List.length_append, HRL.out]
                      refine ⟨nx q, f - 1, run ++ S.getD q [], RB2, rb2, ?_, rfl, rfl, by rw [hll], HCh2.out, fun hne => (HFk2.out hne).1, by show Own _ _ _ _ _; rw [hll]; exact HO8.out, by show Mem _ _ _ _ _ _; rw [hll]; exact HM8.out, HB8.out⟩
                      by_cases hz : nx q = 0
                      · omega
                      · exact (HFk2.out hz).2.2
            · have hi' : i = j := by omega
              subst hi'
              have HF := Lib.hid (HRD.out)
              have hb4 := HRr.out.rr.below
              go_wp2_with fail
              go_ret
              refine ⟨OB, ob, rvs', by rw [HF.out]; rfl, ?_, ?_⟩
              · rw [HF.out]
                exact HMo.out.base_mono (Nat.le_trans HB4.out.size hb4.size)
              · exact HB4.out.trans ((hb4.trans (HBo.out.mono hb4.size)).mono HB4.out.size)
end Go.Proofs.Ytikgjnfimagpjaa
