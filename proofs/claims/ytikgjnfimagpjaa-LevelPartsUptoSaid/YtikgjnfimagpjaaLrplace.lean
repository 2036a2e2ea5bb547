/- package level: the document's place (printed by gen_rplace.py). -/
import Derived.Test.YtikgjnfimagpjaaLrclose
import Derived.Test.YtikgjnfimagpjaaLplain3
import Derived.Deep.RegionWith
namespace Go.Proofs.Ytikgjnfimagpjaa
open Go.RowKit
theorem rembeds_any (d : Int) (hd : 14 ≤ d ∧ d ≤ 17) (B b g n c : Nat) (low : Int) (prv : Value) (p : PL) (hG : GoodP p) (w : World) (hp : RPileAt w B b g n c low prv p.ps) (hn : n ≤ 2097152) (hlo : p.lost ≤ 2097152) :
    Calls Try.prog 59 #[.pointer (some ⟨b, 0, none⟩), .int .i8 d] w fun e w' => e = .returned (.tuple #[]) ∧ ∃ g' n' c', n' ≤ n + 1 ∧ RPileAt w' B b g' n' c' low prv (embedP d p).ps ∧ Stay [b, g] w w' ∧ (g' = g ∨ w.heap.size ≤ g') := by
  have h : d = 14 ∨ d = 15 ∨ d = 16 ∨ d = 17 := by omega
  rcases h with rfl | rfl | rfl | rfl
  · exact rembed14 B b g n c low prv p hG w hp hn hlo
  · exact rembed15 B b g n c low prv p hG w hp hn hlo
  · exact rembed16 B b g n c low prv p hG w hp hn hlo
  · exact rembed17 B b g n c low prv p hG w hp hn hlo
/-- a FSI's direction, in the document's way -/
theorem fsi_odd (zs : List Int) (k tb : Nat) (hk : k < zs.length) (hd : clsL (zs.getD k 0) = 21)
    (ht : (tb : Int) = if (pairsL (zs.map clsL)).getD k 0 < 0 then ((paraE k ((zs.map clsL).drop k) : Nat) : Int) else (pairsL (zs.map clsL)).getD k 0) :
    tb ≤ zs.length ∧ strongR (zs.map clsL) (pairsL (zs.map clsL)) tb (zs.length + 1) (k + 1) = oddB 21 (zs.drop (k + 1)) := by
  have hl : (zs.map clsL).length = zs.length := by simp
  have hc : ∀ i, i < (zs.map clsL).length → clsL ((zs.map clsL).getD i 0) = (zs.map clsL).getD i 0 := fun i hi => by
    have h1 : i < zs.length := by rw [hl] at hi; exact hi
    have : (zs.map clsL).getD i 0 = clsL (zs.getD i 0) := by simp [List.getD_eq_getElem?_getD, h1]
    rw [this, clsL_twice]
  have hdk : (zs.map clsL).getD k 0 = 21 := by
    have : (zs.map clsL).getD k 0 = clsL (zs.getD k 0) := by simp [List.getD_eq_getElem?_getD, hk]
    rw [this, hd]
  have hp := pairsL_open (zs.map clsL) k (by omega) (by rw [hc k (by omega), hdk]; decide)
  have hpar : paraE k ((zs.map clsL).drop k) = paraE (k + 1) ((zs.map clsL).drop (k + 1)) := by
    rw [drop_cons _ k (by omega), paraE_cons, hdk, if_neg (by decide)]
  rw [hp, hpar] at ht
  have hge := afterL_ge ((zs.map clsL).drop (k + 1)) 0 (k + 1)
  have hpg := paraE_ge ((zs.map clsL).drop (k + 1)) (k + 1)
  have hdl : ((zs.map clsL).drop (k + 1)).length = zs.length - (k + 1) := by simp
  rw [hdl] at hge hpg
  have hb : k + 1 ≤ tb ∧ tb ≤ zs.length := by
    rcases hge with h | h
    · rw [if_pos (show afterL 0 (k + 1) ((zs.map clsL).drop (k + 1)) < 0 by omega), if_pos (show (-1 : Int) < 0 by decide)] at ht
      omega
    · rw [if_neg (show ¬ afterL 0 (k + 1) ((zs.map clsL).drop (k + 1)) < 0 by omega), if_neg (show ¬ afterL 0 (k + 1) ((zs.map clsL).drop (k + 1)) - 1 < 0 by omega)] at ht
      omega
  refine ⟨hb.2, ?_⟩
  rw [strongR_first (zs.map clsL) hc tb (by omega) (zs.length + 1) (k + 1) (by omega) hb.1 (fun h => by
    rw [if_neg (show ¬ afterL 0 (k + 1) ((zs.map clsL).drop (k + 1)) < 0 by omega)] at ht
    rcases hge with g | g
    · omega
    · rw [if_neg (show ¬ afterL 0 (k + 1) ((zs.map clsL).drop (k + 1)) - 1 < 0 by omega)] at ht
      exact ht) (fun h => by
    rw [if_pos h, if_pos (show (-1 : Int) < 0 by decide)] at ht
    omega)]
  rw [← List.map_drop, firstL_map]
  unfold oddB
  rw [if_pos rfl]
  by_cases h1 : firstL 0 (zs.drop (k + 1)) = 1
  · simp [h1]
  · by_cases h2 : firstL 0 (zs.drop (k + 1)) = 2
    · simp [h2]
    · simp [h1, h2]
set_option maxRecDepth 20000 in
set_option maxHeartbeats 8000000 in
theorem rplace_any (zs : List Int) (k : Nat) (hk : k < zs.length) (hl : zs.length < 1048576) (low : Int) (B b g n c : Nat) (CA PA : Option Addr) (cc pc : Nat) (p : PL) (hF : Fine k p) (hO : OverOk p) (w : World)
    (hp : RPileAt w B b g n c low (.slice PA zs.length pc) p.ps) (hcl : Sl w w.heap.size CA (ints .i8 (zs.map clsL))) (hpr : Sl w w.heap.size PA (ints .i64 (pairsL (zs.map clsL)))) :
    Calls Try.prog 42 #[.pointer (some ⟨b, 0, none⟩), .slice CA zs.length cc, .int .i64 k] w fun e w' => e = .returned (.tuple #[.int .u8 (lstep low (clsL (zs.getD k 0)) (zs.drop (k + 1)) p).1, .int .i8 (lstep low (clsL (zs.getD k 0)) (zs.drop (k + 1)) p).2.1]) ∧
      ∃ g' n' c', RPileAt w' B b g' n' c' low (.slice PA zs.length pc) (lstep low (clsL (zs.getD k 0)) (zs.drop (k + 1)) p).2.2.ps ∧ Stay [b, g] w w' ∧ (g' = g ∨ w.heap.size ≤ g') := by
  have hkc : k < (zs.map clsL).length := by simpa using hk
  obtain ⟨ad, rfl, hadb, hcell⟩ := sl_at hcl hkc
  have e0 : (zs.map clsL).getD k 0 = clsL (zs.getD k 0) := by simp [List.getD_eq_getElem?_getD, hk]
  rw [e0] at hcell
  obtain ⟨t, r, hstk, hsts, h0, h1⟩ := hF.good.top
  have hnk : n = p.stk.length := by have := hp.len; simpa [PL.ps] using this.symm
  have hn1 : n ≤ k + 1 := by have := hF.len; omega
  have HT := Lib.hid (rtop_any B b g n c low _ p.ps _ t hsts w hp)
  have HPW := Lib.hid (fun w' (hst : Stay [] w w') => hp.stay (F := []) hst (by simp) (by simp))
  have hbz := hp.blk.lt
  have hgz := hp.row.lt
  have hov := hO t (by rw [hstk]; simp)
  have HTop := Lib.hid (show topP p = t from by simp [topP, hstk])
  have HF := Lib.hid hF
  have HOv := Lib.hid hO
  have HCL := Lib.hid (fun w' (hst : Stay [] w w') => (hcl.below (hst.toBelow (Nat.le_refl _) (by simp))).more hst.size)
  have HPR := Lib.hid (fun w' (hst : Stay [] w w') => (hpr.below (hst.toBelow (Nat.le_refl _) (by simp))).more hst.size)
  have HFsi := Lib.hid (fun tb hd ht => fsi_odd zs k tb hk hd ht)
  have HBd := Lib.hid (pairsL_bound (zs.map clsL) k hkc)
  have HLen := Lib.hid (show (zs.map clsL).length = zs.length from by simp)
  have HAh := Lib.hid (pairs_ahead (zs.map clsL) (fun i hi => by
    have h1 : i < zs.length := by simpa using hi
    have : (zs.map clsL).getD i 0 = clsL (zs.getD i 0) := by simp [List.getD_eq_getElem?_getD, h1]
    rw [this, clsL_twice]))
  have hBw : B ≤ w.heap.size := by have := hp.base; omega
  obtain ⟨lev, hlev⟩ : ∃ lev, lev = t.level := ⟨_, rfl⟩
  obtain ⟨ov, hovv⟩ : ∃ ov, ov = t.over := ⟨_, rfl⟩
  obtain ⟨si, hsi⟩ : ∃ si, si = t.iso := ⟨_, rfl⟩
  rw [← hlev, ← hovv, ← hsi] at HT
  rw [← hovv] at hov
  have HLv := Lib.hid (And.intro hlev hovv)
  obtain ⟨rest, hrest⟩ : ∃ rest, rest = zs.drop (k + 1) := ⟨_, rfl⟩
  obtain ⟨d, hd⟩ : ∃ d, d = clsL (zs.getD k 0) := ⟨_, rfl⟩
  rw [← hrest] at HFsi
  rw [← hd] at HFsi hcell
  rw [← hrest, ← hd]
  have hdr : 0 ≤ d ∧ d ≤ 22 := by rw [hd]; exact clsL_range _
  have hk1 : (k : Int) < zs.length := by omega
  clear hsts hp hF hO hcl hpr hstk hnk hrest hd hlev hovv hsi e0 h0 h1
  by_cases h14 : 14 ≤ d ∧ d ≤ 17
  · have HX := Lib.hid (show lstep low d rest p = (lev, 9, embedP d p) from by
      unfold lstep
      rw [if_pos h14, HTop.out, HLv.out.1])
    have b1 : decide (d ≥ 14) = true := by simpa using h14.1
    have b2 : decide (d ≤ 17) = true := by simpa using h14.2
    have HM := Lib.hid (fun w' (hst : Stay [] w w') => rembeds_any d h14 B b g n c low _ p HF.out.good w' (HPW.out w' hst) (by omega) (by have := HF.out.lost; omega))
    clear h14
    go_enter Try.func42, Try.ntmps42
    go_wp2_with (first
      | (go_at_call 58; refine HT.out.mono ?_; rintro e w1 ⟨rfl, hst1⟩; have hst2 := hst1.trans (Stay.alloc (F := []) w1 (.cells #[.int .u8 lev, .int .i8 ov, .bool si] 78)); have HTB := Lib.hid (Blk.new w1 [.int .u8 lev, .int .i8 ov, .bool si] 78); have HT2 := Lib.hid hst2)
      | (go_at_call 59; refine (HM.out _ HT2.out).mono ?_; rintro e w3 ⟨rfl, g', n', c', hn', hp', hst3, hg'⟩; have HR := Lib.hid (And.intro hp' (And.intro hst3 hg')); clear hn' hp' hst3 hg'))
    refine bodyPost_ret (v := .tuple #[.int .u8 lev, .int .i8 9]) (by simp [results, Try.results42, go_sem]) rfl ⟨by rw [HX.out], g', n', c', by rw [HX.out]; exact HR.out.1, (HT2.out.mono (by simp)).trans HR.out.2.1, ?_⟩
    rcases HR.out.2.2 with h | h
    · exact .inl h
    · exact .inr (by have := HT2.out.size; omega)
  by_cases h19 : d = 19
  · subst h19
    have hodd : oddB 19 rest = false := rfl
    have HX := Lib.hid (show lstep low 19 rest p = (lev, saidL ov 19, isoP false p) from by
      unfold lstep
      rw [if_neg (by omega), if_pos (by decide), HTop.out, HLv.out.1, HLv.out.2, hodd])
    have HM := Lib.hid (fun w' (hst : Stay [] w w') => risolates_any false B b g n c low _ p HF.out.good w' (HPW.out w' hst) (by omega) (by have := HF.out.deep; omega) (by have := HF.out.opens; omega))
    have HSd := Lib.hid (fun w' => rsaid_any lev ov 19 si hov w')
    have HBg := Lib.hid (fun w' => begins_any 19 w')
    clear hodd
    go_enter Try.func42, Try.ntmps42
    go_wp2_with (first
      | (go_at_call 58; refine HT.out.mono ?_; rintro e w1 ⟨rfl, hst1⟩; have hst2 := hst1.trans (Stay.alloc (F := []) w1 (.cells #[.int .u8 lev, .int .i8 ov, .bool si] 78)); have HTB := Lib.hid (Blk.new w1 [.int .u8 lev, .int .i8 ov, .bool si] 78); have HT2 := Lib.hid hst2; have hpv := (HPW.out _ hst2).blk.cell 5; simp only [List.getElem?_cons_zero, List.getElem?_cons_succ] at hpv)
      | (go_at_call 34; refine (HBg.out _).mono ?_; rintro e w' ⟨rfl, rfl⟩)
      | (go_at_call 60; refine (HSd.out _).mono ?_; rintro e w4 ⟨rfl, hst4⟩; have HT4 := Lib.hid (HT2.out.trans hst4))
      | (go_at_call 61; refine (HM.out _ HT4.out).mono ?_; rintro e w3 ⟨rfl, g', n', c', hn', hp', hst3, hg'⟩; have HR := Lib.hid (And.intro hp' (And.intro hst3 hg')); clear hn' hp' hst3 hg'))

    refine bodyPost_ret (v := .tuple #[.int .u8 lev, .int .i8 (saidL ov 19)]) (by simp [results, Try.results42, go_sem]) rfl ⟨by rw [HX.out], g', n', c', by rw [HX.out]; exact HR.out.1, (HT4.out.mono (by simp)).trans HR.out.2.1, ?_⟩
    rcases HR.out.2.2 with h | h
    · exact .inl h
    · exact .inr (by have := HT4.out.size; omega)
  by_cases h20 : d = 20
  · subst h20
    have hodd : oddB 20 rest = true := rfl
    have HX := Lib.hid (show lstep low 20 rest p = (lev, saidL ov 20, isoP true p) from by
      unfold lstep
      rw [if_neg (by omega), if_pos (by decide), HTop.out, HLv.out.1, HLv.out.2, hodd])
    have HM := Lib.hid (fun w' (hst : Stay [] w w') => risolates_any true B b g n c low _ p HF.out.good w' (HPW.out w' hst) (by omega) (by have := HF.out.deep; omega) (by have := HF.out.opens; omega))
    have HSd := Lib.hid (fun w' => rsaid_any lev ov 20 si hov w')
    have HBg := Lib.hid (fun w' => begins_any 20 w')
    clear hodd
    go_enter Try.func42, Try.ntmps42
    go_wp2_with (first
      | (go_at_call 58; refine HT.out.mono ?_; rintro e w1 ⟨rfl, hst1⟩; have hst2 := hst1.trans (Stay.alloc (F := []) w1 (.cells #[.int .u8 lev, .int .i8 ov, .bool si] 78)); have HTB := Lib.hid (Blk.new w1 [.int .u8 lev, .int .i8 ov, .bool si] 78); have HT2 := Lib.hid hst2; have hpv := (HPW.out _ hst2).blk.cell 5; simp only [List.getElem?_cons_zero, List.getElem?_cons_succ] at hpv)
      | (go_at_call 34; refine (HBg.out _).mono ?_; rintro e w' ⟨rfl, rfl⟩)
      | (go_at_call 60; refine (HSd.out _).mono ?_; rintro e w4 ⟨rfl, hst4⟩; have HT4 := Lib.hid (HT2.out.trans hst4))
      | (go_at_call 61; refine (HM.out _ HT4.out).mono ?_; rintro e w3 ⟨rfl, g', n', c', hn', hp', hst3, hg'⟩; have HR := Lib.hid (And.intro hp' (And.intro hst3 hg')); clear hn' hp' hst3 hg'))

    refine bodyPost_ret (v := .tuple #[.int .u8 lev, .int .i8 (saidL ov 20)]) (by simp [results, Try.results42, go_sem]) rfl ⟨by rw [HX.out], g', n', c', by rw [HX.out]; exact HR.out.1, (HT4.out.mono (by simp)).trans HR.out.2.1, ?_⟩
    rcases HR.out.2.2 with h | h
    · exact .inl h
    · exact .inr (by have := HT4.out.size; omega)
  by_cases h21 : d = 21
  · subst h21
    obtain ⟨y, hy⟩ : ∃ y, y = (pairsL (zs.map clsL)).getD k 0 := ⟨_, rfl⟩
    have hyb : -1 ≤ y ∧ y < (zs.length : Int) := by rw [hy]; have := HBd.out; rw [HLen.out] at this; exact this
    have HYp := Lib.hid hy
    rw [← hy] at HFsi
    obtain ⟨odd, hodd⟩ : ∃ odd, oddB 21 rest = odd := ⟨_, rfl⟩
    rw [hodd] at HFsi
    clear hy
    by_cases hy0 : y < 0
    · skip
      have by1 : decide (y < 0) = true := by simpa using hy0
      obtain ⟨tb, htb⟩ : ∃ tb, tb = paraE k ((zs.map clsL).drop k) := ⟨_, rfl⟩
      have HTb := Lib.hid htb
      have hfs := HFsi.out tb rfl (by rw [if_pos hy0, htb])
      have HFs := Lib.hid hfs.2
      have htl := hfs.1
      clear hfs hy0
      clear htb
      have HX := Lib.hid (show lstep low 21 rest p = (lev, saidL ov 21, isoP odd p) from by
        unfold lstep
        rw [if_neg (by omega), if_pos (by decide), HTop.out, HLv.out.1, HLv.out.2, hodd])
      have HM := Lib.hid (fun w' (hst : Stay [] w w') => risolates_any odd B b g n c low _ p HF.out.good w' (HPW.out w' hst) (by omega) (by have := HF.out.deep; omega) (by have := HF.out.opens; omega))
      have HSd := Lib.hid (fun w' => rsaid_any lev ov 21 si hov w')
      have HBg := Lib.hid (fun w' => begins_any 21 w')
      clear hodd
      go_enter Try.func42, Try.ntmps42
      go_wp2_with (first
        | (go_at_call 58; refine HT.out.mono ?_; rintro e w1 ⟨rfl, hst1⟩; have hst2 := hst1.trans (Stay.alloc (F := []) w1 (.cells #[.int .u8 lev, .int .i8 ov, .bool si] 78)); have HTB := Lib.hid (Blk.new w1 [.int .u8 lev, .int .i8 ov, .bool si] 78); have HT2 := Lib.hid hst2; have hpv := (HPW.out _ hst2).blk.cell 5; simp only [List.getElem?_cons_zero, List.getElem?_cons_succ] at hpv; obtain ⟨ad2, rfl, had2, hcellp⟩ := sl_at (HPR.out _ HT2.out) (i := k) (by rw [pairsL_length, HLen.out]; exact hk); rw [← HYp.out] at hcellp; have hs0 := strong_any (zs.map clsL) (pairsL (zs.map clsL)) (some ad) (some ad2) cc pc zs.length (k + 1) tb _ HLen.out (by rw [pairsL_length]; exact HLen.out) (by omega) htl (by omega) (fun i hi ho => by have := HAh.out i (by rw [HLen.out]; exact hi) ho; rw [HLen.out] at this; exact this) (HCL.out _ HT2.out) (HPR.out _ HT2.out); rw [HFs.out, show ((k + 1 : Nat) : Int) = (k : Int) + 1 by omega] at hs0; have HSt := Lib.hid hs0; clear hs0; have hp0 := para_any (zs.map clsL) (some ad) cc k _ (by rw [HLen.out]; omega) (by rw [HLen.out]; omega) (HCL.out _ HT2.out); rw [HLen.out, ← HTb.out] at hp0; have HPa := Lib.hid hp0; clear hp0)
        | (go_at_call 34; refine (HBg.out _).mono ?_; rintro e w' ⟨rfl, rfl⟩)
        | (go_at_call 39; refine HPa.out.mono ?_; rintro e w' ⟨rfl, rfl⟩)
        | (go_at_call 40; refine (HSt.out).mono ?_; rintro e w' ⟨rfl, rfl⟩)
        | (go_at_call 60; refine (HSd.out _).mono ?_; rintro e w4 ⟨rfl, hst4⟩; have HT4 := Lib.hid (HT2.out.trans hst4))
        | (go_at_call 61; refine (HM.out _ HT4.out).mono ?_; rintro e w3 ⟨rfl, g', n', c', hn', hp', hst3, hg'⟩; have HR := Lib.hid (And.intro hp' (And.intro hst3 hg')); clear hn' hp' hst3 hg'))

      refine bodyPost_ret (v := .tuple #[.int .u8 lev, .int .i8 (saidL ov 21)]) (by simp [results, Try.results42, go_sem]) rfl ⟨by rw [HX.out], g', n', c', by rw [HX.out]; exact HR.out.1, (HT4.out.mono (by simp)).trans HR.out.2.1, ?_⟩
      rcases HR.out.2.2 with h | h
      · exact .inl h
      · exact .inr (by have := HT4.out.size; omega)
    · skip
      have by1 : decide (y < 0) = false := by simpa using hy0
      obtain ⟨tb, rfl⟩ : ∃ tb : Nat, y = tb := ⟨y.toNat, by omega⟩
      have hfs := HFsi.out tb rfl (by rw [if_neg hy0])
      have HFs := Lib.hid hfs.2
      have htl := hfs.1
      clear hfs hy0
      have HX := Lib.hid (show lstep low 21 rest p = (lev, saidL ov 21, isoP odd p) from by
        unfold lstep
        rw [if_neg (by omega), if_pos (by decide), HTop.out, HLv.out.1, HLv.out.2, hodd])
      have HM := Lib.hid (fun w' (hst : Stay [] w w') => risolates_any odd B b g n c low _ p HF.out.good w' (HPW.out w' hst) (by omega) (by have := HF.out.deep; omega) (by have := HF.out.opens; omega))
      have HSd := Lib.hid (fun w' => rsaid_any lev ov 21 si hov w')
      have HBg := Lib.hid (fun w' => begins_any 21 w')
      clear hodd
      go_enter Try.func42, Try.ntmps42
      go_wp2_with (first
        | (go_at_call 58; refine HT.out.mono ?_; rintro e w1 ⟨rfl, hst1⟩; have hst2 := hst1.trans (Stay.alloc (F := []) w1 (.cells #[.int .u8 lev, .int .i8 ov, .bool si] 78)); have HTB := Lib.hid (Blk.new w1 [.int .u8 lev, .int .i8 ov, .bool si] 78); have HT2 := Lib.hid hst2; have hpv := (HPW.out _ hst2).blk.cell 5; simp only [List.getElem?_cons_zero, List.getElem?_cons_succ] at hpv; obtain ⟨ad2, rfl, had2, hcellp⟩ := sl_at (HPR.out _ HT2.out) (i := k) (by rw [pairsL_length, HLen.out]; exact hk); rw [← HYp.out] at hcellp; have hs0 := strong_any (zs.map clsL) (pairsL (zs.map clsL)) (some ad) (some ad2) cc pc zs.length (k + 1) tb _ HLen.out (by rw [pairsL_length]; exact HLen.out) (by omega) htl (by omega) (fun i hi ho => by have := HAh.out i (by rw [HLen.out]; exact hi) ho; rw [HLen.out] at this; exact this) (HCL.out _ HT2.out) (HPR.out _ HT2.out); rw [HFs.out, show ((k + 1 : Nat) : Int) = (k : Int) + 1 by omega] at hs0; have HSt := Lib.hid hs0; clear hs0)
        | (go_at_call 34; refine (HBg.out _).mono ?_; rintro e w' ⟨rfl, rfl⟩)
        | (go_at_call 40; refine (HSt.out).mono ?_; rintro e w' ⟨rfl, rfl⟩)
        | (go_at_call 60; refine (HSd.out _).mono ?_; rintro e w4 ⟨rfl, hst4⟩; have HT4 := Lib.hid (HT2.out.trans hst4))
        | (go_at_call 61; refine (HM.out _ HT4.out).mono ?_; rintro e w3 ⟨rfl, g', n', c', hn', hp', hst3, hg'⟩; have HR := Lib.hid (And.intro hp' (And.intro hst3 hg')); clear hn' hp' hst3 hg'))

      refine bodyPost_ret (v := .tuple #[.int .u8 lev, .int .i8 (saidL ov 21)]) (by simp [results, Try.results42, go_sem]) rfl ⟨by rw [HX.out], g', n', c', by rw [HX.out]; exact HR.out.1, (HT4.out.mono (by simp)).trans HR.out.2.1, ?_⟩
      rcases HR.out.2.2 with h | h
      · exact .inl h
      · exact .inr (by have := HT4.out.size; omega)
  by_cases h22 : d = 22
  · subst h22
    obtain ⟨t2, r2, hstk2, hsts2, _, _⟩ := (close_fine HF.out).good.top
    have HTp := Lib.hid (show topP (closeP p) = t2 from by simp [topP, hstk2])
    have hov2 := lstep_over low 22 rest HOv.out
    have HTq := Lib.hid (fun w' n' c' (hp : RPileAt w' B b g n' c' low (.slice PA zs.length pc) (closeP p).ps) => rtop_any B b g n' c' low _ _ _ t2 hsts2 w' hp)
    have HM := Lib.hid (fun w' (hst : Stay [] w w') => rcloses_any B b g n c low _ p HF.out.good w' (HPW.out w' hst) (by have := HF.out.deep; have := HF.out.opens; omega))
    obtain ⟨lev2, hlev2⟩ : ∃ lev2, lev2 = t2.level := ⟨_, rfl⟩
    obtain ⟨ov2, hovv2⟩ : ∃ ov2, ov2 = t2.over := ⟨_, rfl⟩
    obtain ⟨si2, hsi2⟩ : ∃ si2, si2 = t2.iso := ⟨_, rfl⟩
    have hst0 : (lstep low 22 rest p) = ((topP (closeP p)).level, saidL (topP (closeP p)).over 22, closeP p) := by
      unfold lstep
      rw [if_neg (by omega), if_neg (by decide), if_pos rfl]
    have hov3 : -1 ≤ ov2 := by
      rw [hovv2]
      rw [hst0] at hov2
      exact hov2 t2 (by show t2 ∈ (closeP p).stk; rw [hstk2]; simp)
    have HX := Lib.hid (show lstep low 22 rest p = (lev2, saidL ov2 22, closeP p) from by
      rw [hst0, HTp.out, hlev2, hovv2])
    rw [← hlev2, ← hovv2, ← hsi2] at HTq
    have HSd := Lib.hid (fun w' => rsaid_any lev2 ov2 22 si2 hov3 w')
    have HBg := Lib.hid (fun w' => begins_any 22 w')
    clear hstk2 hsts2 hov2 hst0 hlev2 hovv2 hsi2
    go_enter Try.func42, Try.ntmps42
    go_wp2_with (first
      | (go_at_call 58; refine HT.out.mono ?_; rintro e w1 ⟨rfl, hst1⟩; have hst2 := hst1.trans (Stay.alloc (F := []) w1 (.cells #[.int .u8 lev, .int .i8 ov, .bool si] 78)); have HTB := Lib.hid (Blk.new w1 [.int .u8 lev, .int .i8 ov, .bool si] 78); have HT2 := Lib.hid hst2; clear HT)
      | (go_at_call 34; refine (HBg.out _).mono ?_; rintro e w' ⟨rfl, rfl⟩)
      | (go_at_call 62; refine (HM.out _ HT2.out).mono ?_; rintro e w3 ⟨rfl, n', c', hn', hp', hst3⟩; have HP3 := Lib.hid hp'; have HT3 := Lib.hid ((HT2.out.mono (G := [b]) (by simp)).trans hst3); have HB3 := Lib.hid (HTB.out.stay hst3 (by have := hst1.size; simp; omega)); clear hn' hp' hst3)
      | (go_at_call 58; refine (HTq.out _ _ _ HP3.out).mono ?_; rintro e w4 ⟨rfl, hst4⟩; have HB4 := HB3.out.stay hst4 (by simp); have hk0 := HB4.cell 0; have hk1' := HB4.cell 1; have hk2 := HB4.cell 2; have hkf0 := HB4.free 0; have hkf1 := HB4.free 1; have hkf2 := HB4.free 2; simp only [List.getElem?_cons_zero, List.getElem?_cons_succ] at hk0 hk1' hk2; have hkl := HB4.lt; have HP4 := Lib.hid (HP3.out.stay (F := []) hst4 (by simp) (by simp)); have HT4 := Lib.hid (HT3.out.trans (hst4.mono (by simp))); have HB5 := Lib.hid (((HB4.set 0 (.int .u8 lev2)).set 1 (.int .i8 ov2)).set 2 (.bool si2)); clear HB4))
    go_region_with (first | (go_at_call 60; refine (HSd.out _).mono ?_; rintro e w5 ⟨rfl, hst5⟩; have hk50 := (HB5.out.stay (F := []) (Stay.trans (Stay.drew _) hst5) (by simp)).cell 0; simp only [List.set_cons_zero] at hk50))
    all_goals
      go_wp2_with fail
      have hs4 := ((((Stay.refl [w1.heap.size] w4).set' (p := ⟨w1.heap.size, 0, none⟩) (u := .int .u8 lev2) (.inl (by simp))).set' (p := ⟨w1.heap.size, 1, none⟩) (u := .int .i8 ov2) (.inl (by simp))).set' (p := ⟨w1.heap.size, 2, none⟩) (u := .bool si2) (.inl (by simp))).drew'.trans (hst5.mono (G := [w1.heap.size]) (by simp))
      have hx1 := hst1.size
      exact bodyPost_ret (v := .tuple #[.int .u8 lev2, .int .i8 (saidL ov2 22)]) (by simp [results, Try.results42, go_sem]) rfl ⟨by rw [HX.out], g, n', c', by rw [HX.out]; exact HP4.out.stay hs4 (by simp; omega) (by simp; omega), (HT4.out.mono (by simp)).trans' hs4 (by simp; omega), .inl rfl⟩
  by_cases h18 : d = 18
  · subst h18
    obtain ⟨t2, r2, hstk2, hsts2, _, _⟩ := (end_fine HF.out).good.top
    have HTp := Lib.hid (show topP (endP p) = t2 from by simp [topP, hstk2])
    have hov2 := lstep_over low 18 rest HOv.out
    have HTq := Lib.hid (fun w' n' c' (hp : RPileAt w' B b g n' c' low (.slice PA zs.length pc) (endP p).ps) => rtop_any B b g n' c' low _ _ _ t2 hsts2 w' hp)
    have HM := Lib.hid (fun w' (hst : Stay [] w w') => rends_any B b g n c low _ p HF.out.good w' (HPW.out w' hst) (by have := HF.out.lost; omega))
    obtain ⟨lev2, hlev2⟩ : ∃ lev2, lev2 = t2.level := ⟨_, rfl⟩
    obtain ⟨ov2, hovv2⟩ : ∃ ov2, ov2 = t2.over := ⟨_, rfl⟩
    obtain ⟨si2, hsi2⟩ : ∃ si2, si2 = t2.iso := ⟨_, rfl⟩
    have hst0 : (lstep low 18 rest p) = ((topP (endP p)).level, 9, endP p) := by
      unfold lstep
      rw [if_neg (by omega), if_neg (by decide), if_neg (by decide), if_pos rfl]
    have hov3 : -1 ≤ ov2 := by
      rw [hovv2]
      rw [hst0] at hov2
      exact hov2 t2 (by show t2 ∈ (endP p).stk; rw [hstk2]; simp)
    have HX := Lib.hid (show lstep low 18 rest p = (lev2, 9, endP p) from by
      rw [hst0, HTp.out, hlev2])
    rw [← hlev2, ← hovv2, ← hsi2] at HTq
    have HSd := Lib.hid (fun w' => rsaid_any lev2 ov2 18 si2 hov3 w')
    have HBg := Lib.hid (fun w' => begins_any 18 w')
    clear hstk2 hsts2 hov2 hst0 hlev2 hovv2 hsi2
    go_enter Try.func42, Try.ntmps42
    go_wp2_with (first
      | (go_at_call 58; refine HT.out.mono ?_; rintro e w1 ⟨rfl, hst1⟩; have hst2 := hst1.trans (Stay.alloc (F := []) w1 (.cells #[.int .u8 lev, .int .i8 ov, .bool si] 78)); have HTB := Lib.hid (Blk.new w1 [.int .u8 lev, .int .i8 ov, .bool si] 78); have HT2 := Lib.hid hst2; clear HT)
      | (go_at_call 34; refine (HBg.out _).mono ?_; rintro e w' ⟨rfl, rfl⟩)
      | (go_at_call 63; refine (HM.out _ HT2.out).mono ?_; rintro e w3 ⟨rfl, n', c', hn', hp', hst3⟩; have HP3 := Lib.hid hp'; have HT3 := Lib.hid ((HT2.out.mono (G := [b]) (by simp)).trans hst3); have HB3 := Lib.hid (HTB.out.stay hst3 (by have := hst1.size; simp; omega)); clear hn' hp' hst3)
      | (go_at_call 58; refine (HTq.out _ _ _ HP3.out).mono ?_; rintro e w4 ⟨rfl, hst4⟩; have HB4 := HB3.out.stay hst4 (by simp); have hk0 := HB4.cell 0; have hk1' := HB4.cell 1; have hk2 := HB4.cell 2; have hkf0 := HB4.free 0; have hkf1 := HB4.free 1; have hkf2 := HB4.free 2; simp only [List.getElem?_cons_zero, List.getElem?_cons_succ] at hk0 hk1' hk2; have hkl := HB4.lt; have HP4 := Lib.hid (HP3.out.stay (F := []) hst4 (by simp) (by simp)); have HT4 := Lib.hid (HT3.out.trans (hst4.mono (by simp))); have HB5 := Lib.hid (((HB4.set 0 (.int .u8 lev2)).set 1 (.int .i8 ov2)).set 2 (.bool si2)); clear HB4))
    have hs4 := ((((Stay.refl [w1.heap.size] w4).set' (p := ⟨w1.heap.size, 0, none⟩) (u := .int .u8 lev2) (.inl (by simp))).set' (p := ⟨w1.heap.size, 1, none⟩) (u := .int .i8 ov2) (.inl (by simp))).set' (p := ⟨w1.heap.size, 2, none⟩) (u := .bool si2) (.inl (by simp)))
    have hx1 := hst1.size
    exact bodyPost_ret (v := .tuple #[.int .u8 lev2, .int .i8 9]) (by simp [results, Try.results42, go_sem]) rfl ⟨by rw [HX.out], g, n', c', by rw [HX.out]; exact HP4.out.stay hs4 (by simp; omega) (by simp; omega), (HT4.out.mono (by simp)).trans' hs4 (by simp; omega), .inl rfl⟩
  by_cases h9 : d = 9
  · subst h9
    have HX := Lib.hid (show lstep low 9 rest p = (lev, 9, p) from by
      unfold lstep
      rw [if_neg (by omega), if_neg (by decide), if_neg (by decide), if_neg (by decide), if_pos rfl, HTop.out, HLv.out.1])
    have HBg := Lib.hid (fun w' => begins_any 9 w')
    go_enter Try.func42, Try.ntmps42
    go_wp2_with (first
      | (go_at_call 58; refine HT.out.mono ?_; rintro e w1 ⟨rfl, hst1⟩; have hst2 := hst1.trans (Stay.alloc (F := []) w1 (.cells #[.int .u8 lev, .int .i8 ov, .bool si] 78)); have HTB := Lib.hid (Blk.new w1 [.int .u8 lev, .int .i8 ov, .bool si] 78); have HT2 := Lib.hid hst2; clear HT)
      | (go_at_call 34; refine (HBg.out _).mono ?_; rintro e w' ⟨rfl, rfl⟩))
    exact bodyPost_ret (v := .tuple #[.int .u8 lev, .int .i8 9]) (by simp [results, Try.results42, go_sem]) rfl ⟨by rw [HX.out], g, n, c, by rw [HX.out]; exact HPW.out _ HT2.out, HT2.out.mono (by simp), .inl rfl⟩
  by_cases h10 : d = 10
  · subst h10
    have HX := Lib.hid (show lstep low 10 rest p = (low, 10, beginP low) from by
      unfold lstep
      rw [if_neg (by omega), if_neg (by decide), if_neg (by decide), if_neg (by decide), if_neg (by decide), if_pos rfl])
    have HBg := Lib.hid (fun w' => begins_any 10 w')
    have HM := Lib.hid (fun w' (hst : Stay [] w w') => rbegin_any B b low _ _ _ _ _ w' (HPW.out w' hst).blk (HPW.out w' hst).base)
    go_enter Try.func42, Try.ntmps42
    go_wp2_with (first
      | (go_at_call 58; refine HT.out.mono ?_; rintro e w1 ⟨rfl, hst1⟩; have hst2 := hst1.trans (Stay.alloc (F := []) w1 (.cells #[.int .u8 lev, .int .i8 ov, .bool si] 78)); have HTB := Lib.hid (Blk.new w1 [.int .u8 lev, .int .i8 ov, .bool si] 78); have HT2 := Lib.hid hst2; clear HT)
      | (go_at_call 34; refine (HBg.out _).mono ?_; rintro e w' ⟨rfl, rfl⟩)
      | (go_at_call 41; refine (HM.out _ HT2.out).mono ?_; rintro e w3 ⟨rfl, hp', hst3⟩; have hc4 := hp'.blk.cell 4; simp only [List.getElem?_cons_zero, List.getElem?_cons_succ] at hc4; have HR := Lib.hid (And.intro hp' hst3); clear hp' hst3))
    exact bodyPost_ret (v := .tuple #[.int .u8 low, .int .i8 10]) (by simp [results, Try.results42, go_sem]) rfl ⟨by rw [HX.out], _, _, _, by rw [HX.out]; exact HR.out.1, (HT2.out.mono (by simp)).trans (HR.out.2.mono (by simp)), .inr HT2.out.size⟩
  have HX := Lib.hid (show lstep low d rest p = (lev, saidL ov d, p) from by
    unfold lstep
    rw [if_neg h14, if_neg (by rw [opensB_iff]; omega), if_neg h22, if_neg h18, if_neg h9, if_neg h10, HTop.out, HLv.out.1, HLv.out.2])
  have HSd := Lib.hid (fun w' => rsaid_any lev ov d si hov w')
  have hop : opensB d = false := by
    cases h : opensB d with
    | false => rfl
    | true => have := (opensB_iff d).1 h; omega
  have hbg := fun w' => begins_any d w'
  rw [hop] at hbg
  have HBg := Lib.hid hbg
  have c22 : (d == 22) = false := by simpa using h22
  have c18 : (d == 18) = false := by simpa using h18
  have c9 : (d == 9) = false := by simpa using h9
  have c10 : (d == 10) = false := by simpa using h10
  clear hbg hop
  by_cases hd14 : 14 ≤ d
  · have b1 : decide (d ≥ 14) = true := by simpa using hd14
    have b2 : decide (d ≤ 17) = false := by simp; omega
    clear h14 h19 h20 h21 h22 h18 h9 h10 hd14
    go_enter Try.func42, Try.ntmps42
    go_wp2_with (first
      | (go_at_call 58; refine HT.out.mono ?_; rintro e w1 ⟨rfl, hst1⟩; have hst2 := hst1.trans (Stay.alloc (F := []) w1 (.cells #[.int .u8 lev, .int .i8 ov, .bool si] 78)); have HTB := Lib.hid (Blk.new w1 [.int .u8 lev, .int .i8 ov, .bool si] 78); have HT2 := Lib.hid hst2; clear HT)
      | (go_at_call 34; refine (HBg.out _).mono ?_; rintro e w' ⟨rfl, rfl⟩)
      | (go_at_call 60; refine (HSd.out _).mono ?_; rintro e w5 ⟨rfl, hst5⟩))
    exact bodyPost_ret (v := .tuple #[.int .u8 lev, .int .i8 (saidL ov d)]) (by simp [results, Try.results42, go_sem]) rfl ⟨by rw [HX.out], g, n, c, by rw [HX.out]; exact HPW.out _ (HT2.out.trans hst5), (HT2.out.trans hst5).mono (by simp), .inl rfl⟩
  · have b1 : decide (d ≥ 14) = false := by simpa using hd14
    clear h14 h19 h20 h21 h22 h18 h9 h10 hd14
    go_enter Try.func42, Try.ntmps42
    go_wp2_with (first
      | (go_at_call 58; refine HT.out.mono ?_; rintro e w1 ⟨rfl, hst1⟩; have hst2 := hst1.trans (Stay.alloc (F := []) w1 (.cells #[.int .u8 lev, .int .i8 ov, .bool si] 78)); have HTB := Lib.hid (Blk.new w1 [.int .u8 lev, .int .i8 ov, .bool si] 78); have HT2 := Lib.hid hst2; clear HT)
      | (go_at_call 34; refine (HBg.out _).mono ?_; rintro e w' ⟨rfl, rfl⟩)
      | (go_at_call 60; refine (HSd.out _).mono ?_; rintro e w5 ⟨rfl, hst5⟩))
    exact bodyPost_ret (v := .tuple #[.int .u8 lev, .int .i8 (saidL ov d)]) (by simp [results, Try.results42, go_sem]) rfl ⟨by rw [HX.out], g, n, c, by rw [HX.out]; exact HPW.out _ (HT2.out.trans hst5), (HT2.out.trans hst5).mono (by simp), .inl rfl⟩
end Go.Proofs.Ytikgjnfimagpjaa
