/- the reference: Step, rule by rule. -/
import Derived.Test.YtlomcnmijfiihaaRefD
namespace Go.Proofs.Ytlomcnmijfiihaa
open Go.RowKit
/-- at all places below k it is done -/
def To (F : Nat → Int) (cz ys : List Int) (k : Nat) : Prop := ys.length = cz.length ∧ ∀ j, j < cz.length → ys.getD j 0 = if j < k then F j else cz.getD j 0
theorem To.start (F : Nat → Int) (cz : List Int) : To F cz cz 0 := ⟨rfl, fun j _ => by rw [if_neg (by omega)]⟩
theorem To.store {F : Nat → Int} {cz ys : List Int} {i : Nat} {x : Int} (h : To F cz ys i) (hi : i < cz.length) (hx : x = F i) : To F cz (ys.set i x) (i + 1) := by
  refine ⟨by simpa using h.1, fun j hj => ?_⟩
  rw [getD_set _ _ _ _ (by rw [h.1]; exact hi), h.2 j hj]
  split
  · rename_i e; subst e; simp [hx]
  · repeat' split
    all_goals first | rfl | omega
theorem To.skip {F : Nat → Int} {cz ys : List Int} {i : Nat} (h : To F cz ys i) (hx : cz.getD i 0 = F i) : To F cz ys (i + 1) := by
  refine ⟨h.1, fun j hj => ?_⟩
  rw [h.2 j hj]
  repeat' split
  all_goals first | rfl | omega | skip
  all_goals (have : j = i := by omega); subst this; omega
theorem To.done {F : Nat → Int} {cz ys out : List Int} (h : To F cz ys cz.length) (hl : out.length = cz.length) (ho : ∀ j, j < cz.length → out.getD j 0 = F j) : ys = out := by
  refine ext_getD (by rw [h.1, hl]) fun j hj => ?_
  rw [h.2 j (by omega), if_pos (by omega), ho j (by omega)]
theorem Own.set_other {w : World} {e : TypeId} {B : Nat} {v : Value} {xs : List Value} (h : Own w e B v xs) {p : Addr} (hp : p.block < B) (u : Value) : Own (w.setCell p u) e B v xs := ownsRow_setCell_below h hp u
theorem own_form8 {w : World} {B n c : Nat} {A : Option Addr} {ys : List Int} (h : Own w 23 B (.slice A n c) (i8s ys)) (hn : 0 < ys.length) : ∃ g, A = some ⟨g, 0, none⟩ ∧ B ≤ g ∧ g < w.heap.size := by
  obtain ⟨-, g, h1, h2, h3⟩ := h.form (by simpa using hn)
  exact ⟨g, h1, h2, h3⟩
theorem place2 (cz : List Int) (s : Int) (j : Nat) (hj : j < cz.length) : (ruleL 2 cz (sosL s)).getD j 0 = if cz.getD j 0 = 3 ∧ strongL cz s j = 2 then 6 else cz.getD j 0 := by
  have e : ruleL 2 cz (sosL s) = (scan fArabic (sosL s) cz).1 := rfl
  rw [e, scan_getD _ _ _ _ hj]
  show (fArabic (strongL cz s j) (cz.getD j 0)).1 = _
  unfold fArabic
  repeat' split
  all_goals first | rfl | omega | (simp_all; done)
theorem place3 (cz : List Int) (s : Int) (j : Nat) (hj : j < cz.length) : (ruleL 3 cz (sosL s)).getD j 0 = if cz.getD j 0 = 2 then 1 else cz.getD j 0 := by
  have e : ruleL 3 cz (sosL s) = (scan fLetters (sosL s) cz).1 := rfl
  rw [e, scan_getD _ _ _ _ hj]
  rfl
theorem place4 (cz : List Int) (s : Int) (j : Nat) (hj : j < cz.length) : (ruleL 4 cz (sosL s)).getD j 0 = sepAt cz j := sepL_getD cz j hj
theorem place6 (cz : List Int) (s : Int) (j : Nat) (hj : j < cz.length) : (ruleL 6 cz (sosL s)).getD j 0 = if cz.getD j 0 = 4 ∨ cz.getD j 0 = 5 ∨ cz.getD j 0 = 7 then 13 else cz.getD j 0 := by
  have e : ruleL 6 cz (sosL s) = (scan fOthers (sosL s) cz).1 := rfl
  rw [e, scan_getD _ _ _ _ hj]
  rfl
theorem place7 (cz : List Int) (s : Int) (j : Nat) (hj : j < cz.length) : (ruleL 7 cz (sosL s)).getD j 0 = if cz.getD j 0 = 3 ∧ aheadL cz s j = 0 then 0 else cz.getD j 0 := by
  have e : ruleL 7 cz (sosL s) = (scan fDigits (sosL s) cz).1 := rfl
  rw [e, scan_getD _ _ _ _ hj]
  show (fDigits (aheadL cz s j) (cz.getD j 0)).1 = _
  unfold fDigits
  repeat' split
  all_goals first | rfl | omega | (simp_all; done)
theorem place0 (n : Int) (cz : List Int) (s : Int) (hn : n < 1 ∨ 7 < n) (j : Nat) : (ruleL n cz (sosL s)).getD j 0 = cz.getD j 0 := by
  unfold ruleL
  repeat (rw [if_neg (by omega)])

set_option maxHeartbeats 2000000 in
theorem rstep1_any (zs : List Int) (A : Option Addr) (c : Nat) (s : Int) (w : World) (hl : zs.length ≤ 140737488351232) (h : Sl w w.heap.size A (i8s zs)) :
    Calls Try.prog 16 #[.int .i64 1, .slice A zs.length c, .int .i8 s] w fun e w' => ∃ A' c', e = .returned (.slice A' zs.length c') ∧ Own w' 23 w.heap.size (.slice A' zs.length c') (i8s (stepL 1 zs s)) ∧ Below w.heap.size w w' := by
  go_enter Try.func16, Try.ntmps16
  go_wp2_with fail
  refine (listed_any zs A c w hl h).mono ?_
  rintro e w1 ⟨A1, c1, rfl, ho1, hb1⟩
  have e1 : zs.length = (zs.map clsL).length := by simp
  have R := rmarks_any (zs.map clsL) A1 c1 s w1 w.heap.size (by simpa using hl) (by rw [← e1]; exact ho1)
  rw [← e1] at R
  have HR := Lib.hid R
  have B1 := Lib.hid hb1
  have O1 := Lib.hid ho1
  clear R ho1 e1 h hb1
  go_wp2_with fail
  refine HR.out.mono ?_
  rintro e w2 ⟨rfl, ho2, hg2⟩
  have HO := Lib.hid ho2
  have HB := Lib.hid (B1.out.grown hg2 B1.out.size fun k hk => (O1.out.lt k hk).1)
  clear ho2 hg2
  go_wp2
  go_ret
  exact ⟨_, _, rfl, HO.out, HB.out⟩

set_option maxHeartbeats 2000000 in
theorem rstep5_any (zs : List Int) (A : Option Addr) (c : Nat) (s : Int) (w : World) (hl : zs.length ≤ 140737488351232) (h : Sl w w.heap.size A (i8s zs)) :
    Calls Try.prog 16 #[.int .i64 5, .slice A zs.length c, .int .i8 s] w fun e w' => ∃ A' c', e = .returned (.slice A' zs.length c') ∧ Own w' 23 w.heap.size (.slice A' zs.length c') (i8s (stepL 5 zs s)) ∧ Below w.heap.size w w' := by
  go_enter Try.func16, Try.ntmps16
  go_wp2_with fail
  refine (listed_any zs A c w hl h).mono ?_
  rintro e w1 ⟨A1, c1, rfl, ho1, hb1⟩
  have e1 : zs.length = (zs.map clsL).length := by simp
  have R := rterm_any (zs.map clsL) A1 c1 w1 w.heap.size (by simpa using hl) (by rw [← e1]; exact ho1)
  rw [← e1] at R
  have HR := Lib.hid R
  have B1 := Lib.hid hb1
  have O1 := Lib.hid ho1
  clear R ho1 e1 h hb1
  go_wp2_with fail
  refine HR.out.mono ?_
  rintro e w2 ⟨rfl, ho2, hg2⟩
  have HO := Lib.hid ho2
  have HB := Lib.hid (B1.out.grown hg2 B1.out.size fun k hk => (O1.out.lt k hk).1)
  clear ho2 hg2
  go_wp2
  go_ret
  exact ⟨_, _, rfl, HO.out, HB.out⟩

set_option maxRecDepth 100000 in
set_option maxHeartbeats 4000000 in
theorem rstep2_any (zs : List Int) (A : Option Addr) (c : Nat) (s : Int) (w : World) (hl : zs.length ≤ 140737488351232) (h : Sl w w.heap.size A (i8s zs)) :
    Calls Try.prog 16 #[.int .i64 2, .slice A zs.length c, .int .i8 s] w fun e w' => ∃ A' c', e = .returned (.slice A' zs.length c') ∧ Own w' 23 w.heap.size (.slice A' zs.length c') (i8s (stepL 2 zs s)) ∧ Below w.heap.size w w' := by
  go_enter Try.func16, Try.ntmps16
  go_wp2_with fail
  refine (listed_any zs A c w hl h).mono ?_
  rintro e w1 ⟨A1, c1, rfl, ho1, hb1⟩
  have h1 := (h.below hb1).more hb1.size
  have B1 := Lib.hid hb1
  have O1 := Lib.hid ho1
  have z1 := hb1.size
  clear ho1 hb1 h
  go_wp2_with fail
  refine (listed_any zs A c w1 hl h1).mono ?_
  rintro e w2 ⟨A2, c2, rfl, ho2, hb2⟩
  have B2 := Lib.hid (B1.out.trans (hb2.mono z1))
  have O2 := Lib.hid ho2
  have P2 := Lib.hid (O1.out.below_ hb2)
  have z2 := hb2.size
  have LT1 := Lib.hid (fun g (hg : (Value.slice A1 zs.length c1).ownBlock = some g) => (O1.out.lt g hg).2)
  have ES : Hid (stepL 2 zs s = ruleL 2 (zs.map clsL) (sosL s)) := rfl
  have ecl : (zs.map clsL).length = zs.length := by simp
  have ECL := Lib.hid ecl
  clear ho2 hb2 h1 ecl
  obtain ⟨cz, hcz⟩ : ∃ cz, cz = zs.map clsL := ⟨_, rfl⟩
  rw [← hcz] at P2 O2 ES ECL
  clear hcz O1
  go_wp2_with fail
  go_loopw [9] (fun i wr => ∃ (k : Nat) (ys : List Int), k ≤ zs.length ∧ i = .int .i64 k ∧ To (fun j => if cz.getD j 0 = 3 ∧ strongL cz s j = 2 then 6 else cz.getD j 0) cz ys k ∧ Own wr 23 w.heap.size (.slice A1 zs.length c1) (i8s ys) ∧ (∀ g, (Value.slice A1 zs.length c1).ownBlock = some g → g < w1.heap.size) ∧ Own wr 23 w1.heap.size (.slice A2 zs.length c2) (i8s cz) ∧ Below w.heap.size w wr)
    (fun i _ => zs.length - (intOf i).toNat)
  case atStart => exact ⟨0, cz, by omega, rfl, To.start _ _, P2.out, LT1.out, O2.out, B2.out⟩
  case round =>
    obtain ⟨k, ys, hk, rfl, hT, ho, hlt1, ho2, hb⟩ := hrel
    by_cases hlt : k < zs.length
    · have hyl : ys.length = zs.length := by rw [hT.1, ECL.out]
      have hcl := ECL.out
      obtain ⟨g, rfl, hg1, hg2⟩ := own_form8 ho (by omega)
      obtain ⟨g2, rfl, hg3, hg4⟩ := own_form8 ho2 (by omega)
      have hgl := hlt1 g rfl
      have hcell := own_getD ho (k := k) (by omega)
      have hfr := ho.free k
      have hcell2 := own_getD ho2 (k := k) (by omega)
      have SL2 := Lib.hid ho2.sl
      have HK := Lib.hid (show cz.getD k 0 = (fun j => if cz.getD j 0 = 3 ∧ strongL cz s j = 2 then 6 else cz.getD j 0) k → _ from fun hx => hT.skip hx)
      have HS := Lib.hid (fun x hx => hT.store (x := x) (show k < cz.length by omega) hx)
      have HO := Lib.hid ho
      have HOS := Lib.hid (fun x => own_set ho k x)
      have HL1 := Lib.hid hlt1
      have HO2 := Lib.hid ho2
      have HO2S := Lib.hid (fun u => ho2.set_other (p := ⟨g, k, none⟩) hgl u)
      have HB := Lib.hid hb
      have HBS := Lib.hid (fun u => hb.setCell (p := ⟨g, k, none⟩) hg1 u)
      have hsz := hb.size
      obtain ⟨old, hold⟩ : ∃ old, wr.cell? ⟨g, k, none⟩ = some (.int .i8 old) := ⟨_, hcell⟩
      have hcl2 : Hid (cz.length = zs.length) := hcl
      clear hT ho hlt1 ho2 hb hcell hyl hcl
      obtain ⟨z, hz⟩ : ∃ z, z = cz.getD k 0 := ⟨_, rfl⟩
      rw [← hz] at hcell2
      have HZ := Lib.hid hz
      clear hz
      have HC := Lib.hid (strong_any cz (some ⟨g2, 0, none⟩) c2 k s wr (by rw [hcl2.out]; exact hl) (by rw [hcl2.out]; omega) SL2.out)
      rw [hcl2.out] at HC
      obtain ⟨x, hx⟩ : ∃ x, x = strongL cz s k := ⟨_, rfl⟩
      rw [← hx] at HC
      have HX := Lib.hid hx
      clear hx
      by_cases z3 : z = 3
      · subst z3
        by_cases hx2 : x = 2
        · subst hx2
          go_wp2_with (go_at_call 25; refine HC.out.mono ?_; rintro e w' ⟨rfl, rfl⟩)
          go_roundw
          case rel => exact ⟨k + 1, _, by omega, by go_num, HS.out _ (by rw [if_pos ⟨HZ.out.symm, HX.out.symm⟩]), HOS.out _, HL1.out, HO2S.out _, HBS.out _⟩
          case measure => simp [intOf]; omega
        · have hxb : (x == 2) = false := by simpa using hx2
          have HN := Lib.hid hx2
          clear hx2
          go_wp2_with (go_at_call 25; refine HC.out.mono ?_; rintro e w' ⟨rfl, rfl⟩)
          go_roundw
          case rel => exact ⟨k + 1, ys, by omega, by go_num, HK.out (by exact (if_neg (by rw [← HX.out]; exact fun hh => HN.out hh.2)).symm), HO.out, HL1.out, HO2.out, HB.out⟩
          case measure => simp [intOf]; omega
      · have hzb : (z == 3) = false := by simpa using z3
        have HN := Lib.hid z3
        clear z3
        go_wp2
        go_roundw
        case rel => exact ⟨k + 1, ys, by omega, by go_num, HK.out (by exact (if_neg (by rw [← HZ.out]; exact fun hh => HN.out hh.1)).symm), HO.out, HL1.out, HO2.out, HB.out⟩
        case measure => simp [intOf]; omega
    · have hk' : k = zs.length := by omega
      subst hk'
      have hT2 := hT
      rw [← ECL.out] at hT2
      have hd := hT2.done (out := stepL 2 zs s) (by rw [ES.out, ruleL_length]) (fun j hj => by rw [ES.out]; exact place2 cz s j hj)
      have HO := Lib.hid ho
      rw [hd] at HO
      clear hT hT2 hd ho ho2
      go_wp2
      go_ret
      exact ⟨_, _, rfl, HO.out, hb⟩

set_option maxRecDepth 100000 in
set_option maxHeartbeats 4000000 in
theorem rstep7_any (zs : List Int) (A : Option Addr) (c : Nat) (s : Int) (w : World) (hl : zs.length ≤ 140737488351232) (h : Sl w w.heap.size A (i8s zs)) :
    Calls Try.prog 16 #[.int .i64 7, .slice A zs.length c, .int .i8 s] w fun e w' => ∃ A' c', e = .returned (.slice A' zs.length c') ∧ Own w' 23 w.heap.size (.slice A' zs.length c') (i8s (stepL 7 zs s)) ∧ Below w.heap.size w w' := by
  go_enter Try.func16, Try.ntmps16
  go_wp2_with fail
  refine (listed_any zs A c w hl h).mono ?_
  rintro e w1 ⟨A1, c1, rfl, ho1, hb1⟩
  have h1 := (h.below hb1).more hb1.size
  have B1 := Lib.hid hb1
  have O1 := Lib.hid ho1
  have z1 := hb1.size
  clear ho1 hb1 h
  go_wp2_with fail
  refine (listed_any zs A c w1 hl h1).mono ?_
  rintro e w2 ⟨A2, c2, rfl, ho2, hb2⟩
  have B2 := Lib.hid (B1.out.trans (hb2.mono z1))
  have O2 := Lib.hid ho2
  have P2 := Lib.hid (O1.out.below_ hb2)
  have z2 := hb2.size
  have LT1 := Lib.hid (fun g (hg : (Value.slice A1 zs.length c1).ownBlock = some g) => (O1.out.lt g hg).2)
  have ES : Hid (stepL 7 zs s = ruleL 7 (zs.map clsL) (sosL s)) := rfl
  have ecl : (zs.map clsL).length = zs.length := by simp
  have ECL := Lib.hid ecl
  clear ho2 hb2 h1 ecl
  obtain ⟨cz, hcz⟩ : ∃ cz, cz = zs.map clsL := ⟨_, rfl⟩
  rw [← hcz] at P2 O2 ES ECL
  clear hcz O1
  go_wp2_with fail
  go_loopw [9] (fun i wr => ∃ (k : Nat) (ys : List Int), k ≤ zs.length ∧ i = .int .i64 k ∧ To (fun j => if cz.getD j 0 = 3 ∧ aheadL cz s j = 0 then 0 else cz.getD j 0) cz ys k ∧ Own wr 23 w.heap.size (.slice A1 zs.length c1) (i8s ys) ∧ (∀ g, (Value.slice A1 zs.length c1).ownBlock = some g → g < w1.heap.size) ∧ Own wr 23 w1.heap.size (.slice A2 zs.length c2) (i8s cz) ∧ Below w.heap.size w wr)
    (fun i _ => zs.length - (intOf i).toNat)
  case atStart => exact ⟨0, cz, by omega, rfl, To.start _ _, P2.out, LT1.out, O2.out, B2.out⟩
  case round =>
    obtain ⟨k, ys, hk, rfl, hT, ho, hlt1, ho2, hb⟩ := hrel
    by_cases hlt : k < zs.length
    · have hyl : ys.length = zs.length := by rw [hT.1, ECL.out]
      have hcl := ECL.out
      obtain ⟨g, rfl, hg1, hg2⟩ := own_form8 ho (by omega)
      obtain ⟨g2, rfl, hg3, hg4⟩ := own_form8 ho2 (by omega)
      have hgl := hlt1 g rfl
      have hcell := own_getD ho (k := k) (by omega)
      have hfr := ho.free k
      have hcell2 := own_getD ho2 (k := k) (by omega)
      have SL2 := Lib.hid ho2.sl
      have HK := Lib.hid (show cz.getD k 0 = (fun j => if cz.getD j 0 = 3 ∧ aheadL cz s j = 0 then 0 else cz.getD j 0) k → _ from fun hx => hT.skip hx)
      have HS := Lib.hid (fun x hx => hT.store (x := x) (show k < cz.length by omega) hx)
      have HO := Lib.hid ho
      have HOS := Lib.hid (fun x => own_set ho k x)
      have HL1 := Lib.hid hlt1
      have HO2 := Lib.hid ho2
      have HO2S := Lib.hid (fun u => ho2.set_other (p := ⟨g, k, none⟩) hgl u)
      have HB := Lib.hid hb
      have HBS := Lib.hid (fun u => hb.setCell (p := ⟨g, k, none⟩) hg1 u)
      have hsz := hb.size
      obtain ⟨old, hold⟩ : ∃ old, wr.cell? ⟨g, k, none⟩ = some (.int .i8 old) := ⟨_, hcell⟩
      have hcl2 : Hid (cz.length = zs.length) := hcl
      clear hT ho hlt1 ho2 hb hcell hyl hcl
      obtain ⟨z, hz⟩ : ∃ z, z = cz.getD k 0 := ⟨_, rfl⟩
      rw [← hz] at hcell2
      have HZ := Lib.hid hz
      clear hz
      have HC := Lib.hid (ahead_any cz (some ⟨g2, 0, none⟩) c2 k s wr (by rw [hcl2.out]; exact hl) (by rw [hcl2.out]; omega) SL2.out)
      rw [hcl2.out] at HC
      obtain ⟨x, hx⟩ : ∃ x, x = aheadL cz s k := ⟨_, rfl⟩
      rw [← hx] at HC
      have HX := Lib.hid hx
      clear hx
      by_cases z3 : z = 3
      · subst z3
        by_cases hx2 : x = 0
        · subst hx2
          go_wp2_with (go_at_call 27; refine HC.out.mono ?_; rintro e w' ⟨rfl, rfl⟩)
          go_roundw
          case rel => exact ⟨k + 1, _, by omega, by go_num, HS.out _ (by rw [if_pos ⟨HZ.out.symm, HX.out.symm⟩]), HOS.out _, HL1.out, HO2S.out _, HBS.out _⟩
          case measure => simp [intOf]; omega
        · have hxb : (x == 0) = false := by simpa using hx2
          have HN := Lib.hid hx2
          clear hx2
          go_wp2_with (go_at_call 27; refine HC.out.mono ?_; rintro e w' ⟨rfl, rfl⟩)
          go_roundw
          case rel => exact ⟨k + 1, ys, by omega, by go_num, HK.out (by exact (if_neg (by rw [← HX.out]; exact fun hh => HN.out hh.2)).symm), HO.out, HL1.out, HO2.out, HB.out⟩
          case measure => simp [intOf]; omega
      · have hzb : (z == 3) = false := by simpa using z3
        have HN := Lib.hid z3
        clear z3
        go_wp2
        go_roundw
        case rel => exact ⟨k + 1, ys, by omega, by go_num, HK.out (by exact (if_neg (by rw [← HZ.out]; exact fun hh => HN.out hh.1)).symm), HO.out, HL1.out, HO2.out, HB.out⟩
        case measure => simp [intOf]; omega
    · have hk' : k = zs.length := by omega
      subst hk'
      have hT2 := hT
      rw [← ECL.out] at hT2
      have hd := hT2.done (out := stepL 7 zs s) (by rw [ES.out, ruleL_length]) (fun j hj => by rw [ES.out]; exact place7 cz s j hj)
      have HO := Lib.hid ho
      rw [hd] at HO
      clear hT hT2 hd ho ho2
      go_wp2
      go_ret
      exact ⟨_, _, rfl, HO.out, hb⟩

set_option maxRecDepth 100000 in
set_option maxHeartbeats 4000000 in
theorem rstep3_any (zs : List Int) (A : Option Addr) (c : Nat) (s : Int) (w : World) (hl : zs.length ≤ 140737488351232) (h : Sl w w.heap.size A (i8s zs)) :
    Calls Try.prog 16 #[.int .i64 3, .slice A zs.length c, .int .i8 s] w fun e w' => ∃ A' c', e = .returned (.slice A' zs.length c') ∧ Own w' 23 w.heap.size (.slice A' zs.length c') (i8s (stepL 3 zs s)) ∧ Below w.heap.size w w' := by
  go_enter Try.func16, Try.ntmps16
  go_wp2_with fail
  refine (listed_any zs A c w hl h).mono ?_
  rintro e w1 ⟨A1, c1, rfl, ho1, hb1⟩
  have h1 := (h.below hb1).more hb1.size
  have B1 := Lib.hid hb1
  have O1 := Lib.hid ho1
  have z1 := hb1.size
  clear ho1 hb1 h
  go_wp2_with fail
  refine (listed_any zs A c w1 hl h1).mono ?_
  rintro e w2 ⟨A2, c2, rfl, ho2, hb2⟩
  have B2 := Lib.hid (B1.out.trans (hb2.mono z1))
  have O2 := Lib.hid ho2
  have P2 := Lib.hid (O1.out.below_ hb2)
  have z2 := hb2.size
  have LT1 := Lib.hid (fun g (hg : (Value.slice A1 zs.length c1).ownBlock = some g) => (O1.out.lt g hg).2)
  have ES : Hid (stepL 3 zs s = ruleL 3 (zs.map clsL) (sosL s)) := rfl
  have ecl : (zs.map clsL).length = zs.length := by simp
  have ECL := Lib.hid ecl
  clear ho2 hb2 h1 ecl
  obtain ⟨cz, hcz⟩ : ∃ cz, cz = zs.map clsL := ⟨_, rfl⟩
  rw [← hcz] at P2 O2 ES ECL
  clear hcz O1
  go_wp2_with fail
  go_loopw [9] (fun i wr => ∃ (k : Nat) (ys : List Int), k ≤ zs.length ∧ i = .int .i64 k ∧ To (fun j => if cz.getD j 0 = 2 then 1 else cz.getD j 0) cz ys k ∧ Own wr 23 w.heap.size (.slice A1 zs.length c1) (i8s ys) ∧ (∀ g, (Value.slice A1 zs.length c1).ownBlock = some g → g < w1.heap.size) ∧ Own wr 23 w1.heap.size (.slice A2 zs.length c2) (i8s cz) ∧ Below w.heap.size w wr)
    (fun i _ => zs.length - (intOf i).toNat)
  case atStart => exact ⟨0, cz, by omega, rfl, To.start _ _, P2.out, LT1.out, O2.out, B2.out⟩
  case round =>
    obtain ⟨k, ys, hk, rfl, hT, ho, hlt1, ho2, hb⟩ := hrel
    by_cases hlt : k < zs.length
    · have hyl : ys.length = zs.length := by rw [hT.1, ECL.out]
      have hcl := ECL.out
      obtain ⟨g, rfl, hg1, hg2⟩ := own_form8 ho (by omega)
      obtain ⟨g2, rfl, hg3, hg4⟩ := own_form8 ho2 (by omega)
      have hgl := hlt1 g rfl
      have hcell := own_getD ho (k := k) (by omega)
      have hfr := ho.free k
      have hcell2 := own_getD ho2 (k := k) (by omega)
      have SL2 := Lib.hid ho2.sl
      have HK := Lib.hid (show cz.getD k 0 = (fun j => if cz.getD j 0 = 2 then 1 else cz.getD j 0) k → _ from fun hx => hT.skip hx)
      have HS := Lib.hid (fun x hx => hT.store (x := x) (show k < cz.length by omega) hx)
      have HO := Lib.hid ho
      have HOS := Lib.hid (fun x => own_set ho k x)
      have HL1 := Lib.hid hlt1
      have HO2 := Lib.hid ho2
      have HO2S := Lib.hid (fun u => ho2.set_other (p := ⟨g, k, none⟩) hgl u)
      have HB := Lib.hid hb
      have HBS := Lib.hid (fun u => hb.setCell (p := ⟨g, k, none⟩) hg1 u)
      have hsz := hb.size
      obtain ⟨old, hold⟩ : ∃ old, wr.cell? ⟨g, k, none⟩ = some (.int .i8 old) := ⟨_, hcell⟩
      have hcl2 : Hid (cz.length = zs.length) := hcl
      clear hT ho hlt1 ho2 hb hcell hyl hcl
      obtain ⟨z, hz⟩ : ∃ z, z = cz.getD k 0 := ⟨_, rfl⟩
      rw [← hz] at hcell2
      have HZ := Lib.hid hz
      clear hz
      by_cases z3 : z = 2
      · subst z3
        go_wp2
        go_roundw
        case rel => exact ⟨k + 1, _, by omega, by go_num, HS.out _ (by rw [if_pos HZ.out.symm]), HOS.out _, HL1.out, HO2S.out _, HBS.out _⟩
        case measure => simp [intOf]; omega
      · have hzb : (z == 2) = false := by simpa using z3
        have HN := Lib.hid z3
        clear z3
        go_wp2
        go_roundw
        case rel => exact ⟨k + 1, ys, by omega, by go_num, HK.out (by exact (if_neg (by rw [← HZ.out]; exact HN.out)).symm), HO.out, HL1.out, HO2.out, HB.out⟩
        case measure => simp [intOf]; omega
    · have hk' : k = zs.length := by omega
      subst hk'
      have hT2 := hT
      rw [← ECL.out] at hT2
      have hd := hT2.done (out := stepL 3 zs s) (by rw [ES.out, ruleL_length]) (fun j hj => by rw [ES.out]; exact place3 cz s j hj)
      have HO := Lib.hid ho
      rw [hd] at HO
      clear hT hT2 hd ho ho2
      go_wp2
      go_ret
      exact ⟨_, _, rfl, HO.out, hb⟩

set_option maxRecDepth 100000 in
set_option maxHeartbeats 4000000 in
theorem rstep6_any (zs : List Int) (A : Option Addr) (c : Nat) (s : Int) (w : World) (hl : zs.length ≤ 140737488351232) (h : Sl w w.heap.size A (i8s zs)) :
    Calls Try.prog 16 #[.int .i64 6, .slice A zs.length c, .int .i8 s] w fun e w' => ∃ A' c', e = .returned (.slice A' zs.length c') ∧ Own w' 23 w.heap.size (.slice A' zs.length c') (i8s (stepL 6 zs s)) ∧ Below w.heap.size w w' := by
  go_enter Try.func16, Try.ntmps16
  go_wp2_with fail
  refine (listed_any zs A c w hl h).mono ?_
  rintro e w1 ⟨A1, c1, rfl, ho1, hb1⟩
  have h1 := (h.below hb1).more hb1.size
  have B1 := Lib.hid hb1
  have O1 := Lib.hid ho1
  have z1 := hb1.size
  clear ho1 hb1 h
  go_wp2_with fail
  refine (listed_any zs A c w1 hl h1).mono ?_
  rintro e w2 ⟨A2, c2, rfl, ho2, hb2⟩
  have B2 := Lib.hid (B1.out.trans (hb2.mono z1))
  have O2 := Lib.hid ho2
  have P2 := Lib.hid (O1.out.below_ hb2)
  have z2 := hb2.size
  have LT1 := Lib.hid (fun g (hg : (Value.slice A1 zs.length c1).ownBlock = some g) => (O1.out.lt g hg).2)
  have ES : Hid (stepL 6 zs s = ruleL 6 (zs.map clsL) (sosL s)) := rfl
  have ecl : (zs.map clsL).length = zs.length := by simp
  have ECL := Lib.hid ecl
  clear ho2 hb2 h1 ecl
  obtain ⟨cz, hcz⟩ : ∃ cz, cz = zs.map clsL := ⟨_, rfl⟩
  rw [← hcz] at P2 O2 ES ECL
  clear hcz O1
  go_wp2_with fail
  go_loopw [9] (fun i wr => ∃ (k : Nat) (ys : List Int), k ≤ zs.length ∧ i = .int .i64 k ∧ To (fun j => if cz.getD j 0 = 4 ∨ cz.getD j 0 = 5 ∨ cz.getD j 0 = 7 then 13 else cz.getD j 0) cz ys k ∧ Own wr 23 w.heap.size (.slice A1 zs.length c1) (i8s ys) ∧ (∀ g, (Value.slice A1 zs.length c1).ownBlock = some g → g < w1.heap.size) ∧ Own wr 23 w1.heap.size (.slice A2 zs.length c2) (i8s cz) ∧ Below w.heap.size w wr)
    (fun i _ => zs.length - (intOf i).toNat)
  case atStart => exact ⟨0, cz, by omega, rfl, To.start _ _, P2.out, LT1.out, O2.out, B2.out⟩
  case round =>
    obtain ⟨k, ys, hk, rfl, hT, ho, hlt1, ho2, hb⟩ := hrel
    by_cases hlt : k < zs.length
    · have hyl : ys.length = zs.length := by rw [hT.1, ECL.out]
      have hcl := ECL.out
      obtain ⟨g, rfl, hg1, hg2⟩ := own_form8 ho (by omega)
      obtain ⟨g2, rfl, hg3, hg4⟩ := own_form8 ho2 (by omega)
      have hgl := hlt1 g rfl
      have hcell := own_getD ho (k := k) (by omega)
      have hfr := ho.free k
      have hcell2 := own_getD ho2 (k := k) (by omega)
      have SL2 := Lib.hid ho2.sl
      have HK := Lib.hid (show cz.getD k 0 = (fun j => if cz.getD j 0 = 4 ∨ cz.getD j 0 = 5 ∨ cz.getD j 0 = 7 then 13 else cz.getD j 0) k → _ from fun hx => hT.skip hx)
      have HS := Lib.hid (fun x hx => hT.store (x := x) (show k < cz.length by omega) hx)
      have HO := Lib.hid ho
      have HOS := Lib.hid (fun x => own_set ho k x)
      have HL1 := Lib.hid hlt1
      have HO2 := Lib.hid ho2
      have HO2S := Lib.hid (fun u => ho2.set_other (p := ⟨g, k, none⟩) hgl u)
      have HB := Lib.hid hb
      have HBS := Lib.hid (fun u => hb.setCell (p := ⟨g, k, none⟩) hg1 u)
      have hsz := hb.size
      obtain ⟨old, hold⟩ : ∃ old, wr.cell? ⟨g, k, none⟩ = some (.int .i8 old) := ⟨_, hcell⟩
      have hcl2 : Hid (cz.length = zs.length) := hcl
      clear hT ho hlt1 ho2 hb hcell hyl hcl
      obtain ⟨z, hz⟩ : ∃ z, z = cz.getD k 0 := ⟨_, rfl⟩
      rw [← hz] at hcell2
      have HZ := Lib.hid hz
      clear hz
      by_cases z3 : z = 4 ∨ z = 5 ∨ z = 7
      · have HP : Hid (13 = if cz.getD k 0 = 4 ∨ cz.getD k 0 = 5 ∨ cz.getD k 0 = 7 then (13 : Int) else cz.getD k 0) := by show _ = _; rw [if_pos (by rw [← HZ.out]; exact z3)]
        rcases z3 with rfl | rfl | rfl
        all_goals
          go_wp2
          go_roundw
          case rel => exact ⟨k + 1, _, by omega, by go_num, HS.out _ (by exact HP.out), HOS.out _, HL1.out, HO2S.out _, HBS.out _⟩
          case measure => simp [intOf]; omega
      · have h4 : (z == 4) = false := by simp; omega
        have h5 : (z == 5) = false := by simp; omega
        have h7 : (z == 7) = false := by simp; omega
        have HN := Lib.hid z3
        clear z3
        go_wp2
        go_roundw
        case rel => exact ⟨k + 1, ys, by omega, by go_num, HK.out (by exact (if_neg (by rw [← HZ.out]; exact HN.out)).symm), HO.out, HL1.out, HO2.out, HB.out⟩
        case measure => simp [intOf]; omega
    · have hk' : k = zs.length := by omega
      subst hk'
      have hT2 := hT
      rw [← ECL.out] at hT2
      have hd := hT2.done (out := stepL 6 zs s) (by rw [ES.out, ruleL_length]) (fun j hj => by rw [ES.out]; exact place6 cz s j hj)
      have HO := Lib.hid ho
      rw [hd] at HO
      clear hT hT2 hd ho ho2
      go_wp2
      go_ret
      exact ⟨_, _, rfl, HO.out, hb⟩

set_option maxRecDepth 100000 in
set_option maxHeartbeats 4000000 in
theorem rstep4_any (zs : List Int) (A : Option Addr) (c : Nat) (s : Int) (w : World) (hl : zs.length ≤ 140737488351232) (h : Sl w w.heap.size A (i8s zs)) :
    Calls Try.prog 16 #[.int .i64 4, .slice A zs.length c, .int .i8 s] w fun e w' => ∃ A' c', e = .returned (.slice A' zs.length c') ∧ Own w' 23 w.heap.size (.slice A' zs.length c') (i8s (stepL 4 zs s)) ∧ Below w.heap.size w w' := by
  go_enter Try.func16, Try.ntmps16
  go_wp2_with fail
  refine (listed_any zs A c w hl h).mono ?_
  rintro e w1 ⟨A1, c1, rfl, ho1, hb1⟩
  have h1 := (h.below hb1).more hb1.size
  have B1 := Lib.hid hb1
  have O1 := Lib.hid ho1
  have z1 := hb1.size
  clear ho1 hb1 h
  go_wp2_with fail
  refine (listed_any zs A c w1 hl h1).mono ?_
  rintro e w2 ⟨A2, c2, rfl, ho2, hb2⟩
  have B2 := Lib.hid (B1.out.trans (hb2.mono z1))
  have O2 := Lib.hid ho2
  have P2 := Lib.hid (O1.out.below_ hb2)
  have z2 := hb2.size
  have LT1 := Lib.hid (fun g (hg : (Value.slice A1 zs.length c1).ownBlock = some g) => (O1.out.lt g hg).2)
  have ES : Hid (stepL 4 zs s = ruleL 4 (zs.map clsL) (sosL s)) := rfl
  have ecl : (zs.map clsL).length = zs.length := by simp
  have ECL := Lib.hid ecl
  clear ho2 hb2 h1 ecl
  obtain ⟨cz, hcz⟩ : ∃ cz, cz = zs.map clsL := ⟨_, rfl⟩
  rw [← hcz] at P2 O2 ES ECL
  clear hcz O1
  go_wp2_with fail
  go_loopw [9] (fun i wr => ∃ (k : Nat) (ys : List Int), k ≤ zs.length ∧ i = .int .i64 k ∧ To (fun j => sepAt cz j) cz ys k ∧ Own wr 23 w.heap.size (.slice A1 zs.length c1) (i8s ys) ∧ (∀ g, (Value.slice A1 zs.length c1).ownBlock = some g → g < w1.heap.size) ∧ Own wr 23 w1.heap.size (.slice A2 zs.length c2) (i8s cz) ∧ Below w.heap.size w wr)
    (fun i _ => zs.length - (intOf i).toNat)
  case atStart => exact ⟨0, cz, by omega, rfl, To.start _ _, P2.out, LT1.out, O2.out, B2.out⟩
  case round =>
    obtain ⟨k, ys, hk, rfl, hT, ho, hlt1, ho2, hb⟩ := hrel
    by_cases hlt : k < zs.length
    · have hyl : ys.length = zs.length := by rw [hT.1, ECL.out]
      have hcl := ECL.out
      obtain ⟨g, rfl, hg1, hg2⟩ := own_form8 ho (by omega)
      obtain ⟨g2, rfl, hg3, hg4⟩ := own_form8 ho2 (by omega)
      have hgl := hlt1 g rfl
      have hcell := own_getD ho (k := k) (by omega)
      have hfr := ho.free k
      have hcell2 := own_getD ho2 (k := k) (by omega)
      have SL2 := Lib.hid ho2.sl
      have HK := Lib.hid (show cz.getD k 0 = (fun j => sepAt cz j) k → _ from fun hx => hT.skip hx)
      have HS := Lib.hid (fun x hx => hT.store (x := x) (show k < cz.length by omega) hx)
      have HO := Lib.hid ho
      have HOS := Lib.hid (fun x => own_set ho k x)
      have HL1 := Lib.hid hlt1
      have HO2 := Lib.hid ho2
      have HO2S := Lib.hid (fun u => ho2.set_other (p := ⟨g, k, none⟩) hgl u)
      have HB := Lib.hid hb
      have HBS := Lib.hid (fun u => hb.setCell (p := ⟨g, k, none⟩) hg1 u)
      have hsz := hb.size
      obtain ⟨old, hold⟩ : ∃ old, wr.cell? ⟨g, k, none⟩ = some (.int .i8 old) := ⟨_, hcell⟩
      have hcl2 : Hid (cz.length = zs.length) := hcl
      clear hT ho hlt1 ho2 hb hcell hyl hcl
      have HC := Lib.hid (sepAt_any cz (some ⟨g2, 0, none⟩) c2 k wr (by rw [hcl2.out]; exact hl) (by rw [hcl2.out]; omega) SL2.out)
      rw [hcl2.out] at HC
      obtain ⟨x, hx⟩ : ∃ x, x = sepAt cz k := ⟨_, rfl⟩
      rw [← hx] at HC
      have HX := Lib.hid hx
      clear hx
      go_wp2_with fail
      refine HC.out.mono ?_
      rintro e w4 ⟨rfl, hb4⟩
      have ho4 := HO.out.below_ hb4
      have hfr4 := ho4.free k
      have hcell4 : w4.cell? ⟨g, k, none⟩ = some (.int .i8 old) := (hb4.cell (p := ⟨g, k, none⟩) hg2).trans hold
      have HR := Lib.hid (show ∀ u, Own (w4.setCell ⟨g, k, none⟩ (.int .i8 u)) 23 w.heap.size (.slice (some ⟨g, 0, none⟩) zs.length c1) (i8s (ys.set k u)) ∧ Own (w4.setCell ⟨g, k, none⟩ (.int .i8 u)) 23 w1.heap.size (.slice (some ⟨g2, 0, none⟩) zs.length c2) (i8s cz) ∧ Below w.heap.size w (w4.setCell ⟨g, k, none⟩ (.int .i8 u)) from
        fun u => ⟨own_set ho4 k u, (HO2.out.below_ hb4).set_other (p := ⟨g, k, none⟩) hgl _, (HB.out.trans (hb4.mono hsz)).setCell (p := ⟨g, k, none⟩) hg1 _⟩)
      clear hb4 ho4 hold
      go_wp2
      go_roundw
      case rel => exact ⟨k + 1, _, by omega, by go_num, HS.out _ HX.out, (HR.out _).1, HL1.out, (HR.out _).2.1, (HR.out _).2.2⟩
      case measure => simp [intOf]; omega
    · have hk' : k = zs.length := by omega
      subst hk'
      have hT2 := hT
      rw [← ECL.out] at hT2
      have hd := hT2.done (out := stepL 4 zs s) (by rw [ES.out, ruleL_length]) (fun j hj => by rw [ES.out]; exact place4 cz s j hj)
      have HO := Lib.hid ho
      rw [hd] at HO
      clear hT hT2 hd ho ho2
      go_wp2
      go_ret
      exact ⟨_, _, rfl, HO.out, hb⟩

set_option maxRecDepth 100000 in
set_option maxHeartbeats 4000000 in
theorem rstep0_any (n0 : Int) (zs : List Int) (A : Option Addr) (c : Nat) (s : Int) (w : World) (hn0 : n0 < 1 ∨ 7 < n0) (hl : zs.length ≤ 140737488351232) (h : Sl w w.heap.size A (i8s zs)) :
    Calls Try.prog 16 #[.int .i64 n0, .slice A zs.length c, .int .i8 s] w fun e w' => ∃ A' c', e = .returned (.slice A' zs.length c') ∧ Own w' 23 w.heap.size (.slice A' zs.length c') (i8s (stepL n0 zs s)) ∧ Below w.heap.size w w' := by
  have n1 : (n0 == 1) = false := by simp; omega
  have n2 : (n0 == 2) = false := by simp; omega
  have n3 : (n0 == 3) = false := by simp; omega
  have n4 : (n0 == 4) = false := by simp; omega
  have n5 : (n0 == 5) = false := by simp; omega
  have n6 : (n0 == 6) = false := by simp; omega
  have n7 : (n0 == 7) = false := by simp; omega
  have HN0 := Lib.hid hn0
  clear hn0
  go_enter Try.func16, Try.ntmps16
  go_wp2_with fail
  refine (listed_any zs A c w hl h).mono ?_
  rintro e w1 ⟨A1, c1, rfl, ho1, hb1⟩
  have h1 := (h.below hb1).more hb1.size
  have B1 := Lib.hid hb1
  have O1 := Lib.hid ho1
  have z1 := hb1.size
  clear ho1 hb1 h
  go_wp2_with fail
  refine (listed_any zs A c w1 hl h1).mono ?_
  rintro e w2 ⟨A2, c2, rfl, ho2, hb2⟩
  have B2 := Lib.hid (B1.out.trans (hb2.mono z1))
  have O2 := Lib.hid ho2
  have P2 := Lib.hid (O1.out.below_ hb2)
  have z2 := hb2.size
  have LT1 := Lib.hid (fun g (hg : (Value.slice A1 zs.length c1).ownBlock = some g) => (O1.out.lt g hg).2)
  have ES : Hid (stepL n0 zs s = ruleL n0 (zs.map clsL) (sosL s)) := rfl
  have ecl : (zs.map clsL).length = zs.length := by simp
  have ECL := Lib.hid ecl
  clear ho2 hb2 h1 ecl
  obtain ⟨cz, hcz⟩ : ∃ cz, cz = zs.map clsL := ⟨_, rfl⟩
  rw [← hcz] at P2 O2 ES ECL
  clear hcz O1
  go_wp2_with fail
  go_loopw [9] (fun i wr => ∃ (k : Nat) (ys : List Int), k ≤ zs.length ∧ i = .int .i64 k ∧ To (fun j => cz.getD j 0) cz ys k ∧ Own wr 23 w.heap.size (.slice A1 zs.length c1) (i8s ys) ∧ (∀ g, (Value.slice A1 zs.length c1).ownBlock = some g → g < w1.heap.size) ∧ Own wr 23 w1.heap.size (.slice A2 zs.length c2) (i8s cz) ∧ Below w.heap.size w wr)
    (fun i _ => zs.length - (intOf i).toNat)
  case atStart => exact ⟨0, cz, by omega, rfl, To.start _ _, P2.out, LT1.out, O2.out, B2.out⟩
  case round =>
    obtain ⟨k, ys, hk, rfl, hT, ho, hlt1, ho2, hb⟩ := hrel
    by_cases hlt : k < zs.length
    · have hyl : ys.length = zs.length := by rw [hT.1, ECL.out]
      have hcl := ECL.out
      obtain ⟨g, rfl, hg1, hg2⟩ := own_form8 ho (by omega)
      obtain ⟨g2, rfl, hg3, hg4⟩ := own_form8 ho2 (by omega)
      have hgl := hlt1 g rfl
      have hcell := own_getD ho (k := k) (by omega)
      have hfr := ho.free k
      have hcell2 := own_getD ho2 (k := k) (by omega)
      have SL2 := Lib.hid ho2.sl
      have HK := Lib.hid (show cz.getD k 0 = (fun j => cz.getD j 0) k → _ from fun hx => hT.skip hx)
      have HS := Lib.hid (fun x hx => hT.store (x := x) (show k < cz.length by omega) hx)
      have HO := Lib.hid ho
      have HOS := Lib.hid (fun x => own_set ho k x)
      have HL1 := Lib.hid hlt1
      have HO2 := Lib.hid ho2
      have HO2S := Lib.hid (fun u => ho2.set_other (p := ⟨g, k, none⟩) hgl u)
      have HB := Lib.hid hb
      have HBS := Lib.hid (fun u => hb.setCell (p := ⟨g, k, none⟩) hg1 u)
      have hsz := hb.size
      obtain ⟨old, hold⟩ : ∃ old, wr.cell? ⟨g, k, none⟩ = some (.int .i8 old) := ⟨_, hcell⟩
      have hcl2 : Hid (cz.length = zs.length) := hcl
      clear hT ho hlt1 ho2 hb hcell hyl hcl
      obtain ⟨z, hz⟩ : ∃ z, z = cz.getD k 0 := ⟨_, rfl⟩
      rw [← hz] at hcell2
      have HZ := Lib.hid hz
      clear hz
      go_wp2
      go_roundw
      case rel => exact ⟨k + 1, ys, by omega, by go_num, HK.out (by rfl), HO.out, HL1.out, HO2.out, HB.out⟩
      case measure => simp [intOf]; omega
    · have hk' : k = zs.length := by omega
      subst hk'
      have hT2 := hT
      rw [← ECL.out] at hT2
      have hd := hT2.done (out := stepL n0 zs s) (by rw [ES.out, ruleL_length]) (fun j hj => by rw [ES.out]; exact place0 n0 cz s HN0.out j)
      have HO := Lib.hid ho
      rw [hd] at HO
      clear hT hT2 hd ho ho2
      go_wp2
      go_ret
      exact ⟨_, _, rfl, HO.out, hb⟩

theorem rstep_any (n : Int) (zs : List Int) (A : Option Addr) (c : Nat) (s : Int) (w : World) (hl : zs.length ≤ 140737488351232) (h : Sl w w.heap.size A (i8s zs)) :
    Calls Try.prog 16 #[.int .i64 n, .slice A zs.length c, .int .i8 s] w fun e w' => ∃ A' c', e = .returned (.slice A' zs.length c') ∧ Own w' 23 w.heap.size (.slice A' zs.length c') (i8s (stepL n zs s)) ∧ Below w.heap.size w w' := by
  by_cases hn : n < 1 ∨ 7 < n
  · exact rstep0_any n zs A c s w hn hl h
  · obtain rfl | rfl | rfl | rfl | rfl | rfl | rfl : n = 1 ∨ n = 2 ∨ n = 3 ∨ n = 4 ∨ n = 5 ∨ n = 6 ∨ n = 7 := by omega
    · exact rstep1_any zs A c s w hl h
    · exact rstep2_any zs A c s w hl h
    · exact rstep3_any zs A c s w hl h
    · exact rstep4_any zs A c s w hl h
    · exact rstep5_any zs A c s w hl h
    · exact rstep6_any zs A c s w hl h
    · exact rstep7_any zs A c s w hl h
end Go.Proofs.Ytlomcnmijfiihaa
