/- LevelBase: the walk of the law. -/
import Derived.Test.YtikgjnfimagpjaaLref4
namespace Go.Proofs.Ytikgjnfimagpjaa
open Go.RowKit
/-- slices that stay while another one is written and grown -/
structure Keep (w0 w : World) (L : List (TypeId × Value × List Value)) (va : Value) : Prop where
  own : ∀ x ∈ L, Own w x.1 w0.heap.size x.2.1 x.2.2
  far : ∀ x ∈ L, ∀ g, va.ownBlock = some g → x.2.1.ownBlock ≠ some g
  base : ∀ g, va.ownBlock = some g → w0.heap.size ≤ g
  below : Below w0.heap.size w0 w
theorem Keep.step {w0 w w' : World} {L : List (TypeId × Value × List Value)} {va va' : Value} (h : Keep w0 w L va) (hs : Stay va.ownBlock.toList w w') (hv : va'.ownBlock = va.ownBlock ∨ ∃ g, va'.ownBlock = some g ∧ w.heap.size ≤ g) : Keep w0 w' L va' := by
  refine ⟨fun x hx => Stay.own hs (h.own x hx) fun g hg hm => h.far x hx g (by simpa using hm) hg, fun x hx g hg => ?_, fun g hg => ?_, h.below.trans (hs.toBelow h.below.size fun g hg => h.base g (by simpa using hg))⟩
  · rcases hv with hv | ⟨y, hy, hz⟩
    · exact h.far x hx g (by rw [← hv]; exact hg)
    · rw [hg] at hy
      injection hy with hy
      subst hy
      intro e
      have := ((h.own x hx).lt g e).2
      omega
  · rcases hv with hv | ⟨y, hy, hz⟩
    · exact h.base g (by rw [← hv]; exact hg)
    · rw [hg] at hy
      injection hy with hy
      subst hy
      have := h.below.size
      omega
theorem Keep.quiet {w0 w w' : World} {L : List (TypeId × Value × List Value)} {va : Value} (h : Keep w0 w L va) (hb : Below w.heap.size w w') : Keep w0 w' L va := h.step (Stay.below hb) (.inl rfl)
theorem Keep.alloc {w0 w : World} {L : List (TypeId × Value × List Value)} {va : Value} (h : Keep w0 w L va) (o : Obj) : Keep w0 (w.alloc o) L va := h.step (Stay.alloc _ _) (.inl rfl)
theorem Keep.grow {w0 w w' : World} {L : List (TypeId × Value × List Value)} {va va' : Value} (h : Keep w0 w L va) (ha : Appended w w' va va') : Keep w0 w' L va' := by
  obtain ⟨hs, hv⟩ := appended_stay ha
  exact h.step hs hv
theorem Keep.set {w0 w : World} {L : List (TypeId × Value × List Value)} {g n c k : Nat} {u : Value} (h : Keep w0 w L (.slice (some ⟨g, 0, none⟩) n c)) : Keep w0 (w.setCell ⟨g, k, none⟩ u) L (.slice (some ⟨g, 0, none⟩) n c) :=
  h.step (Stay.setCell _ _ _ (by simp [Value.ownBlock])) (.inl rfl)
set_option maxRecDepth 100000 in
set_option maxHeartbeats 8000000 in
theorem baselaw_any (zs : List Int) (A : Option Addr) (c : Nat) (want : Int) (w : World) (hl : zs.length < 1048576) (h : Sl w w.heap.size A (ints .i8 zs)) :
    Calls Try.prog 3 #[.slice A zs.length c, .int .i8 want] w fun e w' => e = .returned (.bool true) ∧ Below w.heap.size w w' := by
  obtain ⟨i3, hi3, hz30, hz31, hz32⟩ := info_parts info3
  have HS := Lib.hid h
  have HPL := Lib.hid (pairsL_length zs)
  go_enter Try.func3, Try.ntmps3
  go_wp2_with fail
  refine (lent_any zs A c w (by omega) h).mono ?_
  rintro e w1 ⟨gm, cm, rfl, hcm1, hcm2, hmo, hb1⟩
  have HB1 := Lib.hid hb1
  have HMO := Lib.hid hmo
  have hs1 := (h.below hb1).more hb1.size
  have z1 := hb1.size
  clear hmo hb1 h
  go_wp2_with fail
  refine (rpairs_any zs A c w1 (by omega) hs1).mono ?_
  rintro e w2 ⟨PA, pc, rfl, hpo, hb2⟩
  have HPO := Lib.hid (own_mono hpo z1)
  have HMO2 := Lib.hid (HMO.out.below_ hb2)
  have hms : Sl w2 w2.heap.size (some ⟨gm, 0, none⟩) (ints .i8 zs) := by
    have := HMO2.out.sl
    rw [ints_app] at this
    exact sl_prefix this
  have HB2 := Lib.hid (HB1.out.trans (hb2.mono z1))
  have hpm := Lib.hid (show ∀ x, (Value.slice PA zs.length pc).ownBlock = some x → x < w2.heap.size from fun x hx => (hpo.lt x hx).2)
  have hgm2 := Lib.hid (own_in HMO2.out).2
  have z2 := hb2.size
  clear hpo hb2 hs1
  go_wp2_with fail
  refine (pairs_any zs (some ⟨gm, 0, none⟩) cm w2 hl hms).mono ?_
  rintro e w3 ⟨rfl, hao, hb3⟩
  have HAO := Lib.hid (own_mono hao HB2.out.size)
  have HMO3 := Lib.hid (HMO2.out.below_ hb3)
  have HPO3 := Lib.hid (HPO.out.below_ hb3)
  have hms3 : Sl w3 w3.heap.size (some ⟨gm, 0, none⟩) (ints .i8 zs) := by
    have := HMO3.out.sl
    rw [ints_app] at this
    exact sl_prefix this
  have HB3 := Lib.hid (HB2.out.trans (hb3.mono HB2.out.size))
  have hga3 := Lib.hid (own_in HAO.out).2
  have z3 := hb3.size
  clear hao hb3 hms
  go_wp2_with fail
  refine (pairs_any zs (some ⟨gm, 0, none⟩) cm w3 hl hms3).mono ?_
  rintro e w4 ⟨rfl, hbo, hb4⟩
  have HBO := Lib.hid (own_mono hbo HB3.out.size)
  obtain ⟨pr, hpr⟩ : ∃ pr, pr = pairsL zs := ⟨_, rfl⟩
  rw [← hpr] at HPL HPO HPO3 HAO HBO
  have HA4 := Lib.hid (HAO.out.below_ hb4)
  have HKp := Lib.hid (show Keep w w4 [(23, .slice (some ⟨gm, 0, none⟩) (zs.length + 2) cm, ints .i8 (zs ++ [77, 78])), (3, .slice PA zs.length pc, ints .i64 pr), (3, .slice (some ⟨w3.heap.size, 0, none⟩) zs.length zs.length, ints .i64 pr)] (.slice (some ⟨w2.heap.size, 0, none⟩) zs.length zs.length) from by
    have g1 := hgm2.out
    have g3 := hga3.out
    refine ⟨?_, ?_, ?_, HB3.out.trans (hb4.mono HB3.out.size)⟩
    · intro x hx
      simp only [List.mem_cons, List.not_mem_nil, or_false] at hx
      rcases hx with rfl | rfl | rfl
      · exact HMO3.out.below_ hb4
      · exact HPO3.out.below_ hb4
      · exact HBO.out
    · intro x hx g hg
      have hg' : w2.heap.size = g := by simpa [Value.ownBlock] using hg
      subst hg'
      simp only [List.mem_cons, List.not_mem_nil, or_false] at hx
      rcases hx with rfl | rfl | rfl
      · simp [Value.ownBlock]; omega
      · intro e
        have := hpm.out _ e
        omega
      · simp [Value.ownBlock]; omega
    · intro g hg
      have hg' : w2.heap.size = g := by simpa [Value.ownBlock] using hg
      omega)
  clear hbo hb4 hms3 hpr HMO HMO2 HMO3 HPO HPO3 HAO HBO hpm hgm2 hga3 HB1 HB2 HB3
  have hlen : pr.length = zs.length := HPL.out
  have HC := Lib.hid (fun (A1 A2 : Option Addr) (c1 c2 : Nat) (w' : World) (h1 : Sl w' w'.heap.size A1 (ints .i64 pr)) (h2 : Sl w' w'.heap.size A2 (ints .i64 pr)) => by
    have := sameints_any pr pr A1 A2 c1 c2 w' (by omega) (by omega) h1 h2
    rw [decide_eq_true (rfl : pr = pr), hlen] at this
    exact this : ∀ (A1 A2 : Option Addr) (c1 c2 : Nat) (w' : World), Sl w' w'.heap.size A1 (ints .i64 pr) → Sl w' w'.heap.size A2 (ints .i64 pr) → Calls Try.prog 13 #[.slice A1 zs.length c1, .slice A2 zs.length c2] w' fun e w'' => e = .returned (.bool true) ∧ Below w'.heap.size w' w'')
  go_wp2_with fail
  refine (HC.out _ _ _ _ w4 HA4.out.sl (HKp.out.own (3, .slice PA zs.length pc, ints .i64 pr) (by simp)).sl).mono ?_
  rintro e w5 ⟨rfl, hb5⟩
  have HK5 := Lib.hid (HKp.out.quiet hb5)
  have HA5 := Lib.hid (HA4.out.below_ hb5)
  clear hb5 HKp HA4
  go_wp2_with fail
  refine (HC.out _ _ _ _ w5 (HK5.out.own (3, .slice (some ⟨w3.heap.size, 0, none⟩) zs.length zs.length, ints .i64 pr) (by simp)).sl (HK5.out.own (3, .slice PA zs.length pc, ints .i64 pr) (by simp)).sl).mono ?_
  rintro e w6 ⟨rfl, hb6⟩
  have HK6 := Lib.hid (HK5.out.quiet hb6)
  have HA6 := Lib.hid (HA5.out.below_ hb6)
  clear hb6 HK5 HA5
  go_wp2_with fail
  go_loopw [9] (fun i wr => ∃ (k : Nat) (ys : List Int), k ≤ zs.length ∧ i = .int .i64 k ∧ Hid (ys.length = zs.length) ∧ Own wr 3 w.heap.size (.slice (some ⟨w2.heap.size, 0, none⟩) zs.length zs.length) (ints .i64 ys) ∧
      Keep w wr [(23, .slice (some ⟨gm, 0, none⟩) (zs.length + 2) cm, ints .i8 (zs ++ [77, 78])), (3, .slice PA zs.length pc, ints .i64 pr), (3, .slice (some ⟨w3.heap.size, 0, none⟩) zs.length zs.length, ints .i64 pr)] (.slice (some ⟨w2.heap.size, 0, none⟩) zs.length zs.length))
    (fun i _ => zs.length - (intOf i).toNat)
  case atStart => exact ⟨0, pr, by omega, rfl, hlen, HA6.out, HK6.out⟩
  case round =>
    obtain ⟨k, ys, hk, rfl, HL, ho, hkp⟩ := hrel
    by_cases hlt : k < zs.length
    · have hcell := own_at ho (i := k) (by rw [HL.out]; exact hlt)
      have hfr := ho.free k
      have HO := Lib.hid (own_put ho k (-7))
      have HK := Lib.hid (hkp.set (k := k) (u := .int .i64 (-7)))
      have hk1 : (k : Int) < zs.length := by omega
      clear ho hkp HK6 HA6
      go_wp2_with fail
      go_roundw
      case rel => exact ⟨k + 1, _, by omega, by go_num, by show _ = _; rw [List.length_set]; exact HL.out, HO.out, HK.out⟩
      case measure => simp [intOf]; omega
    · have hk' : k = zs.length := by omega
      subst hk'
      have HO := Lib.hid ho
      have HK := Lib.hid hkp
      clear ho hkp HK6 HA6
      go_wp2_with fail
      go_loopw [7, 10] (fun av i wr2 => ∃ (j : Nat) (X : Option Addr) (xc : Nat) (ys2 : List Int), j ≤ 30 ∧ i = .int .i64 j ∧ av = .slice X (zs.length + j) xc ∧ Hid (ys2.length = zs.length + j) ∧ Own wr2 3 w.heap.size (.slice X (zs.length + j) xc) (ints .i64 ys2) ∧
          Keep w wr2 [(23, .slice (some ⟨gm, 0, none⟩) (zs.length + 2) cm, ints .i8 (zs ++ [77, 78])), (3, .slice PA zs.length pc, ints .i64 pr), (3, .slice (some ⟨w3.heap.size, 0, none⟩) zs.length zs.length, ints .i64 pr)] (.slice X (zs.length + j) xc))
        (fun _ i _ => 30 - (intOf i).toNat)
      case atStart => exact ⟨0, _, _, ys, by omega, rfl, rfl, HL.out, HO.out, HK.out⟩
      case round =>
        obtain ⟨j, X, xc, ys2, hj, rfl, rfl, HL2, ho, hkp⟩ := hrel
        by_cases hlj : j < 30
        · have H0 := Lib.hid ho
          have HKj := Lib.hid hkp
          have HYl := Lib.hid (show (ints .i64 ys2).length = zs.length + j from by rw [ints_length]; exact HL2.out)
          have hbz := hkp.below.size
          clear ho hkp HO HK
          go_wp2_with (first
            | (at_builtin; refine wpList_append_sl2 _ rfl (.tmp 42) (.tmp 43) 25 rfl w.heap.size 3 i3 _ 8 Try.underlying25 hi3 hz30 hz31 hz32 rfl (.slice X (zs.length + j) xc) (zs.length + j) _ HYl.out rfl (H0.out.alloc _) _ _ _ 1 [.int .i64 (-8)] rfl rfl (sl_one _ _ _) (one_int _ _) (by unfold maxLen; omega) (by omega) (by rw [size_alloc']; omega) ?_; intro X2 xc2 w8 ho8 ha8
               have HK8 := Lib.hid ((HKj.out.alloc _).grow ha8)
               have HO8 := Lib.hid ho8
               clear ho8 ha8))
          go_roundw
          case rel => exact ⟨j + 1, X2, xc2, ys2 ++ [-8], by omega, by go_num, rfl, by show _ = _; simp [HL2.out]; omega, by rw [← ints_snoc]; exact HO8.out, HK8.out⟩
          case measure => simp [intOf]; omega
        · have hj' : j = 30 := by omega
          subst hj'
          have HK7 := Lib.hid hkp
          clear ho hkp HO HK
          go_wp2_with fail
          refine (HC.out _ _ _ _ _ (HK7.out.own (3, .slice (some ⟨w3.heap.size, 0, none⟩) zs.length zs.length, ints .i64 pr) (by simp)).sl (HK7.out.own (3, .slice PA zs.length pc, ints .i64 pr) (by simp)).sl).mono ?_
          rintro e w9 ⟨rfl, hb9⟩
          have HK9 := Lib.hid (HK7.out.quiet hb9)
          have hms9 : Sl w9 w9.heap.size (some ⟨gm, 0, none⟩) (ints .i8 zs) := by
            have := (HK9.out.own (23, .slice (some ⟨gm, 0, none⟩) (zs.length + 2) cm, ints .i8 (zs ++ [77, 78])) (by simp)).sl
            rw [ints_app] at this
            exact sl_prefix this
          have HBa := Lib.hid (base_any zs (some ⟨gm, 0, none⟩) cm want w9 (by omega) (by omega) hcm2 hms9)
          have hs9 := (HS.out.below HK9.out.below).more HK9.out.below.size
          have HRB := Lib.hid (rbase_any zs A c want w9 (by omega) hs9)
          obtain ⟨bv, hbv⟩ : ∃ bv, bv = baseL zs want := ⟨_, rfl⟩
          rw [← hbv] at HBa HRB
          clear hb9 HK7 hms9 hs9 hbv
          go_wp2_with fail
          refine HBa.out.mono ?_
          rintro e w' ⟨rfl, rfl⟩
          go_wp2_with fail
          refine HRB.out.mono ?_
          rintro e w10 ⟨rfl, hb10⟩
          have HK10 := Lib.hid (HK9.out.quiet hb10)
          clear hb10 HK9 HBa HRB
          go_wp2_with fail
          refine (kept_any zs gm w.heap.size A c cm w10 (by omega) (HK10.out.own (23, .slice (some ⟨gm, 0, none⟩) (zs.length + 2) cm, ints .i8 (zs ++ [77, 78])) (by simp)) ((HS.out.below HK10.out.below).more HK10.out.below.size)).mono ?_
          rintro e w11 ⟨rfl, hb11⟩
          have HB11 := Lib.hid (HK10.out.below.trans (hb11.mono HK10.out.below.size))
          clear hb11 HK10
          go_wp2_with fail
          refine (wakes_any w11).mono ?_
          rintro e w12 ⟨rfl, hb12⟩
          go_wp2_with fail
          go_ret
          exact ⟨rfl, HB11.out.trans (hb12.mono HB11.out.size)⟩
end Go.Proofs.Ytikgjnfimagpjaa
