/- shuttlelaw19: told (21): the walk. -/
import Derived.Test.YtbnaglkhbgfchaaMtold0
import Derived.ChangeKeysEq
namespace Go.Proofs.Ytbnaglkhbgfchaa
open Go.RowKit
theorem mk_neq (a1 a2 a3 a5 : Int) (a4 : Bool) (w : World) : (binOp .neq 35 (.agg #[.int .i64 a1, .int .i64 a2, .int .i64 a3, .bool a4, .int .u16 a5]) (.agg #[.int .i64 a1, .int .i64 a2, .int .i64 a3, .bool a4, .int .u16 a5])).run Try.prog w = .ok (.bool false) w := by
  have hS : Try.prog.underlying 35 = some (.struct (Try.prog.fieldsOf 35)) := by kernel_rfl
  have hp : Try.prog.stoodInHeld 35 = false := by kernel_rfl
  rw [run_neq_struct, show (10000 : Nat) = 9999 + 1 from rfl, run_equalIn_agg w 9999 35 _ _ hS hp]
  simp only [Program.fieldsOf, Try.underlying35]
  go_simp
theorem arr_eql (a b c : Int) (w : World) : (binOp .eql 74 (.agg #[.int .u16 a, .int .u16 b, .int .u16 c]) (.agg #[.int .u16 a, .int .u16 b, .int .u16 c])).run Try.prog w = .ok (.bool true) w := by
  obtain ⟨i, hi, _⟩ := info_parts info33
  have hc : Try.prog.cellsOf 33 = 1 := by kernel_rfl
  have hh : ∀ v1 v2 v3 : Value, (part 33 #[v1, v2, v3] 0).run Try.prog w = .ok v1 w ∧ (part 33 #[v1, v2, v3] 1).run Try.prog w = .ok v2 w ∧ (part 33 #[v1, v2, v3] 2).run Try.prog w = .ok v3 w := fun v1 v2 v3 => ⟨by kernel_rfl, by kernel_rfl, by kernel_rfl⟩
  obtain ⟨h1, h2, h3⟩ := hh (.int .u16 a) (.int .u16 b) (.int .u16 c)
  have he : ∀ x, (Op.equalIn 9999 33 (.int .u16 x) (.int .u16 x)).run Try.prog w = .ok true w := fun x => by
    rw [show (9999 : Nat) = 9998 + 1 from rfl, run_equalIn_int w 9998 33 .u16 .u16 _ _ Try.underlying33]
    simp
  rw [run_eql_struct, show (10000 : Nat) = 9999 + 1 from rfl, run_equalIn_array w 9999 _ _ (show Try.prog.underlying 74 = some (.array 3 33) by kernel_rfl) hi, hc, show List.range 3 = [0, 1, 2] from rfl]
  simp only [Op.eqItems, Nat.mul_one, Sem.run_bind, h1, h2, h3, he, Result.andThen_ok, Bool.not_true, Bool.false_eq_true, if_false, Sem.run_pure]
theorem arr_guard : Try.prog.eqGuardType Try.prog.depth 74 = false := by kernel_rfl
theorem mk_guard : Try.prog.eqGuardType Try.prog.depth 35 = false := by kernel_rfl
set_option maxRecDepth 20000 in
set_option maxHeartbeats 16000000 in
theorem told_any {w : World} {sb mb ck : Nat} {L : List EN} {last : Int} (h : SetAt w sb mb L ck last) (n a : Int) (hn : 0 ≤ n ∧ n ≤ 4611686018427387904) (ha : 0 ≤ a ∧ a ≤ 1152921504606846976) (hin : ∀ x ∈ L, x.st.e ≤ n) (hL : L.length ≤ 4096) :
    Calls Try.prog 21 #[.pointer (some ⟨sb, 0, none⟩), .int .i64 n, .int .i64 a] w fun e w' => e = .returned (.bool true) ∧ Stay [] w w' := by
  have hni : ((L.map EN.mk_).map (·.id)).Nodup := by rw [List.map_map]; exact h.m.ni
  have hall : (L.filter fun x => overP x.st 0 n) = L := List.filter_eq_self.2 (fun x hx => by
    have h1 := h.ok x hx
    have h2 := hin x hx
    obtain ⟨k0, k1, k2⟩ := h1
    unfold overP
    by_cases c1 : x.st.b < x.st.e ∧ 0 < n
    · rw [if_pos c1]; simp; omega
    · rw [if_neg c1]
      by_cases c2 : n = 0
      · rw [if_pos c2]; simp; omega
      · rw [if_neg c2]; simp; omega)
  have H1 := Lib.hid (mover_any h 0 n (by omega) hn.1 hL)
  rw [hall] at H1
  have HH := Lib.hid h
  have HNi := Lib.hid hni
  have HA := Lib.hid ha
  have HLl := Lib.hid hL
  clear h hni hall hn ha hin hL
  go_enter Try.func21, Try.ntmps21
  go_wp2_with fail
  refine H1.out.mono ?_
  rintro e w1 ho
  obtain ⟨A, c, D, rfl, hDp, hDs, hDm, hs1⟩ := over_list ho HNi.out
  have HD := Lib.hid (And.intro hDp (And.intro hDs hDm))
  have HS1 := Lib.hid hs1
  have H2 := Lib.hid (mover_any (HH.out.stay0 hs1) a 3 (by have := HA.out; omega) (by omega) HLl.out)
  clear ho hDp hDs hDm hs1 H1
  go_wp2_with fail
  refine H2.out.mono ?_
  rintro e w2 ho
  obtain ⟨A2, c2, E, rfl, hEp, hEs, hEm, hs2⟩ := over_list ho (by
    rw [filter_mk]
    exact HNi.out.sublist ((List.filter_sublist).map _))
  rw [filter_mk] at hEp
  have hE : E = D.filter (ovM a 3) := some_eq HD.out.2.1 hEs (hEp.trans (HD.out.1.symm.filter _))
  have HE := Lib.hid (And.intro hE hEm)
  have HS2 := Lib.hid (HS1.out.trans hs2)
  have HDm := Lib.hid (HD.out.2.2.stay hs2 (by simp))
  have H3 := Lib.hid (show Calls Try.prog 18 #[.pointer (some ⟨sb, 0, none⟩), .int .i64 a, .int .i64 3] w2 (Styled w2 a 3 L) from styles_any (HH.out.stay0 HS2.out) a 3 (by omega) (by have := HA.out; omega))
  clear ho hEp hEs hEm hs2 hE H2
  go_wp2_with fail
  refine H3.out.mono ?_
  rintro e w3 ⟨b1, O, rfl, hOp, hOb, hb1, hs3⟩
  have hst : ∀ j, stF a O j = tellM a D j := fun j => by
    rw [tell_of]
    exact tell_perm ((hOp.map EN.mk_).trans HD.out.1.symm) (((hOp.map EN.mk_).map (·.id)).nodup_iff.2 HNi.out) j
  have HO := Lib.hid (show Blk w3 b1 (stsL 3 (tellM a D)) 33 from by
    rw [← sts_congr (f := stF a O) (fun j _ => hst j)]
    exact hOb)
  have HS3 := Lib.hid (HS2.out.trans hs3)
  have HDm3 := Lib.hid (HDm.out.stay hs3 (by simp))
  have HEm3 := Lib.hid (HE.out.2.stay hs3 (by simp))
  clear hOp hOb hb1 hs3 hst H3 HDm
  go_upto_region 8 with fail
  obtain ⟨W4, hW4⟩ : ∃ W, W = (w3.alloc (.cells #[.int .u16 0, .int .u16 0, .int .u16 0] 74)).alloc (.cells #[.int .i64 0, .int .i64 0, .int .i64 0] 75) := ⟨_, rfl⟩
  obtain ⟨hbw, hbi, hs4⟩ := two_news w3 [.int .u16 0, .int .u16 0, .int .u16 0] [.int .i64 0, .int .i64 0, .int .i64 0] 74 75
  rw [← hW4] at hbw hbi hs4
  obtain ⟨bw, hbwe⟩ : ∃ b, b = w3.heap.size := ⟨_, rfl⟩
  obtain ⟨bi, hbie⟩ : ∃ b, b = w3.heap.size + 1 := ⟨_, rfl⟩
  rw [← hW4, ← hbie, ← hbwe]
  rw [← hbwe] at hbw
  rw [← hbie] at hbi
  have HBw := Lib.hid (show Blk W4 bw (stsL 3 (tellM a (D.take 0))) 74 from hbw)
  have HBi := Lib.hid (show Blk W4 bi (idsL 3 (tellM a (D.take 0))) 75 from hbi)
  have HNw := Lib.hid (show w3.heap.size ≤ bw ∧ w3.heap.size ≤ bi ∧ w3.heap.size ≤ W4.heap.size from ⟨by omega, by omega, hs4.size⟩)
  have HS4 := Lib.hid (show Stay [bw, bi] w3 W4 from hs4.mono (by simp))
  clear hW4 hbw hbi hs4 hbwe hbie
  go_wp2_with fail
  go_loopw [12, 13] (fun sv iv wr => ∃ i sn : Nat, iv = .int .i64 i ∧ sv = .int .i64 sn ∧ i ≤ D.length ∧ Hid (sn = ((D.take i).filter (ovM a 3)).length) ∧ Hid (Stay [bw, bi] w3 wr) ∧ Hid (Blk wr bw (stsL 3 (tellM a (D.take i))) 74) ∧ Hid (Blk wr bi (idsL 3 (tellM a (D.take i))) 75))
    (fun _ iv _ => D.length - (intOf iv).toNat)
  case atStart => exact ⟨0, 0, rfl, rfl, Nat.zero_le _, rfl, HS4, HBw, HBi⟩
  case round =>
    clear HBw HBi HS4
    obtain ⟨i, sn, rfl, rfl, hi, HSn, HSr, HBw, HBi⟩ := hrel
    have HSw := Lib.hid (show Stay [] w wr from HS3.out.trans' HSr.out (fun g hg => .inr (by have := HNw.out; have := HS3.out.size; simp at hg; omega)))
    by_cases hc1 : i < D.length
    · have hc1' : (i : Int) < D.length := by omega
      have hmem : D[i] ∈ L.map EN.mk_ := HD.out.1.subset (List.getElem_mem hc1)
      obtain ⟨x, hx, hxm⟩ := List.mem_map.1 hmem
      have hok := HH.out.ok x hx
      have hg := get_there (HH.out.stay0 HSw.out) hx
      obtain ⟨id, ⟨xb, xe, xg, xs⟩, bn⟩ := x
      have hxm' : D[i] = ⟨id, xb, xe - xb, xg, xs⟩ := hxm.symm
      have hgi : D[i]? = some ⟨id, xb, xe - xb, xg, xs⟩ := by rw [List.getElem?_eq_getElem hc1, hxm']
      obtain ⟨k0, k1, k2⟩ := hok
      simp only at k0 k1 k2
      have HK := Lib.hid (show 0 ≤ xb ∧ xb ≤ xe ∧ xe ≤ 1152921504606846976 from ⟨k0, k1, k2⟩)
      have HGi := Lib.hid hgi
      have HG := Lib.hid hg
      obtain ⟨g, o, rfl, hg1, hg2, hgc⟩ := HDm3.out (fun e => by rw [e] at hc1; simp at hc1)
      have HGc := Lib.hid (show ∀ u, Stay [bw, bi] w3 u → ∀ q m, D[q]? = some m → ∀ j y, m.cells[j]? = some y → u.cell? ⟨g, o + (q * 5 + j), none⟩ = some y from fun u hu q m hq j y hy => by
        obtain ⟨hq1, rfl⟩ := List.getElem?_eq_some_iff.1 hq
        rw [hu.cell_ (a := ⟨g, _, none⟩) hg2 (by have := HNw.out; simp; omega)]
        exact hgc q hq1 j y hy)
      have p0 : wr.cell? ⟨g, o + (i * 5 + 0), none⟩ = some (.int .i64 id) := HGc.out wr HSr.out i _ hgi 0 _ rfl
      rw [Nat.add_zero] at p0
      have hi0 : (0 : Int) ≤ i := by omega
      clear hmem hx hxm hg hxm' hgi k0 k1 k2 hg1 hg2 hgc
      simp only at HG
      go_wp2_with fail
      refine HG.out.mono ?_
      rintro e v1 ⟨rfl, hv1⟩
      obtain ⟨V, hV⟩ : ∃ W, W = v1.alloc (.cells #[.int .i64 id, .int .i64 xb, .int .i64 (xe - xb), .bool xg, .int .u16 xs] 35) := ⟨_, rfl⟩
      have hv2 : Stay [] v1 V := by rw [hV]; exact Stay.alloc _ _
      have hbm : Blk V v1.heap.size [.int .i64 id, .int .i64 xb, .int .i64 (xe - xb), .bool xg, .int .u16 xs] 35 := by rw [hV]; exact Blk.new v1 _ _
      obtain ⟨bm, hbme⟩ : ∃ b, b = v1.heap.size := ⟨_, rfl⟩
      rw [← hbme] at hbm
      have HBm := Lib.hid hbm
      have HVs := Lib.hid ((HSr.out.trans (hv1.mono (by simp))).trans (hv2.mono (by simp)))
      have HVw := Lib.hid ((HBw.out.stay hv1 (by simp)).stay hv2 (by simp))
      have HVi := Lib.hid ((HBi.out.stay hv1 (by simp)).stay hv2 (by simp))
      have HV := Lib.hid hV
      have HBme := Lib.hid hbme
      have c0 : V.cell? ⟨bm, 0, none⟩ = some (.int .i64 id) := hbm.cell 0
      have c1 : V.cell? ⟨bm, 1, none⟩ = some (.int .i64 xb) := hbm.cell 1
      have c2 : V.cell? ⟨bm, 2, none⟩ = some (.int .i64 (xe - xb)) := hbm.cell 2
      have c3 : V.cell? ⟨bm, 3, none⟩ = some (.bool xg) := hbm.cell 3
      have c4 : V.cell? ⟨bm, 4, none⟩ = some (.int .u16 xs) := hbm.cell 4
      have p0 : V.cell? ⟨g, o + (i * 5 + 0), none⟩ = some (.int .i64 id) := HGc.out V HVs.out i _ HGi.out 0 _ rfl
      have p1 : V.cell? ⟨g, o + (i * 5 + 1), none⟩ = some (.int .i64 xb) := HGc.out V HVs.out i _ HGi.out 1 _ rfl
      have p2 : V.cell? ⟨g, o + (i * 5 + 2), none⟩ = some (.int .i64 (xe - xb)) := HGc.out V HVs.out i _ HGi.out 2 _ rfl
      have p3 : V.cell? ⟨g, o + (i * 5 + 3), none⟩ = some (.bool xg) := HGc.out V HVs.out i _ HGi.out 3 _ rfl
      have p4 : V.cell? ⟨g, o + (i * 5 + 4), none⟩ = some (.int .u16 xs) := HGc.out V HVs.out i _ HGi.out 4 _ rfl
      simp only [Nat.add_zero, ← Nat.add_assoc] at p0 p1 p2 p3 p4
      clear hv1 hV hv2 hbm hbme HG HSr HBw HBi
      go_upto_region 13 with fail
      rw [← HV.out, ← HBme.out]
      clear HSw
      go_cut [95] (fun bv wx => bv = .bool false ∧ Below V.heap.size V wx)
      case first => as_aux_lemma =>
        have hneq := mk_neq id xb (xe - xb) xs xg
        have hgu := mk_guard
        have hnl : decide (D.length ≤ i) = false := decide_eq_false (by omega)
        by_cases hz : i = 0
        · have q1 : decide ((0 : Int) < i) = false := decide_eq_false (by omega)
          have q2 : decide (0 < i) = false := decide_eq_false (by omega)
          clear hz
          go_wp2_with fail
          go_quiet (fail)
          go_wp2_with fail
          go_meet
          exact ⟨rfl, below_drewN' (Below.refl _ _) _⟩
        · obtain ⟨q, hq⟩ : ∃ q, i = q + 1 := ⟨i - 1, by omega⟩
          have hqD : q < D.length := by omega
          have hle := List.pairwise_iff_getElem.1 HD.out.2.1 q i hqD hc1 (by omega)
          rw [(List.getElem?_eq_some_iff.1 HGi.out).2] at hle
          have hgq : D[q]? = some D[q] := List.getElem?_eq_getElem hqD
          obtain ⟨⟨pid, pa, pn, pg, ps⟩, hpm⟩ : ∃ m, m = D[q] := ⟨_, rfl⟩
          rw [← hpm] at hle hgq
          have r0 : V.cell? ⟨g, o + (q * 5 + 0), none⟩ = some (.int .i64 pid) := HGc.out V HVs.out q _ hgq 0 _ rfl
          have r1 : V.cell? ⟨g, o + (q * 5 + 1), none⟩ = some (.int .i64 pa) := HGc.out V HVs.out q _ hgq 1 _ rfl
          simp only [Nat.add_zero, ← Nat.add_assoc] at r0 r1
          have q1 : decide ((0 : Int) < i) = true := decide_eq_true (by omega)
          have q2 : decide (0 < i) = true := decide_eq_true (by omega)
          have hwq : IntKind.i64.wrap ((i : Int) - 1) = q := by
            have := HLl.out
            have h9 : D.length ≤ L.length := by rw [HD.out.1.length_eq, List.length_map]; exact Nat.le_refl _
            rw [show (i : Int) - 1 = q by omega]
            simp only [IntKind.wrap, IntKind.bits, IntKind.signed]; simp; omega
          have hnq : decide (D.length ≤ q) = false := decide_eq_false (by omega)
          have hq0 : (0 : Int) ≤ q := by omega
          have hqi : (q : Int) < D.length := by omega
          unfold leM at hle
          simp only at hle
          clear hz hq hqD hpm hgq
          rcases hle with hle | ⟨hle, hle2⟩
          · have u1 : decide (xb < pa) = false := decide_eq_false (by omega)
            have u2 : decide (pa = xb) = false := decide_eq_false (by omega)
            have u4 : (pa == xb) = false := by simp; omega
            clear hle
            go_wp2_with fail
            go_quiet (fail)
            go_wp2_with fail
            go_meet
            exact ⟨rfl, below_drewN' (Below.refl _ _) _⟩
          · have u2 : decide (id ≤ pid) = false := decide_eq_false (by omega)
            have u1 : decide (xb < pa) = false := decide_eq_false (by omega)
            have u3 : decide (pa = xb) = true := decide_eq_true hle
            have u4 : (pa == xb) = true := by simpa using hle
            clear hle2 hle
            go_wp2_with fail
            go_quiet (fail)
            go_wp2_with fail
            go_meet
            exact ⟨rfl, below_drewN' (Below.refl _ _) _⟩
      case rest =>
        obtain ⟨rfl, hbx⟩ := hcut
        obtain ⟨X, hX⟩ : ∃ x, x = wc := ⟨_, rfl⟩
        rw [← hX] at hbx ⊢
        have hsx : Stay [] V X := Stay.below hbx
        have HXs := Lib.hid (HVs.out.trans (hsx.mono (by simp)))
        have HXw := Lib.hid (HVw.out.stay hsx (by simp))
        have HXi := Lib.hid (HVi.out.stay hsx (by simp))
        have HXm := Lib.hid (HBm.out.stay hsx (by simp))
        have c0 : X.cell? ⟨bm, 0, none⟩ = some (.int .i64 id) := HXm.out.cell 0
        have c1 : X.cell? ⟨bm, 1, none⟩ = some (.int .i64 xb) := HXm.out.cell 1
        have c2 : X.cell? ⟨bm, 2, none⟩ = some (.int .i64 (xe - xb)) := HXm.out.cell 2
        have c3 : X.cell? ⟨bm, 3, none⟩ = some (.bool xg) := HXm.out.cell 3
        have c4 : X.cell? ⟨bm, 4, none⟩ = some (.int .u16 xs) := HXm.out.cell 4
        have kk := HK.out
        have aa := HA.out
        have hend : IntKind.i64.wrap (xb + (xe - xb)) = xe := by
          rw [show xb + (xe - xb) = xe by omega]
          simp only [IntKind.wrap, IntKind.bits, IntKind.signed]; simp; omega
        have ha3 : IntKind.i64.wrap (a + 3) = a + 3 := by simp only [IntKind.wrap, IntKind.bits, IntKind.signed]; simp; omega
        clear hX hbx hsx HVs HVw HVi HBm HV HBme p0 p1 p2 p3 p4
        obtain ⟨ov, hov⟩ : ∃ ov, ov = ovM a 3 ⟨id, xb, xe - xb, xg, xs⟩ := ⟨_, rfl⟩
        have HOv := Lib.hid hov
        have hov2 : ov = if xb < xe ∧ (0 : Int) < 3 then decide (a < xe) && decide (xb - a < 3) else decide (a ≤ xb) && decide (xb - a ≤ 3) := by
          rw [hov]
          unfold ovM overP
          simp only
          rw [show xb + (xe - xb) = xe by omega]
          rfl
        go_upto_region 16 with fail
        go_cut [17] (fun bv wx => bv = .bool ov ∧ wx = X)
        case first => as_aux_lemma =>
          by_cases d1 : xb < xe
          · rw [if_pos ⟨d1, by omega⟩] at hov2
            have g1 : 0 < xe - xb := by omega
            have g2 : ¬ xe - xb = 0 := by omega
            by_cases d2 : xb < a + 3
            · by_cases d3 : a < xe
              · obtain rfl : ov = true := by rw [hov2]; simp; omega
                clear hov hov2 HOv d1
                go_wp2_with fail
                go_meet
                exact ⟨rfl, rfl⟩
              · obtain rfl : ov = false := by rw [hov2]; simp; omega
                clear hov hov2 HOv d1
                go_wp2_with fail
                go_meet
                exact ⟨rfl, rfl⟩
            · obtain rfl : ov = false := by rw [hov2]; simp; omega
              clear hov hov2 HOv d1
              go_wp2_with fail
              go_meet
              exact ⟨rfl, rfl⟩
          · rw [if_neg (by omega)] at hov2
            have g1 : ¬ 0 < xe - xb := by omega
            have g2 : xe - xb = 0 := by omega
            by_cases d2 : a ≤ xb
            · by_cases d3 : xb ≤ a + 3
              · obtain rfl : ov = true := by rw [hov2]; simp; omega
                clear hov hov2 HOv d1
                go_wp2_with fail
                go_meet
                exact ⟨rfl, rfl⟩
              · obtain rfl : ov = false := by rw [hov2]; simp; omega
                clear hov hov2 HOv d1
                go_wp2_with fail
                go_meet
                exact ⟨rfl, rfl⟩
            · obtain rfl : ov = false := by rw [hov2]; simp; omega
              clear hov hov2 HOv d1
              go_wp2_with fail
              go_meet
              exact ⟨rfl, rfl⟩
        case rest =>
          obtain ⟨rfl, hwc⟩ := hcut
          rw [hwc]
          clear hov hov2 hwc
          go_upto_if 134 with fail
          go_cut [12] (fun sv wx => ∃ sn' : Nat, sv = .int .i64 sn' ∧ Hid (sn' = ((D.take (i + 1)).filter (ovM a 3)).length) ∧ Below X.heap.size X wx)
          case first => as_aux_lemma =>
            have htk : D.take (i + 1) = D.take i ++ [⟨id, xb, xe - xb, xg, xs⟩] := take_next D i _ HGi.out
            cases ov with
            | true =>
              have hon := HOv.out
              have hEq := filter_at (ovM a 3) D i hc1 (by rw [(List.getElem?_eq_some_iff.1 HGi.out).2]; exact hon.symm)
              rw [(List.getElem?_eq_some_iff.1 HGi.out).2, ← HSn.out, ← HE.out.1] at hEq
              have hsE := (List.getElem?_eq_some_iff.1 hEq).1
              have HNx := Lib.hid (show sn + 1 = ((D.take (i + 1)).filter (ovM a 3)).length from by
                rw [htk, List.filter_append, List.length_append, ← HSn.out]
                simp [← hon])
              obtain ⟨g2, o2, rfl, hg1, hg2, hgc⟩ := HEm3.out (fun e => by rw [e] at hsE; simp at hsE)
              have hgc2 : ∀ j y, (⟨id, xb, xe - xb, xg, xs⟩ : MK).cells[j]? = some y → X.cell? ⟨g2, o2 + (sn * 5 + j), none⟩ = some y := fun j y hy => by
                rw [HXs.out.cell_ (a := ⟨g2, _, none⟩) hg2 (by have := HNw.out; simp; omega)]
                exact hgc sn hsE j y (by rw [(List.getElem?_eq_some_iff.1 hEq).2]; exact hy)
              have s0 : X.cell? ⟨g2, o2 + (sn * 5 + 0), none⟩ = some (.int .i64 id) := hgc2 0 _ rfl
              have s1 : X.cell? ⟨g2, o2 + (sn * 5 + 1), none⟩ = some (.int .i64 xb) := hgc2 1 _ rfl
              have s2 : X.cell? ⟨g2, o2 + (sn * 5 + 2), none⟩ = some (.int .i64 (xe - xb)) := hgc2 2 _ rfl
              have s3 : X.cell? ⟨g2, o2 + (sn * 5 + 3), none⟩ = some (.bool xg) := hgc2 3 _ rfl
              have s4 : X.cell? ⟨g2, o2 + (sn * 5 + 4), none⟩ = some (.int .u16 xs) := hgc2 4 _ rfl
              simp only [Nat.add_zero, ← Nat.add_assoc] at s0 s1 s2 s3 s4
              have hneq := mk_neq id xb (xe - xb) xs xg
              have hgu := mk_guard
              have hnl : decide (E.length ≤ sn) = false := decide_eq_false (by omega)
              have hsi : (sn : Int) < E.length := by omega
              have hs0 : (0 : Int) ≤ sn := by omega
              have hsL : (sn : Int) < 9223372036854775806 := by
                have h9 : D.length ≤ L.length := by rw [HD.out.1.length_eq, List.length_map]; exact Nat.le_refl _
                have h8 := HLl.out
                have h7 : E.length ≤ D.length := by rw [HE.out.1]; exact List.length_filter_le _ _
                omega
              clear hon hEq hsE hg1 hg2 hgc hgc2 htk
              go_wp2_with fail
              go_quiet (fail)
              go_wp2_with fail
              go_meet
              exact ⟨sn + 1, by go_num, HNx, below_drewN' (Below.refl _ _) _⟩
            | false =>
              have hon := HOv.out
              have HNx := Lib.hid (show sn = ((D.take (i + 1)).filter (ovM a 3)).length from by
                rw [htk, List.filter_append, List.length_append, ← HSn.out]
                simp [← hon])
              clear hon htk
              go_wp2_with fail
              go_meet
              exact ⟨sn, rfl, HNx, Below.refl _ _⟩
          case rest =>
            obtain ⟨sn', rfl, HSn', hbx⟩ := hcut
            obtain ⟨Y, hY⟩ : ∃ x, x = wc := ⟨_, rfl⟩
            rw [← hY] at hbx ⊢
            have hsx : Stay [] X Y := Stay.below hbx
            have HYs := Lib.hid (HXs.out.trans (hsx.mono (by simp)))
            have HYw := Lib.hid (show Blk Y bw (stsL 3 (midT a ⟨id, xb, xe - xb, xg, xs⟩ (tellM a (D.take i)) 0)) 74 from by
              rw [sts_congr (g := tellM a (D.take i)) (fun j _ => by unfold midT; rw [if_neg (by omega)])]
              exact HXw.out.stay hsx (by simp))
            have HYi := Lib.hid (show Blk Y bi (idsL 3 (midT a ⟨id, xb, xe - xb, xg, xs⟩ (tellM a (D.take i)) 0)) 75 from by
              rw [ids_congr (g := tellM a (D.take i)) (fun j _ => by unfold midT; rw [if_neg (by omega)])]
              exact HXi.out.stay hsx (by simp))
            have HYm := Lib.hid (HXm.out.stay hsx (by simp))
            clear hY hbx hsx HXs HXw HXi HXm HOv c0 c1 c2 c3 c4 HSn hend ha3
            go_wp2_with fail
            go_loopw [18] (fun kv wk => ∃ k : Nat, kv = .int .i64 k ∧ k ≤ 3 ∧ Hid (Stay [bw, bi] w3 wk) ∧ Hid (Blk wk bw (stsL 3 (midT a ⟨id, xb, xe - xb, xg, xs⟩ (tellM a (D.take i)) k)) 74) ∧ Hid (Blk wk bi (idsL 3 (midT a ⟨id, xb, xe - xb, xg, xs⟩ (tellM a (D.take i)) k)) 75) ∧ Hid (Blk wk bm [.int .i64 id, .int .i64 xb, .int .i64 (xe - xb), .bool xg, .int .u16 xs] 35))
              (fun kv _ => 3 - (intOf kv).toNat)
            case atStart => exact ⟨0, rfl, by omega, HYs, HYw, HYi, HYm⟩
            case round =>
              clear HYs HYw HYi HYm
              obtain ⟨k, rfl, hk, HKs, HKw, HKi, HKm⟩ := hrel
              by_cases hk3 : k < 3
              · have hk3' : (k : Int) < 3 := by omega
                have hk0 : (0 : Int) ≤ k := by omega
                have c0 : wr.cell? ⟨bm, 0, none⟩ = some (.int .i64 id) := HKm.out.cell 0
                have c1 : wr.cell? ⟨bm, 1, none⟩ = some (.int .i64 xb) := HKm.out.cell 1
                have c4 : wr.cell? ⟨bm, 4, none⟩ = some (.int .u16 xs) := HKm.out.cell 4
                obtain ⟨f, hf⟩ : ∃ f, f = tellM a (D.take i) := ⟨_, rfl⟩
                rw [← hf] at HKw HKi
                obtain ⟨i0, hi0⟩ : ∃ z, z = (f k).1 := ⟨_, rfl⟩
                have hmk : midT a ⟨id, xb, xe - xb, xg, xs⟩ f k k = f k := by unfold midT; rw [if_neg (by omega)]
                have e1 : wr.cell? ⟨bi, k, none⟩ = some (.int .i64 i0) := by rw [HKi.out.cell k, idsL_at 3 k _ hk3, hmk, hi0]
                have hak : IntKind.i64.wrap (a + k) = a + k := by simp only [IntKind.wrap, IntKind.bits, IntKind.signed]; simp; omega
                have hex : xb + (xe - xb) = xe := by omega
                have HSt := Lib.hid (show stM a k (f k) ⟨id, xb, xe - xb, xg, xs⟩ = if (xb ≤ a + k ∧ a + k < xe) ∧ i0 < id then (id, xs) else f k from by
                  unfold stM
                  simp only
                  rw [hex, hi0])
                have HNo := Lib.hid (show ¬ ((xb ≤ a + k ∧ a + k < xe) ∧ i0 < id) → Blk wr bw (stsL 3 (midT a ⟨id, xb, xe - xb, xg, xs⟩ f (k + 1))) 74 ∧ Blk wr bi (idsL 3 (midT a ⟨id, xb, xe - xb, xg, xs⟩ f (k + 1))) 75 from fun hno => by
                  have hh : ∀ j, j < 3 → midT a ⟨id, xb, xe - xb, xg, xs⟩ f k j = midT a ⟨id, xb, xe - xb, xg, xs⟩ f (k + 1) j := fun j _ => by
                    unfold midT
                    by_cases e : j < k
                    · rw [if_pos e, if_pos (by omega)]
                    · rw [if_neg e]
                      by_cases e2 : j = k
                      · subst e2
                        rw [if_pos (by omega), HSt.out, if_neg hno]
                      · rw [if_neg (by omega)]
                  rw [← sts_congr hh, ← ids_congr hh]
                  exact ⟨HKw.out, HKi.out⟩)
                have hkn : decide (3 ≤ k) = false := decide_eq_false (by omega)
                have HF := Lib.hid hf
                have HI0 := Lib.hid hi0
                have HMk := Lib.hid hmk
                clear hf hi0 hmk hex kk aa
                by_cases t1 : xb ≤ a + k
                · have u1 : decide (xb ≤ a + k) = true := decide_eq_true t1
                  by_cases t2 : a + k < xe
                  · have u2 : decide (a + k < xe) = true := decide_eq_true t2
                    by_cases t3 : i0 < id
                    · have u3 : decide (i0 < id) = true := decide_eq_true t3
                      have HYe := Lib.hid (HSt.out.trans (if_pos ⟨⟨t1, t2⟩, t3⟩))
                      clear t1 t2 t3 HNo
                      go_wp2_with fail
                      go_quiet (fail)
                      go_upto_region 25 with fail
                      obtain ⟨Z, hZ⟩ : ∃ Z, Z = wr.drewN nq := ⟨_, rfl⟩
                      rw [← hZ]
                      have hzs : Stay [] wr Z := by rw [hZ]; exact Stay.drewN _ _
                      have hzm := HKm.out.stay hzs (by simp)
                      have hzi := HKi.out.stay hzs (by simp)
                      have hzw := HKw.out.stay hzs (by simp)
                      have hz1 : Stay [bi] Z (Z.setCell ⟨bi, k, none⟩ (.int .i64 id)) := Stay.setCell _ _ _ (by simp)
                      have n1 : bm ≠ bi := blk_ty hzm hzi (by decide)
                      have n2 : bm ≠ bw := blk_ty hzm hzw (by decide)
                      have n3 : bw ≠ bi := blk_ty hzw hzi (by decide)
                      have y0 : Z.cell? ⟨bm, 0, none⟩ = some (.int .i64 id) := hzm.cell 0
                      have y1 : (Z.setCell ⟨bi, k, none⟩ (.int .i64 id)).cell? ⟨bm, 4, none⟩ = some (.int .u16 xs) := (hzm.stay hz1 (by simpa using n1)).cell 4
                      have y2 : Z.cell? ⟨bi, k, none⟩ = some (.int .i64 i0) := by rw [hzi.cell k, idsL_at 3 k _ hk3, HMk.out, ← HI0.out]
                      have y3 : (Z.setCell ⟨bi, k, none⟩ (.int .i64 id)).cell? ⟨bw, k, none⟩ = some (.int .u16 (f k).2) := by
                        rw [(hzw.stay hz1 (by simpa using n3)).cell k, stsL_at 3 k _ hk3, HMk.out]
                      have fz1 := hzi.free k
                      have fz2 := (hzw.stay hz1 (by simpa using n3)).free k
                      have hj : ∀ j, j ≠ k → midT a ⟨id, xb, xe - xb, xg, xs⟩ f (k + 1) j = midT a ⟨id, xb, xe - xb, xg, xs⟩ f k j := fun j hj => by
                        unfold midT
                        by_cases e : j < k
                        · rw [if_pos e, if_pos (by omega)]
                        · rw [if_neg e, if_neg (by omega)]
                      have hkk : midT a ⟨id, xb, xe - xb, xg, xs⟩ f (k + 1) k = (id, xs) := by
                        unfold midT
                        rw [if_pos (by omega), HYe.out]
                      have HZi := Lib.hid (show Blk ((Z.setCell ⟨bi, k, none⟩ (.int .i64 id)).setCell ⟨bw, k, none⟩ (.int .u16 xs)) bi (idsL 3 (midT a ⟨id, xb, xe - xb, xg, xs⟩ f (k + 1))) 75 from by
                        have h9 := (hzi.set k (.int .i64 id)).stay (F := [bw]) (Stay.setCell (Z.setCell ⟨bi, k, none⟩ (.int .i64 id)) ⟨bw, k, none⟩ (.int .u16 xs) (by simp)) (by simpa using n3.symm)
                        have h8 := ids_set (n := 3) hk3 hj
                        rw [hkk] at h8
                        rw [h8] at h9
                        exact h9)
                      have HZw := Lib.hid (show Blk ((Z.setCell ⟨bi, k, none⟩ (.int .i64 id)).setCell ⟨bw, k, none⟩ (.int .u16 xs)) bw (stsL 3 (midT a ⟨id, xb, xe - xb, xg, xs⟩ f (k + 1))) 74 from by
                        have h9 := (hzw.stay hz1 (by simpa using n3)).set k (.int .u16 xs)
                        have h8 := sts_set (n := 3) hk3 hj
                        rw [hkk] at h8
                        rw [h8] at h9
                        exact h9)
                      have HZm := Lib.hid (show Blk ((Z.setCell ⟨bi, k, none⟩ (.int .i64 id)).setCell ⟨bw, k, none⟩ (.int .u16 xs)) bm [.int .i64 id, .int .i64 xb, .int .i64 (xe - xb), .bool xg, .int .u16 xs] 35 from (hzm.stay hz1 (by simpa using n1)).stay (F := [bw]) (Stay.setCell _ _ _ (by simp)) (by simpa using n2))
                      have HZs := Lib.hid (show Stay [bw, bi] w3 ((Z.setCell ⟨bi, k, none⟩ (.int .i64 id)).setCell ⟨bw, k, none⟩ (.int .u16 xs)) from ((HKs.out.trans (hzs.mono (by simp))).trans (hz1.mono (by simp))).trans (Stay.setCell _ _ _ (by simp)))
                      clear hZ hzs hzm hzi hzw hz1 n1 n2 n3 hj hkk c0 c1 c4 e1
                      go_wp2_with fail
                      go_roundw
                      case rel => exact ⟨k + 1, by go_num, by omega, HZs, by rw [← HF.out]; exact HZw.out, by rw [← HF.out]; exact HZi.out, HZm⟩
                      case measure => simp [intOf]; omega
                    · have u3 : decide (i0 < id) = false := decide_eq_false t3
                      have HN2 := Lib.hid (HNo.out (fun h => t3 h.2))
                      clear t1 t2 t3 HNo
                      go_wp2_with fail
                      go_quiet (fail)
                      go_wp2_with fail
                      go_roundw
                      case rel => exact ⟨k + 1, by go_num, by omega, HKs.out.drewN', by rw [← HF.out]; exact HN2.out.1.stay (F := []) (Stay.drewN _ _) (by simp), by rw [← HF.out]; exact HN2.out.2.stay (F := []) (Stay.drewN _ _) (by simp), HKm.out.stay (F := []) (Stay.drewN _ _) (by simp)⟩
                      case measure => simp [intOf]; omega
                  · have u2 : decide (a + k < xe) = false := decide_eq_false t2
                    have HN2 := Lib.hid (HNo.out (fun h => t2 h.1.2))
                    clear t1 t2 HNo
                    go_wp2_with fail
                    go_quiet (fail)
                    go_wp2_with fail
                    go_roundw
                    case rel => exact ⟨k + 1, by go_num, by omega, HKs.out.drewN', by rw [← HF.out]; exact HN2.out.1.stay (F := []) (Stay.drewN _ _) (by simp), by rw [← HF.out]; exact HN2.out.2.stay (F := []) (Stay.drewN _ _) (by simp), HKm.out.stay (F := []) (Stay.drewN _ _) (by simp)⟩
                    case measure => simp [intOf]; omega
                · have u1 : decide (xb ≤ a + k) = false := decide_eq_false t1
                  have HN2 := Lib.hid (HNo.out (fun h => t1 h.1.1))
                  clear t1 HNo
                  go_wp2_with fail
                  go_quiet (fail)
                  go_wp2_with fail
                  go_roundw
                  case rel => exact ⟨k + 1, by go_num, by omega, HKs.out.drewN', by rw [← HF.out]; exact HN2.out.1.stay (F := []) (Stay.drewN _ _) (by simp), by rw [← HF.out]; exact HN2.out.2.stay (F := []) (Stay.drewN _ _) (by simp), HKm.out.stay (F := []) (Stay.drewN _ _) (by simp)⟩
                  case measure => simp [intOf]; omega
              · have hk3' : ¬ (k : Int) < 3 := by omega
                have hk4 : k = 3 := by omega
                have htk : D.take (i + 1) = D.take i ++ [⟨id, xb, xe - xb, xg, xs⟩] := take_next D i _ HGi.out
                have hh : ∀ j, j < 3 → midT a ⟨id, xb, xe - xb, xg, xs⟩ (tellM a (D.take i)) k j = tellM a (D.take (i + 1)) j := fun j hj => by
                  rw [htk, tell_snoc]
                  unfold midT
                  rw [if_pos (by omega)]
                have HZw := Lib.hid (show Blk wr bw (stsL 3 (tellM a (D.take (i + 1)))) 74 from by rw [← sts_congr hh]; exact HKw.out)
                have HZi := Lib.hid (show Blk wr bi (idsL 3 (tellM a (D.take (i + 1)))) 75 from by rw [← ids_congr hh]; exact HKi.out)
                have hiL : i < 4096 := by
                  have h9 : D.length ≤ L.length := by rw [HD.out.1.length_eq, List.length_map]; exact Nat.le_refl _
                  have := HLl.out
                  omega
                clear hk4 htk hh kk aa
                go_wp2_with fail
                go_roundw
                case rel => exact ⟨i + 1, sn', by go_num, rfl, by omega, HSn', HKs, HZw, HZi⟩
                case measure => simp [intOf]; omega
    · have hc1' : ¬ (i : Int) < D.length := by omega
      have hiD : D.take i = D := List.take_of_length_le (by omega)
      have hsE : sn = E.length := by rw [HSn.out, HE.out.1, hiD]
      rw [hiD] at HBw
      have hob := HO.out.stay HSr.out (by have := HNw.out; have := HO.out.lt; simp; omega)
      obtain ⟨s0, hs0⟩ : ∃ s, s = (tellM a D 0).2 := ⟨_, rfl⟩
      obtain ⟨s1, hs1⟩ : ∃ s, s = (tellM a D 1).2 := ⟨_, rfl⟩
      obtain ⟨s2, hs2⟩ : ∃ s, s = (tellM a D 2).2 := ⟨_, rfl⟩
      have r0 : wr.cell? ⟨b1, 0, none⟩ = some (.int .u16 s0) := by rw [hob.cell 0, stsL_at 3 0 _ (by omega), hs0]
      have r1 : wr.cell? ⟨b1, 1, none⟩ = some (.int .u16 s1) := by rw [hob.cell 1, stsL_at 3 1 _ (by omega), hs1]
      have r2 : wr.cell? ⟨b1, 2, none⟩ = some (.int .u16 s2) := by rw [hob.cell 2, stsL_at 3 2 _ (by omega), hs2]
      have t0 : wr.cell? ⟨bw, 0, none⟩ = some (.int .u16 s0) := by rw [HBw.out.cell 0, stsL_at 3 0 _ (by omega), hs0]
      have t1 : wr.cell? ⟨bw, 1, none⟩ = some (.int .u16 s1) := by rw [HBw.out.cell 1, stsL_at 3 1 _ (by omega), hs1]
      have t2 : wr.cell? ⟨bw, 2, none⟩ = some (.int .u16 s2) := by rw [HBw.out.cell 2, stsL_at 3 2 _ (by omega), hs2]
      have heq := arr_eql s0 s1 s2
      have hgu := arr_guard
      have hle : (sn == E.length) = true := by simpa using hsE
      have hle2 : ((sn : Int) == (E.length : Int)) = true := by rw [beq_iff_eq]; omega
      have HSn2 := Lib.hid hsE
      have HFi := Lib.hid HSw.out
      clear hc1 hiD hob hs0 hs1 hs2 hsE HSr HBw HBi hi
      go_wp2_with fail
      go_quiet (fail)
      go_wp2_with fail
      go_ret
      exact ⟨rfl, HFi.out.drewN'⟩
end Go.Proofs.Ytbnaglkhbgfchaa
