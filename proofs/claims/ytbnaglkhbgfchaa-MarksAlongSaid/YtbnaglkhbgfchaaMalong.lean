/- shuttlelaw19: MarksAlong (5): the walk. -/
import Derived.Test.YtbnaglkhbgfchaaMalong0
import Derived.Test.YtbnaglkhbgfchaaMtold
import Derived.Laws.Concat
namespace Go.Proofs.Ytbnaglkhbgfchaa
open Go.RowKit
set_option maxRecDepth 20000 in
set_option maxHeartbeats 16000000 in
theorem along_any (T0 : ByteArray) (A : Option Addr) (c : Nat) (L : List MK) (ea ed : Int) (es : ByteArray) (w : World) (hsl : Sl w w.heap.size A (L.flatMap MK.cells)) (hlc : L.length ≤ maxLen) (hes : es.size ≤ maxLen) (hT : T0.size ≤ maxLen) :
    Calls Try.prog 5 #[.string T0, .slice A L.length c, .agg #[.int .i64 ea, .int .i64 ed, .string es]] w fun e w' => e = .returned (.bool true) ∧ Below w.heap.size w w' := by
  have HSl := Lib.hid hsl
  have HLc := Lib.hid hlc
  have hes' : (es.size : Int) ≤ 9223372036854775807 := by simp only [maxLen] at hes; omega
  have hT' : (T0.size : Int) ≤ 9223372036854775807 := by simp only [maxLen] at hT; omega
  obtain ⟨W1, hW1⟩ : ∃ W, W = w.alloc (.cells #[.int .i64 ea, .int .i64 ed, .string es] 37) := ⟨_, rfl⟩
  have HS1 := Lib.hid (show Stay [] w W1 from by rw [hW1]; exact Stay.alloc _ _)
  have hb1 : Blk W1 w.heap.size [.int .i64 ea, .int .i64 ed, .string es] 37 := by rw [hW1]; exact Blk.new w _ _
  obtain ⟨bE, hbE⟩ : ∃ b, b = w.heap.size := ⟨_, rfl⟩
  rw [← hbE] at hb1
  have HBE := Lib.hid hbE
  have HW1 := Lib.hid hW1
  have HB1 := Lib.hid hb1
  obtain ⟨ln, hln⟩ : ∃ ln, ln = L.length := ⟨_, rfl⟩
  have HLn := Lib.hid hln
  rw [← hln]
  obtain ⟨kt, hkt⟩ : ∃ k : Int, k = min (T0.size : Int) 262144 := ⟨_, rfl⟩
  have hmt : ∀ ts t (w : World), (Builtin.min_ ts t #[.int .i64 T0.size, .int .i64 262144]).run Try.prog w = .ok (.int .i64 kt) w := fun ts t w => by rw [hkt]; exact min_ints _ _ ts t w
  obtain ⟨k, hk⟩ : ∃ k : Int, k = min (es.size : Int) 262144 := ⟨_, rfl⟩
  have hmn : ∀ ts t (w : World), (Builtin.min_ ts t #[.int .i64 es.size, .int .i64 262144]).run Try.prog w = .ok (.int .i64 k) w := fun ts t w => by rw [hk]; exact min_ints _ _ ts t w
  have HKt := Lib.hid (show 0 ≤ kt ∧ kt ≤ 262144 ∧ kt ≤ T0.size from by omega)
  have HK := Lib.hid (show 0 ≤ k ∧ k ≤ 262144 ∧ k ≤ es.size from by omega)
  obtain ⟨T, hTx⟩ : ∃ s1, s1 = T0.extract 0 kt.toNat := ⟨_, rfl⟩
  have hTz : T.size = kt.toNat := by
    rw [hTx, ByteArray.size_extract]
    have := HKt.out
    omega
  obtain ⟨s1, hs1⟩ : ∃ s1, s1 = es.extract 0 k.toNat := ⟨_, rfl⟩
  have hz1 : s1.size = k.toNat := by
    rw [hs1, ByteArray.size_extract]
    have := HK.out
    omega
  have HTz := Lib.hid (show (T.size : Int) = kt from by rw [hTz]; have := HKt.out; omega)
  have HZ1 := Lib.hid (show (s1.size : Int) = k from by rw [hz1]; have := HK.out; omega)
  have HTx := Lib.hid hTx
  have HS1x := Lib.hid hs1
  have kt0 := HKt.out
  have k0 := HK.out
  have e2 : W1.cell? ⟨bE, 2, none⟩ = some (.string es) := hb1.cell 2
  clear hsl hlc hW1 hb1 hbE hln hes hT hkt hk hTx hTz hs1 hz1
  go_enter Try.func5, Try.ntmps5
  go_upto_region 1 with fail
  rw [← HW1.out, ← HBE.out]
  go_upto_region 3 with fail
  rw [← HTx.out, ← HS1x.out]
  obtain ⟨n, hn⟩ : ∃ n : Int, n = T.size := ⟨_, rfl⟩
  have HNe := Lib.hid hn
  have HN := Lib.hid (show 0 ≤ n ∧ n ≤ 262144 from by rw [hn, HTz.out]; omega)
  have H1 := Lib.hid (within_any ea 0 n W1)
  have e0 : W1.cell? ⟨bE, 0, none⟩ = some (.int .i64 ea) := HB1.out.cell 0
  rw [hn] at H1
  clear e2 kt0 k0 hmt hmn hn
  go_wp2_with fail
  refine H1.out.mono ?_
  rintro e w3 ⟨rfl, hs3⟩
  rw [← HNe.out]
  obtain ⟨p, hp⟩ : ∃ p, p = inI ea 0 n := ⟨_, rfl⟩
  rw [← hp]
  have hpb := inI_bounds (n := ea) HN.out.1
  rw [← hp] at hpb
  have HP := Lib.hid hpb
  have HS3 := Lib.hid (HS1.out.trans hs3)
  have hb3 := HB1.out.stay hs3 (by simp)
  have HB3 := Lib.hid hb3
  have d1 : w3.cell? ⟨bE, 1, none⟩ = some (.int .i64 ed) := hb3.cell 1
  have hsub : IntKind.i64.wrap ((T.size : Int) - p) = n - p := by
    have q2 := HN.out
    have q3 := HNe.out
    simp only [IntKind.wrap, IntKind.bits, IntKind.signed]; simp; omega
  have H3 := Lib.hid (within_any ed 0 (n - p) w3)
  clear hp hpb hs3 hb3 H1 HS1 HB1 e0
  go_wp2_with fail
  refine H3.out.mono ?_
  rintro e w4 ⟨rfl, hs4⟩
  obtain ⟨d, hd⟩ : ∃ d, d = inI ed 0 (n - p) := ⟨_, rfl⟩
  rw [← hd]
  have hdb := inI_bounds (n := ed) (lo := 0) (hi := n - p) (by have := HP.out; omega)
  rw [← hd] at hdb
  have HD := Lib.hid hdb
  have HS4 := Lib.hid (HS3.out.trans hs4)
  have HB4 := Lib.hid (HB3.out.stay hs4 (by simp))
  have H4 := Lib.hid (show Calls Try.prog 20 #[.slice A ln c, .int .i64 T.size] w4 (Seted w4 n L) from by
    rw [HLn.out, ← HNe.out]
    exact set_any A c L n w4 ((HSl.out.keep (fun q hq => HS4.out.cell_ hq (by simp))).more HS4.out.size) HLc.out HN.out)
  clear hd hdb hs4 H3 HS3 HB3 d1 hsub
  go_wp2_with fail
  refine H4.out.mono ?_
  rintro e w5 ⟨sb, mb, rfl, hA5, hsb, hmb, hs5⟩
  have HA5 := Lib.hid hA5
  have HF5 := Lib.hid (show w.heap.size ≤ sb ∧ w.heap.size ≤ mb ∧ sb < w5.heap.size ∧ mb < w5.heap.size from ⟨Nat.le_trans HS4.out.size hsb, Nat.le_trans HS4.out.size hmb, hA5.blk.lt, hA5.m.lt_⟩)
  have HS5 := Lib.hid (HS4.out.trans hs5)
  have H5 := Lib.hid (show Calls Try.prog 20 #[.slice A ln c, .int .i64 T.size] w5 (Seted w5 n L) from by
    rw [HLn.out, ← HNe.out]
    exact set_any A c L n w5 ((HSl.out.keep (fun q hq => HS5.out.cell_ hq (by simp))).more HS5.out.size) HLc.out HN.out)
  clear hA5 hsb hmb hs5 H4 HS4 HB4
  go_wp2_with fail
  refine H5.out.mono ?_
  rintro e w6 ⟨tb, nb, rfl, hT6, htb, hnb, hs6⟩
  have HNn := Lib.hid (show sb ≠ tb ∧ sb ≠ nb ∧ mb ≠ tb ∧ mb ≠ nb from by
    have := HF5.out
    omega)
  have HT6 := Lib.hid hT6
  have HA6 := Lib.hid (HA5.out.stay0 hs6)
  have HS6 := Lib.hid (HS5.out.trans hs6)
  have HF6 := Lib.hid (And.intro HF5.out.1 HF5.out.2.1)
  clear hT6 htb hnb hs6 H5 HS5 HA5 HF5
  have HE1 := Lib.hid (medit_any HA6.out p d s1 (by have := HP.out; have := HN.out; omega) (by have := HD.out; have := HN.out; have := HP.out; omega) (by have := HZ1.out; have := HK.out; omega) (fun x hx => by
    unfold setL at hx
    rw [List.mem_mapIdx] at hx
    obtain ⟨i, hi, rfl⟩ := hx
    have h1 := (stOf_bounds (L.take 1000)[i] HN.out.1).2.2
    have h2 := HN.out
    have h3 := HK.out
    have h4 := HZ1.out
    simp only at h1 ⊢
    omega))
  go_wp2_with fail
  refine HE1.out.mono ?_
  rintro e w8 ⟨rfl, hA8, hs8⟩
  rw [HZ1.out] at hA8
  have HA8 := Lib.hid hA8
  have HS8 := Lib.hid (HS6.out.trans' hs8 (fun g hg => .inr (by simp at hg; rw [hg]; exact HF6.out.2)))
  have HT8 := Lib.hid (HT6.out.stay hs8 (by simpa using HNn.out.2.2.1.symm) (by simpa using HNn.out.2.2.2.symm))
  clear hA8 hs8 HE1 HT6 HA6 HS6
  obtain ⟨N, hN⟩ : ∃ N, T.extract 0 p.toNat ++ s1 ++ T.extract (p + d).toNat T.size = N := ⟨_, rfl⟩
  have HNx := Lib.hid (show nextS T s1 p d = N from hN)
  have HNz := Lib.hid (show (N.size : Int) = n - d + k from by
    rw [← HNx.out, HNe.out, ← HZ1.out]
    have q1 := HP.out
    have q2 := HD.out
    exact nextS_size q1.1 q2.1 (by rw [← HNe.out]; omega))
  clear hN
  go_upto_region 11 with (first | (
    have q1 := HP.out
    have q2 := HD.out
    have q3 := HN.out
    have q4 := HK.out
    have q5 := HNe.out
    have q6 := HZ1.out
    have hcat := HNx.out
    unfold nextS at hcat
    have z1 : (T.extract 0 p.toNat).size = p.toNat := by rw [ByteArray.size_extract]; omega
    have z2 : (T.extract (p + d).toNat T.size).size = T.size - (p + d).toNat := by rw [ByteArray.size_extract]; omega
    have z3 : ¬ 9223372036854775807 < p.toNat + s1.size := by omega
    have z4 : ¬ 9223372036854775807 < p.toNat + s1.size + (T.size - (p + d).toNat) := by omega
    have hpd : IntKind.i64.wrap (p + d) = p + d := by simp only [IntKind.wrap, IntKind.bits, IntKind.signed]; simp; omega
    have b1 : p ≤ T.size := by omega
    have b2 : 0 ≤ p + d := by omega
    have b3 : p + d ≤ T.size := by omega
    go_quiet (fail)
    clear q1 q2 q3 q4 q5 q6 hcat z1 z2 z3 z4 hpd b1 b2 b3))
  clear HTx HS1x HW1 HBE hes' hT'
  go_wp2_with fail
  go_loopw [13] (fun iv wr => ∃ (j : Nat) (i : Int), iv = .int .i64 i ∧ Hid (i = j + 1) ∧ j ≤ ln ∧ j ≤ 1000 ∧ Hid (SetAt wr sb mb ((setL n (L.take 1000)).map (edE p d k)) (L.take 1000).length (L.take 1000).length) ∧ Hid (SetAt wr tb nb (setL n (L.take 1000)) (L.take 1000).length (L.take 1000).length) ∧ Hid (Stay [] w wr))
    (fun iv _ => ln + 1 - (intOf iv).toNat)
  case atStart => exact ⟨0, 1, rfl, rfl, by omega, by omega, HA8.out.stay0 (Stay.drewN _ _), HT8.out.stay0 (Stay.drewN _ _), HS8.out.drewN'⟩
  case round =>
    clear HA8 HT8 HS8
    obtain ⟨j, i, rfl, HI, hj, hj2, HA, HT, HS⟩ := hrel
    have HEnd := Lib.hid (show Calls Try.prog 21 #[.pointer (some ⟨sb, 0, none⟩), .int .i64 N.size, .int .i64 p] wr fun e w' => e = .returned (.bool true) ∧ Stay [] wr w' from by
      rw [HNz.out]
      have q1 := HN.out
      have q2 := HP.out
      have q3 := HD.out
      have q4 := HK.out
      refine told_any HA.out (n - d + k) p (by omega) (by omega) (fun x hx => ?_) (by rw [List.length_map, setL_length, List.length_take]; omega)
      obtain ⟨y, hy, rfl⟩ := List.mem_map.1 hx
      unfold setL at hy
      rw [List.mem_mapIdx] at hy
      obtain ⟨q, hq, rfl⟩ := hy
      have h0 := stOf_bounds (L.take 1000)[q] q1.1
      exact (edSt_in (n := n) h0.1 h0.2.1 h0.2.2 q2.1 q3.1 (by omega) q4.1).2.2.1)
    by_cases hc1 : i ≤ ln
    · by_cases hc2 : i ≤ 1000
      · clear HEnd
        have hi0 : 1 ≤ i := by have := HI.out; omega
        have hjL : j < (L.take 1000).length := by rw [List.length_take]; have := HI.out; have := HLn.out; omega
        obtain ⟨st, hst⟩ : ∃ st, st = stOf n (L.take 1000)[j] := ⟨_, rfl⟩
        have hmem := setL_at (n := n) hjL
        rw [← hst, ← HI.out] at hmem
        have hstb := stOf_bounds (L.take 1000)[j] HN.out.1
        rw [← hst] at hstb
        have hmem2 := List.mem_map_of_mem (f := edE p d k) hmem
        obtain ⟨st2, hst2⟩ : ∃ st2, st2 = edSt p d k st := ⟨_, rfl⟩
        have hmem3 : (⟨i, st2, j⟩ : EN) ∈ (setL n (L.take 1000)).map (edE p d k) := by rw [hst2]; exact hmem2
        have hin := edSt_in (x := st) (p := p) (d := d) (k := k) (n := n) hstb.1 hstb.2.1 hstb.2.2 HP.out.1 HD.out.1 (by have := HD.out; omega) HK.out.1
        rw [← hst2] at hin
        have HU := Lib.hid (show p + d < st.b ∨ st.e < p → N.extract st2.b.toNat st2.e.toNat = T.extract st.b.toNat st.e.toNat from fun hu => by
          rw [hst2, ← HNx.out, ← HZ1.out]
          exact along_eq hstb.1 hstb.2.1 (by rw [← HNe.out]; exact hstb.2.2) HP.out.1 HD.out.1 (by rw [← HNe.out]; have := HD.out; omega) hu)
        have G1 := Lib.hid (get_there HA.out hmem3)
        have HMem := Lib.hid hmem
        clear hst hmem hst2 hmem2 hmem3 hjL
        obtain ⟨xb2, xe2, xg2, xs2⟩ := st2
        obtain ⟨xb, xe, xg, xs⟩ := st
        simp only at hstb hin
        obtain ⟨n0, n1, n2, n3, n4⟩ := hin
        subst n3 n4
        have HX := Lib.hid hstb
        have HX2 := Lib.hid (show 0 ≤ xb2 ∧ xb2 ≤ xe2 ∧ xe2 ≤ n - d + k from ⟨n0, n1, n2⟩)
        clear hstb n0 n1 n2
        go_wp2_with fail
        refine G1.out.mono ?_
        rintro e v1 ⟨rfl, hv1⟩
        obtain ⟨V2, hV2⟩ : ∃ W, W = v1.alloc (.cells #[.int .i64 i, .int .i64 xb2, .int .i64 (xe2 - xb2), .bool xg2, .int .u16 xs2] 35) := ⟨_, rfl⟩
        have hv2 : Stay [] v1 V2 := by rw [hV2]; exact Stay.alloc _ _
        have hbm : Blk V2 v1.heap.size [.int .i64 i, .int .i64 xb2, .int .i64 (xe2 - xb2), .bool xg2, .int .u16 xs2] 35 := by rw [hV2]; exact Blk.new v1 _ _
        obtain ⟨bm, hbme⟩ : ∃ b, b = v1.heap.size := ⟨_, rfl⟩
        rw [← hbme] at hbm
        have HBm := Lib.hid hbm
        have HV2 := Lib.hid hV2
        have HBme := Lib.hid hbme
        have HA2 := Lib.hid ((HA.out.stay0 hv1).stay0 hv2)
        have HT2 := Lib.hid ((HT.out.stay0 hv1).stay0 hv2)
        have HSv2 := Lib.hid ((HS.out.trans hv1).trans hv2)
        have G2 := Lib.hid (get_there HT2.out HMem.out)
        clear hv1 hV2 hv2 hbm hbme G1 HA HT HS
        go_upto_region 15 with fail
        rw [← HV2.out, ← HBme.out]
        go_wp2_with fail
        refine G2.out.mono ?_
        rintro e v3 ⟨rfl, hv3⟩
        simp only
        obtain ⟨V4, hV4⟩ : ∃ W, W = v3.alloc (.cells #[.int .i64 i, .int .i64 xb, .int .i64 (xe - xb), .bool xg2, .int .u16 xs2] 35) := ⟨_, rfl⟩
        have hv4 : Stay [] v3 V4 := by rw [hV4]; exact Stay.alloc _ _
        have hbt : Blk V4 v3.heap.size [.int .i64 i, .int .i64 xb, .int .i64 (xe - xb), .bool xg2, .int .u16 xs2] 35 := by rw [hV4]; exact Blk.new v3 _ _
        obtain ⟨bt, hbte⟩ : ∃ b, b = v3.heap.size := ⟨_, rfl⟩
        rw [← hbte] at hbt
        have hbm := (HBm.out.stay hv3 (by simp)).stay hv4 (by simp)
        have a0 : V4.cell? ⟨bm, 0, none⟩ = some (.int .i64 i) := hbm.cell 0
        have a1 : V4.cell? ⟨bm, 1, none⟩ = some (.int .i64 xb2) := hbm.cell 1
        have a2 : V4.cell? ⟨bm, 2, none⟩ = some (.int .i64 (xe2 - xb2)) := hbm.cell 2
        have a3 : V4.cell? ⟨bm, 3, none⟩ = some (.bool xg2) := hbm.cell 3
        have a4 : V4.cell? ⟨bm, 4, none⟩ = some (.int .u16 xs2) := hbm.cell 4
        have t1 : V4.cell? ⟨bt, 1, none⟩ = some (.int .i64 xb) := hbt.cell 1
        have t2 : V4.cell? ⟨bt, 2, none⟩ = some (.int .i64 (xe - xb)) := hbt.cell 2
        have t3 : V4.cell? ⟨bt, 3, none⟩ = some (.bool xg2) := hbt.cell 3
        have t4 : V4.cell? ⟨bt, 4, none⟩ = some (.int .u16 xs2) := hbt.cell 4
        have HV4 := Lib.hid hV4
        have HBte := Lib.hid hbte
        have HA4 := Lib.hid ((HA2.out.stay0 hv3).stay0 hv4)
        have HT4 := Lib.hid ((HT2.out.stay0 hv3).stay0 hv4)
        have HS4 := Lib.hid ((HSv2.out.trans hv3).trans hv4)
        clear hv3 hV4 hv4 hbt hbte hbm G2 HA2 HT2 HSv2 HBm
        go_upto_region 16 with fail
        rw [← HV4.out, ← HBte.out]
        obtain ⟨x0, x1, x2⟩ := HX.out
        obtain ⟨y0, y1, y2⟩ := HX2.out
        have nn := HN.out
        have pp := HP.out
        have dd := HD.out
        have kk := HK.out
        have hend : IntKind.i64.wrap (xb + (xe - xb)) = xe := by
          rw [show xb + (xe - xb) = xe by omega]
          simp only [IntKind.wrap, IntKind.bits, IntKind.signed]; simp; omega
        have hend2 : IntKind.i64.wrap (xb2 + (xe2 - xb2)) = xe2 := by
          rw [show xb2 + (xe2 - xb2) = xe2 by omega]
          simp only [IntKind.wrap, IntKind.bits, IntKind.signed]; simp; omega
        have hpd : IntKind.i64.wrap (p + d) = p + d := by simp only [IntKind.wrap, IntKind.bits, IntKind.signed]; simp; omega
        have hnx : IntKind.i64.wrap (i + 1) = i + 1 := by simp only [IntKind.wrap, IntKind.bits, IntKind.signed]; simp; omega
        have z1 : ¬ xe2 - xb2 < 0 := by omega
        have z2 : ¬ xb2 < 0 := by omega
        have z3 : ¬ (N.size : Int) < xe2 := by rw [HNz.out]; omega
        have z4 : ¬ (N.size : Int) < xb2 := by rw [HNz.out]; omega
        have q1 : xe2 ≤ N.size := by omega
        have q2 : xe ≤ T.size := by rw [← HNe.out]; exact x2
        have q3 : 0 ≤ xe2 := by omega
        have q4 : 0 ≤ xe := by omega
        clear HV4 HBte HV2 HBme
        by_cases hu : p + d < xb ∨ xe < p
        · have hxx := HU.out hu
          have HXX := Lib.hid hxx
          clear HU hxx
          go_upto_region 18 with fail
          rcases (show p + d < xb ∨ (¬ p + d < xb ∧ xe < p) from by omega) with h3 | ⟨h3, h4⟩
          all_goals
            clear hu
            go_upto_region 19 with fail
            have hxx := HXX.out
            go_quiet (fail)
            clear hxx
            go_wp2_with fail
            go_roundw
            case rel => exact ⟨j + 1, i + 1, rfl, by have := HI.out; show _ = _; push_cast; omega, by have := HI.out; omega, by have := HI.out; omega, HA4.out.stay0 (Stay.drewN _ _), HT4.out.stay0 (Stay.drewN _ _), HS4.out.drewN'⟩
            case measure => simp [intOf]; omega
        · have g1 : ¬ p + d < xb := fun h => hu (.inl h)
          have g2 : ¬ xe < p := fun h => hu (.inr h)
          clear hu HU
          go_wp2_with fail
          go_quiet (fail)
          go_wp2_with fail
          go_roundw
          case rel => exact ⟨j + 1, i + 1, rfl, by have := HI.out; show _ = _; push_cast; omega, by have := HI.out; omega, by have := HI.out; omega, HA4.out.stay0 (Stay.drewN _ _), HT4.out.stay0 (Stay.drewN _ _), HS4.out.drewN'⟩
          case measure => simp [intOf]; omega
      · go_wp2_with fail
        refine HEnd.out.mono ?_
        rintro e w' ⟨rfl, hw1⟩
        have HS1 := Lib.hid (HS.out.trans hw1)
        have HW := Lib.hid (wakes_any w')
        clear hw1
        go_wp2_with fail
        refine HW.out.mono ?_
        rintro e w' ⟨rfl, hw'⟩
        have HF := Lib.hid (show Below w.heap.size w w' from (HS1.out.toBelow (Nat.le_refl _) (by simp)).trans ((Stay.below (F := []) hw').toBelow HS1.out.size (by simp)))
        clear hw'
        go_wp2_with fail
        go_ret
        exact ⟨rfl, HF.out⟩
    · go_wp2_with fail
      refine HEnd.out.mono ?_
      rintro e w' ⟨rfl, hw1⟩
      have HS1 := Lib.hid (HS.out.trans hw1)
      have HW := Lib.hid (wakes_any w')
      clear hw1
      go_wp2_with fail
      refine HW.out.mono ?_
      rintro e w' ⟨rfl, hw'⟩
      have HF := Lib.hid (show Below w.heap.size w w' from (HS1.out.toBelow (Nat.le_refl _) (by simp)).trans ((Stay.below (F := []) hw').toBelow HS1.out.size (by simp)))
      clear hw'
      go_wp2_with fail
      go_ret
      exact ⟨rfl, HF.out⟩
end Go.Proofs.Ytbnaglkhbgfchaa
