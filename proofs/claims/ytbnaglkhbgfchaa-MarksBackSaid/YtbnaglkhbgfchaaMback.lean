/- shuttlelaw19: MarksBack (6): the walk. -/
import Derived.Test.YtbnaglkhbgfchaaMback0
namespace Go.Proofs.Ytbnaglkhbgfchaa
open Go.RowKit
set_option maxRecDepth 20000 in
set_option maxHeartbeats 16000000 in
theorem mback_any (A : Option Addr) (c : Nat) (L : List MK) (ea ed : Int) (es : ByteArray) (n0 : Int) (w : World) (hsl : Sl w w.heap.size A (L.flatMap MK.cells)) (hlc : L.length ≤ maxLen) (hes : es.size ≤ maxLen) :
    Calls Try.prog 6 #[.slice A L.length c, .agg #[.int .i64 ea, .int .i64 ed, .string es], .int .i64 n0] w fun e w' => e = .returned (.bool true) ∧ Below w.heap.size w w' := by
  have HSl := Lib.hid hsl
  have HLc := Lib.hid hlc
  have hes' : (es.size : Int) ≤ 9223372036854775807 := by simp only [maxLen] at hes; omega
  obtain ⟨W1, hW1⟩ : ∃ W, W = w.alloc (.cells #[.int .i64 ea, .int .i64 ed, .string es] 37) := ⟨_, rfl⟩
  have HS1 := Lib.hid (show Stay [] w W1 from by rw [hW1]; exact Stay.alloc _ _)
  have hb1 : Blk W1 w.heap.size [.int .i64 ea, .int .i64 ed, .string es] 37 := by rw [hW1]; exact Blk.new w _ _
  obtain ⟨bE, hbE⟩ : ∃ b, b = w.heap.size := ⟨_, rfl⟩
  rw [← hbE] at hb1
  have HBE := Lib.hid hbE
  have HW1 := Lib.hid hW1
  have HB1 := Lib.hid hb1
  have H1 := Lib.hid (within_any n0 0 262144 W1)
  obtain ⟨ln, hln⟩ : ∃ ln, ln = L.length := ⟨_, rfl⟩
  have HLn := Lib.hid hln
  rw [← hln]
  clear hsl hlc hW1 hb1 hbE hln hes
  go_enter Try.func6, Try.ntmps6
  go_upto_region 1 with fail
  rw [← HW1.out, ← HBE.out]
  go_wp2_with fail
  refine H1.out.mono ?_
  rintro e w2 ⟨rfl, hs2⟩
  obtain ⟨n, hn⟩ : ∃ n, n = inI n0 0 262144 := ⟨_, rfl⟩
  rw [← hn]
  have hnb := inI_bounds (n := n0) (lo := 0) (hi := 262144) (by omega)
  rw [← hn] at hnb
  have HN := Lib.hid hnb
  have HS2 := Lib.hid (HS1.out.trans hs2)
  have hb2 := HB1.out.stay hs2 (by simp)
  have HB2 := Lib.hid hb2
  obtain ⟨k, hk⟩ : ∃ k : Int, k = min (es.size : Int) 262144 := ⟨_, rfl⟩
  have hmn : ∀ ts t (w : World), (Builtin.min_ ts t #[.int .i64 es.size, .int .i64 262144]).run Try.prog w = .ok (.int .i64 k) w := fun ts t w => by rw [hk]; exact min_ints _ _ ts t w
  have HK := Lib.hid (show 0 ≤ k ∧ k ≤ 262144 ∧ k ≤ es.size from by omega)
  have e0 : w2.cell? ⟨bE, 0, none⟩ = some (.int .i64 ea) := hb2.cell 0
  have e2 : w2.cell? ⟨bE, 2, none⟩ = some (.string es) := hb2.cell 2
  have H2 := Lib.hid (within_any ea 0 n w2)
  clear hn hnb hs2 hb2 hk H1 HS1 HB1
  go_wp2_with fail
  refine H2.out.mono ?_
  rintro e w3 ⟨rfl, hs3⟩
  obtain ⟨p, hp⟩ : ∃ p, p = inI ea 0 n := ⟨_, rfl⟩
  rw [← hp]
  have hpb := inI_bounds (n := ea) HN.out.1
  rw [← hp] at hpb
  have HP := Lib.hid hpb
  have HS3 := Lib.hid (HS2.out.trans hs3)
  have hb3 := HB2.out.stay hs3 (by simp)
  have HB3 := Lib.hid hb3
  have d1 : w3.cell? ⟨bE, 1, none⟩ = some (.int .i64 ed) := hb3.cell 1
  have hsub : IntKind.i64.wrap (n - p) = n - p := by
    have q2 := HN.out
    simp only [IntKind.wrap, IntKind.bits, IntKind.signed]; simp; omega
  have H3 := Lib.hid (within_any ed 0 (n - p) w3)
  clear hp hpb hs3 hb3 H2 HS2 HB2 hmn e0 e2
  go_wp2_with fail
  refine H3.out.mono ?_
  rintro e w4 ⟨rfl, hs4⟩
  obtain ⟨d, hd⟩ : ∃ d, d = inI ed 0 (n - p) := ⟨_, rfl⟩
  rw [← hd]
  have hdb := inI_bounds (n := ed) (lo := 0) (hi := n - p) (by have := HP.out; omega)
  rw [← hd] at hdb
  have HD := Lib.hid hdb
  have HS4 := Lib.hid (HS3.out.trans hs4)
  have HB4 := Lib.hid (HB3.out.stay hs4 (by simp))
  have H4 := Lib.hid (show Calls Try.prog 20 #[.slice A ln c, .int .i64 n] w4 (Seted w4 n L) from by
    rw [HLn.out]
    exact set_any A c L n w4 ((HSl.out.keep (fun q hq => HS4.out.cell_ hq (by simp))).more HS4.out.size) HLc.out HN.out)
  clear hd hdb hs4 H3 HS3 HB3 d1 hsub
  go_wp2_with fail
  refine H4.out.mono ?_
  rintro e w5 ⟨sb, mb, rfl, hA5, hsb, hmb, hs5⟩
  have HA5 := Lib.hid hA5
  have HF5 := Lib.hid (show w.heap.size ≤ sb ∧ w.heap.size ≤ mb ∧ sb < w5.heap.size ∧ mb < w5.heap.size from ⟨Nat.le_trans HS4.out.size hsb, Nat.le_trans HS4.out.size hmb, hA5.blk.lt, hA5.m.lt_⟩)
  have HS5 := Lib.hid (HS4.out.trans hs5)
  have HB5 := Lib.hid (HB4.out.stay hs5 (by simp))
  have H5 := Lib.hid (show Calls Try.prog 20 #[.slice A ln c, .int .i64 n] w5 (Seted w5 n L) from by
    rw [HLn.out]
    exact set_any A c L n w5 ((HSl.out.keep (fun q hq => HS5.out.cell_ hq (by simp))).more HS5.out.size) HLc.out HN.out)
  clear hA5 hsb hmb hs5 H4 HS4 HB4
  go_wp2_with fail
  refine H5.out.mono ?_
  rintro e w6 ⟨tb, nb, rfl, hT6, htb, hnb, hs6⟩
  have HNe := Lib.hid (show sb ≠ tb ∧ sb ≠ nb ∧ mb ≠ tb ∧ mb ≠ nb from by
    have := HF5.out
    omega)
  have HT6 := Lib.hid hT6
  have HA6 := Lib.hid (HA5.out.stay0 hs6)
  have HS6 := Lib.hid (HS5.out.trans hs6)
  have hb6 := HB5.out.stay hs6 (by simp)
  have HB6 := Lib.hid hb6
  have HF6 := Lib.hid (And.intro HF5.out.1 HF5.out.2.1)
  obtain ⟨dn, hdn⟩ : ∃ dn : Nat, d = dn := ⟨d.toNat, by have := HD.out; omega⟩
  have hmk : ∀ w, (Instr.makeSlice 57 (.int .i64 d) (.int .i64 d)).run Try.prog w = .ok (.slice (some ⟨w.heap.size, 0, none⟩) dn dn) (w.alloc (.cells (Array.replicate dn (Value.int .u8 0)) 5)) := fun w => by
    obtain ⟨i, hi, hz, hs, hy⟩ := info_parts info5
    have hb := HD.out
    have hb2 := HN.out
    have hb3 := HP.out
    have hr := run_make (P := Try.prog) w 57 5 i _ Try.underlying57 hi hz .i64 .i64 d d (by omega) (Int.le_refl _) (by rw [hy]; omega) (by omega)
    rw [hs, made1 _ rfl] at hr
    rw [hdn] at hr ⊢
    rw [Int.toNat_natCast, show (List.replicate dn (Value.int .u8 0)).toArray = Array.replicate dn (Value.int .u8 0) by simp] at hr
    exact hr
  obtain ⟨W7, hW7⟩ : ∃ W, W = w6.alloc (.cells (Array.replicate dn (Value.int .u8 0)) 5) := ⟨_, rfl⟩
  have harr : (List.replicate dn (Value.int .u8 0)).toArray = Array.replicate dn (Value.int .u8 0) := by simp
  have hs7 : Stay [] w6 W7 := by rw [hW7]; exact Stay.alloc _ _
  have hb7 : Blk W7 w6.heap.size (List.replicate dn (Value.int .u8 0)) 5 := by rw [hW7, ← harr]; exact Blk.new w6 _ _
  have hcv : (convert 57 9 (.slice (some ⟨w6.heap.size, 0, none⟩) dn dn)).run Try.prog W7 = .ok (.string (zeroS dn)) W7 := run_convert_bytes_arg W7 57 5 Try.underlying57 Try.underlying5 w6.heap.size 0 dn dn (List.replicate dn 0) (by simp) (fun i hi => by
    rw [Nat.zero_add, hb7.cell i]
    simp [hi]) 9 Try.underlying9
  rw [hW7] at hcv
  have HW7 := Lib.hid hW7
  have HT7 := Lib.hid (HT6.out.stay0 hs7)
  have HA7 := Lib.hid (HA6.out.stay0 hs7)
  have HS7 := Lib.hid (HS6.out.trans hs7)
  have HDn := Lib.hid hdn
  have hb8 := HB6.out.stay hs7 (by simp)
  have g2 : W7.cell? ⟨bE, 2, none⟩ = some (.string es) := hb8.cell 2
  clear hT6 htb hnb hs6 hb6 hdn hW7 hs7 hb7 hb8 H5 HS5 HB5 HA5 HF5 HT6 HA6 HS6 HB6 harr
  obtain ⟨s1, hs1⟩ : ∃ s1, s1 = es.extract 0 k.toNat := ⟨_, rfl⟩
  have hz1 : s1.size = k.toNat := by
    rw [hs1, ByteArray.size_extract]
    have := HK.out
    omega
  have HE1 := Lib.hid (medit_any HA7.out p d s1 (by have := HP.out; have := HN.out; omega) (by have := HD.out; have := HN.out; have := HP.out; omega) (by rw [hz1]; have := HK.out; omega) (fun x hx => by
    unfold setL at hx
    rw [List.mem_mapIdx] at hx
    obtain ⟨i, hi, rfl⟩ := hx
    have h1 := (stOf_bounds (L.take 1000)[i] HN.out.1).2.2
    have h2 := HN.out
    have h3 := HK.out
    simp only at h1 ⊢
    rw [hz1]
    omega))
  have HS1' := Lib.hid (And.intro hs1 hz1)
  clear hz1
  have k0 := HK.out
  go_upto_region 10 with fail
  clear hmk hcv
  rw [← HW7.out]
  go_wp2_with fail
  rw [← hs1]
  refine HE1.out.mono ?_
  rintro e w8 ⟨rfl, hA8, hs8⟩
  rw [show ((s1.size : Nat) : Int) = k from by rw [HS1'.out.2]; have := HK.out; omega] at hA8
  have HS8 := Lib.hid (HS7.out.trans' hs8 (fun g hg => .inr (by simp at hg; rw [hg]; exact HF6.out.2)))
  have HT8 := Lib.hid (HT7.out.stay hs8 (by simpa using HNe.out.2.2.1.symm) (by simpa using HNe.out.2.2.2.symm))
  have HE2 := Lib.hid (medit_any hA8 p k (zeroS dn) (by have := HP.out; have := HN.out; omega) (by have := HK.out; omega) (by rw [zeroS_size]; have := HD.out; have := HP.out; have := HN.out; have := HDn.out; omega) (fun x hx => by
    obtain ⟨y, hy, rfl⟩ := List.mem_map.1 hx
    unfold setL at hy
    rw [List.mem_mapIdx] at hy
    obtain ⟨i, hi, rfl⟩ := hy
    have h0 := stOf_bounds (L.take 1000)[i] HN.out.1
    have h2 := HN.out
    have h3 := HK.out
    have h4 := HP.out
    have h5 := HD.out
    have h6 := (edSt_ok (p := p) (d := d) (k := k) (x := stOf n (L.take 1000)[i]) ⟨h0.1, h0.2.1, by omega⟩ (by omega) (by omega) (by omega) (by omega)).2
    have h7 := HDn.out
    rw [zeroS_size]
    show (edSt p d k (stOf n (L.take 1000)[i])).e + _ ≤ _
    omega))
  clear hA8 hs8 HE1 hs1 HA7 HT7 HS7 g2
  go_wp2_with fail
  refine HE2.out.mono ?_
  rintro e w9 ⟨rfl, hA9, hs9⟩
  rw [show (((zeroS dn).size : Nat) : Int) = d from by rw [zeroS_size]; exact HDn.out.symm] at hA9
  have HA9 := Lib.hid hA9
  have HS9 := Lib.hid (HS8.out.trans' hs9 (fun g hg => .inr (by simp at hg; rw [hg]; exact HF6.out.2)))
  have HT9 := Lib.hid (HT8.out.stay hs9 (by simpa using HNe.out.2.2.1.symm) (by simpa using HNe.out.2.2.2.symm))
  clear hA9 hs9 HE2 HT8 HS8
  go_wp2_with fail
  go_loopw [13] (fun iv wr => ∃ (j : Nat) (i : Int), iv = .int .i64 i ∧ Hid (i = j + 1) ∧ j ≤ ln ∧ j ≤ 1000 ∧ Hid (SetAt wr sb mb (((setL n (L.take 1000)).map (edE p d k)).map (edE p k d)) (L.take 1000).length (L.take 1000).length) ∧ Hid (SetAt wr tb nb (setL n (L.take 1000)) (L.take 1000).length (L.take 1000).length) ∧ Hid (Stay [] w wr))
    (fun iv _ => ln + 1 - (intOf iv).toNat)
  case atStart => exact ⟨0, 1, rfl, rfl, by omega, by omega, HA9, HT9, HS9⟩
  case round =>
    clear HA9 HT9 HS9
    obtain ⟨j, i, rfl, HI, hj, hj2, HA, HT, HS⟩ := hrel
    by_cases hc1 : i ≤ ln
    · by_cases hc2 : i ≤ 1000
      · have hi0 : 1 ≤ i := by have := HI.out; omega
        have hjL : j < (L.take 1000).length := by rw [List.length_take]; have := HI.out; have := HLn.out; omega
        obtain ⟨st, hst⟩ : ∃ st, st = stOf n (L.take 1000)[j] := ⟨_, rfl⟩
        have hmem := setL_at (n := n) hjL
        rw [← hst, ← HI.out] at hmem
        have hstb := stOf_bounds (L.take 1000)[j] HN.out.1
        rw [← hst] at hstb
        have hmem2 := List.mem_map_of_mem (f := edE p k d) (List.mem_map_of_mem (f := edE p d k) hmem)
        obtain ⟨st2, hst2⟩ : ∃ st2, st2 = edSt p k d (edSt p d k st) := ⟨_, rfl⟩
        have hmem3 : (⟨i, st2, j⟩ : EN) ∈ ((setL n (L.take 1000)).map (edE p d k)).map (edE p k d) := by rw [hst2]; exact hmem2
        have HU := Lib.hid (show ¬ hitP p d st → st2 = st from fun hu => by
          rw [hst2]
          exact edSt_back hstb.2.1 (by have := HD.out; omega) (by have := HK.out; omega) hu)
        have G1 := Lib.hid (get_there HA.out hmem3)
        have HMem := Lib.hid hmem
        clear hst hmem hst2 hmem2 hmem3 hjL
        obtain ⟨xb2, xe2, xg2, xs2⟩ := st2
        obtain ⟨xb, xe, xg, xs⟩ := st
        simp only at hstb
        have HX := Lib.hid hstb
        clear hstb
        go_wp2_with fail
        refine G1.out.mono ?_
        rintro e v1 ⟨rfl, hv1⟩
        obtain ⟨V2, hV2⟩ : ∃ W, W = v1.alloc (.cells #[.int .i64 i, .int .i64 xb2, .int .i64 (xe2 - xb2), .bool xg2, .int .u16 xs2] 35) := ⟨_, rfl⟩
        have hv2 : Stay [] v1 V2 := by rw [hV2]; exact Stay.alloc _ _
        have hbm : Blk V2 v1.heap.size [.int .i64 i, .int .i64 xb2, .int .i64 (xe2 - xb2), .bool xg2, .int .u16 xs2] 35 := by rw [hV2]; exact Blk.new v1 _ _
        obtain ⟨bm, hbme⟩ : ∃ b, b = v1.heap.size := ⟨_, rfl⟩
        rw [← hbme] at hbm
        have HBm := Lib.hid hbm
        have HV2 := Lib.hid hV2
        have HBme := Lib.hid hbme
        have HA2 := Lib.hid ((HA.out.stay0 hv1).stay0 hv2)
        have HT2 := Lib.hid ((HT.out.stay0 hv1).stay0 hv2)
        have HSv2 := Lib.hid ((HS.out.trans hv1).trans hv2)
        have G2 := Lib.hid (get_there HT2.out HMem.out)
        clear hv1 hV2 hv2 hbm hbme G1 HA HT HS
        go_upto_region 16 with fail
        rw [← HV2.out, ← HBme.out]
        go_wp2_with fail
        refine G2.out.mono ?_
        rintro e v3 ⟨rfl, hv3⟩
        simp only
        obtain ⟨V4, hV4⟩ : ∃ W, W = v3.alloc (.cells #[.int .i64 i, .int .i64 xb, .int .i64 (xe - xb), .bool xg, .int .u16 xs] 35) := ⟨_, rfl⟩
        have hv4 : Stay [] v3 V4 := by rw [hV4]; exact Stay.alloc _ _
        have hbt : Blk V4 v3.heap.size [.int .i64 i, .int .i64 xb, .int .i64 (xe - xb), .bool xg, .int .u16 xs] 35 := by rw [hV4]; exact Blk.new v3 _ _
        obtain ⟨bt, hbte⟩ : ∃ b, b = v3.heap.size := ⟨_, rfl⟩
        rw [← hbte] at hbt
        have hbm := (HBm.out.stay hv3 (by simp)).stay hv4 (by simp)
        have a0 : V4.cell? ⟨bm, 0, none⟩ = some (.int .i64 i) := hbm.cell 0
        have a1 : V4.cell? ⟨bm, 1, none⟩ = some (.int .i64 xb2) := hbm.cell 1
        have a2 : V4.cell? ⟨bm, 2, none⟩ = some (.int .i64 (xe2 - xb2)) := hbm.cell 2
        have a3 : V4.cell? ⟨bm, 3, none⟩ = some (.bool xg2) := hbm.cell 3
        have a4 : V4.cell? ⟨bm, 4, none⟩ = some (.int .u16 xs2) := hbm.cell 4
        have t0 : V4.cell? ⟨bt, 0, none⟩ = some (.int .i64 i) := hbt.cell 0
        have t1 : V4.cell? ⟨bt, 1, none⟩ = some (.int .i64 xb) := hbt.cell 1
        have t2 : V4.cell? ⟨bt, 2, none⟩ = some (.int .i64 (xe - xb)) := hbt.cell 2
        have t3 : V4.cell? ⟨bt, 3, none⟩ = some (.bool xg) := hbt.cell 3
        have t4 : V4.cell? ⟨bt, 4, none⟩ = some (.int .u16 xs) := hbt.cell 4
        have HV4 := Lib.hid hV4
        have HBte := Lib.hid hbte
        have HA4 := Lib.hid ((HA2.out.stay0 hv3).stay0 hv4)
        have HT4 := Lib.hid ((HT2.out.stay0 hv3).stay0 hv4)
        have HS4 := Lib.hid ((HSv2.out.trans hv3).trans hv4)
        clear hv3 hV4 hv4 hbt hbte hbm G2 HA2 HT2 HSv2 HBm
        go_upto_region 17 with fail
        rw [← HV4.out, ← HBte.out]
        obtain ⟨x0, x1, x2⟩ := HX.out
        have nn := HN.out
        have pp := HP.out
        have dd := HD.out
        have hend : IntKind.i64.wrap (xb + (xe - xb)) = xe := by
          rw [show xb + (xe - xb) = xe by omega]
          simp only [IntKind.wrap, IntKind.bits, IntKind.signed]; simp; omega
        have hpd : IntKind.i64.wrap (p + d) = p + d := by simp only [IntKind.wrap, IntKind.bits, IntKind.signed]; simp; omega
        have hnx : IntKind.i64.wrap (i + 1) = i + 1 := by simp only [IntKind.wrap, IntKind.bits, IntKind.signed]; simp; omega
        by_cases hu : hitP p d ⟨xb, xe, xg, xs⟩
        · unfold hitP at hu
          simp only at hu
          clear HU
          have h3 : (p ≤ xb ∧ xb ≤ p + d) ∨ (¬ p ≤ xb ∧ p ≤ xe ∧ xe ≤ p + d) := by omega
          clear hu
          rcases h3 with ⟨h3, h4⟩ | ⟨h3, h4, h5⟩
          · skip
            go_wp2_with fail
            all_goals
              go_roundw
              case rel => exact ⟨j + 1, i + 1, rfl, by have := HI.out; show _ = _; push_cast; omega, by have := HI.out; omega, by have := HI.out; omega, HA4, HT4, HS4⟩
              case measure => simp [intOf]; omega
          · skip
            go_wp2_with fail
            all_goals
              go_roundw
              case rel => exact ⟨j + 1, i + 1, rfl, by have := HI.out; show _ = _; push_cast; omega, by have := HI.out; omega, by have := HI.out; omega, HA4, HT4, HS4⟩
              case measure => simp [intOf]; omega
        · have he := HU.out hu
          injection he with h1 h2 h3 h4
          have g1 := h1.symm
          have g2 := h2.symm
          have g3 := h3.symm
          have g4 := h4.symm
          subst g1 g2 g3 g4
          unfold hitP at hu
          simp only at hu
          have h3 : xe < p ∨ p + d < xb ∨ (xb < p ∧ p + d < xe) := by omega
          clear hu HU h1 h2 h4
          rcases h3 with h3 | h3 | ⟨h3, h4⟩
          · have n1 : ¬ p ≤ xb := by omega
            have n2 : ¬ p ≤ xe := by omega
            go_wp2_with fail
            all_goals
              go_roundw
              case rel => exact ⟨j + 1, i + 1, rfl, by have := HI.out; show _ = _; push_cast; omega, by have := HI.out; omega, by have := HI.out; omega, HA4, HT4, HS4⟩
              case measure => simp [intOf]; omega
          · have n1 : p ≤ xb := by omega
            have n2 : ¬ xb ≤ p + d := by omega
            have n3 : p ≤ xe := by omega
            have n4 : ¬ xe ≤ p + d := by omega
            go_wp2_with fail
            all_goals
              go_roundw
              case rel => exact ⟨j + 1, i + 1, rfl, by have := HI.out; show _ = _; push_cast; omega, by have := HI.out; omega, by have := HI.out; omega, HA4, HT4, HS4⟩
              case measure => simp [intOf]; omega
          · have n1 : ¬ p ≤ xb := by omega
            have n3 : p ≤ xe := by omega
            have n4 : ¬ xe ≤ p + d := by omega
            go_wp2_with fail
            all_goals
              go_roundw
              case rel => exact ⟨j + 1, i + 1, rfl, by have := HI.out; show _ = _; push_cast; omega, by have := HI.out; omega, by have := HI.out; omega, HA4, HT4, HS4⟩
              case measure => simp [intOf]; omega
      · have HW := Lib.hid (wakes_any wr)
        go_wp2_with fail
        refine HW.out.mono ?_
        rintro e w' ⟨rfl, hw'⟩
        have HF := Lib.hid (show Below w.heap.size w w' from (HS.out.toBelow (Nat.le_refl _) (by simp)).trans ((Stay.below (F := []) hw').toBelow HS.out.size (by simp)))
        clear hw'
        go_wp2_with fail
        go_ret
        exact ⟨rfl, HF.out⟩
    · have HW := Lib.hid (wakes_any wr)
      go_wp2_with fail
      refine HW.out.mono ?_
      rintro e w' ⟨rfl, hw'⟩
      have HF := Lib.hid (show Below w.heap.size w w' from (HS.out.toBelow (Nat.le_refl _) (by simp)).trans ((Stay.below (F := []) hw').toBelow HS.out.size (by simp)))
      clear hw'
      go_wp2_with fail
      go_ret
      exact ⟨rfl, HF.out⟩
end Go.Proofs.Ytbnaglkhbgfchaa
