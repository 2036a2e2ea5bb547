/- shuttlelaw24: GridAgain: the walk. -/
import Derived.Test.YtohkjopdoejedaaGagain0
namespace Go.Proofs.Ytohkjopdoejedaa
open Go.RowKit
set_option maxRecDepth 20000 in
set_option maxHeartbeats 16000000 in
theorem again_any (wd hg x y : Int) (A : Option Addr) (c : Nat) (ss : List St) (w : World) (hwd : I64 wd) (hhg : I64 hg) (hx : I64 x) (hy : I64 y) (h : Steps w w.heap.size A c ss) :
    Calls Try.prog 6 #[.int .i64 wd, .int .i64 hg, .slice A ss.length c, .int .i64 x, .int .i64 y] w fun e w' => e = .returned (.bool true) ∧ Below w.heap.size w w' := by
  have HA := Lib.hid alive_any
  have HHv := Lib.hid (heavy_any wd hg A c ss _ w h)
  obtain ⟨s, hs⟩ : ∃ s, s = w.heap.size := ⟨_, rfl⟩
  rw [← hs] at h ⊢
  have HSt := Lib.hid h
  have HSe := Lib.hid hs
  obtain ⟨n, hne⟩ : ∃ n, n = ss.length := ⟨_, rfl⟩
  have HN := Lib.hid hne
  have hcap := h.cap
  rw [← hne] at hcap HHv ⊢
  have hnm : (n : Int) ≤ 9223372036854775807 := by
    have := hcap.2
    simp only [maxLen] at this
    omega
  obtain ⟨b, hb⟩ : ∃ b, b = hvB wd hg ss := ⟨_, rfl⟩
  rw [← hb] at HHv
  clear h hne hs
  cases b with
  | true =>
    clear hb
    go_enter Try.func6, Try.ntmps6
    go_wp2_with fail
    refine HHv.out.mono ?_
    rintro e w' ⟨rfl, rfl⟩
    go_wp2_with fail
    refine (HA.out _).mono ?_
    rintro e w' ⟨rfl, h2⟩
    rw [← HSe.out] at h2
    have HB := Lib.hid h2
    clear h2
    go_wp2_with fail
    exact bodyPost_ret (v := .bool true) (by simp [results, Try.results6, go_sem]) rfl ⟨rfl, HB.out⟩
  | false =>
    have HRl := Lib.hid (hv_run hb.symm)
    clear hb
    by_cases hbad : wd < 0 ∨ hg < 0 ∨ 1024 < wd ∨ 1024 < hg
    · have HNw := Lib.hid (new_bad wd hg w hbad)
      clear hbad
      go_enter Try.func6, Try.ntmps6
      go_wp2_with fail
      refine HHv.out.mono ?_
      rintro e w' ⟨rfl, rfl⟩
      go_wp2_with fail
      refine HNw.out.mono ?_
      rintro e w1 ⟨rfl, h2⟩
      rw [← HSe.out] at h2
      have HB1 := Lib.hid h2
      clear h2
      go_wp2_with fail
      refine (HA.out _).mono ?_
      rintro e w2 ⟨rfl, h2⟩
      have HB2 := Lib.hid (bup HSe.out HB1.out h2)
      clear h2
      go_wp2_with fail
      exact bodyPost_ret (v := .bool true) (by simp [results, Try.results6, go_sem]) rfl ⟨rfl, HB2.out⟩
    · obtain ⟨W, rfl⟩ : ∃ W : Nat, wd = W := ⟨wd.toNat, by omega⟩
      obtain ⟨H, rfl⟩ : ∃ H : Nat, hg = H := ⟨hg.toNat, by omega⟩
      have hW : W ≤ 1024 := by omega
      have hH : H ≤ 1024 := by omega
      have hWi : (W : Int) ≤ 1024 := by omega
      have hHi : (H : Int) ≤ 1024 := by omega
      have HI := Lib.hid (And.intro hwd (And.intro hhg (And.intro hx hy)))
      clear hbad hwd hhg hx hy
      have HNw := Lib.hid (show Calls Try.prog 11 #[.int .i64 W, .int .i64 H] w fun e w' => e = .returned (.tuple #[.pointer (some ⟨s, 0, none⟩), .int .i64 0]) ∧ Sm w' s (s + 1) [] (newS W H) ∧ Below s w w' from by
        rw [HSe.out]
        refine (new_any W H w hW hH).mono ?_
        rintro e w' ⟨rfl, h1, h2, _⟩
        exact ⟨rfl, h1, h2⟩)
      go_enter Try.func6, Try.ntmps6
      go_wp2_with fail
      refine HHv.out.mono ?_
      rintro e w' ⟨rfl, rfl⟩
      go_wp2_with fail
      refine HNw.out.mono ?_
      rintro e w1 ⟨rfl, h1, h2⟩
      have HS1 := Lib.hid h1
      have HB1 := Lib.hid h2
      clear h1 h2 HNw HHv
      go_wp2_with fail
      go_loopw [13] (fun iv wr => ∃ k : Nat, k ≤ n ∧ iv = .int .i64 k ∧ Hid (Sm wr s (s + 1) [] ((newS W H).runs (ss.take k))) ∧ Hid (Below s w wr)) (fun iv _ => n - (intOf iv).toNat)
      case atStart => exact ⟨0, by omega, rfl, by rw [List.take_zero]; exact HS1.out, HB1.out⟩
      case round =>
        obtain ⟨k, hk, rfl, HSk, HBk⟩ := hrel
        by_cases hlt : k < n
        · have hlt' : (k : Int) < n := by omega
          have hk0 : (0 : Int) ≤ k := by omega
          have hkl : k < ss.length := by rw [← HN.out]; exact hlt
          have hS0 := HSt.out.keep HBk.out
          obtain ⟨sb, so, rfl, hadB, key⟩ := hS0.at_ k hkl
          have hok := hS0.ok _ (List.getElem_mem hkl)
          have hLl := HRl.out.2 _ (List.getElem_mem hkl)
          have hru : (newS W H).runs (ss.take (k + 1)) = ((newS W H).runs (ss.take k)).run ss[k] := by
            rw [List.take_succ_eq_append_getElem hkl]
            unfold Sc.runs
            rw [List.foldl_append]
            rfl
          have hz : s ≤ wr.heap.size := by
            have := HBk.out.size
            rw [← HSe.out] at this
            exact this
          obtain ⟨st, hst⟩ : ∃ st, st = ss[k] := ⟨_, rfl⟩
          rw [← hst] at key hok hLl hru
          have HRu := Lib.hid (show Calls Try.prog 14 #[.pointer (some ⟨s, 0, none⟩), st.agg] wr fun e w' => e = .returned (.tuple #[]) ∧ Sm w' s (s + 1) [] ((newS W H).runs (ss.take (k + 1))) ∧ Below s w w' from by
            refine (run_any s (s + 1) [] _ st s wr hok hz hLl HSk.out).mono ?_
            rintro e w' ⟨rfl, k1, k2⟩
            rw [hru]
            exact ⟨rfl, k1, bst HSe.out HBk.out k2 foot_ge⟩)
          obtain ⟨d, sx, sy, LA, lc, L, rx, ry, rw_, rh, sn⟩ := st
          have c0 := key 0 _ rfl
          have c1 := key 1 _ rfl
          have c2 := key 2 _ rfl
          have c3 := key 3 _ rfl
          have c4 := key 4 _ rfl
          have c5 := key 5 _ rfl
          have c6 := key 6 _ rfl
          have c7 := key 7 _ rfl
          have c8 := key 8 _ rfl
          rw [Nat.add_zero] at c0
          simp only [St.agg] at HRu
          simp only at c0 c1 c2 c3 c4 c5 c6 c7 c8
          clear key hst hok hLl hru hS0 hkl hz
          go_wp2_with fail
          refine HRu.out.mono ?_
          rintro e w2 ⟨rfl, k1, k2⟩
          have HS2 := Lib.hid k1
          have HB2 := Lib.hid k2
          clear k1 k2
          go_wp2_with fail
          go_roundw
          case rel => exact ⟨k + 1, by omega, by go_num, HS2.out, HB2.out⟩
          case measure => simp [intOf]; omega
        · have hk' : k = n := by omega
          have hlt' : ¬ (k : Int) < n := by omega
          have hS1 := HSk.out
          rw [hk', HN.out, List.take_length] at hS1
          obtain ⟨S, hS⟩ : ∃ S, S = (newS W H).runs ss := ⟨_, rfl⟩
          rw [← hS] at hS1
          have HG := Lib.hid (show Good S from by rw [hS]; exact (Good.new W H).runs ss)
          have HSz := Lib.hid (show S.W = W ∧ S.H = H from by rw [hS]; exact ⟨((newS W H).runs_size ss).1, ((newS W H).runs_size ss).2.1⟩)
          have HD := Lib.hid (done_any s (s + 1) [] S wr hS1)
          clear hS1 hS hk'
          go_wp2_with fail
          refine HD.out.mono ?_
          rintro e w2 ⟨rfl, osn, k1, k2, _⟩
          obtain ⟨S1, hS1⟩ : ∃ S1 : Sc, S1 = { S with old := some S.rows } := ⟨_, rfl⟩
          rw [← hS1] at k1
          have HS2 := Lib.hid k1
          have HB2 := Lib.hid (bst HSe.out HBk.out k2 (by simp))
          have HG1 := Lib.hid (show Good S1 from by rw [hS1]; exact HG.out.done _)
          have HSz1 := Lib.hid (show S1.W = W ∧ S1.H = H from by rw [hS1]; exact HSz.out)
          have HDm := Lib.hid (show S1.dmg S1.H = [] from dmg_same S1 (by rw [hS1]) _)
          clear k1 k2 HD hS1 HSk HBk HG HSz
          have HGr := Lib.hid (grid_any s (s + 1) osn S1 w2 HS2.out)
          rw [HSz1.out.1, HSz1.out.2] at HGr
          go_wp2_with fail
          refine HGr.out.mono ?_
          rintro e w3 ⟨Ag, cg, rfl, k1, k2⟩
          have HO3 := Lib.hid k1
          have HS3 := Lib.hid (HS2.out.below k2)
          have HB3 := Lib.hid (bup HSe.out HB2.out k2)
          have HZ3 := Lib.hid k2.size
          clear k1 k2 HGr
          obtain ⟨X, hX⟩ : ∃ X, X = S1.X := ⟨_, rfl⟩
          obtain ⟨Y, hY⟩ : ∃ Y, Y = S1.Y := ⟨_, rfl⟩
          rw [← hX, ← hY]
          clear hX hY
          obtain ⟨M, hM⟩ : ∃ M, M = H * W := ⟨_, rfl⟩
          have hM2 : M ≤ 1048576 := by rw [hM]; exact Nat.mul_le_mul hH hW
          rw [← hM] at HO3 ⊢
          have HMe := Lib.hid hM
          clear hM
          have b2 := box_cell w3 #[.int .i64 W, .int .i64 H, .slice Ag M cg, .int .i64 X, .int .i64 Y] 40 2 _ rfl
          have HT1 := Lib.hid (Stay.alloc (F := []) w3 (.cells #[.int .i64 W, .int .i64 H, .slice Ag M cg, .int .i64 X, .int .i64 Y] 40))
          have hsz := size_alloc' w3 (.cells #[.int .i64 W, .int .i64 H, .slice Ag M cg, .int .i64 X, .int .i64 Y] 40)
          go_wp2_with fail
          obtain ⟨W4, hW4⟩ : ∃ W4, W4 = w3.alloc (.cells #[.int .i64 W, .int .i64 H, .slice Ag M cg, .int .i64 X, .int .i64 Y] 40) := ⟨_, rfl⟩
          obtain ⟨B1, hB1⟩ : ∃ B1, B1 = w3.heap.size := ⟨_, rfl⟩
          rw [← hW4] at b2 HT1 hsz ⊢
          rw [← hB1] at b2 hsz ⊢
          have hlB : B1 < W4.heap.size := by omega
          have HO4 := Lib.hid (HT1.out.own HO3.out (by simp))
          have HS4 := Lib.hid (HS3.out.stay HT1.out (by simp))
          have HB4 := Lib.hid (bst HSe.out HB3.out HT1.out (by simp))
          have HFt := Lib.hid (show ∀ g, g ∈ foot s (s + 1) S1.H → g < w2.heap.size from fun g hg => foot_lt HS2.out g hg)
          have hz2 : w2.heap.size ≤ B1 := by rw [hB1]; exact HZ3.out
          have HnB := Lib.hid (show B1 ∉ foot s (s + 1) S1.H from fun hm => by have := HFt.out _ hm; omega)
          clear hW4 hB1 hsz HT1 HS3 HB3 HO3 HS2 HB2 hz2 HZ3
          go_wp2_with fail
          go_loopw [15] (fun iv wr => ∃ k : Nat, k ≤ H ∧ iv = .int .i64 k ∧ Hid (Sm wr s (s + 1) osn S1) ∧ Hid (Stay (foot s (s + 1) S1.H) W4 wr)) (fun iv _ => H - (intOf iv).toNat)
          case atStart => exact ⟨0, by omega, rfl, HS4, Stay.refl _ _⟩
          case round =>
            obtain ⟨k, hk, rfl, HSk, HTk⟩ := hrel
            have e2 : wr.cell? ⟨B1, 2, none⟩ = some (.slice Ag M cg) := (HTk.out.cell_ (a := ⟨B1, 2, none⟩) hlB HnB.out).trans b2
            by_cases hlt : k < H
            · have hlt' : (k : Int) < H := by omega
              have hk0 : (0 : Int) ≤ k := by omega
              have hk1 : (k : Int) < 1024 := by omega
              obtain ⟨P0, hP0⟩ : ∃ P0, P0 = k * W := ⟨_, rfl⟩
              obtain ⟨P1, hP1⟩ : ∃ P1, P1 = (k + 1) * W := ⟨_, rfl⟩
              have hP01 : P1 = P0 + W := by rw [hP1, hP0, Nat.succ_mul]
              have hP1M : P1 ≤ M := by rw [hP1, HMe.out]; exact Nat.mul_le_mul hlt (Nat.le_refl _)
              have hm0 : IntKind.i64.wrap ((k : Int) * W) = P0 := by rw [← Int.natCast_mul, ← hP0]; simp only [IntKind.wrap, IntKind.bits, IntKind.signed]; simp; omega
              have hm1 : IntKind.i64.wrap (((k : Int) + 1) * W) = P1 := by
                rw [show ((k : Int) + 1) * W = ((P1 : Nat) : Int) by rw [hP1]; push_cast; rfl]; simp only [IntKind.wrap, IntKind.bits, IntKind.signed]; simp; omega
              have hP0e := Lib.hid hP0
              clear hP0 hP1
              have hok := HTk.out.own HO4.out (fun g hg hm => by have := (HO4.out.lt g hg).1; have := HFt.out g hm; omega)
              have hMc : M ≤ cg := by
                rcases hok.2 with ⟨hv, h0⟩ | ⟨g, cap, cur, hv, _, _, hc, _⟩
                · omega
                · injection hv with _ _ hcc
                  omega
              have hcm : cg ≤ maxLen := by
                rcases hok.2 with ⟨hv, h0⟩ | ⟨g, cap, cur, hv, _, _, hc, hc2, _⟩
                · injection hv with _ _ hcc
                  subst hcc
                  simp [maxLen]
                · injection hv with _ _ hcc
                  omega
              by_cases hW0 : W = 0
              · have hp0 : P0 = 0 := by rw [hP0e.out, hW0, Nat.mul_zero]
                have hp1 : P1 = 0 := by omega
                rw [hp0] at hm0
                rw [hp1] at hm1
                rw [Int.natCast_zero] at hm0 hm1
                have hout : (0 : Int) ≤ 0 := Int.le_refl _
                have HPo := Lib.hid (show ∀ (A : Option Addr) (c : Nat), Calls Try.prog 22 #[.pointer (some ⟨s, 0, none⟩), .int .i64 0, .int .i64 k, .slice A 0 c] wr fun e w' => e = .returned (.tuple #[]) ∧ Sm w' s (s + 1) osn S1 ∧ Stay (foot s (s + 1) S1.H) W4 w' from fun A c => by
                  refine (put_out s 0 k (.slice A 0 c) 0 c A S1 (s + 1) osn wr (by unfold I64; omega) (by unfold I64; omega) rfl (by omega) HSk.out (.inr (.inr (.inl (by rw [HSz1.out.1]; omega))))).mono ?_
                  rintro e w' ⟨rfl, rfl⟩
                  exact ⟨rfl, HSk.out, HTk.out⟩)
                rcases hok.2 with ⟨hv, h0⟩ | ⟨g, cap, cur, hv, _, _, hc, _⟩
                · injection hv with hA hM0 hcc
                  subst hA
                  subst hcc
                  clear hok hp0 hp1 hM0 h0 hW0 hP01
                  go_wp2_with fail
                  refine (HPo.out none 0).mono ?_
                  rintro e w5 ⟨rfl, h1, h2⟩
                  have HS5 := Lib.hid h1
                  have HT5 := Lib.hid h2
                  clear h1 h2 HPo
                  go_wp2_with fail
                  go_roundw
                  case rel => exact ⟨k + 1, by omega, by go_num, HS5, HT5⟩
                  case measure => simp [intOf]; omega
                · injection hv with hA hM0 hcc
                  subst hA
                  subst hcc
                  clear hok hp0 hp1 hM0 hW0 hP01
                  go_wp2_with fail
                  refine (HPo.out (some ⟨g, 0, none⟩) _).mono ?_
                  rintro e w5 ⟨rfl, h1, h2⟩
                  have HS5 := Lib.hid h1
                  have HT5 := Lib.hid h2
                  clear h1 h2 HPo
                  go_wp2_with fail
                  go_roundw
                  case rel => exact ⟨k + 1, by omega, by go_num, HS5, HT5⟩
                  case measure => simp [intOf]; omega
              · obtain ⟨g, cap, hv, hgz, -⟩ := owned_form hok (by omega)
                injection hv with hA _ hcc
                subst hA
                subst hcc
                have hgF : g ∉ foot s (s + 1) S1.H := fun hm => by have := HFt.out _ hm; omega
                have hP0M : P0 ≤ P1 := by omega
                have HC := Lib.hid (show Calls Try.prog 22 #[.pointer (some ⟨s, 0, none⟩), .int .i64 0, .int .i64 k, .slice (some ⟨g, P0 * 6, none⟩) W (cg - P0)] wr fun e w' => e = .returned (.tuple #[]) ∧ Sm w' s (s + 1) osn S1 ∧ Stay (foot s (s + 1) S1.H) wr w' from by
                  have hkS : k < S1.H := by rw [HSz1.out.2]; exact hlt
                  have hlen : (S1.rows.getD k []).length = W := by rw [(HG1.out.at_ k hkS).1, HSz1.out.1]
                  have hmem : S1.rows.getD k [] ∈ S1.rows := by
                    rw [List.getD_eq_getElem?_getD, List.getElem?_eq_getElem (by rw [HG1.out.len]; exact hkS)]
                    exact List.getElem_mem _
                  have h := put_any s (s + 1) osn S1 0 k (S1.rows.getD k []) g (P0 * 6) (cg - P0) wr (by unfold I64; omega) (by unfold I64; omega) (by rw [hlen]; omega) (HSk.out.ok.row _ hmem).2 ⟨by rw [hlen]; omega, by omega⟩
                    (by rw [hP0e.out]; exact flat_cat hok (fun r hr => ((HG1.out.row r hr).1).trans HSz1.out.1) (by rw [HMe.out, HG1.out.len, HSz1.out.2]) k (by rw [HG1.out.len]; exact hkS)) (hok.lt g rfl).2 hgF HSk.out
                  rw [hlen, HG1.out.put_self k hkS] at h
                  exact h)
                clear hok
                go_wp2_with fail
                refine HC.out.mono ?_
                rintro e w5 ⟨rfl, h1, h2⟩
                have HS5 := Lib.hid h1
                have HT5 := Lib.hid (HTk.out.trans h2)
                clear h1 h2 HC
                go_wp2_with fail
                go_roundw
                case rel => exact ⟨k + 1, by omega, by go_num, HS5, HT5⟩
                case measure => simp [intOf]; omega
            · have hk' : k = H := by omega
              have hlt' : ¬ (k : Int) < H := by omega
              have HBf := Lib.hid (bst HSe.out HB4.out HTk.out foot_ge)
              clear HTk HB4 HS4 e2 b2 HO4 hlt
              subst hk'
              have HO := Lib.hid one_any
              go_wp2_with fail
              refine (HO.out _ _).mono ?_
              rintro e w5 ⟨rfl, hst⟩
              have HS5 := Lib.hid (HSk.out.stay hst (by simp))
              have HB5 := Lib.hid (bst HSe.out HBf.out hst (by simp))
              clear hst HSk HBf
              go_wp2_with fail
              have HC := Lib.hid (put_new s (s + 1) osn S1 W y [aC] w5 #[.string ⟨#[97]⟩, .int .i8 0, .int .i64 0, .int .i64 0, .bool false, .int .u16 0] 1 rfl rfl HI.out.1 HI.out.2.2.2 (by omega) (partOK_all rfl) HS5.out)
              refine HC.out.mono ?_
              rintro e w6 ⟨rfl, h1, h2⟩
              rw [Sc.put_off _ _ _ (.inr (.inr (by rw [HSz1.out.1]; exact Int.le_refl _)))] at h1
              have HS6 := Lib.hid h1
              have HB6 := Lib.hid (bst HSe.out HB5.out h2 foot_ge)
              clear h1 h2 HC HS5 HB5
              go_wp2_with fail
              refine (HO.out _ _).mono ?_
              rintro e w5 ⟨rfl, hst⟩
              have HS5 := Lib.hid (HS6.out.stay hst (by simp))
              have HB5 := Lib.hid (bst HSe.out HB6.out hst (by simp))
              clear hst HS6 HB6
              go_wp2_with fail
              have HC := Lib.hid (put_new s (s + 1) osn S1 x k [aC] w5 #[.string ⟨#[97]⟩, .int .i8 0, .int .i64 0, .int .i64 0, .bool false, .int .u16 0] 1 rfl rfl HI.out.2.2.1 HI.out.2.1 (by omega) (partOK_all rfl) HS5.out)
              refine HC.out.mono ?_
              rintro e w6 ⟨rfl, h1, h2⟩
              rw [Sc.put_off _ _ _ (.inr (.inl (by rw [HSz1.out.2]; exact Int.le_refl _)))] at h1
              have HS6 := Lib.hid h1
              have HB6 := Lib.hid (bst HSe.out HB5.out h2 foot_ge)
              clear h1 h2 HC HS5 HB5
              go_wp2_with fail
              refine (HO.out _ _).mono ?_
              rintro e w5 ⟨rfl, hst⟩
              have HS5 := Lib.hid (HS6.out.stay hst (by simp))
              have HB5 := Lib.hid (bst HSe.out HB6.out hst (by simp))
              clear hst HS6 HB6
              go_wp2_with fail
              have HC := Lib.hid (put_new s (s + 1) osn S1 x (-1) [aC] w5 #[.string ⟨#[97]⟩, .int .i8 0, .int .i64 0, .int .i64 0, .bool false, .int .u16 0] 1 rfl rfl HI.out.2.2.1 (by unfold I64; omega) (by omega) (partOK_all rfl) HS5.out)
              refine HC.out.mono ?_
              rintro e w6 ⟨rfl, h1, h2⟩
              rw [Sc.put_off _ _ _ (.inl (by omega))] at h1
              have HS6 := Lib.hid h1
              have HB6 := Lib.hid (bst HSe.out HB5.out h2 foot_ge)
              clear h1 h2 HC HS5 HB5 HO
              go_wp2_with fail
              have HC := Lib.hid (clear_any s (s + 1) osn S1 W y 5 5 w6 HI.out.1 HI.out.2.2.2 (by unfold I64; omega) (by unfold I64; omega) HS6.out)
              refine HC.out.mono ?_
              rintro e w7 ⟨rfl, h1, h2⟩
              rw [HG1.out.clear_none _ _ _ _ (.inr ⟨by rw [HSz1.out.1]; exact Int.le_refl _, by omega⟩)] at h1
              have HS7 := Lib.hid h1
              have HB7 := Lib.hid (bst HSe.out HB6.out h2 foot_ge)
              clear h1 h2 HC HS6 HB6
              go_wp2_with fail
              have HC := Lib.hid (clear_any s (s + 1) osn S1 x y (-1) 5 w7 HI.out.2.2.1 HI.out.2.2.2 (by unfold I64; omega) (by unfold I64; omega) HS7.out)
              refine HC.out.mono ?_
              rintro e w8 ⟨rfl, h1, h2⟩
              rw [HG1.out.clear_none _ _ _ _ (.inl (by omega))] at h1
              have HS8 := Lib.hid h1
              have HB8 := Lib.hid (bst HSe.out HB7.out h2 foot_ge)
              clear h1 h2 HC HS7 HB7
              go_wp2_with fail
              have HC := Lib.hid (scroll_any s (s + 1) osn S1 0 0 W k 0 w8 (by unfold I64; omega) (by unfold I64; omega) HI.out.1 HI.out.2.1 (by unfold I64; omega) HS8.out)
              refine HC.out.mono ?_
              rintro e w9 ⟨rfl, h1, h2⟩
              rw [Sc.scroll_zero] at h1
              have HS9 := Lib.hid h1
              have HB9 := Lib.hid (bst HSe.out HB8.out h2 foot_ge)
              clear h1 h2 HC HS8 HB8
              have HC := Lib.hid (show Calls Try.prog 17 #[.pointer (some ⟨s, 0, none⟩)] w9 fun e w' => ∃ A c, e = .returned (.slice A 0 c) ∧ Below w9.heap.size w9 w' from by
                refine (damage_any s (s + 1) osn S1 w9 HS9.out).mono ?_
                rw [HDm.out]
                rintro e w' ⟨A, c, rfl, _, hb⟩
                exact ⟨A, c, rfl, hb⟩)
              go_wp2_with fail
              refine HC.out.mono ?_
              rintro e w10 ⟨A6, c6, rfl, h2⟩
              have HB10 := Lib.hid (bup HSe.out HB9.out h2)
              clear h2 HC HS9 HB9
              go_wp2_with fail
              refine (HA.out _).mono ?_
              rintro e w11 ⟨rfl, h2⟩
              have HB11 := Lib.hid (bup HSe.out HB10.out h2)
              clear h2 HB10
              go_wp2_with fail
              exact bodyPost_ret (v := .bool true) (by simp [results, Try.results6, go_sem]) rfl ⟨rfl, HB11.out⟩
end Go.Proofs.Ytohkjopdoejedaa
