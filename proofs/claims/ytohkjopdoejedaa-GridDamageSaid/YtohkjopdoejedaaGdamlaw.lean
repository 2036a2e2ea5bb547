/- shuttlelaw24: GridDamage: the walk. -/
import Derived.Test.YtohkjopdoejedaaGpatch
import Derived.Deep.DeepCutAuto
import Derived.Deep.RegionHeld3
namespace Go.Proofs.Ytohkjopdoejedaa
open Go.RowKit
theorem kpc {F : List Nat} {a b : World} {Z g j : Nat} {u : Value} (h2 : Stay F a b) (hF : ∀ x ∈ F, x < Z) (h : a.cell? ⟨g, j, none⟩ = some u) (hz : Z ≤ g) : b.cell? ⟨g, j, none⟩ = some u :=
  (h2.cell_ (a := ⟨g, j, none⟩) (World.block_lt_of_cell? a _ h) (fun hm => by have := hF _ hm; simp only at this; omega)).trans h
theorem kpo {F : List Nat} {a b : World} {Z : Nat} {e : TypeId} {size n : Nat} {v : Value} {xs : List Value} (h2 : Stay F a b) (hF : ∀ x ∈ F, x < Z) (h : a.ownsRow Z e size v n xs) : b.ownsRow Z e size v n xs :=
  h2.own h fun g hg hm => by have := (h.lt g hg).1; have := hF g hm; omega
theorem sm_foot' {w : World} {s : Nat} {os : List Nat} {S : Sc} (h : Sm w s (s + 1) os S) : s + 1 + S.H ≤ w.heap.size := by
  have h0 := h.scr.lt
  rcases Nat.eq_zero_or_pos S.H with e | e
  · omega
  · have := foot_lt h (s + 1 + (S.H - 1)) (by rw [mem_foot]; omega)
    omega
theorem sm_os_lt {w : World} {s : Nat} {os : List Nat} {S : Sc} {l : List (List Ce)} (h : Sm w s (s + 1) os S) (ho : S.old = some l) : ∀ o ∈ os, o < w.heap.size := fun o hm => by
  obtain ⟨y, hy, e⟩ := List.mem_iff_getElem.1 hm
  have h1 := h.olds l ho
  have h2 := (h.ok.old l ho).1
  have h3 : y < l.length := by omega
  exact (h1.2 y o l[y] (by rw [List.getElem?_eq_getElem hy, e]) (List.getElem?_eq_getElem h3)).lt
set_option maxRecDepth 20000 in
set_option maxHeartbeats 32000000 in
theorem damages_any (wd hg : Int) (A1 : Option Addr) (c1 : Nat) (ss : List St) (A2 : Option Addr) (c2 : Nat) (ts : List St) (w : World) (hwd : I64 wd) (hhg : I64 hg) (h1 : Steps w w.heap.size A1 c1 ss) (h2 : Steps w w.heap.size A2 c2 ts) :
    Calls Try.prog 4 #[.int .i64 wd, .int .i64 hg, .slice A1 ss.length c1, .slice A2 ts.length c2] w fun e w' => e = .returned (.bool true) ∧ Below w.heap.size w w' := by
  have HA := Lib.hid alive_any
  have HHv := Lib.hid (heavy_any wd hg A1 c1 ss _ w h1)
  have HHw := Lib.hid (heavy_any wd hg A2 c2 ts _ w h2)
  obtain ⟨s, hs⟩ : ∃ s, s = w.heap.size := ⟨_, rfl⟩
  rw [← hs] at h1 h2 ⊢
  have HSt := Lib.hid h1
  have HTt := Lib.hid h2
  have HSe := Lib.hid hs
  obtain ⟨N, hne⟩ : ∃ N, N = ss.length := ⟨_, rfl⟩
  obtain ⟨N2, hne2⟩ : ∃ N2, N2 = ts.length := ⟨_, rfl⟩
  have HN := Lib.hid hne
  have HN2 := Lib.hid hne2
  have hcap := h1.cap
  have hcap2 := h2.cap
  rw [← hne] at hcap HHv ⊢
  rw [← hne2] at hcap2 HHw ⊢
  have hnm : (N : Int) ≤ 9223372036854775807 := by
    have := hcap.2
    simp only [maxLen] at this
    omega
  have hnm2 : (N2 : Int) ≤ 9223372036854775807 := by
    have := hcap2.2
    simp only [maxLen] at this
    omega
  obtain ⟨b, hb⟩ : ∃ b, b = hvB wd hg ss := ⟨_, rfl⟩
  rw [← hb] at HHv
  obtain ⟨b2, hb2⟩ : ∃ b, b = hvB wd hg ts := ⟨_, rfl⟩
  rw [← hb2] at HHw
  clear h1 h2 hne hne2 hs
  cases b with
  | true =>
    clear hb hb2
    go_enter Try.func4, Try.ntmps4
    go_wp2_with fail
    refine HHv.out.mono ?_
    rintro e w' ⟨rfl, rfl⟩
    go_wp2_with fail
    refine (HA.out _).mono ?_
    rintro e w' ⟨rfl, h2⟩
    rw [← HSe.out] at h2
    have HB := Lib.hid h2
    clear h2
    go_wp2_with fail
    exact bodyPost_ret (v := .bool true) (by simp [results, Try.results4, go_sem]) rfl ⟨rfl, HB.out⟩
  | false =>
  have HRl := Lib.hid (hv_run hb.symm)
  clear hb
  cases b2 with
  | true =>
    clear hb2
    go_enter Try.func4, Try.ntmps4
    go_wp2_with fail
    refine HHv.out.mono ?_
    rintro e w' ⟨rfl, rfl⟩
    go_wp2_with fail
    refine HHw.out.mono ?_
    rintro e w' ⟨rfl, rfl⟩
    go_wp2_with fail
    refine (HA.out _).mono ?_
    rintro e w' ⟨rfl, h2⟩
    rw [← HSe.out] at h2
    have HB := Lib.hid h2
    clear h2
    go_wp2_with fail
    exact bodyPost_ret (v := .bool true) (by simp [results, Try.results4, go_sem]) rfl ⟨rfl, HB.out⟩
  | false =>
    have HRl2 := Lib.hid (hv_run hb2.symm)
    clear hb2
    by_cases hbad : wd < 0 ∨ hg < 0 ∨ 1024 < wd ∨ 1024 < hg
    · have HNw := Lib.hid (fun w => new_bad wd hg w hbad)
      clear hbad
      go_enter Try.func4, Try.ntmps4
      go_wp2_with fail
      refine HHv.out.mono ?_
      rintro e w' ⟨rfl, rfl⟩
      go_wp2_with fail
      refine HHw.out.mono ?_
      rintro e w' ⟨rfl, rfl⟩
      go_wp2_with fail
      refine (HNw.out _).mono ?_
      rintro e w1 ⟨rfl, h2⟩
      rw [← HSe.out] at h2
      have HB1 := Lib.hid h2
      clear h2
      go_wp2_with fail
      refine (HA.out _).mono ?_
      rintro e w3 ⟨rfl, h2⟩
      have HB3 := Lib.hid (bup HSe.out HB1.out h2)
      clear h2
      go_wp2_with fail
      exact bodyPost_ret (v := .bool true) (by simp [results, Try.results4, go_sem]) rfl ⟨rfl, HB3.out⟩
    · obtain ⟨W, rfl⟩ : ∃ W : Nat, wd = W := ⟨wd.toNat, by omega⟩
      obtain ⟨H, rfl⟩ : ∃ H : Nat, hg = H := ⟨hg.toNat, by omega⟩
      have hW : W ≤ 1024 := by omega
      have hH : H ≤ 1024 := by omega
      have hWi : (W : Int) ≤ 1024 := by omega
      have hHi : (H : Int) ≤ 1024 := by omega
      have HI := Lib.hid (And.intro hwd hhg)
      clear hbad hwd hhg
      have HNw := Lib.hid (show Calls Try.prog 11 #[.int .i64 W, .int .i64 H] w fun e w' => e = .returned (.tuple #[.pointer (some ⟨s, 0, none⟩), .int .i64 0]) ∧ Sm w' s (s + 1) [] (newS W H) ∧ Below s w w' from by
        rw [HSe.out]
        refine (new_any W H w hW hH).mono ?_
        rintro e w' ⟨rfl, h1, h2, _⟩
        exact ⟨rfl, h1, h2⟩)
      go_enter Try.func4, Try.ntmps4
      go_wp2_with fail
      refine HHv.out.mono ?_
      rintro e w' ⟨rfl, rfl⟩
      go_wp2_with fail
      refine HHw.out.mono ?_
      rintro e w' ⟨rfl, rfl⟩
      go_wp2_with fail
      refine HNw.out.mono ?_
      rintro e w1 ⟨rfl, h1, h2⟩
      have HS1 := Lib.hid h1
      have HB1 := Lib.hid h2
      clear h1 h2 HNw HHv HHw
      go_wp2_with fail
      refine (HA.out _).mono ?_
      rintro e w2 ⟨rfl, h2⟩
      have HS2 := Lib.hid (HS1.out.below h2)
      have HB2 := Lib.hid (bup HSe.out HB1.out h2)
      clear h2 HS1 HB1
      go_wp2_with fail
      go_loopw [11] (fun iv wr => ∃ k : Nat, k ≤ N ∧ iv = .int .i64 k ∧ Hid (Sm wr s (s + 1) [] ((newS W H).runs (ss.take k))) ∧ Hid (Below s w wr)) (fun iv _ => N - (intOf iv).toNat)
      case atStart => exact ⟨0, by omega, rfl, by rw [List.take_zero]; exact HS2.out, HB2.out⟩
      case round =>
        obtain ⟨k, hk, rfl, HSk, HBk⟩ := hrel
        by_cases hlt : k < N
        · have hlt' : (k : Int) < N := by omega
          have hk0 : (0 : Int) ≤ k := by omega
          have hkl : k < ss.length := by rw [← HN.out]; exact hlt
          have hS0 := HSt.out.keep HBk.out
          obtain ⟨sb, so, rfl, hadB, key⟩ := hS0.at_ k hkl
          have hok := hS0.ok _ (List.getElem_mem hkl)
          have hLl := HRl.out.2 _ (List.getElem_mem hkl)
          have hru : (newS W H).runs (ss.take (k + 1)) = ((newS W H).runs (ss.take k)).run ss[k] := by
            rw [List.take_succ_eq_append_getElem hkl]
            unfold Sc.runs
            rw [List.foldl_append]
            rfl
          have hz : s ≤ wr.heap.size := by
            have := HBk.out.size
            rw [← HSe.out] at this
            exact this
          obtain ⟨st, hst⟩ : ∃ st, st = ss[k] := ⟨_, rfl⟩
          rw [← hst] at key hok hLl hru
          have HRu := Lib.hid (show Calls Try.prog 14 #[.pointer (some ⟨s, 0, none⟩), st.agg] wr fun e w' => e = .returned (.tuple #[]) ∧ Sm w' s (s + 1) [] ((newS W H).runs (ss.take (k + 1))) ∧ Below s w w' from by
            refine (run_any s (s + 1) [] _ st s wr hok hz hLl HSk.out).mono ?_
            rintro e w' ⟨rfl, k1, k2⟩
            rw [hru]
            exact ⟨rfl, k1, bst HSe.out HBk.out k2 foot_ge⟩)
          obtain ⟨d, sx, sy, LA, lc, L, rx, ry, rw_, rh, sn⟩ := st
          have c0 := key 0 _ rfl
          have c1 := key 1 _ rfl
          have c2 := key 2 _ rfl
          have c3 := key 3 _ rfl
          have c4 := key 4 _ rfl
          have c5 := key 5 _ rfl
          have c6 := key 6 _ rfl
          have c7 := key 7 _ rfl
          have c8 := key 8 _ rfl
          rw [Nat.add_zero] at c0
          simp only [St.agg] at HRu
          simp only at c0 c1 c2 c3 c4 c5 c6 c7 c8
          clear key hst hok hLl hru hS0 hkl hz
          go_wp2_with fail
          refine HRu.out.mono ?_
          rintro e w2 ⟨rfl, k1, k2⟩
          have HS2 := Lib.hid k1
          have HB2 := Lib.hid k2
          clear k1 k2
          go_wp2_with fail
          go_roundw
          case rel => exact ⟨k + 1, by omega, by go_num, HS2.out, HB2.out⟩
          case measure => simp [intOf]; omega
        · have hk' : k = N := by omega
          have hlt' : ¬ (k : Int) < N := by omega
          have hS1 := HSk.out
          rw [hk', HN.out, List.take_length] at hS1
          obtain ⟨S, hS⟩ : ∃ S, S = (newS W H).runs ss := ⟨_, rfl⟩
          rw [← hS] at hS1
          have HG := Lib.hid (show Good S from by rw [hS]; exact (Good.new W H).runs ss)
          have HSz := Lib.hid (show S.W = W ∧ S.H = H from by rw [hS]; exact ⟨((newS W H).runs_size ss).1, ((newS W H).runs_size ss).2.1⟩)
          have HD := Lib.hid (done_any s (s + 1) [] S wr hS1)
          clear hS1 hS hk'
          go_wp2_with fail
          refine HD.out.mono ?_
          rintro e w2 ⟨rfl, osn, k1, k2, _⟩
          obtain ⟨S1, hS1⟩ : ∃ S1 : Sc, S1 = { S with old := some S.rows } := ⟨_, rfl⟩
          rw [← hS1] at k1
          have HS2 := Lib.hid k1
          have HB2 := Lib.hid (bst HSe.out HBk.out k2 (by simp))
          have HG1 := Lib.hid (show Good S1 from by rw [hS1]; exact HG.out.done _)
          have HSz1 := Lib.hid (show S1.W = W ∧ S1.H = H from by rw [hS1]; exact HSz.out)
          have HOl := Lib.hid (show S1.old = some S1.rows from by rw [hS1])
          have HDm := Lib.hid (show S1.dmg S1.H = [] from dmg_same S1 (by rw [hS1]) _)
          clear k1 k2 HD hS1 HSk HBk HG HSz
          have HGr := Lib.hid (grid_any s (s + 1) osn S1 w2 HS2.out)
          rw [HSz1.out.1, HSz1.out.2] at HGr
          go_wp2_with fail
          refine HGr.out.mono ?_
          rintro e w3 ⟨Ag, cg, rfl, k1, k2⟩
          have HO3 := Lib.hid k1
          have HS3 := Lib.hid (HS2.out.below k2)
          have HB3 := Lib.hid (bup HSe.out HB2.out k2)
          have HZ3 := Lib.hid k2.size
          clear k1 k2 HGr
          obtain ⟨X, hX⟩ : ∃ X, X = S1.X := ⟨_, rfl⟩
          obtain ⟨Y, hY⟩ : ∃ Y, Y = S1.Y := ⟨_, rfl⟩
          have HCar := Lib.hid (show (0 ≤ X ∧ X < W ∧ 0 ≤ Y ∧ Y < H) ∨ (X = -1 ∧ Y = -1) from by
            have := HG1.out.car
            rw [← hX, ← hY, HSz1.out.1, HSz1.out.2] at this
            exact this.symm)
          rw [← hX, ← hY]
          clear hX hY
          obtain ⟨M, hM⟩ : ∃ M, M = H * W := ⟨_, rfl⟩
          have hM2 : M ≤ 1048576 := by rw [hM]; exact Nat.mul_le_mul hH hW
          rw [← hM] at HO3 ⊢
          have HMe := Lib.hid hM
          clear hM
          obtain ⟨F, hF⟩ : ∃ F, F = S1.rows.flatten := ⟨_, rfl⟩
          rw [← hF] at HO3
          have HFe := Lib.hid hF
          have hrw : ∀ r ∈ S1.rows, r.length = W := fun r hr => (HG1.out.row r hr).1.trans HSz1.out.1
          have HFl := Lib.hid (show F.length = M from by rw [hF, flatLen W _ hrw, HG1.out.len, HSz1.out.2, ← HMe.out])
          have HFp := Lib.hid (show PartOK F from by rw [hF]; exact flat_part fun r hr => (HS2.out.ok.row r hr).2)
          have HFs := Lib.hid (show ∀ i, i < M → 0 ≤ pt F i ∧ (0 < pt F i → i % W ≠ 0 ∧ 0 < i ∧ pt F (i - 1) = pt F i - 1) from fun i hi => by
            rw [hF]
            exact flat_shape W S1.rows (fun r hr => ⟨hrw r hr, (HG1.out.row r hr).2⟩) i (by rw [HG1.out.len, HSz1.out.2, ← HMe.out]; exact hi))
          clear hF hrw
          obtain ⟨Z, hZ⟩ : ∃ Z, Z = w2.heap.size := ⟨_, rfl⟩
          have HFo := Lib.hid (show ∀ g ∈ foot s (s + 1) H, g < Z from fun g hg => by
            rw [hZ]
            exact foot_lt HS2.out g (by rw [HSz1.out.2]; exact hg))
          have HsZ := Lib.hid (show s + 1 + H ≤ Z from by rw [hZ, ← HSz1.out.2]; exact sm_foot' HS2.out)
          have HOz := Lib.hid (show ∀ o ∈ osn, o < Z from by rw [hZ]; exact sm_os_lt HS2.out HOl.out)
          rw [← hZ] at HO3 HZ3
          clear hZ HS2 HB2
          have HgB := Lib.hid (show ∀ g, (Value.slice Ag M cg).ownBlock = some g → Z ≤ g ∧ g < w3.heap.size from fun g hg => HO3.out.lt g hg)
          have b0 := box_cell w3 #[.int .i64 W, .int .i64 H, .slice Ag M cg, .int .i64 X, .int .i64 Y] 40 0 _ rfl
          have b1 := box_cell w3 #[.int .i64 W, .int .i64 H, .slice Ag M cg, .int .i64 X, .int .i64 Y] 40 1 _ rfl
          have b2 := box_cell w3 #[.int .i64 W, .int .i64 H, .slice Ag M cg, .int .i64 X, .int .i64 Y] 40 2 _ rfl
          have b3 := box_cell w3 #[.int .i64 W, .int .i64 H, .slice Ag M cg, .int .i64 X, .int .i64 Y] 40 3 _ rfl
          have b4 := box_cell w3 #[.int .i64 W, .int .i64 H, .slice Ag M cg, .int .i64 X, .int .i64 Y] 40 4 _ rfl
          have HT1 := Lib.hid (Stay.alloc (F := []) w3 (.cells #[.int .i64 W, .int .i64 H, .slice Ag M cg, .int .i64 X, .int .i64 Y] 40))
          have hsz := size_alloc' w3 (.cells #[.int .i64 W, .int .i64 H, .slice Ag M cg, .int .i64 X, .int .i64 Y] 40)
          go_wp2_with fail
          obtain ⟨W4, hW4⟩ : ∃ W4, W4 = w3.alloc (.cells #[.int .i64 W, .int .i64 H, .slice Ag M cg, .int .i64 X, .int .i64 Y] 40) := ⟨_, rfl⟩
          obtain ⟨B1, hB1⟩ : ∃ B1, B1 = w3.heap.size := ⟨_, rfl⟩
          rw [← hW4] at b0 b1 b2 b3 b4 HT1 hsz ⊢
          rw [← hB1] at b0 b1 b2 b3 b4 hsz HZ3 HgB ⊢
          have hlB : B1 < W4.heap.size := by omega
          have HO4 := Lib.hid (HT1.out.own HO3.out (by simp))
          have HS4 := Lib.hid (HS3.out.stay HT1.out (by simp))
          have HB4 := Lib.hid (bst HSe.out HB3.out HT1.out (by simp))
          clear hW4 hB1 hsz HT1 HS3 HB3 HO3
          have HC := Lib.hid (show Calls Try.prog 17 #[.pointer (some ⟨s, 0, none⟩)] W4 fun e w' => ∃ A c, e = .returned (.slice A 0 c) ∧ Below W4.heap.size W4 w' from by
            refine (damage_any s (s + 1) osn S1 W4 HS4.out).mono ?_
            rw [HDm.out]
            rintro e w' ⟨A, c, rfl, _, hb⟩
            exact ⟨A, c, rfl, hb⟩)
          go_wp2_with fail
          refine HC.out.mono ?_
          rintro e w5 ⟨A5, c5, rfl, k2⟩
          have hb5 : Stay [] W4 w5 := Stay.below k2
          replace b0 := kpc (Z := Z) hb5 (by simp) b0 HZ3.out
          replace b1 := kpc (Z := Z) hb5 (by simp) b1 HZ3.out
          replace b2 := kpc (Z := Z) hb5 (by simp) b2 HZ3.out
          replace b3 := kpc (Z := Z) hb5 (by simp) b3 HZ3.out
          replace b4 := kpc (Z := Z) hb5 (by simp) b4 HZ3.out
          have HS5 := Lib.hid (HS4.out.below k2)
          have HO5 := Lib.hid (kpo hb5 (by simp) HO4.out)
          have HB5 := Lib.hid (bup HSe.out HB4.out k2)
          clear k2 hb5 hlB HC HDm HS4 HO4 HB4
          have HShp := Lib.hid (show Calls Try.prog 18 #[.agg #[.int .i64 W, .int .i64 H, .slice Ag M cg, .int .i64 X, .int .i64 Y]] w5 fun e w' => e = .returned (.bool true) ∧ Below w5.heap.size w5 w' from
            shaped_any W H M cg Ag X Y F Z w5 HO5.out HMe.out HFl.out hW hH HFs.out HFp.out HCar.out)
          go_wp2_with fail
          refine HShp.out.mono ?_
          rintro e w6 ⟨rfl, k2⟩
          have hb5 : Stay [] w5 w6 := Stay.below k2
          replace b2 := kpc (Z := Z) hb5 (by simp) b2 HZ3.out
          have HS6 := Lib.hid (HS5.out.below k2)
          have HO6 := Lib.hid (kpo hb5 (by simp) HO5.out)
          have HB6 := Lib.hid (bup HSe.out HB5.out k2)
          clear k2 hb5 HShp HS5 HO5 HB5 b0 b1 b3 b4 HFs HCar
          go_wp2_with fail
          go_loopw [13] (fun iv wr => ∃ k : Nat, k ≤ N2 ∧ iv = .int .i64 k ∧ Hid (Sm wr s (s + 1) osn (S1.runs (ts.take k))) ∧ Hid (Stay (foot s (s + 1) H) w6 wr)) (fun iv _ => N2 - (intOf iv).toNat)
          case atStart => exact ⟨0, by omega, rfl, by rw [List.take_zero]; exact HS6.out, Stay.refl _ _⟩
          case round =>
            obtain ⟨k, hk, rfl, HSk, HTk⟩ := hrel
            by_cases hlt : k < N2
            · have hlt' : (k : Int) < N2 := by omega
              have hk0 : (0 : Int) ≤ k := by omega
              have hkl : k < ts.length := by rw [← HN2.out]; exact hlt
              have hBk := bst HSe.out HB6.out HTk.out foot_ge
              have hS0 := HTt.out.keep hBk
              obtain ⟨sb, so, rfl, hadB, key⟩ := hS0.at_ k hkl
              have hok := hS0.ok _ (List.getElem_mem hkl)
              have hLl := HRl2.out.2 _ (List.getElem_mem hkl)
              have hru : S1.runs (ts.take (k + 1)) = (S1.runs (ts.take k)).run ts[k] := by
                rw [List.take_succ_eq_append_getElem hkl]
                unfold Sc.runs
                rw [List.foldl_append]
                rfl
              have hz : s ≤ wr.heap.size := by
                have := hBk.size
                rw [← HSe.out] at this
                exact this
              obtain ⟨st, hst⟩ : ∃ st, st = ts[k] := ⟨_, rfl⟩
              rw [← hst] at key hok hLl hru
              have HRu := Lib.hid (show Calls Try.prog 14 #[.pointer (some ⟨s, 0, none⟩), st.agg] wr fun e w' => e = .returned (.tuple #[]) ∧ Sm w' s (s + 1) osn (S1.runs (ts.take (k + 1))) ∧ Stay (foot s (s + 1) H) w6 w' from by
                refine (run_any s (s + 1) osn _ st s wr hok hz hLl HSk.out).mono ?_
                rintro e w' ⟨rfl, k1, k2⟩
                rw [hru]
                rw [(S1.runs_size _).2.1, HSz1.out.2] at k2
                exact ⟨rfl, k1, HTk.out.trans k2⟩)
              obtain ⟨d, sx, sy, LA, lc, L, rx, ry, rw_, rh, sn⟩ := st
              have c0 := key 0 _ rfl
              have c1 := key 1 _ rfl
              have c2 := key 2 _ rfl
              have c3 := key 3 _ rfl
              have c4 := key 4 _ rfl
              have c5 := key 5 _ rfl
              have c6 := key 6 _ rfl
              have c7 := key 7 _ rfl
              have c8 := key 8 _ rfl
              rw [Nat.add_zero] at c0
              simp only [St.agg] at HRu
              simp only at c0 c1 c2 c3 c4 c5 c6 c7 c8
              clear key hst hok hLl hru hS0 hkl hz hBk
              go_wp2_with fail
              refine HRu.out.mono ?_
              rintro e w2 ⟨rfl, k1, k2⟩
              have HS2 := Lib.hid k1
              have HB2 := Lib.hid k2
              clear k1 k2
              go_wp2_with fail
              go_roundw
              case rel => exact ⟨k + 1, by omega, by go_num, HS2.out, HB2.out⟩
              case measure => simp [intOf]; omega
            · have hk' : k = N2 := by omega
              have hlt' : ¬ (k : Int) < N2 := by omega
              have hT1 := HSk.out
              rw [hk', HN2.out, List.take_length] at hT1
              obtain ⟨T, hT⟩ : ∃ T, T = S1.runs ts := ⟨_, rfl⟩
              rw [← hT] at hT1
              have HG2 := Lib.hid (show Good T from by rw [hT]; exact HG1.out.runs ts)
              have HSz2 := Lib.hid (show T.W = W ∧ T.H = H from by rw [hT]; exact ⟨(S1.runs_size ts).1.trans HSz1.out.1, (S1.runs_size ts).2.1.trans HSz1.out.2⟩)
              have HOl2 := Lib.hid (show T.old = some S1.rows from by rw [hT]; exact (S1.runs_size ts).2.2.trans HOl.out)
              replace b2 := kpc (Z := Z) HTk.out HFo.out b2 HZ3.out
              have HS7 := Lib.hid hT1
              have HO7 := Lib.hid (kpo HTk.out HFo.out HO6.out)
              have HB7 := Lib.hid (bst HSe.out HB6.out HTk.out foot_ge)
              obtain ⟨w7, hw7⟩ : ∃ w7, w7 = wr := ⟨_, rfl⟩
              rw [← hw7] at HS7 HO7 HB7 b2 ⊢
              clear hT1 hT hk' hw7 HSk HTk HS6 HO6 HB6 HOl
              have HGr := Lib.hid (grid_any s (s + 1) osn T w7 HS7.out)
              rw [HSz2.out.1, HSz2.out.2, ← HMe.out] at HGr
              go_wp2_with fail
              refine HGr.out.mono ?_
              rintro e w8 ⟨Ah, ch, rfl, k1, k2⟩
              have hb8 : Stay [] w7 w8 := Stay.below k2
              have HZ8 := Lib.hid (show Z ≤ w7.heap.size ∧ B1 < w7.heap.size from by have h9 := World.block_lt_of_cell? _ _ b2; have := HZ3.out; simp only at h9; omega)
              have HP8 := Lib.hid k1
              have HS8 := Lib.hid (HS7.out.below k2)
              have HO8 := Lib.hid (kpo hb8 (by simp) HO7.out)
              have HB8 := Lib.hid (bup HSe.out HB7.out k2)
              have HZ9 := Lib.hid k2.size
              replace b2 := kpc (Z := Z) hb8 (by simp) b2 HZ3.out
              clear k1 k2 hb8 HGr
              obtain ⟨X2, hX⟩ : ∃ X, X = T.X := ⟨_, rfl⟩
              obtain ⟨Y2, hY⟩ : ∃ Y, Y = T.Y := ⟨_, rfl⟩
              have HCar := Lib.hid (show (0 ≤ X2 ∧ X2 < W ∧ 0 ≤ Y2 ∧ Y2 < H) ∨ (X2 = -1 ∧ Y2 = -1) from by
                have := HG2.out.car
                rw [← hX, ← hY, HSz2.out.1, HSz2.out.2] at this
                exact this.symm)
              rw [← hX, ← hY]
              clear hX hY
              obtain ⟨G, hG⟩ : ∃ G, G = T.rows.flatten := ⟨_, rfl⟩
              rw [← hG] at HP8
              have hrw : ∀ r ∈ T.rows, r.length = W := fun r hr => (HG2.out.row r hr).1.trans HSz2.out.1
              have HGl := Lib.hid (show G.length = M from by rw [hG, flatLen W _ hrw, HG2.out.len, HSz2.out.2, ← HMe.out])
              have HGp := Lib.hid (show PartOK G from by rw [hG]; exact flat_part fun r hr => (HS7.out.ok.row r hr).2)
              have HGs := Lib.hid (show ∀ i, i < M → 0 ≤ pt G i ∧ (0 < pt G i → i % W ≠ 0 ∧ 0 < i ∧ pt G (i - 1) = pt G i - 1) from fun i hi => by
                rw [hG]
                exact flat_shape W T.rows (fun r hr => ⟨hrw r hr, (HG2.out.row r hr).2⟩) i (by rw [HG2.out.len, HSz2.out.2, ← HMe.out]; exact hi))
              obtain ⟨D, hD⟩ : ∃ D, D = T.dmg H := ⟨_, rfl⟩
              have HDm := Lib.hid (show Dm W H D F G from by
                have h := dm_of HG2.out S1.rows HOl2.out (fun r hr => (HG1.out.row r hr).1.trans (HSz1.out.1.trans HSz2.out.1.symm))
                rw [HSz2.out.1, HSz2.out.2, ← hG, ← HFe.out, ← hD] at h
                exact h)
              have HDe := Lib.hid (show T.dmg T.H = D from by rw [HSz2.out.2, hD])
              clear hG hrw hD HS7 HO7 HB7 HFe HOl2
              have b5 := box_cell w8 #[.int .i64 W, .int .i64 H, .slice Ah M ch, .int .i64 X2, .int .i64 Y2] 40 0 _ rfl
              have b6 := box_cell w8 #[.int .i64 W, .int .i64 H, .slice Ah M ch, .int .i64 X2, .int .i64 Y2] 40 1 _ rfl
              have b7 := box_cell w8 #[.int .i64 W, .int .i64 H, .slice Ah M ch, .int .i64 X2, .int .i64 Y2] 40 2 _ rfl
              have b8 := box_cell w8 #[.int .i64 W, .int .i64 H, .slice Ah M ch, .int .i64 X2, .int .i64 Y2] 40 3 _ rfl
              have b9 := box_cell w8 #[.int .i64 W, .int .i64 H, .slice Ah M ch, .int .i64 X2, .int .i64 Y2] 40 4 _ rfl
              have HT1 := Lib.hid (Stay.alloc (F := []) w8 (.cells #[.int .i64 W, .int .i64 H, .slice Ah M ch, .int .i64 X2, .int .i64 Y2] 40))
              have hsz := size_alloc' w8 (.cells #[.int .i64 W, .int .i64 H, .slice Ah M ch, .int .i64 X2, .int .i64 Y2] 40)
              go_wp2_with fail
              obtain ⟨W9, hW9⟩ : ∃ W9, W9 = w8.alloc (.cells #[.int .i64 W, .int .i64 H, .slice Ah M ch, .int .i64 X2, .int .i64 Y2] 40) := ⟨_, rfl⟩
              obtain ⟨B2, hB2⟩ : ∃ B2, B2 = w8.heap.size := ⟨_, rfl⟩
              obtain ⟨Z2, hZ2⟩ : ∃ Z2, Z2 = w7.heap.size := ⟨_, rfl⟩
              rw [← hW9] at b5 b6 b7 b8 b9 HT1 hsz ⊢
              rw [← hB2] at b5 b6 b7 b8 b9 hsz HZ9 ⊢
              rw [← hZ2] at HP8 HZ8 HZ9
              have HP9 := Lib.hid (kpo HT1.out (by simp) HP8.out)
              have HS9 := Lib.hid (HS8.out.stay HT1.out (by simp))
              have HO9 := Lib.hid (kpo HT1.out (by simp) HO8.out)
              have HB9 := Lib.hid (bst HSe.out HB8.out HT1.out (by simp))
              replace b2 := kpc (Z := Z) HT1.out (by simp) b2 HZ3.out
              clear hW9 hB2 hZ2 HT1 HS8 HO8 HB8 HP8 hsz
              have HC := Lib.hid (damage_any s (s + 1) osn T W9 HS9.out)
              rw [HDe.out] at HC
              obtain ⟨m, hm⟩ : ∃ m, m = D.length := ⟨_, rfl⟩
              have HMl := Lib.hid hm
              rw [← hm] at HC
              clear hm
              go_wp2_with fail
              refine HC.out.mono ?_
              rintro e w10 ⟨Ar, cr, rfl, k1, k2⟩
              have hb8 : Stay [] W9 w10 := Stay.below k2
              have HZr := Lib.hid (show Z2 ≤ W9.heap.size from by have h9 := World.block_lt_of_cell? _ _ b5; have := HZ9.out; simp only at h9; omega)
              have HR10 := Lib.hid (ownsRow_mono k1 HZr.out)
              have HP10 := Lib.hid (kpo hb8 (by simp) HP9.out)
              have HS10 := Lib.hid (HS9.out.below k2)
              have HO10 := Lib.hid (kpo hb8 (by simp) HO9.out)
              have HB10 := Lib.hid (bup HSe.out HB9.out k2)
              replace b2 := kpc (Z := Z) hb8 (by simp) b2 HZ3.out
              replace b5 := kpc (Z := Z2) hb8 (by simp) b5 HZ9.out
              replace b6 := kpc (Z := Z2) hb8 (by simp) b6 HZ9.out
              replace b7 := kpc (Z := Z2) hb8 (by simp) b7 HZ9.out
              replace b8 := kpc (Z := Z2) hb8 (by simp) b8 HZ9.out
              replace b9 := kpc (Z := Z2) hb8 (by simp) b9 HZ9.out
              clear k1 k2 hb8 HC HP9 HS9 HO9 HB9
              have HShp := Lib.hid (show Calls Try.prog 18 #[.agg #[.int .i64 W, .int .i64 H, .slice Ah M ch, .int .i64 X2, .int .i64 Y2]] w10 fun e w' => e = .returned (.bool true) ∧ Below w10.heap.size w10 w' from
                shaped_any W H M ch Ah X2 Y2 G Z2 w10 HP10.out HMe.out HGl.out hW hH HGs.out HGp.out HCar.out)
              go_wp2_with fail
              refine HShp.out.mono ?_
              rintro e w11 ⟨rfl, k2⟩
              have hb8 : Stay [] w10 w11 := Stay.below k2
              have HR11 := Lib.hid (kpo hb8 (by simp) HR10.out)
              have HP11 := Lib.hid (kpo hb8 (by simp) HP10.out)
              have HS11 := Lib.hid (HS10.out.below k2)
              have HO11 := Lib.hid (kpo hb8 (by simp) HO10.out)
              have HB11 := Lib.hid (bup HSe.out HB10.out k2)
              replace b2 := kpc (Z := Z) hb8 (by simp) b2 HZ3.out
              replace b7 := kpc (Z := Z2) hb8 (by simp) b7 HZ9.out
              clear k2 hb8 HShp HR10 HP10 HS10 HO10 HB10 b5 b6 b8 b9 HGs HCar
              go_wp2_with fail
              obtain ⟨FB, hFB⟩ : ∃ FB, FB = (Value.slice Ag M cg).ownBlock.toList := ⟨_, rfl⟩
              have HFB := Lib.hid (show ∀ g ∈ FB, Z ≤ g ∧ g < B1 from fun g hg => by
                rw [hFB] at hg
                exact HgB.out g (by simpa using hg))
              have HFBe := Lib.hid hFB
              clear hFB
              go_loopw [15, 17] (fun lv iv wr => ∃ (k : Nat) (la : Int), k ≤ m ∧ iv = .int .i64 k ∧ lv = .int .i64 la ∧ -1 ≤ la ∧ la < 1024 ∧ Hid (∀ j, k ≤ j → ∀ q, D[j]? = some q → la < q.2.1) ∧ Hid (wr.ownsRow Z 49 6 (.slice Ag M cg) M (rowCells (patchL W G F (D.take k)))) ∧ Hid (Stay FB w11 wr)) (fun _ iv _ => m - (intOf iv).toNat)
              case atStart => exact ⟨0, -1, by omega, rfl, rfl, by omega, by omega, fun j _ q _ => by omega, by rw [List.take_zero]; exact HO11.out, Stay.refl _ _⟩
              case round =>
                obtain ⟨k, la, hk, rfl, rfl, hl1, hl2, HLa, HOk, HTk⟩ := hrel
                have HF2 := Lib.hid (show ∀ g ∈ FB, g < Z2 from fun g hg => by have := HFB.out g hg; have := HZ8.out.2; omega)
                have e2 : wr.cell? ⟨B1, 2, none⟩ = some (.slice Ag M cg) := (HTk.out.cell_ (a := ⟨B1, 2, none⟩) (World.block_lt_of_cell? _ _ b2) (fun hm => by have := HFB.out _ hm; simp only at this; omega)).trans b2
                have e7 := kpc HTk.out HF2.out b7 HZ9.out
                by_cases hlt : k < m
                · have hlt' : (k : Int) < m := by omega
                  have hk0 : (0 : Int) ≤ k := by omega
                  have hkD : k < D.length := by rw [← HMl.out]; exact hlt
                  have hokR := kpo HTk.out HF2.out HR11.out
                  have hcapR : m ≤ cr ∧ cr ≤ maxLen := by
                    rcases hokR.2 with ⟨hv, h0⟩ | ⟨g, cap, cur, hv, _, _, hc, hc2, _⟩
                    · omega
                    · injection hv with _ _ hcc
                      omega
                  have hmI : (m : Int) ≤ 9223372036854775807 := by
                    have := hcapR.2
                    simp only [maxLen] at this
                    omega
                  obtain ⟨gr, capr, hv, -, -⟩ := owned_form hokR (by omega)
                  injection hv with hA _ hc
                  subst hA
                  subst hc
                  have key : ∀ j v, [Value.int .i64 (D[k]).1, .int .i64 (D[k]).2.1, .int .i64 (D[k]).2.2, .int .i64 1][j]? = some v → wr.cell? ⟨gr, k * 4 + j, none⟩ = some v := fun j v hj => by
                    have hj4 : j < 4 := by have := (List.getElem?_eq_some_iff.1 hj).1; exact this
                    rw [World.ownsRow.cellAt hokR (k * 4 + j) (by omega), rectCells_at D k hkD j hj4, hj]
                  have d0 := key 0 _ rfl
                  have d1 := key 1 _ rfl
                  have d2 := key 2 _ rfl
                  have d3 := key 3 _ rfl
                  rw [Nat.add_zero] at d0
                  have hwd := HDm.out.wd _ (List.getElem_mem hkD)
                  have hfit := HDm.out.fit _ (List.getElem_mem hkD)
                  have hen := HDm.out.ends (HFl.out.trans HMe.out) (HGl.out.trans HMe.out) k hkD
                  have hla := HLa.out k (Nat.le_refl _) _ (List.getElem?_eq_getElem hkD)
                  rw [← HMe.out] at hfit
                  have HPs := Lib.hid (show patchL W G F (D.take (k + 1)) = patch1 W G (patchL W G F (D.take k)) D[k] from by rw [List.take_succ_eq_append_getElem hkD, patchL_snoc])
                  have HLn := Lib.hid (show ∀ j, k + 1 ≤ j → ∀ q, D[j]? = some q → ((D[k]).2.1 : Int) < q.2.1 from fun j hj q hq => by
                    obtain ⟨hjl, e⟩ := List.getElem?_eq_some_iff.1 hq
                    have h := List.pairwise_iff_getElem.1 HDm.out.ord k j hkD hjl (by omega)
                    rw [e] at h
                    omega)
                  obtain ⟨q, hq⟩ : ∃ q, q = D[k] := ⟨_, rfl⟩
                  rw [← hq] at d0 d1 d2 hwd hfit hen hla HPs HLn
                  clear hq key hokR hkD
                  obtain ⟨x, y, n⟩ := q
                  simp only at d0 d1 d2 hwd hfit hen hla HLn
                  obtain ⟨hn0, hxn, hyH⟩ := hwd
                  obtain ⟨a, ha⟩ : ∃ a, a = rAt W (x, y, n) := ⟨_, rfl⟩
                  rw [← ha] at hfit hen
                  obtain ⟨p0, hp0⟩ : ∃ p0, p0 = y * W := ⟨_, rfl⟩
                  have hpa : a = p0 + x := by rw [ha, hp0]; rfl
                  have hm0 : IntKind.i64.wrap ((y : Int) * W) = p0 := by rw [← Int.natCast_mul, ← hp0]; simp only [IntKind.wrap, IntKind.bits, IntKind.signed]; simp; omega
                  have HAe := Lib.hid ha
                  obtain ⟨P, hP⟩ : ∃ P, P = patchL W G F (D.take k) := ⟨_, rfl⟩
                  rw [← hP] at hen HOk HPs
                  have HPl := Lib.hid (show P.length = M from by
                    rw [hP, patchL_length _ F (by rw [HGl.out, HFl.out]) (fun q hq => by rw [HGl.out, HMe.out]; exact HDm.out.fit q (List.mem_of_mem_take hq)), HFl.out])
                  have HEn := Lib.hid hen
                  clear ha hp0 hP hen
                  have hy1 : (y : Int) < 1024 := by omega
                  have hyH' : (y : Int) < H := by omega
                  have hx1 : (x : Int) < 1024 := by omega
                  have hxn' : (x : Int) + n ≤ W := by omega
                  have hn1 : (n : Int) ≤ 1024 := by omega
                  have hn0' : 1 ≤ (n : Int) := by omega
                  have hp1 : (p0 : Int) + x ≤ 1048576 := by omega
                  go_upto_region 32 with (fail)
                  obtain ⟨e, he⟩ : ∃ e, e = a + n - 1 := ⟨_, rfl⟩
                  rw [show (p0 : Int) + x = (a : Int) by omega, show (a : Int) + n - 1 = (e : Int) by omega]
                  have HEe := Lib.hid he
                  have haM : (a : Int) < M := by omega
                  have heM : (e : Int) < M := by omega
                  have ha0 : (0 : Int) ≤ a := by omega
                  have he0 : (0 : Int) ≤ e := by omega
                  have HTa := Lib.hid (Stay.alloc (F := []) wr (.cells #[.int .i64 x, .int .i64 y, .int .i64 n, .int .i64 1] 35))
                  obtain ⟨Wa, hWa⟩ : ∃ Wa, Wa = wr.alloc (.cells #[.int .i64 x, .int .i64 y, .int .i64 n, .int .i64 1] 35) := ⟨_, rfl⟩
                  rw [← hWa] at HTa ⊢
                  have HWa := Lib.hid hWa
                  have f1 := kpc (Z := 0) HTa.out (by simp) e2 (Nat.zero_le _)
                  have f2 := kpc (Z := 0) HTa.out (by simp) e7 (Nat.zero_le _)
                  have hokP := kpo HTa.out (by simp) HOk.out
                  have hokG := kpo HTa.out (by simp) (kpo HTk.out HF2.out HP11.out)
                  obtain ⟨g1, cap1, hv1, hz1, -⟩ := owned_form hokP (by omega)
                  obtain ⟨g2, cap2, hv2, hz2, -⟩ := owned_form hokG (by omega)
                  injection hv1 with hA1 _ hc1
                  injection hv2 with hA2 _ hc2
                  rw [hA1] at f1 hokP
                  rw [hA2] at f2 hokG
                  have HA1 := Lib.hid hA1
                  have HA2 := Lib.hid hA2
                  have k1 := own_cell hokP a (by rw [HPl.out]; omega) HPl.out (P.getD a Ce.zero) (by rw [List.getD_eq_getElem?_getD, List.getElem?_eq_getElem (by rw [HPl.out]; omega)]; rfl)
                  have k2 := own_cell hokG a (by rw [HGl.out]; omega) HGl.out (G.getD a Ce.zero) (by rw [List.getD_eq_getElem?_getD, List.getElem?_eq_getElem (by rw [HGl.out]; omega)]; rfl)
                  have k3 := own_cell hokP e (by rw [HPl.out]; omega) HPl.out (P.getD e Ce.zero) (by rw [List.getD_eq_getElem?_getD, List.getElem?_eq_getElem (by rw [HPl.out]; omega)]; rfl)
                  have k4 := own_cell hokG e (by rw [HGl.out]; omega) HGl.out (G.getD e Ce.zero) (by rw [List.getD_eq_getElem?_getD, List.getElem?_eq_getElem (by rw [HGl.out]; omega)]; rfl)
                  have hl1 := HEn.out.1
                  have hl2 := HEn.out.2
                  rw [show a + n - 1 = e from he.symm] at hl2
                  have HL1 := Lib.hid (fun v => looks_any (P.getD a Ce.zero) (G.getD a Ce.zero) v)
                  have HL2 := Lib.hid (fun v => looks_any (P.getD e Ce.zero) (G.getD e Ce.zero) v)
                  rw [hl1] at HL1
                  rw [hl2] at HL2
                  have HPG := Lib.hid (And.intro hokP hokG)
                  have HPa := Lib.hid hpa
                  clear hl1 hl2 hWa hA1 hA2 hc1 hc2 hokP hokG he hm0 d0 d1 d2 hpa
                  obtain ⟨q1, hq⟩ : ∃ q, q = P.getD a Ce.zero := ⟨_, rfl⟩
                  rw [← hq] at k1 HL1
                  clear hq
                  obtain ⟨t1, p1, a1, l1, r1, s1⟩ := q1
                  obtain ⟨q2, hq⟩ : ∃ q, q = G.getD a Ce.zero := ⟨_, rfl⟩
                  rw [← hq] at k2 HL1
                  clear hq
                  obtain ⟨t2, p2, a2, l2, r2, s2⟩ := q2
                  obtain ⟨q3, hq⟩ : ∃ q, q = P.getD e Ce.zero := ⟨_, rfl⟩
                  rw [← hq] at k3 HL2
                  clear hq
                  obtain ⟨t3, p3, a3, l3, r3, s3⟩ := q3
                  obtain ⟨q4, hq⟩ : ∃ q, q = G.getD e Ce.zero := ⟨_, rfl⟩
                  rw [← hq] at k4 HL2
                  clear hq
                  obtain ⟨t4, p4, a4, l4, r4, s4⟩ := q4
                  simp only at k1 k2 k3 k4 HL1 HL2
                  obtain ⟨m10, m11, m12, m13, m14, m15⟩ := k1
                  obtain ⟨m20, m21, m22, m23, m24, m25⟩ := k2
                  obtain ⟨m30, m31, m32, m33, m34, m35⟩ := k3
                  obtain ⟨m40, m41, m42, m43, m44, m45⟩ := k4
                  have HK2 := Lib.hid (show ∀ v v' : World, (v.cell? ⟨B1, 2, none⟩ = some (.slice (some ⟨g1, 0, none⟩) M cg) ∧ v.cell? ⟨B2, 2, none⟩ = some (.slice (some ⟨g2, 0, none⟩) M ch) ∧ v.cell? ⟨g1, a * 6, none⟩ = some (.string t1) ∧ v.cell? ⟨g1, a * 6 + 1, none⟩ = some (.int .i8 p1) ∧ v.cell? ⟨g1, a * 6 + 2, none⟩ = some (.int .i64 a1) ∧ v.cell? ⟨g1, a * 6 + 3, none⟩ = some (.int .i64 l1) ∧ v.cell? ⟨g1, a * 6 + 4, none⟩ = some (.bool r1) ∧ v.cell? ⟨g1, a * 6 + 5, none⟩ = some (.int .u16 s1) ∧ v.cell? ⟨g2, a * 6, none⟩ = some (.string t2) ∧ v.cell? ⟨g2, a * 6 + 1, none⟩ = some (.int .i8 p2) ∧ v.cell? ⟨g2, a * 6 + 2, none⟩ = some (.int .i64 a2) ∧ v.cell? ⟨g2, a * 6 + 3, none⟩ = some (.int .i64 l2) ∧ v.cell? ⟨g2, a * 6 + 4, none⟩ = some (.bool r2) ∧ v.cell? ⟨g2, a * 6 + 5, none⟩ = some (.int .u16 s2) ∧ v.cell? ⟨g1, e * 6, none⟩ = some (.string t3) ∧ v.cell? ⟨g1, e * 6 + 1, none⟩ = some (.int .i8 p3) ∧ v.cell? ⟨g1, e * 6 + 2, none⟩ = some (.int .i64 a3) ∧ v.cell? ⟨g1, e * 6 + 3, none⟩ = some (.int .i64 l3) ∧ v.cell? ⟨g1, e * 6 + 4, none⟩ = some (.bool r3) ∧ v.cell? ⟨g1, e * 6 + 5, none⟩ = some (.int .u16 s3) ∧ v.cell? ⟨g2, e * 6, none⟩ = some (.string t4) ∧ v.cell? ⟨g2, e * 6 + 1, none⟩ = some (.int .i8 p4) ∧ v.cell? ⟨g2, e * 6 + 2, none⟩ = some (.int .i64 a4) ∧ v.cell? ⟨g2, e * 6 + 3, none⟩ = some (.int .i64 l4) ∧ v.cell? ⟨g2, e * 6 + 4, none⟩ = some (.bool r4) ∧ v.cell? ⟨g2, e * 6 + 5, none⟩ = some (.int .u16 s4)) → Stay [] v v' → (v'.cell? ⟨B1, 2, none⟩ = some (.slice (some ⟨g1, 0, none⟩) M cg) ∧ v'.cell? ⟨B2, 2, none⟩ = some (.slice (some ⟨g2, 0, none⟩) M ch) ∧ v'.cell? ⟨g1, a * 6, none⟩ = some (.string t1) ∧ v'.cell? ⟨g1, a * 6 + 1, none⟩ = some (.int .i8 p1) ∧ v'.cell? ⟨g1, a * 6 + 2, none⟩ = some (.int .i64 a1) ∧ v'.cell? ⟨g1, a * 6 + 3, none⟩ = some (.int .i64 l1) ∧ v'.cell? ⟨g1, a * 6 + 4, none⟩ = some (.bool r1) ∧ v'.cell? ⟨g1, a * 6 + 5, none⟩ = some (.int .u16 s1) ∧ v'.cell? ⟨g2, a * 6, none⟩ = some (.string t2) ∧ v'.cell? ⟨g2, a * 6 + 1, none⟩ = some (.int .i8 p2) ∧ v'.cell? ⟨g2, a * 6 + 2, none⟩ = some (.int .i64 a2) ∧ v'.cell? ⟨g2, a * 6 + 3, none⟩ = some (.int .i64 l2) ∧ v'.cell? ⟨g2, a * 6 + 4, none⟩ = some (.bool r2) ∧ v'.cell? ⟨g2, a * 6 + 5, none⟩ = some (.int .u16 s2) ∧ v'.cell? ⟨g1, e * 6, none⟩ = some (.string t3) ∧ v'.cell? ⟨g1, e * 6 + 1, none⟩ = some (.int .i8 p3) ∧ v'.cell? ⟨g1, e * 6 + 2, none⟩ = some (.int .i64 a3) ∧ v'.cell? ⟨g1, e * 6 + 3, none⟩ = some (.int .i64 l3) ∧ v'.cell? ⟨g1, e * 6 + 4, none⟩ = some (.bool r3) ∧ v'.cell? ⟨g1, e * 6 + 5, none⟩ = some (.int .u16 s3) ∧ v'.cell? ⟨g2, e * 6, none⟩ = some (.string t4) ∧ v'.cell? ⟨g2, e * 6 + 1, none⟩ = some (.int .i8 p4) ∧ v'.cell? ⟨g2, e * 6 + 2, none⟩ = some (.int .i64 a4) ∧ v'.cell? ⟨g2, e * 6 + 3, none⟩ = some (.int .i64 l4) ∧ v'.cell? ⟨g2, e * 6 + 4, none⟩ = some (.bool r4) ∧ v'.cell? ⟨g2, e * 6 + 5, none⟩ = some (.int .u16 s4)) from fun v v' h hs => by
                    have hk : ∀ (b j : Nat) (u : Value), v.cell? ⟨b, j, none⟩ = some u → v'.cell? ⟨b, j, none⟩ = some u := fun b j u hu => kpc (Z := 0) hs (by simp) hu (Nat.zero_le _)
                    obtain ⟨h0, h1, h2, h3, h4, h5, h6, h7, h8, h9, h10, h11, h12, h13, h14, h15, h16, h17, h18, h19, h20, h21, h22, h23, h24, h25⟩ := h
                    exact ⟨hk _ _ _ h0, hk _ _ _ h1, hk _ _ _ h2, hk _ _ _ h3, hk _ _ _ h4, hk _ _ _ h5, hk _ _ _ h6, hk _ _ _ h7, hk _ _ _ h8, hk _ _ _ h9, hk _ _ _ h10, hk _ _ _ h11, hk _ _ _ h12, hk _ _ _ h13, hk _ _ _ h14, hk _ _ _ h15, hk _ _ _ h16, hk _ _ _ h17, hk _ _ _ h18, hk _ _ _ h19, hk _ _ _ h20, hk _ _ _ h21, hk _ _ _ h22, hk _ _ _ h23, hk _ _ _ h24, hk _ _ _ h25⟩)
                  have HK1 := Lib.hid (show Wa.cell? ⟨B1, 2, none⟩ = some (.slice (some ⟨g1, 0, none⟩) M cg) ∧ Wa.cell? ⟨B2, 2, none⟩ = some (.slice (some ⟨g2, 0, none⟩) M ch) ∧ Wa.cell? ⟨g1, a * 6, none⟩ = some (.string t1) ∧ Wa.cell? ⟨g1, a * 6 + 1, none⟩ = some (.int .i8 p1) ∧ Wa.cell? ⟨g1, a * 6 + 2, none⟩ = some (.int .i64 a1) ∧ Wa.cell? ⟨g1, a * 6 + 3, none⟩ = some (.int .i64 l1) ∧ Wa.cell? ⟨g1, a * 6 + 4, none⟩ = some (.bool r1) ∧ Wa.cell? ⟨g1, a * 6 + 5, none⟩ = some (.int .u16 s1) ∧ Wa.cell? ⟨g2, a * 6, none⟩ = some (.string t2) ∧ Wa.cell? ⟨g2, a * 6 + 1, none⟩ = some (.int .i8 p2) ∧ Wa.cell? ⟨g2, a * 6 + 2, none⟩ = some (.int .i64 a2) ∧ Wa.cell? ⟨g2, a * 6 + 3, none⟩ = some (.int .i64 l2) ∧ Wa.cell? ⟨g2, a * 6 + 4, none⟩ = some (.bool r2) ∧ Wa.cell? ⟨g2, a * 6 + 5, none⟩ = some (.int .u16 s2) ∧ Wa.cell? ⟨g1, e * 6, none⟩ = some (.string t3) ∧ Wa.cell? ⟨g1, e * 6 + 1, none⟩ = some (.int .i8 p3) ∧ Wa.cell? ⟨g1, e * 6 + 2, none⟩ = some (.int .i64 a3) ∧ Wa.cell? ⟨g1, e * 6 + 3, none⟩ = some (.int .i64 l3) ∧ Wa.cell? ⟨g1, e * 6 + 4, none⟩ = some (.bool r3) ∧ Wa.cell? ⟨g1, e * 6 + 5, none⟩ = some (.int .u16 s3) ∧ Wa.cell? ⟨g2, e * 6, none⟩ = some (.string t4) ∧ Wa.cell? ⟨g2, e * 6 + 1, none⟩ = some (.int .i8 p4) ∧ Wa.cell? ⟨g2, e * 6 + 2, none⟩ = some (.int .i64 a4) ∧ Wa.cell? ⟨g2, e * 6 + 3, none⟩ = some (.int .i64 l4) ∧ Wa.cell? ⟨g2, e * 6 + 4, none⟩ = some (.bool r4) ∧ Wa.cell? ⟨g2, e * 6 + 5, none⟩ = some (.int .u16 s4) from ⟨f1, f2, m10, m11, m12, m13, m14, m15, m20, m21, m22, m23, m24, m25, m30, m31, m32, m33, m34, m35, m40, m41, m42, m43, m44, m45⟩)
                  have HLa1 := Lib.hid (show ∀ v, Calls Try.prog 19 #[.agg #[.string t1, .int .i8 p1, .int .i64 a1, .int .i64 l1, .bool r1, .int .u16 s1], .agg #[.string t2, .int .i8 p2, .int .i64 a2, .int .i64 l2, .bool r2, .int .u16 s2]] v fun e w' => e = .returned (.bool false) ∧ Stay [] v w' from fun v => by
                    refine (HL1.out v).mono ?_
                    rintro e w' ⟨rfl, h⟩
                    exact ⟨rfl, Stay.below h⟩)
                  have HLa2 := Lib.hid (show ∀ v, Calls Try.prog 19 #[.agg #[.string t3, .int .i8 p3, .int .i64 a3, .int .i64 l3, .bool r3, .int .u16 s3], .agg #[.string t4, .int .i8 p4, .int .i64 a4, .int .i64 l4, .bool r4, .int .u16 s4]] v fun e w' => e = .returned (.bool false) ∧ Stay [] v w' from fun v => by
                    refine (HL2.out v).mono ?_
                    rintro e w' ⟨rfl, h⟩
                    exact ⟨rfl, Stay.below h⟩)
                  have HSd := Lib.hid (Stay.drew (F := []) Wa)
                  clear HL1 HL2
                  go_cut [188] (fun bv wx => bv = .bool false ∧ Hid (Stay [] Wa wx))
                  case first =>
                    clear HSt HTt HN HN2 hcap hcap2 hnm hnm2 HRl HRl2
                    go_region_held3 (fun w' => w'.cell? ⟨B1, 2, none⟩ = some (.slice (some ⟨g1, 0, none⟩) M cg) ∧ w'.cell? ⟨B2, 2, none⟩ = some (.slice (some ⟨g2, 0, none⟩) M ch) ∧ w'.cell? ⟨g1, a * 6, none⟩ = some (.string t1) ∧ w'.cell? ⟨g1, a * 6 + 1, none⟩ = some (.int .i8 p1) ∧ w'.cell? ⟨g1, a * 6 + 2, none⟩ = some (.int .i64 a1) ∧ w'.cell? ⟨g1, a * 6 + 3, none⟩ = some (.int .i64 l1) ∧ w'.cell? ⟨g1, a * 6 + 4, none⟩ = some (.bool r1) ∧ w'.cell? ⟨g1, a * 6 + 5, none⟩ = some (.int .u16 s1) ∧ w'.cell? ⟨g2, a * 6, none⟩ = some (.string t2) ∧ w'.cell? ⟨g2, a * 6 + 1, none⟩ = some (.int .i8 p2) ∧ w'.cell? ⟨g2, a * 6 + 2, none⟩ = some (.int .i64 a2) ∧ w'.cell? ⟨g2, a * 6 + 3, none⟩ = some (.int .i64 l2) ∧ w'.cell? ⟨g2, a * 6 + 4, none⟩ = some (.bool r2) ∧ w'.cell? ⟨g2, a * 6 + 5, none⟩ = some (.int .u16 s2) ∧ w'.cell? ⟨g1, e * 6, none⟩ = some (.string t3) ∧ w'.cell? ⟨g1, e * 6 + 1, none⟩ = some (.int .i8 p3) ∧ w'.cell? ⟨g1, e * 6 + 2, none⟩ = some (.int .i64 a3) ∧ w'.cell? ⟨g1, e * 6 + 3, none⟩ = some (.int .i64 l3) ∧ w'.cell? ⟨g1, e * 6 + 4, none⟩ = some (.bool r3) ∧ w'.cell? ⟨g1, e * 6 + 5, none⟩ = some (.int .u16 s3) ∧ w'.cell? ⟨g2, e * 6, none⟩ = some (.string t4) ∧ w'.cell? ⟨g2, e * 6 + 1, none⟩ = some (.int .i8 p4) ∧ w'.cell? ⟨g2, e * 6 + 2, none⟩ = some (.int .i64 a4) ∧ w'.cell? ⟨g2, e * 6 + 3, none⟩ = some (.int .i64 l4) ∧ w'.cell? ⟨g2, e * 6 + 4, none⟩ = some (.bool r4) ∧ w'.cell? ⟨g2, e * 6 + 5, none⟩ = some (.int .u16 s4)) (first | exact hq | exact HK1.out | go_keep)
                      (first
                        | (go_at_call 19; ((with_reducible refine (HLa1.out _).mono ?_); rintro e w6 ⟨rfl, hs6⟩); have hq := HK2.out _ _ HK1.out (HSd.out.trans hs6); have HS6 := Lib.hid (HSd.out.trans hs6))
                        | (go_at_call 19; ((with_reducible refine (HLa2.out _).mono ?_); rintro e w7 ⟨rfl, hs7⟩); have hq := HK2.out _ _ hq hs7; have HS7 := Lib.hid (HS6.out.trans hs7)))
                    all_goals
                      go_wp2_with fail
                      go_meet
                      exact ⟨rfl, HS7⟩
                  case rest =>
                    obtain ⟨rfl, HWx⟩ := hcut
                    obtain ⟨w12, hw12⟩ : ∃ w12, w12 = wc := ⟨_, rfl⟩
                    rw [← hw12] at HWx ⊢
                    replace f1 := kpc (Z := 0) HWx.out (by simp) f1 (Nat.zero_le _)
                    replace f2 := kpc (Z := 0) HWx.out (by simp) f2 (Nat.zero_le _)
                    clear hw12 m10 m11 m12 m13 m14 m15 m20 m21 m22 m23 m24 m25 m30 m31 m32 m33 m34 m35 m40 m41 m42 m43 m44 m45 HK1 HK2 HLa1 HLa2 HSd
                    have b2x := kpc (Z := 0) HWx.out (by simp) (box_cell wr #[.int .i64 x, .int .i64 y, .int .i64 n, .int .i64 1] 35 2 _ rfl |> fun h => HWa.out ▸ h) (Nat.zero_le _)
                    obtain ⟨Lb, hLb, hLl, hMc, hcm, hfin⟩ := own_blit (kpo HWx.out (by simp) HPG.out.1) hz1
                    have HBd := Lib.hid (hLb.stay (F := []) (Stay.drew w12) (by simp))
                    have hG2 := own_blk (kpo HWx.out (by simp) HPG.out.2)
                    obtain ⟨Lg, hLg, hLg2, hLgl, hMh, hchm⟩ := hG2
                    have HCq := Lib.hid (show (cutG W G (x, y, n)).length = n from cutG_length W G (x, y, n) (by rw [HGl.out, ← HAe.out]; exact hfit))
                    have HSr := Lib.hid (show ∀ (j : Nat) (v : Value), (rowCells (cutG W G (x, y, n)))[j]? = some v → w12.drew.cell? ((⟨g2, a * 6, none⟩ : Addr).add j) = some v from fun j v hj => by
                      have h1 : CAt w12 g2 0 G := fun k hk j v hj => by
                        have hj6 : j < 6 := (List.getElem?_eq_some_iff.1 hj).1
                        have hkM : k < M := by rw [← HGl.out]; exact hk
                        rw [Nat.zero_add, World.ownsRow.cellAt (kpo HWx.out (by simp) HPG.out.2) (k * 6 + j) (by omega), rowCells_at G k hk j hj6]
                        exact hj
                      have h2 := h1.cut a (a + n) j v (by rw [HAe.out]; exact hj)
                      rw [Nat.zero_add] at h2
                      exact h2)
                    have HFt := Lib.hid (show a * 6 + (rowCells (cutG W G (x, y, n))).length ≤ Lb.length from by rw [rowCells_length, HCq.out, hLl]; omega)
                    have HFin := Lib.hid (show ∀ w', Blk w' g1 (Lb.take (a * 6) ++ rowCells (cutG W G (x, y, n)) ++ Lb.drop (a * 6 + (rowCells (cutG W G (x, y, n))).length)) 49 → w'.ownsRow Z 49 6 (.slice Ag M cg) M (rowCells (patchL W G F (D.take (k + 1)))) from fun w' hb => by
                      have h := hfin a (cutG W G (x, y, n)) w' (by rw [HCq.out]; exact hfit) hb
                      rw [HPs.out, HA1.out]
                      unfold patch1
                      rw [← HAe.out]
                      exact h)
                    have HT12 := Lib.hid (show Stay FB w11 w12 from (HTk.out.trans (HTa.out.mono (by simp))).trans (HWx.out.mono (by simp)))
                    have HF1 := Lib.hid (show g1 ∈ FB from by rw [HFBe.out, HA1.out]; simp [Value.ownBlock])
                    obtain ⟨e1, he1⟩ : ∃ e1, e1 = e + 1 := ⟨_, rfl⟩
                    have hn : e1 - a = n := by have := HEe.out; omega
                    have HCs := Lib.hid (show (rowCells (cutG W G (x, y, n))).length = Nat.min (e1 - a) (e1 - a) * 6 from by rw [rowCells_length, HCq.out, show Nat.min (e1 - a) (e1 - a) = e1 - a from Nat.min_self _, hn])
                    have hca : ¬ cg = a := by omega
                    have hcha : ¬ ch = a := by omega
                    have hwe : IntKind.i64.wrap ((e : Int) + 1) = (e1 : Int) := by rw [he1]; simp only [IntKind.wrap, IntKind.bits, IntKind.signed]; simp; omega
                    have hae : (a : Int) ≤ e1 := by have := HEe.out; omega
                    have hca2 : (e1 : Int) ≤ cg := by have := HEe.out; omega
                    have hch2 : (e1 : Int) ≤ ch := by have := HEe.out; omega
                    have haM1 : (a : Int) ≤ cg := by omega
                    have haM2 : (a : Int) ≤ ch := by omega
                    have he10 : (0 : Int) ≤ e1 := by omega
                    have HLn2 := Lib.hid hn
                    clear he1 hn hxn' hfit
                    go_wp2_with fail
                    go_still_tail 12, (by kernel_rfl)
                    change wpList _ _ _ _ _ w12.drew
                    have HT13 := Lib.hid (HT12.out.drew')
                    generalize w12.drew = w13 at *
                    go_wp2_with (refine wpList_copy_blk rfl (.tmp 194) (.tmp 200) 33 33 rfl 49 6 Try.underlying33 hz49 g1 (a * 6) (e1 - a) (cg - a) rfl ⟨g2, a * 6, none⟩ (e1 - a) (ch - a) rfl Lb 49 HBd.out (rowCells (cutG W G (x, y, n))) HCs.out HSr.out HFt.out (rowCells_one _) ?_; intro w4 hb4 hs4)
                    go_roundw
                    case rel => exact ⟨k + 1, y, by omega, by go_num, rfl, by omega, by omega, HLn, HFin.out w4 hb4, HT13.out.trans (hs4.mono (by intro g hg; simp at hg; rw [hg]; exact HF1.out))⟩
                    case measure => simp [intOf]; omega
                · have hk' : k = m := by omega
                  have hlt' : ¬ (k : Int) < m := by omega
                  have hO := HOk.out
                  rw [hk', HMl.out, List.take_length] at hO
                  obtain ⟨P, hP⟩ : ∃ P, P = patchL W G F D := ⟨_, rfl⟩
                  have HPl := Lib.hid (show P.length = M from by
                    rw [hP, patchL_length _ F (by rw [HGl.out, HFl.out]) (fun q hq => by rw [HGl.out, HMe.out]; exact HDm.out.fit q hq), HFl.out])
                  have HWh := Lib.hid (show ∀ i, i < M → looksB (P.getD i Ce.zero) (G.getD i Ce.zero) = true from fun i hi => by
                    rw [hP]
                    exact HDm.out.whole (HFl.out.trans HMe.out) (HGl.out.trans HMe.out) i (by rw [← HMe.out]; exact hi))
                  rw [← hP] at hO
                  have HS12 := Lib.hid (HS11.out.stay HTk.out (fun i hi => by
                    have h1 := HFB.out i hi
                    have h2 := HsZ.out
                    refine ⟨by omega, by rw [HSz2.out.2]; omega, fun hm => by have := HOz.out i hm; omega⟩))
                  have HB12 := Lib.hid (bst HSe.out HB11.out HTk.out (fun g hg => by have h1 := HFB.out g hg; have h2 := HsZ.out; omega))
                  have HO12 := Lib.hid hO
                  have HP12 := Lib.hid (kpo HTk.out HF2.out HP11.out)
                  obtain ⟨w12, hw12⟩ : ∃ w12, w12 = wr := ⟨_, rfl⟩
                  rw [← hw12] at e2 e7 HS12 HB12 HO12 HP12 ⊢
                  clear hO hP hk' hw12 HOk HTk HLa HS11 HB11 HO11 HP11 HR11 b2 b7
                  go_wp2_with fail
                  go_loopw [21] (fun iv wr => ∃ i : Nat, i ≤ M ∧ iv = .int .i64 i ∧ Hid (Stay [] w12 wr)) (fun iv _ => M - (intOf iv).toNat)
                  case atStart => exact ⟨0, by omega, rfl, Stay.refl _ _⟩
                  case round =>
                    obtain ⟨i, hi, rfl, HTi⟩ := hrel
                    have e2a := kpc (Z := 0) HTi.out (by simp) e2 (Nat.zero_le _)
                    have e7a := kpc (Z := 0) HTi.out (by simp) e7 (Nat.zero_le _)
                    by_cases hlt : i < M
                    · have hlt' : (i : Int) < M := by omega
                      have hi0 : (0 : Int) ≤ i := by omega
                      have hiM : (i : Int) ≤ 1048576 := by omega
                      clear e2 e7
                      have hokP := kpo HTi.out (by simp) HO12.out
                      have hokG := kpo HTi.out (by simp) HP12.out
                      obtain ⟨g1, cap1, hv1, hz1, -⟩ := owned_form hokP (by omega)
                      obtain ⟨g2, cap2, hv2, hz2, -⟩ := owned_form hokG (by omega)
                      injection hv1 with hA1 _ hc1
                      injection hv2 with hA2 _ hc2
                      rw [hA1] at e2a hokP
                      rw [hA2] at e7a hokG
                      have HA1 := Lib.hid hA1
                      have HA2 := Lib.hid hA2
                      have k1 := own_cell hokP i (by rw [HPl.out]; omega) HPl.out (P.getD i Ce.zero) (by rw [List.getD_eq_getElem?_getD, List.getElem?_eq_getElem (by rw [HPl.out]; omega)]; rfl)
                      have k2 := own_cell hokG i (by rw [HGl.out]; omega) HGl.out (G.getD i Ce.zero) (by rw [List.getD_eq_getElem?_getD, List.getElem?_eq_getElem (by rw [HGl.out]; omega)]; rfl)
                      have HL1 := Lib.hid (fun v => looks_any (P.getD i Ce.zero) (G.getD i Ce.zero) v)
                      rw [HWh.out i hlt] at HL1
                      clear hA1 hA2 hc1 hc2 hokP hokG
                      obtain ⟨q1, hq⟩ : ∃ q, q = P.getD i Ce.zero := ⟨_, rfl⟩
                      rw [← hq] at k1 HL1
                      clear hq
                      obtain ⟨t1, p1, a1, l1, r1, s1⟩ := q1
                      obtain ⟨q2, hq⟩ : ∃ q, q = G.getD i Ce.zero := ⟨_, rfl⟩
                      rw [← hq] at k2 HL1
                      clear hq
                      obtain ⟨t2, p2, a2, l2, r2, s2⟩ := q2
                      simp only at k1 k2 HL1
                      obtain ⟨m10, m11, m12, m13, m14, m15⟩ := k1
                      obtain ⟨m20, m21, m22, m23, m24, m25⟩ := k2
                      have HK2 := Lib.hid (show ∀ v' : World, Stay [] wr v' → (v'.cell? ⟨B1, 2, none⟩ = some (.slice (some ⟨g1, 0, none⟩) M cg) ∧ v'.cell? ⟨B2, 2, none⟩ = some (.slice (some ⟨g2, 0, none⟩) M ch) ∧ v'.cell? ⟨g1, i * 6, none⟩ = some (.string t1) ∧ v'.cell? ⟨g1, i * 6 + 1, none⟩ = some (.int .i8 p1) ∧ v'.cell? ⟨g1, i * 6 + 2, none⟩ = some (.int .i64 a1) ∧ v'.cell? ⟨g1, i * 6 + 3, none⟩ = some (.int .i64 l1) ∧ v'.cell? ⟨g1, i * 6 + 4, none⟩ = some (.bool r1) ∧ v'.cell? ⟨g1, i * 6 + 5, none⟩ = some (.int .u16 s1) ∧ v'.cell? ⟨g2, i * 6, none⟩ = some (.string t2) ∧ v'.cell? ⟨g2, i * 6 + 1, none⟩ = some (.int .i8 p2) ∧ v'.cell? ⟨g2, i * 6 + 2, none⟩ = some (.int .i64 a2) ∧ v'.cell? ⟨g2, i * 6 + 3, none⟩ = some (.int .i64 l2) ∧ v'.cell? ⟨g2, i * 6 + 4, none⟩ = some (.bool r2) ∧ v'.cell? ⟨g2, i * 6 + 5, none⟩ = some (.int .u16 s2)) from fun v' hs => by
                        have hk : ∀ (b j : Nat) (u : Value), wr.cell? ⟨b, j, none⟩ = some u → v'.cell? ⟨b, j, none⟩ = some u := fun b j u hu => kpc (Z := 0) hs (by simp) hu (Nat.zero_le _)
                        exact ⟨hk _ _ _ e2a, hk _ _ _ e7a, hk _ _ _ m10, hk _ _ _ m11, hk _ _ _ m12, hk _ _ _ m13, hk _ _ _ m14, hk _ _ _ m15, hk _ _ _ m20, hk _ _ _ m21, hk _ _ _ m22, hk _ _ _ m23, hk _ _ _ m24, hk _ _ _ m25⟩)
                      have HK1 := Lib.hid (show wr.cell? ⟨B1, 2, none⟩ = some (.slice (some ⟨g1, 0, none⟩) M cg) ∧ wr.cell? ⟨B2, 2, none⟩ = some (.slice (some ⟨g2, 0, none⟩) M ch) ∧ wr.cell? ⟨g1, i * 6, none⟩ = some (.string t1) ∧ wr.cell? ⟨g1, i * 6 + 1, none⟩ = some (.int .i8 p1) ∧ wr.cell? ⟨g1, i * 6 + 2, none⟩ = some (.int .i64 a1) ∧ wr.cell? ⟨g1, i * 6 + 3, none⟩ = some (.int .i64 l1) ∧ wr.cell? ⟨g1, i * 6 + 4, none⟩ = some (.bool r1) ∧ wr.cell? ⟨g1, i * 6 + 5, none⟩ = some (.int .u16 s1) ∧ wr.cell? ⟨g2, i * 6, none⟩ = some (.string t2) ∧ wr.cell? ⟨g2, i * 6 + 1, none⟩ = some (.int .i8 p2) ∧ wr.cell? ⟨g2, i * 6 + 2, none⟩ = some (.int .i64 a2) ∧ wr.cell? ⟨g2, i * 6 + 3, none⟩ = some (.int .i64 l2) ∧ wr.cell? ⟨g2, i * 6 + 4, none⟩ = some (.bool r2) ∧ wr.cell? ⟨g2, i * 6 + 5, none⟩ = some (.int .u16 s2) from ⟨e2a, e7a, m10, m11, m12, m13, m14, m15, m20, m21, m22, m23, m24, m25⟩)
                      have HLa1 := Lib.hid (show ∀ v, Calls Try.prog 19 #[.agg #[.string t1, .int .i8 p1, .int .i64 a1, .int .i64 l1, .bool r1, .int .u16 s1], .agg #[.string t2, .int .i8 p2, .int .i64 a2, .int .i64 l2, .bool r2, .int .u16 s2]] v fun e w' => e = .returned (.bool true) ∧ Stay [] v w' from fun v => by
                        refine (HL1.out v).mono ?_
                        rintro e w' ⟨rfl, h⟩
                        exact ⟨rfl, Stay.below h⟩)
                      have HSd := Lib.hid (Stay.drew (F := []) wr)
                      clear HL1
                      go_upto_region 38 with (fail)
                      go_region_held3 (fun w' => w'.cell? ⟨B1, 2, none⟩ = some (.slice (some ⟨g1, 0, none⟩) M cg) ∧ w'.cell? ⟨B2, 2, none⟩ = some (.slice (some ⟨g2, 0, none⟩) M ch) ∧ w'.cell? ⟨g1, i * 6, none⟩ = some (.string t1) ∧ w'.cell? ⟨g1, i * 6 + 1, none⟩ = some (.int .i8 p1) ∧ w'.cell? ⟨g1, i * 6 + 2, none⟩ = some (.int .i64 a1) ∧ w'.cell? ⟨g1, i * 6 + 3, none⟩ = some (.int .i64 l1) ∧ w'.cell? ⟨g1, i * 6 + 4, none⟩ = some (.bool r1) ∧ w'.cell? ⟨g1, i * 6 + 5, none⟩ = some (.int .u16 s1) ∧ w'.cell? ⟨g2, i * 6, none⟩ = some (.string t2) ∧ w'.cell? ⟨g2, i * 6 + 1, none⟩ = some (.int .i8 p2) ∧ w'.cell? ⟨g2, i * 6 + 2, none⟩ = some (.int .i64 a2) ∧ w'.cell? ⟨g2, i * 6 + 3, none⟩ = some (.int .i64 l2) ∧ w'.cell? ⟨g2, i * 6 + 4, none⟩ = some (.bool r2) ∧ w'.cell? ⟨g2, i * 6 + 5, none⟩ = some (.int .u16 s2)) (first | exact hq | exact HK1.out | go_keep)
                        (first
                          | (go_at_call 19; refine (HLa1.out _).mono ?_; rintro e w6 ⟨rfl, hs6⟩; have hq := HK2.out _ (HSd.out.trans hs6); have HT6 := Lib.hid (HTi.out.trans (HSd.out.trans hs6))))
                      all_goals
                        go_wp2_with fail
                        go_roundw
                        case rel => exact ⟨i + 1, by omega, by go_num, HT6⟩
                        case measure => simp [intOf]; omega
                    · have hi1 : i = M := by omega
                      have hlt' : ¬ (i : Int) < M := by omega
                      have HS13 := Lib.hid (HS12.out.stay HTi.out (by simp))
                      have HB13 := Lib.hid (bst HSe.out HB12.out HTi.out (by simp))
                      have HD := Lib.hid (done_any s (s + 1) osn T wr HS13.out)
                      clear hi1 hlt e2 e7 HTi HS12 HB12 HO12 HP12 HWh
                      go_wp2_with fail
                      refine HD.out.mono ?_
                      rintro e w14 ⟨rfl, osm, k1, k2, _⟩
                      obtain ⟨T1, hT1⟩ : ∃ T1 : Sc, T1 = { T with old := some T.rows } := ⟨_, rfl⟩
                      rw [← hT1] at k1
                      have HS14 := Lib.hid k1
                      have HB14 := Lib.hid (bst HSe.out HB13.out k2 (by simp))
                      have HDn := Lib.hid (show T1.dmg T1.H = [] from dmg_same T1 (by rw [hT1]) _)
                      clear k1 k2 HD hT1 HS13 HB13
                      have HC := Lib.hid (show Calls Try.prog 17 #[.pointer (some ⟨s, 0, none⟩)] w14 fun e w' => ∃ A c, e = .returned (.slice A 0 c) ∧ Below w14.heap.size w14 w' from by
                        refine (damage_any s (s + 1) osm T1 w14 HS14.out).mono ?_
                        rw [HDn.out]
                        rintro e w' ⟨A, c, rfl, _, hb⟩
                        exact ⟨A, c, rfl, hb⟩)
                      go_wp2_with fail
                      refine HC.out.mono ?_
                      rintro e w15 ⟨A5, c5, rfl, k2⟩
                      have HB15 := Lib.hid (bup HSe.out HB14.out k2)
                      clear k2
                      go_wp2_with fail
                      exact bodyPost_ret (v := .bool true) (by simp [results, Try.results4, go_sem]) rfl ⟨rfl, HB15.out⟩
end Go.Proofs.Ytohkjopdoejedaa
