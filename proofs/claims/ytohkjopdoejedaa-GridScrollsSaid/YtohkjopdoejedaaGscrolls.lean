/- shuttlelaw24: GridScrolls: the walk. -/
import Derived.Test.YtohkjopdoejedaaGscr0
import Derived.Test.YtohkjopdoejedaaGce
import Derived.Deep.DeepCutAuto
namespace Go.Proofs.Ytohkjopdoejedaa
open Go.RowKit
theorem sm_left {w w' : World} {s t H : Nat} {S : Sc} (h : Sm w s (s + 1) [] S) (hH : S.H = H) (hst : s + 1 + H ≤ t) (k : Stay (foot t (t + 1) H) w w') : Sm w' s (s + 1) [] S := h.stay k fun i hi => by
  rw [mem_foot] at hi
  exact ⟨by omega, by omega, by simp⟩
theorem sm_right {w w' : World} {s t H : Nat} {S : Sc} (h : Sm w t (t + 1) [] S) (hst : s + 1 + H ≤ t) (k : Stay (foot s (s + 1) H) w w') : Sm w' t (t + 1) [] S := h.stay k fun i hi => by
  rw [mem_foot] at hi
  exact ⟨by omega, by omega, by simp⟩
theorem sm_foot {w : World} {s : Nat} {S : Sc} (h : Sm w s (s + 1) [] S) : s + 1 + S.H ≤ w.heap.size := by
  have h0 := h.scr.lt
  rcases Nat.eq_zero_or_pos S.H with e | e
  · omega
  · have := foot_lt h (s + 1 + (S.H - 1)) (by rw [mem_foot]; omega)
    omega
theorem flat_zero (H W i : Nat) (hi : i < H * W) : ((List.replicate H (zeroR W)).flatten)[i]? = some Ce.zero := by
  unfold zeroR
  rw [List.flatten_replicate_replicate, List.getElem?_replicate, if_pos hi]
theorem len_zero (H W : Nat) : ((List.replicate H (zeroR W)).flatten).length = H * W := by
  unfold zeroR
  rw [List.flatten_replicate_replicate, List.length_replicate]
theorem tmod_lt' (a : Int) (H : Nat) (h : 0 < H) : -(H : Int) < a.tmod H ∧ a.tmod H < H := by
  have h1 := Int.natAbs_tmod a H
  have h2 : a.natAbs % (H : Int).natAbs < (H : Int).natAbs := Nat.mod_lt _ (by omega)
  omega
theorem ownRow_mono {w : World} {base base' size n : Nat} {e : TypeId} {v : Value} {xs : List Value} (h : w.ownsRow base e size v n xs) (hb : base' ≤ base) : w.ownsRow base' e size v n xs := by
  rcases h.2 with h0 | ⟨g, cap, cur, hv, hg, r⟩
  · exact ⟨h.1, .inl h0⟩
  · exact ⟨h.1, .inr ⟨g, cap, cur, hv, Nat.le_trans hb hg, r⟩⟩
theorem keepc {F : List Nat} {a b : World} {Z g j : Nat} {u : Value} (h2 : Stay F a b) (hF : ∀ x ∈ F, x < Z) (h : a.cell? ⟨g, j, none⟩ = some u) (hz : Z ≤ g) : b.cell? ⟨g, j, none⟩ = some u :=
  (h2.cell_ (a := ⟨g, j, none⟩) (World.block_lt_of_cell? a _ h) (fun hm => by have := hF _ hm; simp only at this; omega)).trans h
theorem keepo {F : List Nat} {a b : World} {Z : Nat} {e : TypeId} {size n : Nat} {v : Value} {xs : List Value} (h2 : Stay F a b) (hF : ∀ x ∈ F, x < Z) (h : a.ownsRow Z e size v n xs) : b.ownsRow Z e size v n xs :=
  h2.own h fun g hg hm => by have := (h.lt g hg).1; have := hF g hm; omega
set_option maxRecDepth 20000 in
set_option maxHeartbeats 32000000 in
theorem scrolls_any (wd hg n : Int) (A : Option Addr) (c : Nat) (ss : List St) (w : World) (hwd : I64 wd) (hhg : I64 hg) (hn : I64 n) (h : Steps w w.heap.size A c ss) :
    Calls Try.prog 5 #[.int .i64 wd, .int .i64 hg, .slice A ss.length c, .int .i64 n] w fun e w' => e = .returned (.bool true) ∧ Below w.heap.size w w' := by
  have HA := Lib.hid alive_any
  have HHv := Lib.hid (heavy_any wd hg A c ss _ w h)
  obtain ⟨s, hs⟩ : ∃ s, s = w.heap.size := ⟨_, rfl⟩
  rw [← hs] at h ⊢
  have HSt := Lib.hid h
  have HSe := Lib.hid hs
  obtain ⟨N, hne⟩ : ∃ N, N = ss.length := ⟨_, rfl⟩
  have HN := Lib.hid hne
  have hcap := h.cap
  rw [← hne] at hcap HHv ⊢
  have hnm : (N : Int) ≤ 9223372036854775807 := by
    have := hcap.2
    simp only [maxLen] at this
    omega
  obtain ⟨b, hb⟩ : ∃ b, b = hvB wd hg ss := ⟨_, rfl⟩
  rw [← hb] at HHv
  clear h hne hs
  cases b with
  | true =>
    clear hb
    go_enter Try.func5, Try.ntmps5
    go_wp2_with fail
    refine HHv.out.mono ?_
    rintro e w' ⟨rfl, rfl⟩
    go_wp2_with fail
    refine (HA.out _).mono ?_
    rintro e w' ⟨rfl, h2⟩
    rw [← HSe.out] at h2
    have HB := Lib.hid h2
    clear h2
    go_wp2_with fail
    exact bodyPost_ret (v := .bool true) (by simp [results, Try.results5, go_sem]) rfl ⟨rfl, HB.out⟩
  | false =>
    have HRl := Lib.hid (hv_run hb.symm)
    clear hb
    by_cases hbad : wd < 0 ∨ hg < 0 ∨ 1024 < wd ∨ 1024 < hg
    · have HNw := Lib.hid (fun w => new_bad wd hg w hbad)
      clear hbad
      go_enter Try.func5, Try.ntmps5
      go_wp2_with fail
      refine HHv.out.mono ?_
      rintro e w' ⟨rfl, rfl⟩
      go_wp2_with fail
      refine (HNw.out _).mono ?_
      rintro e w1 ⟨rfl, h2⟩
      rw [← HSe.out] at h2
      have HB1 := Lib.hid h2
      clear h2
      go_wp2_with fail
      refine (HNw.out _).mono ?_
      rintro e w2 ⟨rfl, h2⟩
      have HB2 := Lib.hid (bup HSe.out HB1.out h2)
      clear h2
      go_wp2_with fail
      refine (HA.out _).mono ?_
      rintro e w3 ⟨rfl, h2⟩
      have HB3 := Lib.hid (bup HSe.out HB2.out h2)
      clear h2
      go_wp2_with fail
      exact bodyPost_ret (v := .bool true) (by simp [results, Try.results5, go_sem]) rfl ⟨rfl, HB3.out⟩
    · obtain ⟨W, rfl⟩ : ∃ W : Nat, wd = W := ⟨wd.toNat, by omega⟩
      obtain ⟨H, rfl⟩ : ∃ H : Nat, hg = H := ⟨hg.toNat, by omega⟩
      have hW : W ≤ 1024 := by omega
      have hH : H ≤ 1024 := by omega
      have hWi : (W : Int) ≤ 1024 := by omega
      have hHi : (H : Int) ≤ 1024 := by omega
      have HI := Lib.hid (And.intro hwd (And.intro hhg hn))
      clear hbad hwd hhg hn
      have HNw := Lib.hid (fun w => new_any W H w hW hH)
      go_enter Try.func5, Try.ntmps5
      go_wp2_with fail
      refine HHv.out.mono ?_
      rintro e w' ⟨rfl, rfl⟩
      go_wp2_with fail
      refine (HNw.out _).mono ?_
      rintro e w1 ⟨rfl, h1, h2, _⟩
      rw [← HSe.out] at h1 h2 ⊢
      have HS1 := Lib.hid h1
      have HB1 := Lib.hid h2
      clear h1 h2 HHv
      go_wp2_with fail
      refine (HNw.out _).mono ?_
      rintro e w2 ⟨rfl, h1, h2, _⟩
      obtain ⟨t, hte⟩ : ∃ t, t = w1.heap.size := ⟨_, rfl⟩
      have hst : s + 1 + H ≤ t := by rw [hte]; exact sm_foot HS1.out
      have HS2 := Lib.hid (HS1.out.below h2)
      have HB2 := Lib.hid (bup HSe.out HB1.out h2)
      rw [← hte] at h1 ⊢
      have HT2 := Lib.hid h1
      clear h1 h2 HNw hte HS1 HB1
      have HgT := Lib.hid (show ∀ g ∈ foot t (t + 1) H, s ≤ g from fun g hg => by rw [mem_foot] at hg; omega)
      go_wp2_with fail
      go_loopw [13] (fun iv wr => ∃ k : Nat, k ≤ N ∧ iv = .int .i64 k ∧ Hid (Sm wr s (s + 1) [] ((newS W H).runs (ss.take k))) ∧ Hid (Sm wr t (t + 1) [] ((newS W H).runs (ss.take k))) ∧ Hid (Below s w wr)) (fun iv _ => N - (intOf iv).toNat)
      case atStart => exact ⟨0, by omega, rfl, by rw [List.take_zero]; exact HS2.out, by rw [List.take_zero]; exact HT2.out, HB2.out⟩
      case round =>
        obtain ⟨k, hk, rfl, HSk, HTk, HBk⟩ := hrel
        by_cases hlt : k < N
        · have hlt' : (k : Int) < N := by omega
          have hk0 : (0 : Int) ≤ k := by omega
          have hkl : k < ss.length := by rw [← HN.out]; exact hlt
          obtain ⟨sb, so, rfl, hadB, -⟩ := HSt.out.at_ k hkl
          have HKey := Lib.hid (show ∀ v, Below s w v → ∀ j u, (ss[k]).cells[j]? = some u → v.cell? ⟨sb, so + k * 9 + j, none⟩ = some u from fun v hv => by
            obtain ⟨sb', so', e, _, key⟩ := (HSt.out.keep hv).at_ k hkl
            cases e
            exact key)
          have HOk := Lib.hid (fun v hv => (HSt.out.keep (w' := v) hv).ok _ (List.getElem_mem hkl))
          have hLl := HRl.out.2 _ (List.getElem_mem hkl)
          have hru : (newS W H).runs (ss.take (k + 1)) = ((newS W H).runs (ss.take k)).run ss[k] := by
            rw [List.take_succ_eq_append_getElem hkl]
            unfold Sc.runs
            rw [List.foldl_append]
            rfl
          have hsz : ((newS W H).runs (ss.take k)).H = H := ((newS W H).runs_size _).2.1
          obtain ⟨st, hst'⟩ : ∃ st, st = ss[k] := ⟨_, rfl⟩
          rw [← hst'] at HKey HOk hLl hru
          obtain ⟨S, hS⟩ : ∃ S, S = (newS W H).runs (ss.take k) := ⟨_, rfl⟩
          rw [← hS] at HSk HTk hru hsz
          have HRu := Lib.hid (show ∀ v, Below s w v → Sm v s (s + 1) [] S → Calls Try.prog 14 #[.pointer (some ⟨s, 0, none⟩), st.agg] v fun e w' => e = .returned (.tuple #[]) ∧ Sm w' s (s + 1) [] (S.run st) ∧ Stay (foot s (s + 1) H) v w' from fun v hb hv => by
            rw [← hsz]
            exact run_any s (s + 1) [] S st s v (HOk.out v hb) (by have := hb.size; rw [← HSe.out] at this; exact this) hLl hv)
          have HRu2 := Lib.hid (show ∀ v, Below s w v → Sm v t (t + 1) [] S → Calls Try.prog 14 #[.pointer (some ⟨t, 0, none⟩), st.agg] v fun e w' => e = .returned (.tuple #[]) ∧ Sm w' t (t + 1) [] (S.run st) ∧ Stay (foot t (t + 1) H) v w' from fun v hb hv => by
            rw [← hsz]
            exact run_any t (t + 1) [] S st s v (HOk.out v hb) (by have := hb.size; rw [← HSe.out] at this; exact this) hLl hv)
          have HSz := Lib.hid (show (S.run st).H = H from (S.run_size st).2.1.trans hsz)
          have HRe := Lib.hid hru
          clear hsz hS hst' hru hkl hLl HOk
          obtain ⟨d, sx, sy, LA, lc, L, rx, ry, rw_, rh, sn⟩ := st
          have HCa := Lib.hid (HKey.out wr HBk.out)
          have c0 := HCa.out 0 _ rfl
          have c1 := HCa.out 1 _ rfl
          have c2 := HCa.out 2 _ rfl
          have c3 := HCa.out 3 _ rfl
          have c4 := HCa.out 4 _ rfl
          have c5 := HCa.out 5 _ rfl
          have c6 := HCa.out 6 _ rfl
          have c7 := HCa.out 7 _ rfl
          have c8 := HCa.out 8 _ rfl
          rw [Nat.add_zero] at c0
          simp only [St.agg] at HRu HRu2
          simp only at c0 c1 c2 c3 c4 c5 c6 c7 c8
          go_wp2_with fail
          refine (HRu.out wr HBk.out HSk.out).mono ?_
          rintro e w3 ⟨rfl, k1, k2⟩
          have HS3 := Lib.hid k1
          have HB3 := Lib.hid (bst HSe.out HBk.out k2 foot_ge)
          have HT3 := Lib.hid (sm_right HTk.out hst k2)
          clear k1 k2 c0 c1 c2 c3 c4 c5 c6 c7 c8 HCa HSk HTk
          have HCa := Lib.hid (HKey.out w3 HB3.out)
          have c0 := HCa.out 0 _ rfl
          have c1 := HCa.out 1 _ rfl
          have c2 := HCa.out 2 _ rfl
          have c3 := HCa.out 3 _ rfl
          have c4 := HCa.out 4 _ rfl
          have c5 := HCa.out 5 _ rfl
          have c6 := HCa.out 6 _ rfl
          have c7 := HCa.out 7 _ rfl
          have c8 := HCa.out 8 _ rfl
          rw [Nat.add_zero] at c0
          simp only at c0 c1 c2 c3 c4 c5 c6 c7 c8
          go_wp2_with fail
          refine (HRu2.out w3 HB3.out HT3.out).mono ?_
          rintro e w4 ⟨rfl, k1, k2⟩
          have HT4 := Lib.hid k1
          have HB4 := Lib.hid (bst HSe.out HB3.out k2 HgT.out)
          have HS4 := Lib.hid (sm_left HS3.out HSz.out hst k2)
          clear k1 k2 c0 c1 c2 c3 c4 c5 c6 c7 c8 HCa HS3 HT3 HB3
          go_wp2_with fail
          go_roundw
          case rel => exact ⟨k + 1, by omega, by go_num, by rw [HRe.out]; exact HS4, by rw [HRe.out]; exact HT4, HB4⟩
          case measure => simp [intOf]; omega
        · have hk' : k = N := by omega
          have hlt' : ¬ (k : Int) < N := by omega
          have hS1 := HSk.out
          have hT1 := HTk.out
          rw [hk', HN.out, List.take_length] at hS1 hT1
          obtain ⟨S, hS⟩ : ∃ S, S = (newS W H).runs ss := ⟨_, rfl⟩
          rw [← hS] at hS1 hT1
          have HG := Lib.hid (show Good S from by rw [hS]; exact (Good.new W H).runs ss)
          have HSz := Lib.hid (show S.W = W ∧ S.H = H from by rw [hS]; exact ⟨((newS W H).runs_size ss).1, ((newS W H).runs_size ss).2.1⟩)
          have HS2 := Lib.hid hS1
          have HT2 := Lib.hid hT1
          obtain ⟨Z, hZ⟩ : ∃ Z, Z = wr.heap.size := ⟨_, rfl⟩
          have HZt := Lib.hid (show t + 1 + H ≤ Z from by rw [hZ, ← HSz.out.2]; exact sm_foot hT1)
          have HGr := Lib.hid (grid_any s (s + 1) [] S wr hS1)
          rw [HSz.out.1, HSz.out.2, ← hZ] at HGr
          clear hS1 hT1 hS hk' HSk HTk HSt HN HRl
          go_wp2_with fail
          refine HGr.out.mono ?_
          rintro e w3 ⟨A1, c1, rfl, k1, k2⟩
          have HZ3 := Lib.hid (show Z ≤ w3.heap.size from by rw [hZ]; exact k2.size)
          have HB3 := Lib.hid (bup HSe.out HBk.out (by rw [← hZ]; exact k2))
          rw [hZ] at k2
          have HO3 := Lib.hid k1
          have HS3 := Lib.hid (HS2.out.below k2)
          have HT3 := Lib.hid (HT2.out.below k2)
          clear k1 k2 HGr hZ HBk
          obtain ⟨X, hX⟩ : ∃ X, X = S.X := ⟨_, rfl⟩
          obtain ⟨Y, hY⟩ : ∃ Y, Y = S.Y := ⟨_, rfl⟩
          rw [← hX, ← hY]
          clear hX hY
          obtain ⟨M, hM⟩ : ∃ M, M = H * W := ⟨_, rfl⟩
          have hM2 : M ≤ 1048576 := by rw [hM]; exact Nat.mul_le_mul hH hW
          rw [← hM] at HO3 ⊢
          have HMe := Lib.hid hM
          clear hM
          obtain ⟨Wa, hWa⟩ : ∃ Wa, Wa = w3.alloc (.cells #[.int .i64 W, .int .i64 H, .slice A1 M c1, .int .i64 X, .int .i64 Y] 40) := ⟨_, rfl⟩
          have b2 := box_cell w3 #[.int .i64 W, .int .i64 H, .slice A1 M c1, .int .i64 X, .int .i64 Y] 40 2 _ rfl
          have HTa := Lib.hid (Stay.alloc (F := []) w3 (.cells #[.int .i64 W, .int .i64 H, .slice A1 M c1, .int .i64 X, .int .i64 Y] 40))
          have hsz := size_alloc' w3 (.cells #[.int .i64 W, .int .i64 H, .slice A1 M c1, .int .i64 X, .int .i64 Y] 40)
          rw [← hWa] at b2 HTa hsz
          have HTb := Lib.hid (Stay.alloc (F := []) Wa (.cells #[.int .i64 0, .int .i64 0, .int .i64 W, .int .i64 H] 35))
          have a0 := box_cell Wa #[.int .i64 0, .int .i64 0, .int .i64 W, .int .i64 H] 35 0 _ rfl
          have a1 := box_cell Wa #[.int .i64 0, .int .i64 0, .int .i64 W, .int .i64 H] 35 1 _ rfl
          have a2 := box_cell Wa #[.int .i64 0, .int .i64 0, .int .i64 W, .int .i64 H] 35 2 _ rfl
          have a3 := box_cell Wa #[.int .i64 0, .int .i64 0, .int .i64 W, .int .i64 H] 35 3 _ rfl
          go_upto_if 84 with (fail)
          rw [← hWa]
          obtain ⟨W5, hW5⟩ : ∃ W5, W5 = Wa.alloc (.cells #[.int .i64 0, .int .i64 0, .int .i64 W, .int .i64 H] 35) := ⟨_, rfl⟩
          have hsz5 := size_alloc' Wa (.cells #[.int .i64 0, .int .i64 0, .int .i64 W, .int .i64 H] 35)
          rw [← hW5] at a0 a1 a2 a3 HTb hsz5 ⊢
          obtain ⟨B1, hB1⟩ : ∃ B1, B1 = w3.heap.size := ⟨_, rfl⟩
          rw [← hB1] at b2 hsz HZ3 ⊢
          rw [hsz] at a0 a1 a2 a3 hsz5
          have e14 : W5.cell? ⟨B1, 2, none⟩ = some (.slice A1 M c1) := (HTb.out.cell_ (a := ⟨B1, 2, none⟩) (by show B1 < Wa.heap.size; omega) (by simp)).trans b2
          have HO5 := Lib.hid (HTb.out.own (HTa.out.own HO3.out (by simp)) (by simp))
          have HS5 := Lib.hid ((HS3.out.stay HTa.out (by simp)).stay HTb.out (by simp))
          have HT5 := Lib.hid ((HT3.out.stay HTa.out (by simp)).stay HTb.out (by simp))
          have HB5 := Lib.hid (bst HSe.out (bst HSe.out HB3.out HTa.out (by simp)) HTb.out (by simp))
          have HzB := Lib.hid (show Z ≤ B1 from HZ3.out)
          have HFs := Lib.hid (show ∀ g ∈ foot s (s + 1) H, g < Z from fun g hg => by rw [mem_foot] at hg; have := HZt.out; omega)
          have HFt := Lib.hid (show ∀ g ∈ foot t (t + 1) H, g < Z from fun g hg => by rw [mem_foot] at hg; have := HZt.out; omega)
          clear hW5 hWa hB1 hsz hsz5 b2 HTa HTb HO3 HS3 HT3 HB3 HZ3
          obtain ⟨kk, hkk⟩ : ∃ kk : Int, kk = if 0 < H then n.tmod H else 0 := ⟨_, rfl⟩
          have hkb : -(H : Int) ≤ kk ∧ kk ≤ H := by
            rw [hkk]
            split
            · rename_i h0
              have := tmod_lt' n H h0
              omega
            · omega
          have HKk := Lib.hid hkk
          clear hkk
          go_cut [16] (fun kv wx => kv = .int .i64 kk ∧ wx = W5)
          case first =>
            clear a0 a1 a2 a3 e14
            by_cases h0 : 0 < H
            · have h0' : (0 : Int) < H := by omega
              have hH0 : ¬ (H : Int) = 0 := by omega
              have hr : n.tmod H = kk := by rw [HKk.out, if_pos h0]
              clear h0
              go_wp2_with fail
              go_meet
              exact ⟨rfl, rfl⟩
            · have h0' : ¬ (0 : Int) < H := by omega
              have hr := Lib.hid (show kk = 0 from by rw [HKk.out, if_neg h0])
              clear h0
              go_wp2_with fail
              go_meet
              exact ⟨by rw [hr.out], rfl⟩
          case rest =>
            obtain ⟨rfl, hwc⟩ := hcut
            rw [hwc]
            clear hwc
            have hkn : IntKind.i64.wrap (-kk) = -kk := by simp only [IntKind.wrap, IntKind.bits, IntKind.signed]; simp; omega
            obtain ⟨S1, hS1⟩ : ∃ S1, S1 = S.scroll 0 0 W H kk := ⟨_, rfl⟩
            obtain ⟨S2, hS2⟩ : ∃ S2, S2 = S1.scroll 0 0 W H (-kk) := ⟨_, rfl⟩
            have hz1 : S1.W = W ∧ S1.H = H := by rw [hS1, (S.scroll_size _ _ _ _ _).1, (S.scroll_size _ _ _ _ _).2]; exact HSz.out
            have hz2 : S2.W = W ∧ S2.H = H := by rw [hS2, (S1.scroll_size _ _ _ _ _).1, (S1.scroll_size _ _ _ _ _).2]; exact hz1
            have HSz2 := Lib.hid hz2
            have HG2 := Lib.hid (show Good S2 from by rw [hS2, hS1]; exact (HG.out.scroll _ _ _ _ _).scroll _ _ _ _ _)
            have HRow := Lib.hid (show ∀ y, y < H → ¬ ((0 < kk ∧ (y : Int) < kk) ∨ (kk < 0 ∧ (H : Int) + kk ≤ y)) → S2.rows[y]? = S.rows[y]? from fun y hy ho => by
              have h := scroll_back HG.out kk y (by rw [HSz.out.2]; exact hy) (by rw [HSz.out.2]; exact ho)
              rw [HSz.out.1, HSz.out.2] at h
              rw [hS2, hS1]
              exact h)
            have HC := Lib.hid (show Calls Try.prog 20 #[.pointer (some ⟨s, 0, none⟩), .agg #[.int .i64 0, .int .i64 0, .int .i64 W, .int .i64 H], .int .i64 kk] W5 fun e w' => e = .returned (.tuple #[]) ∧ Sm w' s (s + 1) [] S1 ∧ Stay (foot s (s + 1) H) W5 w' from by
              have h := scroll_any s (s + 1) [] S 0 0 W H kk W5 (by unfold I64; omega) (by unfold I64; omega) HI.out.1 HI.out.2.1 (by unfold I64; omega) HS5.out
              rw [HSz.out.2] at h
              rw [hS1]
              exact h)
            have HC2 := Lib.hid (show ∀ v, Sm v s (s + 1) [] S1 → Calls Try.prog 20 #[.pointer (some ⟨s, 0, none⟩), .agg #[.int .i64 0, .int .i64 0, .int .i64 W, .int .i64 H], .int .i64 (-kk)] v fun e w' => e = .returned (.tuple #[]) ∧ Sm w' s (s + 1) [] S2 ∧ Stay (foot s (s + 1) H) v w' from fun v hv => by
              have h := scroll_any s (s + 1) [] S1 0 0 W H (-kk) v (by unfold I64; omega) (by unfold I64; omega) HI.out.1 HI.out.2.1 (by unfold I64; omega) hv
              rw [hz1.2] at h
              rw [hS2]
              exact h)
            clear hS1 hS2 hz1 hz2
            go_wp2_with fail
            refine HC.out.mono ?_
            rintro e w6 ⟨rfl, h1, h2⟩
            have HS6 := Lib.hid h1
            have HT6 := Lib.hid (sm_right HT5.out hst h2)
            have HO6 := Lib.hid (keepo h2 HFs.out HO5.out)
            have HB6 := Lib.hid (bst HSe.out HB5.out h2 foot_ge)
            replace e14 := keepc h2 HFs.out e14 HzB.out
            replace a0 := keepc h2 HFs.out a0 (by have := HzB.out; omega)
            replace a1 := keepc h2 HFs.out a1 (by have := HzB.out; omega)
            replace a2 := keepc h2 HFs.out a2 (by have := HzB.out; omega)
            replace a3 := keepc h2 HFs.out a3 (by have := HzB.out; omega)
            clear h1 h2 HC HS5 HT5 HO5 HB5
            go_wp2_with fail
            refine (HC2.out w6 HS6.out).mono ?_
            rintro e w7 ⟨rfl, h1, h2⟩
            have HS7 := Lib.hid h1
            have HT7 := Lib.hid (sm_right HT6.out hst h2)
            have HO7 := Lib.hid (keepo h2 HFs.out HO6.out)
            have HB7 := Lib.hid (bst HSe.out HB6.out h2 foot_ge)
            replace e14 := keepc h2 HFs.out e14 HzB.out
            replace a0 := keepc h2 HFs.out a0 (by have := HzB.out; omega)
            replace a1 := keepc h2 HFs.out a1 (by have := HzB.out; omega)
            replace a2 := keepc h2 HFs.out a2 (by have := HzB.out; omega)
            replace a3 := keepc h2 HFs.out a3 (by have := HzB.out; omega)
            have HZ7 := Lib.hid (show Z ≤ w7.heap.size from by have := HzB.out; have := World.block_lt_of_cell? _ _ e14; simp only at this; omega)
            clear h1 h2 HC2 HS6 HT6 HO6 HB6
            have HGr := Lib.hid (grid_any s (s + 1) [] S2 w7 HS7.out)
            rw [HSz2.out.1, HSz2.out.2, ← HMe.out] at HGr
            go_wp2_with fail
            refine HGr.out.mono ?_
            rintro e w8 ⟨A2, c2, rfl, k1, k2⟩
            have HP8 := Lib.hid (ownRow_mono k1 HZ7.out)
            have HS8 := Lib.hid (HS7.out.below k2)
            have HT8 := Lib.hid (HT7.out.below k2)
            have hb8 : Stay [] w7 w8 := Stay.below k2
            have HO8 := Lib.hid (keepo hb8 (by simp) HO7.out)
            have HB8 := Lib.hid (bup HSe.out HB7.out k2)
            replace e14 := keepc hb8 (Z := Z) (by simp) e14 HzB.out
            replace a0 := keepc hb8 (Z := Z) (by simp) a0 (by have := HzB.out; omega)
            replace a1 := keepc hb8 (Z := Z) (by simp) a1 (by have := HzB.out; omega)
            replace a2 := keepc hb8 (Z := Z) (by simp) a2 (by have := HzB.out; omega)
            replace a3 := keepc hb8 (Z := Z) (by simp) a3 (by have := HzB.out; omega)
            have HZ8 := Lib.hid (show Z ≤ w8.heap.size from by have := HzB.out; have := World.block_lt_of_cell? _ _ e14; simp only at this; omega)
            clear k1 k2 hb8 HGr HS7 HT7 HO7 HB7 HZ7
            obtain ⟨X2, hX⟩ : ∃ X, X = S2.X := ⟨_, rfl⟩
            obtain ⟨Y2, hY⟩ : ∃ Y, Y = S2.Y := ⟨_, rfl⟩
            rw [← hX, ← hY]
            clear hX hY
            have e17 := box_cell w8 #[.int .i64 W, .int .i64 H, .slice A2 M c2, .int .i64 X2, .int .i64 Y2] 40 2 _ rfl
            have HTa := Lib.hid (Stay.alloc (F := []) w8 (.cells #[.int .i64 W, .int .i64 H, .slice A2 M c2, .int .i64 X2, .int .i64 Y2] 40))
            obtain ⟨W9, hW9⟩ : ∃ W9, W9 = w8.alloc (.cells #[.int .i64 W, .int .i64 H, .slice A2 M c2, .int .i64 X2, .int .i64 Y2] 40) := ⟨_, rfl⟩
            rw [← hW9] at e17 HTa
            have HW9 := Lib.hid hW9
            clear hW9
            go_wp2_with fail
            rw [← HW9.out]
            obtain ⟨B3, hB3⟩ : ∃ B3, B3 = w8.heap.size := ⟨_, rfl⟩
            rw [← hB3] at e17 HZ8 ⊢
            have HS9 := Lib.hid (HS8.out.stay HTa.out (by simp))
            have HT9 := Lib.hid (HT8.out.stay HTa.out (by simp))
            have HO9 := Lib.hid (keepo HTa.out (by simp) HO8.out)
            have HP9 := Lib.hid (keepo HTa.out (by simp) HP8.out)
            have HB9 := Lib.hid (bst HSe.out HB8.out HTa.out (by simp))
            replace e14 := keepc HTa.out (Z := Z) (by simp) e14 HzB.out
            replace a0 := keepc HTa.out (Z := Z) (by simp) a0 (by have := HzB.out; omega)
            replace a1 := keepc HTa.out (Z := Z) (by simp) a1 (by have := HzB.out; omega)
            replace a2 := keepc HTa.out (Z := Z) (by simp) a2 (by have := HzB.out; omega)
            replace a3 := keepc HTa.out (Z := Z) (by simp) a3 (by have := HzB.out; omega)
            clear hB3 HTa HW9 HS8 HT8 HO8 HP8 HB8
            go_loopw [18] (fun yv wr => ∃ y : Nat, y ≤ H ∧ yv = .int .i64 y ∧ Hid (Stay [] W9 wr)) (fun yv _ => H - (intOf yv).toNat)
            case atStart => exact ⟨0, by omega, rfl, Stay.refl _ _⟩
            case round =>
              obtain ⟨y, hy, rfl, HTy⟩ := hrel
              by_cases hlt : y < H
              · have hlt' : (y : Int) < H := by omega
                have hy0 : (0 : Int) ≤ y := by omega
                have hyb : (y : Int) < 1024 := by omega
                clear a0 a1 a2 a3
                by_cases hout : (0 < kk ∧ (y : Int) < kk) ∨ (kk < 0 ∧ (H : Int) + kk ≤ y)
                · rcases hout with ⟨g1, g2⟩ | ⟨g1, g2⟩
                  · go_wp2_with fail
                    go_roundw
                    case rel => exact ⟨y + 1, by omega, by go_num, HTy⟩
                    case measure => simp [intOf]; omega
                  · have g3 : ¬ 0 < kk := by omega
                    go_wp2_with fail
                    go_roundw
                    case rel => exact ⟨y + 1, by omega, by go_num, HTy⟩
                    case measure => simp [intOf]; omega
                · have HR := Lib.hid (HRow.out y hlt hout)
                  have hrc : (0 < kk ∧ ¬ (y : Int) < kk ∧ ¬ kk < 0) ∨ (¬ 0 < kk ∧ kk < 0 ∧ ¬ (H : Int) + kk ≤ y) ∨ (¬ 0 < kk ∧ ¬ kk < 0) := by omega
                  clear hout
                  rcases hrc with ⟨g1, g2, g3⟩ | ⟨g1, g2, g3⟩ | ⟨g1, g2⟩
                  all_goals
                    go_wp2_with fail
                    go_loopw [19] (fun xv wr' => ∃ x : Nat, x ≤ W ∧ xv = .int .i64 x ∧ Hid (Stay [] W9 wr')) (fun xv _ => W - (intOf xv).toNat)
                    case atStart => exact ⟨0, by omega, rfl, HTy⟩
                    case round =>
                      obtain ⟨x, hx, rfl, HTx⟩ := hrel
                      by_cases hxl : x < W
                      · have hx' : (x : Int) < W := by omega
                        have hx0 : (0 : Int) ≤ x := by omega
                        obtain ⟨P0, hP0⟩ : ∃ P0, P0 = y * W := ⟨_, rfl⟩
                        have hP1 : P0 + W ≤ M := by rw [hP0, ← Nat.succ_mul, HMe.out]; exact Nat.mul_le_mul hlt (Nat.le_refl _)
                        have hm0 : IntKind.i64.wrap ((y : Int) * W) = P0 := by rw [← Int.natCast_mul, ← hP0]; simp only [IntKind.wrap, IntKind.bits, IntKind.signed]; simp; omega
                        obtain ⟨q, hq⟩ : ∃ q, q = P0 + x := ⟨_, rfl⟩
                        have hqM : q < M := by omega
                        have hqi : (P0 : Int) + x = q := by omega
                        have hqw : IntKind.i64.wrap (q : Int) = q := by simp only [IntKind.wrap, IntKind.bits, IntKind.signed]; simp; omega
                        have hqM' : (q : Int) < M := by omega
                        have hok1 := HTx.out.own HO9.out (by simp)
                        have hok2 := HTx.out.own HP9.out (by simp)
                        have e14' := keepc HTx.out (Z := Z) (by simp) e14 HzB.out
                        have e17' := keepc HTx.out (Z := Z) (by simp) e17 HZ8.out
                        obtain ⟨b1, cap1, hv1, -, -⟩ := owned_form hok1 (by omega)
                        injection hv1 with hA1 _ hc1
                        subst hA1
                        subst hc1
                        obtain ⟨b2, cap2, hv2, -, -⟩ := owned_form hok2 (by omega)
                        injection hv2 with hA2 _ hc2
                        subst hA2
                        subst hc2
                        have hw1 : ∀ r ∈ S.rows, r.length = W := fun r hr => (HG.out.row r hr).1.trans HSz.out.1
                        have hw2 : ∀ r ∈ S2.rows, r.length = W := fun r hr => (HG2.out.row r hr).1.trans HSz2.out.1
                        have hl1 : S.rows.flatten.length = M := by rw [flatLen W _ hw1, HG.out.len, HSz.out.2, ← HMe.out]
                        have hl2 : S2.rows.flatten.length = M := by rw [flatLen W _ hw2, HG2.out.len, HSz2.out.2, ← HMe.out]
                        have heq : S2.rows.flatten[q]'(by omega) = S.rows.flatten[q]'(by omega) := by
                          have h := flat_same hw2 hw1 y HR.out x hxl
                          rw [← hP0, ← hq, List.getElem?_eq_getElem (by omega), List.getElem?_eq_getElem (by omega)] at h
                          injection h
                        have k2 := own_cell hok2 q (by omega) hl2 _ heq
                        have k1 := own_cell hok1 q (by omega) hl1 _ rfl
                        obtain ⟨ce, hce⟩ : ∃ ce, ce = S.rows.flatten[q]'(by omega) := ⟨_, rfl⟩
                        rw [← hce] at k1 k2
                        obtain ⟨tx, pa, at_, le, ri, st⟩ := ce
                        simp only at k1 k2
                        obtain ⟨c10, c11, c12, c13, c14, c15⟩ := k1
                        obtain ⟨c20, c21, c22, c23, c24, c25⟩ := k2
                        have hneq : ∀ w, (binOp .neq 49 (.agg #[.string tx, .int .i8 pa, .int .i64 at_, .int .i64 le, .bool ri, .int .u16 st]) (.agg #[.string tx, .int .i8 pa, .int .i64 at_, .int .i64 le, .bool ri, .int .u16 st])).run Try.prog w = .ok (.bool false) w := fun w => by
                          have h := ce_neq tx tx pa pa at_ at_ le le ri ri st st w
                          simpa using h
                        have hgu := ce_guard
                        clear hce heq hl1 hl2 hw1 hw2 hok1 hok2 hq hP0 e14 e17 hxl hlt
                        go_wp2_with fail
                        go_quiet (fail)
                        go_wp2_with fail
                        go_roundw
                        case rel => exact ⟨x + 1, by omega, by go_num, HTx.out.drewN'⟩
                        case measure => simp [intOf]; omega
                      · have hx1 : x = W := by omega
                        have hx' : ¬ (x : Int) < W := by omega
                        clear e14 e17 hx1 hxl
                        go_wp2_with fail
                        go_roundw
                        case rel => exact ⟨y + 1, by omega, by go_num, HTx⟩
                        case measure => simp [intOf]; omega
              · have hlt' : ¬ (y : Int) < H := by omega
                have HS10 := Lib.hid (HS9.out.stay HTy.out (by simp))
                have HT10 := Lib.hid (HT9.out.stay HTy.out (by simp))
                have HB10 := Lib.hid (bst HSe.out HB9.out HTy.out (by simp))
                replace a0 := keepc HTy.out (Z := Z) (by simp) a0 (by have := HzB.out; omega)
                replace a1 := keepc HTy.out (Z := Z) (by simp) a1 (by have := HzB.out; omega)
                replace a2 := keepc HTy.out (Z := Z) (by simp) a2 (by have := HzB.out; omega)
                replace a3 := keepc HTy.out (Z := Z) (by simp) a3 (by have := HzB.out; omega)
                clear e14 e17 HO9 HP9 HS9 HT9 HB9 HTy HRow hlt
                obtain ⟨mx, hmx⟩ : ∃ mx : Int, mx = max (H : Int) 1 := ⟨_, rfl⟩
                have hmb : (H : Int) ≤ mx ∧ 0 < mx ∧ mx ≤ 1024 := by omega
                have HMx := Lib.hid (show ∀ (ts : Array TypeId) (t : TypeId) (w : World), (Builtin.max_ ts t #[.int .i64 H, .int .i64 1]).run Try.prog w = .ok (.int .i64 mx) w from by rw [hmx]; exact max_ints H 1)
                obtain ⟨S3, hS3⟩ : ∃ S3, S3 = S2.scroll 0 0 W H mx := ⟨_, rfl⟩
                obtain ⟨T3, hT3⟩ : ∃ T3, T3 = S.clear 0 0 W H := ⟨_, rfl⟩
                have hz3 : S3.W = W ∧ S3.H = H := by rw [hS3, (S2.scroll_size _ _ _ _ _).1, (S2.scroll_size _ _ _ _ _).2]; exact HSz2.out
                have hz4 : T3.W = W ∧ T3.H = H := by rw [hT3]; exact HSz.out
                have HSz3 := Lib.hid hz3
                have HSz4 := Lib.hid hz4
                have HR3 := Lib.hid (show S3.rows = List.replicate H (zeroR W) from by
                  have h := scroll_all HG2.out mx (by rw [HSz2.out.2]; exact hmb.1) hmb.2.1
                  rw [HSz2.out.1, HSz2.out.2] at h
                  rw [hS3]
                  exact h)
                have HR4 := Lib.hid (show T3.rows = List.replicate H (zeroR W) from by
                  have h := clear_all HG.out
                  rw [HSz.out.1, HSz.out.2] at h
                  rw [hT3]
                  exact h)
                have HC := Lib.hid (show Calls Try.prog 20 #[.pointer (some ⟨s, 0, none⟩), .agg #[.int .i64 0, .int .i64 0, .int .i64 W, .int .i64 H], .int .i64 mx] wr fun e w' => e = .returned (.tuple #[]) ∧ Sm w' s (s + 1) [] S3 ∧ Stay (foot s (s + 1) H) wr w' from by
                  have h := scroll_any s (s + 1) [] S2 0 0 W H mx wr (by unfold I64; omega) (by unfold I64; omega) HI.out.1 HI.out.2.1 (by unfold I64; omega) HS10.out
                  rw [HSz2.out.2] at h
                  rw [hS3]
                  exact h)
                have HC2 := Lib.hid (show ∀ v, Sm v t (t + 1) [] S → Calls Try.prog 21 #[.pointer (some ⟨t, 0, none⟩), .agg #[.int .i64 0, .int .i64 0, .int .i64 W, .int .i64 H]] v fun e w' => e = .returned (.tuple #[]) ∧ Sm w' t (t + 1) [] T3 ∧ Stay (foot t (t + 1) H) v w' from fun v hv => by
                  have h := clear_any t (t + 1) [] S 0 0 W H v (by unfold I64; omega) (by unfold I64; omega) HI.out.1 HI.out.2.1 hv
                  rw [HSz.out.2] at h
                  rw [hT3]
                  exact h)
                clear hmx hS3 hT3 hz3 hz4 HG HG2 HSz HSz2
                go_wp2_with (refine wpList_max' rfl (.tmp 148) (.const (.int .i64 1)) _ rfl (.int .i64 H) (.int .i64 1) (.int .i64 mx) rfl rfl HMx.out ?_)
                refine HC.out.mono ?_
                rintro e w10 ⟨rfl, h1, h2⟩
                have HS11 := Lib.hid h1
                have HT11 := Lib.hid (sm_right HT10.out hst h2)
                have HB11 := Lib.hid (bst HSe.out HB10.out h2 foot_ge)
                replace a0 := keepc h2 HFs.out a0 (by have := HzB.out; omega)
                replace a1 := keepc h2 HFs.out a1 (by have := HzB.out; omega)
                replace a2 := keepc h2 HFs.out a2 (by have := HzB.out; omega)
                replace a3 := keepc h2 HFs.out a3 (by have := HzB.out; omega)
                clear h1 h2 HC HS10 HT10 HB10 HMx
                go_wp2_with fail
                refine (HC2.out w10 HT11.out).mono ?_
                rintro e w11 ⟨rfl, h1, h2⟩
                have HT12 := Lib.hid h1
                have HS12 := Lib.hid (sm_left HS11.out HSz3.out.2 hst h2)
                have HB12 := Lib.hid (bst HSe.out HB11.out h2 HgT.out)
                have HZ12 := Lib.hid (show Z ≤ w11.heap.size from by have := HzB.out; have h9 := World.block_lt_of_cell? _ _ a0; have := h2.size; simp only at h9; omega)
                clear h1 h2 HC2 HS11 HT11 HB11 a0 a1 a2 a3
                have HGr := Lib.hid (grid_any s (s + 1) [] S3 w11 HS12.out)
                rw [HSz3.out.1, HSz3.out.2, ← HMe.out, HR3.out] at HGr
                go_wp2_with fail
                refine HGr.out.mono ?_
                rintro e w12 ⟨A3, c3, rfl, k1, k2⟩
                have HO13 := Lib.hid (ownRow_mono k1 HZ12.out)
                have HT13 := Lib.hid (HT12.out.below k2)
                have HB13 := Lib.hid (bup HSe.out HB12.out k2)
                have HZ13 := Lib.hid (Nat.le_trans HZ12.out k2.size)
                clear k1 k2 HGr HS12 HT12 HB12
                obtain ⟨X3, hX⟩ : ∃ X, X = S3.X := ⟨_, rfl⟩
                obtain ⟨Y3, hY⟩ : ∃ Y, Y = S3.Y := ⟨_, rfl⟩
                rw [← hX, ← hY]
                clear hX hY
                have e20 := box_cell w12 #[.int .i64 W, .int .i64 H, .slice A3 M c3, .int .i64 X3, .int .i64 Y3] 40 2 _ rfl
                have HTa := Lib.hid (Stay.alloc (F := []) w12 (.cells #[.int .i64 W, .int .i64 H, .slice A3 M c3, .int .i64 X3, .int .i64 Y3] 40))
                obtain ⟨W13, hW13⟩ : ∃ W13, W13 = w12.alloc (.cells #[.int .i64 W, .int .i64 H, .slice A3 M c3, .int .i64 X3, .int .i64 Y3] 40) := ⟨_, rfl⟩
                rw [← hW13] at e20 HTa
                have HW13 := Lib.hid hW13
                clear hW13
                go_wp2_with fail
                rw [← HW13.out]
                obtain ⟨B4, hB4⟩ : ∃ B4, B4 = w12.heap.size := ⟨_, rfl⟩
                rw [← hB4] at e20 HZ13 ⊢
                have HO14 := Lib.hid (keepo HTa.out (by simp) HO13.out)
                have HT14 := Lib.hid (HT13.out.stay HTa.out (by simp))
                have HB14 := Lib.hid (bst HSe.out HB13.out HTa.out (by simp))
                have HZ14 := Lib.hid (show Z ≤ W13.heap.size from by have := HZ13.out; have h9 := World.block_lt_of_cell? _ _ e20; simp only at h9; omega)
                clear hB4 HTa HW13 HT13 HB13 HO13
                have HGr := Lib.hid (grid_any t (t + 1) [] T3 W13 HT14.out)
                rw [HSz4.out.1, HSz4.out.2, ← HMe.out, HR4.out] at HGr
                refine HGr.out.mono ?_
                rintro e w14 ⟨A4, c4, rfl, k1, k2⟩
                have hb8 : Stay [] W13 w14 := Stay.below k2
                have HP15 := Lib.hid (ownRow_mono k1 HZ14.out)
                have HO15 := Lib.hid (keepo hb8 (by simp) HO14.out)
                have HB15 := Lib.hid (bup HSe.out HB14.out k2)
                replace e20 := keepc hb8 (Z := Z) (by simp) e20 HZ13.out
                have HZ15 := Lib.hid (Nat.le_trans HZ14.out k2.size)
                clear k1 k2 hb8 HGr HT14 HB14 HO14
                obtain ⟨X4, hX⟩ : ∃ X, X = T3.X := ⟨_, rfl⟩
                obtain ⟨Y4, hY⟩ : ∃ Y, Y = T3.Y := ⟨_, rfl⟩
                rw [← hX, ← hY]
                clear hX hY
                have e21 := box_cell w14 #[.int .i64 W, .int .i64 H, .slice A4 M c4, .int .i64 X4, .int .i64 Y4] 40 2 _ rfl
                have HTa := Lib.hid (Stay.alloc (F := []) w14 (.cells #[.int .i64 W, .int .i64 H, .slice A4 M c4, .int .i64 X4, .int .i64 Y4] 40))
                obtain ⟨W15, hW15⟩ : ∃ W15, W15 = w14.alloc (.cells #[.int .i64 W, .int .i64 H, .slice A4 M c4, .int .i64 X4, .int .i64 Y4] 40) := ⟨_, rfl⟩
                rw [← hW15] at e21 HTa
                have HW15 := Lib.hid hW15
                clear hW15
                go_wp2_with fail
                rw [← HW15.out]
                obtain ⟨B5, hB5⟩ : ∃ B5, B5 = w14.heap.size := ⟨_, rfl⟩
                rw [← hB5] at e21 HZ15 ⊢
                have HO16 := Lib.hid (keepo HTa.out (by simp) HO15.out)
                have HP16 := Lib.hid (keepo HTa.out (by simp) HP15.out)
                have HB16 := Lib.hid (bst HSe.out HB15.out HTa.out (by simp))
                replace e20 := keepc HTa.out (Z := Z) (by simp) e20 HZ13.out
                clear hB5 HTa HW15 HO15 HP15 HB15
                go_loopw [22] (fun iv wr => ∃ i : Nat, i ≤ M ∧ iv = .int .i64 i ∧ Hid (Stay [] W15 wr)) (fun iv _ => M - (intOf iv).toNat)
                case atStart => exact ⟨0, by omega, rfl, Stay.refl _ _⟩
                case round =>
                  obtain ⟨i, hi, rfl, HTi⟩ := hrel
                  have e20' := keepc HTi.out (Z := Z) (by simp) e20 HZ13.out
                  have e21' := keepc HTi.out (Z := Z) (by simp) e21 HZ15.out
                  clear e20 e21
                  by_cases hlt : i < M
                  · have hlt' : (i : Int) < M := by omega
                    have hi0 : (0 : Int) ≤ i := by omega
                    have hok1 := HTi.out.own HO16.out (by simp)
                    have hok2 := HTi.out.own HP16.out (by simp)
                    obtain ⟨b1, cap1, hv1, -, -⟩ := owned_form hok1 (by omega)
                    injection hv1 with hA1 _ hc1
                    subst hA1
                    subst hc1
                    obtain ⟨b2, cap2, hv2, -, -⟩ := owned_form hok2 (by omega)
                    injection hv2 with hA2 _ hc2
                    subst hA2
                    subst hc2
                    have hl : (List.replicate H (zeroR W)).flatten.length = M := by rw [len_zero, ← HMe.out]
                    have hz : (List.replicate H (zeroR W)).flatten[i]'(by omega) = Ce.zero := by
                      have h := flat_zero H W i (by rw [← HMe.out]; exact hlt)
                      rw [List.getElem?_eq_getElem (by omega)] at h
                      injection h
                    obtain ⟨c10, c11, c12, c13, c14, c15⟩ : wr.cell? ⟨b1, i * 6, none⟩ = some (.string ⟨#[]⟩) ∧ wr.cell? ⟨b1, i * 6 + 1, none⟩ = some (.int .i8 0) ∧ wr.cell? ⟨b1, i * 6 + 2, none⟩ = some (.int .i64 0) ∧ wr.cell? ⟨b1, i * 6 + 3, none⟩ = some (.int .i64 0) ∧ wr.cell? ⟨b1, i * 6 + 4, none⟩ = some (.bool false) ∧ wr.cell? ⟨b1, i * 6 + 5, none⟩ = some (.int .u16 0) := own_cell hok1 i (by omega) hl _ hz
                    obtain ⟨c20, c21, c22, c23, c24, c25⟩ : wr.cell? ⟨b2, i * 6, none⟩ = some (.string ⟨#[]⟩) ∧ wr.cell? ⟨b2, i * 6 + 1, none⟩ = some (.int .i8 0) ∧ wr.cell? ⟨b2, i * 6 + 2, none⟩ = some (.int .i64 0) ∧ wr.cell? ⟨b2, i * 6 + 3, none⟩ = some (.int .i64 0) ∧ wr.cell? ⟨b2, i * 6 + 4, none⟩ = some (.bool false) ∧ wr.cell? ⟨b2, i * 6 + 5, none⟩ = some (.int .u16 0) := own_cell hok2 i (by omega) hl _ hz
                    have hneq : ∀ w, (binOp .neq 49 (.agg #[.string ⟨#[]⟩, .int .i8 0, .int .i64 0, .int .i64 0, .bool false, .int .u16 0]) (.agg #[.string ⟨#[]⟩, .int .i8 0, .int .i64 0, .int .i64 0, .bool false, .int .u16 0])).run Try.prog w = .ok (.bool false) w := fun w => by
                      have h := ce_neq ⟨#[]⟩ ⟨#[]⟩ 0 0 0 0 0 0 false false 0 0 w
                      simpa using h
                    have hgu := ce_guard
                    clear hl hz hok1 hok2 hlt
                    go_wp2_with fail
                    go_quiet (fail)
                    go_wp2_with fail
                    go_roundw
                    case rel => exact ⟨i + 1, by omega, by go_num, HTi.out.drewN'⟩
                    case measure => simp [intOf]; omega
                  · have hi1 : i = M := by omega
                    have hlt' : ¬ (i : Int) < M := by omega
                    have HB17 := Lib.hid (bst HSe.out HB16.out HTi.out (by simp))
                    clear hi1 hlt
                    go_wp2_with fail
                    refine (HA.out _).mono ?_
                    rintro e w18 ⟨rfl, h2⟩
                    have HB18 := Lib.hid (bup HSe.out HB17.out h2)
                    clear h2
                    go_wp2_with fail
                    exact bodyPost_ret (v := .bool true) (by simp [results, Try.results5, go_sem]) rfl ⟨rfl, HB18.out⟩
end Go.Proofs.Ytohkjopdoejedaa
