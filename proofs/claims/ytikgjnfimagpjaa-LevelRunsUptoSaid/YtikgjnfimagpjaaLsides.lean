/- package level: Sides. -/
import Derived.Test.YtikgjnfimagpjaaLsides1
import Derived.Deep.CutBlock
namespace Go.Proofs.Ytikgjnfimagpjaa
open Go.RowKit
def maxI (a b : Int) : Int := if a < b then b else a
def aheadL (zs lv : List Int) (base : Int) : Nat → Int
  | 0 => base
  | i + 1 => if clsL (zs.getD i 0) = 10 then base else if leftB (clsL (zs.getD i 0)) = true then aheadL zs lv base i else lv.getD i 0
/-- the places from n - m on, below n -/
def behindL (zs lv : List Int) (base : Int) (n : Nat) : Nat → Int
  | 0 => base
  | m + 1 => if leftB (clsL (zs.getD (n - (m + 1)) 0)) = true then behindL zs lv base n m else lv.getD (n - (m + 1)) 0
def nextL (zs lv : List Int) (base : Int) (n t : Nat) : Int :=
  if opensB (clsL (zs.getD t 0)) = true ∧ (pairsL (zs.take n)).getD t 0 < 0 then base
  else if clsL (zs.getD t 0) = 10 then base else behindL zs lv base n (n - (t + 1))
def sidesL (zs lv : List Int) (base : Int) (run : List Int) : Int × Int :=
  if keepL (min zs.length lv.length) run = [] then (base % 2, base % 2)
  else (maxI (lv.getD ((keepL (min zs.length lv.length) run).getD 0 0).toNat 0) (aheadL zs lv base ((keepL (min zs.length lv.length) run).getD 0 0).toNat) % 2,
    maxI (lv.getD ((keepL (min zs.length lv.length) run).getD ((keepL (min zs.length lv.length) run).length - 1) 0).toNat 0) (nextL zs lv base (min zs.length lv.length) ((keepL (min zs.length lv.length) run).getD ((keepL (min zs.length lv.length) run).length - 1) 0).toNat) % 2)
theorem keepL_mem (n : Nat) (xs : List Int) (i : Nat) (hi : i < (keepL n xs).length) : 0 ≤ (keepL n xs).getD i 0 ∧ (keepL n xs).getD i 0 < (n : Int) := by
  have h : (keepL n xs).getD i 0 ∈ keepL n xs := by
    rw [List.getD_eq_getElem?_getD, List.getElem?_eq_getElem hi]
    exact List.getElem_mem _
  have h2 := (List.mem_filter.1 h).2
  unfold offB at h2
  simp only [Bool.not_eq_true', Bool.or_eq_false_iff, decide_eq_false_iff_not] at h2
  omega
theorem aheadL_bd (zs lv : List Int) (base : Int) (hb : 0 ≤ base ∧ base < 256) (hlv : ∀ i, 0 ≤ lv.getD i 0 ∧ lv.getD i 0 < 256) (i : Nat) : 0 ≤ aheadL zs lv base i ∧ aheadL zs lv base i < 256 := by
  induction i with
  | zero => exact hb
  | succ i ih =>
    unfold aheadL
    repeat' split
    · exact hb
    · exact ih
    · exact hlv i
theorem behindL_bd (zs lv : List Int) (base : Int) (n : Nat) (hb : 0 ≤ base ∧ base < 256) (hlv : ∀ i, 0 ≤ lv.getD i 0 ∧ lv.getD i 0 < 256) (i : Nat) : 0 ≤ behindL zs lv base n i ∧ behindL zs lv base n i < 256 := by
  induction i with
  | zero => exact hb
  | succ i ih =>
    unfold behindL
    split
    · exact ih
    · exact hlv _
theorem nextL_bd (zs lv : List Int) (base : Int) (n t : Nat) (hb : 0 ≤ base ∧ base < 256) (hlv : ∀ i, 0 ≤ lv.getD i 0 ∧ lv.getD i 0 < 256) : 0 ≤ nextL zs lv base n t ∧ nextL zs lv base n t < 256 := by
  unfold nextL
  repeat' split
  · exact hb
  · exact hb
  · exact behindL_bd zs lv base n hb hlv _
set_option maxRecDepth 20000 in
theorem and_one (x : Int) (h : 0 ≤ x ∧ x < 256) : bits .and .u8 x 1 = x % 2 ∧ IntKind.i8.wrap (x % 2) = x % 2 := by
  obtain ⟨m, rfl⟩ : ∃ m : Nat, x = m := ⟨x.toNat, by omega⟩
  have : ∀ n : Fin 256, bits .and .u8 (n.1 : Int) 1 = (n.1 : Int) % 2 ∧ IntKind.i8.wrap ((n.1 : Int) % 2) = (n.1 : Int) % 2 := by decide
  exact this ⟨m, by omega⟩
def predI : Nat → Int
  | 0 => -1
  | j + 1 => j
theorem predI_sub (j : Nat) : predI j = (j : Int) - 1 := by cases j <;> simp [predI]
set_option maxRecDepth 20000 in
set_option maxHeartbeats 8000000 in
theorem sides_any (zs lv run : List Int) (base : Int) (A A2 A3 : Option Addr) (c c2 c3 : Nat) (w : World) (hl : zs.length < 1048576) (_ : lv.length ≤ maxLen) (hl3 : run.length ≤ 2097152) (hc : zs.length ≤ c ∧ c ≤ maxLen)
    (h : Sl w w.heap.size A (ints .i8 zs)) (h2 : Sl w w.heap.size A2 (ints .u8 lv)) (h3 : Sl w w.heap.size A3 (ints .i64 run)) (hb : 0 ≤ base ∧ base < 256) (hlv : ∀ i, 0 ≤ lv.getD i 0 ∧ lv.getD i 0 < 256) :
    Calls Try.prog 27 #[.slice A zs.length c, .slice A2 lv.length c2, .int .u8 base, .slice A3 run.length c3] w fun e w' => e = .returned (.tuple #[.int .i8 (sidesL zs lv base run).1, .int .i8 (sidesL zs lv base run).2]) ∧ Below w.heap.size w w' := by
  obtain ⟨n, hn⟩ : ∃ n : Nat, n = min zs.length lv.length := ⟨_, rfl⟩
  have hmin := Lib.hid (fun ts t w => (min_int (P := Try.prog) zs.length lv.length ts t w).trans (by rw [← hn]) : ∀ (ts : Array TypeId) (t : TypeId) (w : World), (Builtin.min_ ts t #[.int .i64 zs.length, .int .i64 lv.length]).run Try.prog w = .ok (.int .i64 n) w)
  have hn1 : n ≤ zs.length ∧ n ≤ lv.length := by omega
  have HX := Lib.hid (show sidesL zs lv base run = if keepL n run = [] then (base % 2, base % 2)
      else (maxI (lv.getD ((keepL n run).getD 0 0).toNat 0) (aheadL zs lv base ((keepL n run).getD 0 0).toNat) % 2, maxI (lv.getD ((keepL n run).getD ((keepL n run).length - 1) 0).toNat 0) (nextL zs lv base n ((keepL n run).getD ((keepL n run).length - 1) 0).toNat) % 2) from by unfold sidesL; rw [← hn])
  have HS1 := Lib.hid h
  have HS2 := Lib.hid h2
  have HCl := Lib.hid (clone_any run A3 c3 (w.alloc (.cells #[.int .i64 n] 3)) hl3 ((h3.alloc (Nat.le_refl _) _).more (by simp)))
  have HLV := Lib.hid hlv
  have HKM := Lib.hid (keepL_mem n run)
  obtain ⟨pl, hpl⟩ : ∃ pl, pl = keepL n run := ⟨_, rfl⟩
  rw [← hpl] at HX HKM
  have HPL := Lib.hid hpl
  have hpb := and_one base hb
  obtain ⟨hpb1, hpb2⟩ := hpb
  have hmlen : pl.length ≤ run.length := by rw [hpl]; exact List.length_filter_le _ _
  clear hn h h2 h3 hlv hpl
  by_cases hm0 : pl.length = 0
  · have bm : ((pl.length : Int) == 0) = true := by simp [hm0]
    have HQ := Lib.hid (show pl = [] from List.length_eq_zero_iff.1 hm0)
    clear hm0
    go_enter Try.func27, Try.ntmps27
    go_upto_region 2 with (first
      | (refine wpList_min rfl (.tmp 19) (.tmp 21) #[3, 3] rfl (.int .i64 zs.length) (.int .i64 lv.length) (.int .i64 n) rfl rfl hmin.out ?_))
    go_wp2_with (first
      | (go_at_call 55; refine HCl.out.mono ?_; rintro e w2 ⟨cv, rfl, hco, hcb⟩
         obtain ⟨CA, cc, rfl⟩ := hco.slice
         rw [ints_length] at hco ⊢
         have hpz : w.heap.size < w2.heap.size := by have := hcb.size; simp at this; omega
         have hcp : w2.cell? ⟨w.heap.size, 0, none⟩ = some (.int .i64 n) := by
           rw [hcb.cell (p := ⟨w.heap.size, 0, none⟩) (by simp)]
           exact (Blk.new w [.int .i64 n] 3).cell 0
         have hd := delete_any n w.heap.size run CA cc (w.heap.size + 1) w2 hl3 (by simpa using hco) hcp (fun g hg => by have := (hco.lt g hg).1; simp at this; omega) hpz
         unfold offFn at hd
         have HD := Lib.hid hd
         clear hd
         have HB2 := Lib.hid (below_alloc_trans hcb)
         have HB2' := Lib.hid hcb
         have HCO := Lib.hid hco
         have HCP := Lib.hid hcp
         clear hco hcb hpz hcp)
      | (go_at_call 54; refine HD.out.mono ?_; rintro e w3 ⟨A', c', rfl, hdo, hds⟩
         rw [← HPL.out] at hdo ⊢
         have HB3 := Lib.hid (show Below (w.heap.size + 1) w2 w3 from hds.toBelow (by have := HB2'.out.size; simp at this; omega) (fun g hg => by have := (HCO.out.lt g (by simpa using hg)).1; simp at this; omega))
         have HDO := Lib.hid hdo
         clear hdo hds))
    exact bodyPost_ret (v := .tuple #[.int .i8 (base % 2), .int .i8 (base % 2)]) (by simp [results, Try.results27, go_sem]) rfl ⟨by rw [HX.out, if_pos HQ.out], HB2.out.trans (HB3.out.mono (by omega))⟩
  · have bm : ((pl.length : Int) == 0) = false := by
      have : (pl.length : Int) ≠ 0 := by omega
      simpa using this
    have HQ := Lib.hid (show ¬ pl = [] from fun e => hm0 (by rw [e]; rfl))
    clear hm0
    go_enter Try.func27, Try.ntmps27
    go_upto_region 2 with (first
      | (refine wpList_min rfl (.tmp 19) (.tmp 21) #[3, 3] rfl (.int .i64 zs.length) (.int .i64 lv.length) (.int .i64 n) rfl rfl hmin.out ?_))
    go_wp2_with (first
      | (go_at_call 55; refine HCl.out.mono ?_; rintro e w2 ⟨cv, rfl, hco, hcb⟩
         obtain ⟨CA, cc, rfl⟩ := hco.slice
         rw [ints_length] at hco ⊢
         have hpz : w.heap.size < w2.heap.size := by have := hcb.size; simp at this; omega
         have hcp : w2.cell? ⟨w.heap.size, 0, none⟩ = some (.int .i64 n) := by
           rw [hcb.cell (p := ⟨w.heap.size, 0, none⟩) (by simp)]
           exact (Blk.new w [.int .i64 n] 3).cell 0
         have hd := delete_any n w.heap.size run CA cc (w.heap.size + 1) w2 hl3 (by simpa using hco) hcp (fun g hg => by have := (hco.lt g hg).1; simp at this; omega) hpz
         unfold offFn at hd
         have HD := Lib.hid hd
         clear hd
         have HB2 := Lib.hid (below_alloc_trans hcb)
         have HB2' := Lib.hid hcb
         have HCO := Lib.hid hco
         have HCP := Lib.hid hcp
         clear hco hcb hpz hcp)
      | (go_at_call 54; refine HD.out.mono ?_; rintro e w3 ⟨A', c', rfl, hdo, hds⟩
         rw [← HPL.out] at hdo ⊢
         have HB3 := Lib.hid (show Below (w.heap.size + 1) w2 w3 from hds.toBelow (by have := HB2'.out.size; simp at this; omega) (fun g hg => by have := (HCO.out.lt g (by simpa using hg)).1; simp at this; omega))
         have HDO := Lib.hid hdo
         clear hdo hds))
    obtain ⟨m', hm'⟩ : ∃ m', pl.length = m' + 1 := ⟨pl.length - 1, by
      have := HQ.out
      have h2 : pl.length ≠ 0 := fun e => this (List.length_eq_zero_iff.1 e)
      omega⟩
    obtain ⟨f, hf⟩ : ∃ f : Nat, pl.getD 0 0 = f := ⟨(pl.getD 0 0).toNat, by have := HKM.out 0 (by omega); omega⟩
    obtain ⟨t, ht⟩ : ∃ t : Nat, pl.getD m' 0 = t := ⟨(pl.getD m' 0).toNat, by have := HKM.out m' (by omega); omega⟩
    have hfn : f < n := by have := HKM.out 0 (by omega); omega
    have htn : t < n := by have := HKM.out m' (by omega); omega
    have HX2 := Lib.hid (show sidesL zs lv base run = (maxI (lv.getD f 0) (aheadL zs lv base f) % 2, maxI (lv.getD t 0) (nextL zs lv base n t) % 2) from by
      rw [HX.out, if_neg HQ.out, hm', Nat.add_sub_cancel, hf, ht]
      rfl)
    obtain ⟨-, g, rfl, hBg, hgl⟩ := HDO.out.form (by rw [ints_length]; omega)
    have hcf := own_at HDO.out (i := 0) (by omega)
    have hct := own_at HDO.out (i := m') (by omega)
    rw [hf] at hcf
    rw [ht] at hct
    have hcp3 := Lib.hid (show w3.cell? ⟨w.heap.size, 0, none⟩ = some (.int .i64 n) from by rw [HB3.out.cell (p := ⟨w.heap.size, 0, none⟩) (by simp), HCP.out])
    have HB0 := Lib.hid (HB2.out.trans (HB3.out.mono (by omega)))
    rw [hm']
    have hm1 : (m' : Int) < (m' : Int) + 1 := by omega
    have hm0 : (0 : Int) ≤ m' := by omega
    have hmw : IntKind.i64.wrap (m' : Int) = m' := by simp [IntKind.wrap, IntKind.signed, IntKind.bits]; omega
    have hm2 : (0 : Int) < (m' : Int) + 1 := by omega
    clear hf ht hm' bm hgl
    go_quiet (fail)
    go_upto_block 0 with fail
    have HBW := Lib.hid (below_drewN' HB0.out nq)
    have hcpW := Lib.hid (show (w3.drewN nq).cell? ⟨w.heap.size, 0, none⟩ = some (.int .i64 n) from hcp3.out)
    obtain ⟨W, hW⟩ : ∃ W, W = w3.drewN nq := ⟨_, rfl⟩
    rw [← hW] at HBW hcpW ⊢
    clear hW HB0 HB2 HB2' HB3 hcp3 HDO HCO HCP HCl hmin HX HQ hct hcf
    go_cut [14, 16] (fun av _ wx => av = .int .u8 (aheadL zs lv base f) ∧ wx = W)
    case first =>
      go_wp2_with fail
      go_loopg [14, 16] f (fun gk av iv wr => ∃ j : Nat, j ≤ f ∧ gk = j ∧ av = .int .u8 base ∧ iv = .int .i64 (predI j) ∧ wr = W ∧ Hid (aheadL zs lv base f = aheadL zs lv base j))
      case atStart =>
        refine ⟨f, Nat.le_refl _, rfl, rfl, ?_, rfl, rfl⟩
        rw [predI_sub]
      case round =>
        obtain ⟨j, hj, hgk, rfl, rfl, rfl, HA⟩ := hrel
        cases j with
        | zero =>
          unfold predI
          go_wp2_with fail
          go_meet
          exact ⟨by rw [HA.out]; rfl, rfl⟩
        | succ j =>
          unfold predI
          obtain ⟨ad, rfl, hadb, hcell⟩ := sl_at (HS1.out.below HBW.out) (show j < zs.length by omega)
          obtain ⟨ad2, rfl, had2, hcell2⟩ := sl_at (HS2.out.below HBW.out) (show j < lv.length by omega)
          have HE := Lib.hid (HA.out.trans (show aheadL zs lv base (j + 1) = if clsL (zs.getD j 0) = 10 then base else if leftB (clsL (zs.getD j 0)) = true then aheadL zs lv base j else lv.getD j 0 from rfl))
          have HK := Lib.hid (fun w => known_any (zs.getD j 0) w)
          obtain ⟨z, hz⟩ : ∃ z, z = zs.getD j 0 := ⟨_, rfl⟩
          obtain ⟨d, hd⟩ : ∃ d, d = clsL z := ⟨_, rfl⟩
          obtain ⟨lj, hlj⟩ : ∃ lj, lj = lv.getD j 0 := ⟨_, rfl⟩
          rw [← hz, ← hd, ← hlj] at HE
          rw [← hz, ← hd] at HK
          rw [← hz] at hcell
          rw [← hlj] at hcell2
          have HLF := Lib.hid (fun w => left_any d w)
          have hj1 : (j : Int) < zs.length := by omega
          have hj2 : (j : Int) < lv.length := by omega
          have hj0 : (0 : Int) ≤ j := by omega
          clear hz hd hlj HA
          by_cases h10 : d = 10
          · have b10 : (d != 10) = false := by simpa using h10
            have HV := Lib.hid (HE.out.trans (if_pos h10))
            clear h10
            go_wp2_with (first
              | (go_at_call 35; refine (HK.out _).mono ?_; rintro e w' ⟨rfl, rfl⟩))
            go_meet
            exact ⟨by rw [HV.out], rfl⟩
          · have b10 : (d != 10) = true := by simpa using h10
            have b10' : (d == 10) = false := by simpa using h10
            have HV := Lib.hid (HE.out.trans (if_neg h10))
            clear h10
            cases hlf : leftB d with
            | true =>
              rw [hlf] at HLF HV
              clear hlf
              go_wp2_with (first
                | (go_at_call 35; refine (HK.out _).mono ?_; rintro e w' ⟨rfl, rfl⟩)
                | (go_at_call 50; refine (HLF.out _).mono ?_; rintro e w' ⟨rfl, rfl⟩))
              go_roundg j
              case measure => omega
              case rel =>
                refine ⟨j, by omega, rfl, rfl, ?_, rfl, Lib.hid (by rw [HV.out]; simp)⟩
                rw [predI_sub]
            | false =>
              rw [hlf] at HLF HV
              clear hlf
              go_wp2_with (first
                | (go_at_call 35; refine (HK.out _).mono ?_; rintro e w' ⟨rfl, rfl⟩)
                | (go_at_call 50; refine (HLF.out _).mono ?_; rintro e w' ⟨rfl, rfl⟩))
              go_meet
              exact ⟨by rw [HV.out]; rfl, rfl⟩
    case rest =>
      obtain ⟨rfl, rfl⟩ := hcut
      obtain ⟨ad, rfl, hadb, hcell⟩ := sl_at (HS1.out.below HBW.out) (show t < zs.length by omega)
      have HK := Lib.hid (fun w => known_any (zs.getD t 0) w)
      have HN := Lib.hid (show nextL zs lv base n t = if opensB (clsL (zs.getD t 0)) = true ∧ (pairsL (zs.take n)).getD t 0 < 0 then base
        else if clsL (zs.getD t 0) = 10 then base else behindL zs lv base n (n - (t + 1)) from rfl)
      have hnl : (zs.take n).length = n := by simp; omega
      have HP := Lib.hid (show Calls Try.prog 12 #[.slice (some ad) n c] wc fun e w' => e = .returned (.slice (some ⟨wc.heap.size, 0, none⟩) n n) ∧ Own w' 3 wc.heap.size (.slice (some ⟨wc.heap.size, 0, none⟩) n n) (ints .i64 (pairsL (zs.take n))) ∧ Below wc.heap.size wc w' from by
        have := pairs_any (zs.take n) (some ad) c wc (by omega) (by
          have h5 := sl_take ((HS1.out.below HBW.out).more HBW.out.size) n
          simpa [ints, List.map_take] using h5)
        rw [hnl] at this
        exact this)
      have HPL := Lib.hid (show (pairsL (zs.take n)).length = n from by simpa using hnl)
      obtain ⟨pr, hpr⟩ : ∃ pr, pr = pairsL (zs.take n) := ⟨_, rfl⟩
      rw [← hpr] at HP HN HPL
      obtain ⟨z, hz⟩ : ∃ z, z = zs.getD t 0 := ⟨_, rfl⟩
      obtain ⟨d, hd⟩ : ∃ d, d = clsL z := ⟨_, rfl⟩
      rw [← hz, ← hd] at HN HK
      rw [← hz] at hcell
      obtain ⟨y, hy⟩ : ∃ y, y = pr.getD t 0 := ⟨_, rfl⟩
      rw [← hy] at HN
      have HO := Lib.hid (fun w => opens_any d w)
      have HZ := Lib.hid (And.intro hz hd)
      have HY := Lib.hid hy
      have ht1 : (t : Int) < zs.length := by omega
      have ht2 : (t : Int) < n := by omega
      have hnc : (n : Int) ≤ c := by omega
      have hcpw := hcpW.out
      have hpz : w.heap.size < wc.heap.size := by
        have := hcpw
        rcases Nat.lt_or_ge w.heap.size wc.heap.size with h | h
        · exact h
        · unfold World.cell? at this
          simp [Array.getElem?_eq_none h] at this
      obtain ⟨av, hav⟩ : ∃ av, av = aheadL zs lv base f := ⟨_, rfl⟩
      rw [← hav] at HX2 ⊢
      have HAB := Lib.hid (show 0 ≤ av ∧ av < 256 from by rw [hav]; exact aheadL_bd zs lv base hb HLV.out f)
      clear hnl hpr hz hd hy hav
      go_upto_region 12 with fail
      go_cut [88] (fun cv wx => cv = .bool (!opensB d || decide (0 ≤ y)) ∧ Below w.heap.size w wx ∧ wx.cell? ⟨w.heap.size, 0, none⟩ = some (.int .i64 n))
      case first =>
        cases hop : opensB d with
        | false =>
          rw [hop] at HO
          go_wp2_with (first
            | (go_at_call 35; refine (HK.out _).mono ?_; rintro e w' ⟨rfl, rfl⟩)
            | (go_at_call 36; refine (HO.out _).mono ?_; rintro e w' ⟨rfl, rfl⟩))
          go_meet
          exact ⟨by rw [hop]; rfl, HBW.out, hcpW.out⟩
        | true =>
          rw [hop] at HO
          have HC2 := Lib.hid hcpw
          cases hy0 : decide (0 ≤ y) with
          | true =>
            go_wp2_with (first
              | (go_at_call 35; refine (HK.out _).mono ?_; rintro e w' ⟨rfl, rfl⟩)
              | (go_at_call 36; refine (HO.out _).mono ?_; rintro e w' ⟨rfl, rfl⟩)
              | (go_at_call 12; refine HP.out.mono ?_; rintro e w5 ⟨rfl, hpo, hpb⟩
                 have hpc := own_at hpo (i := t) (by rw [HPL.out]; exact htn)
                 rw [← HY.out] at hpc
                 have HB5 := Lib.hid hpb
                 clear hpo hpb))
            go_meet
            exact ⟨by rw [hop, hy0]; rfl, HBW.out.trans (HB5.out.mono HBW.out.size), by rw [HB5.out.cell (p := ⟨w.heap.size, 0, none⟩) hpz, hcpW.out]⟩
          | false =>
            go_wp2_with (first
              | (go_at_call 35; refine (HK.out _).mono ?_; rintro e w' ⟨rfl, rfl⟩)
              | (go_at_call 36; refine (HO.out _).mono ?_; rintro e w' ⟨rfl, rfl⟩)
              | (go_at_call 12; refine HP.out.mono ?_; rintro e w5 ⟨rfl, hpo, hpb⟩
                 have hpc := own_at hpo (i := t) (by rw [HPL.out]; exact htn)
                 rw [← HY.out] at hpc
                 have HB5 := Lib.hid hpb
                 clear hpo hpb))
            go_meet
            exact ⟨by rw [hop, hy0]; rfl, HBW.out.trans (HB5.out.mono HBW.out.size), by rw [HB5.out.cell (p := ⟨w.heap.size, 0, none⟩) hpz, hcpW.out]⟩
      case rest =>
        obtain ⟨rfl, HB6, HC6⟩ := hcut
        replace HB6 := Lib.hid HB6
        replace HC6 := Lib.hid HC6
        clear HBW hcpW HP HPL HO hcell hpz hcpw
        obtain ⟨gB, hgB⟩ : ∃ gB, gB = (!opensB d || decide (0 ≤ y)) := ⟨_, rfl⟩
        rw [← hgB]
        have HGB := Lib.hid hgB
        clear hgB
        go_upto_if 88 with fail
        go_cut [15] (fun bv wx => bv = .int .u8 (nextL zs lv base n t) ∧ wx = wc)
        case first =>
          cases gB with
          | false =>
            have HV := Lib.hid (HN.out.trans (if_pos (by
              have h := HGB.out
              cases ho : opensB d with
              | false => rw [ho] at h; simp at h
              | true => rw [ho] at h; exact ⟨rfl, by simpa using h⟩)))
            go_wp2_with fail
            go_meet
            exact ⟨by rw [HV.out], rfl⟩
          | true =>
            have HV := Lib.hid (HN.out.trans (if_neg (by
              have h := HGB.out
              rintro ⟨ho, hy⟩
              rw [ho] at h
              simp at h
              omega)))
            obtain ⟨ad0, had0, _, hcell⟩ := sl_at (HS1.out.below HB6.out) (show t < zs.length by omega)
            injection had0 with had0
            subst had0
            rw [← HZ.out.1] at hcell
            have hcpw := HC6.out
            by_cases h10 : d = 10
            · have b10 : (d != 10) = false := by simpa using h10
              have HV2 := Lib.hid (HV.out.trans (if_pos h10))
              clear h10
              by_cases hl1 : t + 1 < n
              · have hl2 : (t : Int) + 1 < n := by omega
                go_wp2_with fail
                go_loopg [15, 17] 0 (fun gk av iv wr => gk = 0 ∧ av = .int .u8 base ∧ iv = .int .i64 ((t : Int) + 1) ∧ wr = wc)
                case atStart => exact ⟨rfl, rfl, rfl, rfl⟩
                case round =>
                  obtain ⟨rfl, rfl, rfl, rfl⟩ := hrel
                  go_wp2_with (first
                    | (go_at_call 35; refine (HK.out _).mono ?_; rintro e w' ⟨rfl, rfl⟩))
                  go_meet
                  exact ⟨by rw [HV2.out], rfl⟩
              · have hl2 : ¬ (t : Int) + 1 < n := by omega
                go_wp2_with fail
                go_loopg [15, 17] 0 (fun gk av iv wr => gk = 0 ∧ av = .int .u8 base ∧ iv = .int .i64 ((t : Int) + 1) ∧ wr = wc)
                case atStart => exact ⟨rfl, rfl, rfl, rfl⟩
                case round =>
                  obtain ⟨rfl, rfl, rfl, rfl⟩ := hrel
                  go_wp2_with fail
                  go_meet
                  exact ⟨by rw [HV2.out], rfl⟩
            · have b10 : (d != 10) = true := by simpa using h10
              have HV2 := Lib.hid (HV.out.trans (if_neg h10))
              clear h10
              go_wp2_with fail
              go_loopg [15, 17] (n - (t + 1)) (fun gk av iv wr => ∃ i : Nat, t + 1 ≤ i ∧ i ≤ n ∧ gk = n - i ∧ av = .int .u8 base ∧ iv = .int .i64 i ∧ wr = wc ∧ Hid (nextL zs lv base n t = behindL zs lv base n (n - i)))
              case atStart => exact ⟨t + 1, Nat.le_refl _, by omega, rfl, rfl, by go_num, rfl, HV2.out⟩
              case round =>
                obtain ⟨i, hi1, hi2, hgk, rfl, rfl, rfl, HA⟩ := hrel
                by_cases hin : i < n
                · obtain ⟨ad1, had1, _, hcell1⟩ := sl_at (HS1.out.below HB6.out) (show i < zs.length by omega)
                  injection had1 with had1
                  subst had1
                  obtain ⟨ad2, rfl, had2, hcell2⟩ := sl_at (HS2.out.below HB6.out) (show i < lv.length by omega)
                  have HE := Lib.hid (HA.out.trans (show behindL zs lv base n (n - i) = if leftB (clsL (zs.getD i 0)) = true then behindL zs lv base n (n - (i + 1)) else lv.getD i 0 from by
                    obtain ⟨q, hq⟩ : ∃ q, n - i = q + 1 := ⟨n - i - 1, by omega⟩
                    rw [hq, behindL, show n - (q + 1) = i by omega, show n - (i + 1) = q by omega]))
                  obtain ⟨z1, hz1⟩ : ∃ z1, z1 = zs.getD i 0 := ⟨_, rfl⟩
                  obtain ⟨d1, hd1⟩ : ∃ d1, d1 = clsL z1 := ⟨_, rfl⟩
                  obtain ⟨li, hli⟩ : ∃ li, li = lv.getD i 0 := ⟨_, rfl⟩
                  rw [← hz1, ← hd1, ← hli] at HE
                  rw [← hz1] at hcell1
                  rw [← hli] at hcell2
                  have HLF := Lib.hid (fun w => left_any d1 w)
                  have hi3 : (i : Int) < n := by omega
                  have hi4 : (i : Int) < zs.length := by omega
                  have hi5 : (i : Int) < lv.length := by omega
                  have E1 := Lib.hid (HZ.out.2.symm)
                  have E2 := Lib.hid hd1.symm
                  clear hz1 hd1 hli HA
                  cases hlf : leftB d1 with
                  | true =>
                    rw [hlf] at HLF HE
                    clear hlf
                    go_wp2_with (first
                      | (go_at_call 35; refine (known_any _ _).mono ?_; rintro e w' ⟨rfl, rfl⟩; first | rw [E1.out] | rw [E2.out])
                      | (go_at_call 50; refine (HLF.out _).mono ?_; rintro e w' ⟨rfl, rfl⟩))
                    go_roundg (n - (i + 1))
                    case measure => omega
                    case rel => exact ⟨i + 1, by omega, by omega, rfl, rfl, by go_num, rfl, Lib.hid (by rw [HE.out]; simp)⟩
                  | false =>
                    rw [hlf] at HLF HE
                    clear hlf
                    go_wp2_with (first
                      | (go_at_call 35; refine (known_any _ _).mono ?_; rintro e w' ⟨rfl, rfl⟩; first | rw [E1.out] | rw [E2.out])
                      | (go_at_call 50; refine (HLF.out _).mono ?_; rintro e w' ⟨rfl, rfl⟩))
                    go_meet
                    exact ⟨by rw [HE.out]; rfl, rfl⟩
                · have hi3 : ¬ (i : Int) < n := by omega
                  have e : i = n := by omega
                  subst e
                  go_wp2_with fail
                  go_meet
                  exact ⟨by rw [HA.out, Nat.sub_self]; rfl, rfl⟩
        case rest =>
          obtain ⟨rfl, rfl⟩ := hcut
          obtain ⟨ad2, rfl, had2, hcf⟩ := sl_at (HS2.out.below HB6.out) (show f < lv.length by omega)
          obtain ⟨ad3, had3, _, hct⟩ := sl_at (HS2.out.below HB6.out) (show t < lv.length by omega)
          injection had3 with had3
          subst had3
          have hbf := HLV.out f
          have hbt := HLV.out t
          have hbn := nextL_bd zs lv base n t hb HLV.out
          have hba := HAB.out
          obtain ⟨nv, hnv⟩ : ∃ nv, nv = nextL zs lv base n t := ⟨_, rfl⟩
          obtain ⟨lf, hlf⟩ : ∃ lf, lf = lv.getD f 0 := ⟨_, rfl⟩
          obtain ⟨lt, hlt⟩ : ∃ lt, lt = lv.getD t 0 := ⟨_, rfl⟩
          rw [← hnv, ← hlf, ← hlt] at HX2
          rw [← hnv] at hbn ⊢
          rw [← hlf] at hbf hcf
          rw [← hlt] at hbt hct
          obtain ⟨e1, e1'⟩ := and_one lf hbf
          obtain ⟨e2, e2'⟩ := and_one av hba
          obtain ⟨e3, e3'⟩ := and_one lt hbt
          obtain ⟨e4, e4'⟩ := and_one nv hbn
          have hf1 : (f : Int) < lv.length := by omega
          have ht3 : (t : Int) < lv.length := by omega
          clear hnv hlf hlt HN hba hbn hbt hbf
          by_cases c1 : lf < av
          · have HF := Lib.hid (show maxI lf av = av from if_pos c1)
            by_cases c2 : lt < nv
            · have HT := Lib.hid (show maxI lt nv = nv from if_pos c2)
              go_wp2_with fail
              go_quiet (fail)
              go_wp2_with fail
              exact bodyPost_ret (v := .tuple #[.int .i8 (av % 2), .int .i8 (nv % 2)]) (by simp [results, Try.results27, go_sem]) rfl ⟨by rw [HX2.out, HF.out, HT.out], below_drewN' HB6.out nq⟩
            · have HT := Lib.hid (show maxI lt nv = lt from if_neg c2)
              go_wp2_with fail
              go_quiet (fail)
              go_wp2_with fail
              exact bodyPost_ret (v := .tuple #[.int .i8 (av % 2), .int .i8 (lt % 2)]) (by simp [results, Try.results27, go_sem]) rfl ⟨by rw [HX2.out, HF.out, HT.out], below_drewN' HB6.out nq⟩
          · have HF := Lib.hid (show maxI lf av = lf from if_neg c1)
            by_cases c2 : lt < nv
            · have HT := Lib.hid (show maxI lt nv = nv from if_pos c2)
              go_wp2_with fail
              go_quiet (fail)
              go_wp2_with fail
              exact bodyPost_ret (v := .tuple #[.int .i8 (lf % 2), .int .i8 (nv % 2)]) (by simp [results, Try.results27, go_sem]) rfl ⟨by rw [HX2.out, HF.out, HT.out], below_drewN' HB6.out nq⟩
            · have HT := Lib.hid (show maxI lt nv = lt from if_neg c2)
              go_wp2_with fail
              go_quiet (fail)
              go_wp2_with fail
              exact bodyPost_ret (v := .tuple #[.int .i8 (lf % 2), .int .i8 (lt % 2)]) (by simp [results, Try.results27, go_sem]) rfl ⟨by rw [HX2.out, HF.out, HT.out], below_drewN' HB6.out nq⟩
end Go.Proofs.Ytikgjnfimagpjaa
