/- package undo: Do: a new group. -/
import Derived.Test.YtjoeebjmjnddoaaUdo0
namespace Go.Proofs.Ytjoeebjmjnddoaa
open Go.RowKit
set_option maxRecDepth 20000 in
set_option maxHeartbeats 32000000 in
theorem udo_new (B bb rb : Nat) (DA : Option Addr) (dc : Nat) (D : List MG) (UA : Option Addr) (un uc : Nat) (st sv gv : Int) (t : Rp) (rs : Int) (a d : Int) (s : ByteArray) (mo : Bool) (va vd : Int) (vs : ByteArray) (er rs2 : Int) (tx : List UInt8) (w : World)
    (hb : Blk w bb (bcells rb rs (.slice DA D.length dc) (.slice UA un uc) st sv gv) 98) (hD : Win w B 100 4 DA D.length dc (gcs D)) (hDE : ∀ y ∈ D, y.ok w B) (hR : RopeAt w rb t rs) (hu : U64 rs2) (hB : B ≤ w.heap.size) (hDl : D.length ≤ 4096)
    (hRD : ∀ u, Stay [] w u → RDo rb a d s va vd vs er rs2 tx u) (hmo : (mo && decide (0 < D.length) && decide (un = 0)) = false) (her : er = 0) (hem : d = 0 → s.toList.isEmpty = false) (hvs : vs.size ≤ 1048576) (hgv : 0 ≤ gv ∧ gv < 9223372036854775807) (hgr : (∀ y ∈ D, 0 ≤ y.by_) ∧ chg D ≤ 2147483648 ∧ byt D ≤ 549755813888) :
    Calls Try.prog 31 #[.pointer (some ⟨bb, 0, none⟩), .agg #[.int .i64 a, .int .i64 d, .string s], .bool mo] w (Did B bb rb DA D [⟨va, vd, vs⟩] vs.size st rs2 sv gv tx w) := by
  subst her
  have HB0 := Lib.hid hB
  have HEm := Lib.hid hem
  have HVs := Lib.hid hvs
  have HGv := Lib.hid hgv
  have HGr := Lib.hid hgr
  clear hem hvs hgv hgr
  have HRD := Lib.hid hRD
  obtain ⟨W1, hW1⟩ : ∃ W, W = w.alloc (.cells #[.int .i64 a, .int .i64 d, .string s] 37) := ⟨_, rfl⟩
  have hs1 : Stay [] w W1 := by rw [hW1]; exact Stay.alloc _ _
  have hbe : Blk W1 w.heap.size [.int .i64 a, .int .i64 d, .string s] 37 := by rw [hW1]; exact Blk.new w _ _
  have HB1 := Lib.hid (hb.stay hs1 (by simp))
  have HD1 := Lib.hid (hD.stay0 hs1)
  have HE1 := Lib.hid (show ∀ x ∈ D, x.ok W1 B from fun x hx => (hDE x hx).stay0 hs1)
  have HR1 := Lib.hid (hR.stay0 hs1)
  have HLo := Lib.hid (look_same bb rb rs _ _ st sv gv t W1 HB1.out HR1.out)
  have HS1 := Lib.hid hs1
  have HW1 := Lib.hid hW1
  obtain ⟨be, hbee⟩ : ∃ b, b = w.heap.size := ⟨_, rfl⟩
  rw [← hbee] at hbe
  have HBe := Lib.hid hbe
  have HEe := Lib.hid hbee
  have HU := Lib.hid hu
  have HMo := Lib.hid hmo
  have HBw := Lib.hid (Nat.le_trans hB hs1.size)
  obtain ⟨dn, hdn⟩ : ∃ n, n = D.length := ⟨_, rfl⟩
  have HDn := Lib.hid hdn
  rw [← hdn] at HB1 HD1 HMo hDl
  have hkw : IntKind.i64.wrap ((dn : Int) - 1) = (dn : Int) - 1 := by simp only [IntKind.wrap, IntKind.bits, IntKind.signed]; simp; omega
  have c0 : W1.cell? ⟨bb, 0, none⟩ = some (.pointer (some ⟨rb, 0, none⟩)) := HB1.out.cell 0
  have c2 : W1.cell? ⟨bb, 2, none⟩ = some (.slice DA dn dc) := HB1.out.cell 2
  have c3 : W1.cell? ⟨bb, 3, none⟩ = some (.slice UA un uc) := HB1.out.cell 3
  clear hRD hW1 hs1 hbe hb hD hDE hR hu hmo hB hbee hdn
  go_enter Try.func31, Try.ntmps31
  go_upto_region 1 with fail
  rw [← HW1.out, ← HEe.out]
  go_wp2_with fail
  refine HLo.out.mono ?_
  rintro e w' ⟨rfl, hwe⟩
  rw [hwe]
  clear hwe HLo
  go_upto_region 5 with fail
  go_cut [2] (fun v wx => v = .bool false ∧ wx = W1)
  case first =>
    cases mo with
    | false =>
      go_wp2_with fail
      go_meet
      exact ⟨rfl, rfl⟩
    | true =>
      by_cases h0 : 0 < dn
      · have h0i : (1 : Int) ≤ dn := by omega
        have h0p : (0 : Int) ≤ (dn : Int) - 1 := by omega
        have h0n : 1 ≤ dn := h0
        by_cases h1 : un = 0
        · have h1x := h1
          exfalso
          have h9 := HMo.out
          simp [h0, h1x] at h9
        · have h1p : ¬ (un : Int) = 0 := by omega
          have q1 : decide ((un : Int) = 0) = false := decide_eq_false h1p
          have q2 : ((un : Int) == 0) = false := by simp [h1]
          go_wp2_with fail
          go_meet
          exact ⟨rfl, rfl⟩
      · have h0i : ¬ (1 : Int) ≤ dn := by omega
        have h0p : ¬ (0 : Int) ≤ (dn : Int) - 1 := by omega
        have h0n : ¬ 1 ≤ dn := by omega
        go_wp2_with fail
        go_meet
        exact ⟨rfl, rfl⟩
  case rest =>
    obtain ⟨rfl, hwc⟩ := hcut
    rw [hwc]
    clear hwc
    go_upto_region 8 with fail
    go_cut [8, 9] (fun p v wx => ∃ b8 : Nat, p = .pointer (some ⟨b8, 0, none⟩) ∧ v = .int .i64 0 ∧ Hid (UD wx B bb rb (bcells rb rs (.slice DA dn dc) (.slice UA un uc) st sv gv) DA dc D rs2 tx be b8 [.int .i64 a, .int .i64 d, .string s] [.int .i64 va, .int .i64 vd, .string vs] ∧ Stay [rb] w wx))
    case first =>
      obtain ⟨L7, hL7⟩ := HR1.out.blk
      have HL7 := Lib.hid hL7
      have HSS := Lib.hid (show ∀ u, Stay [rb] W1 u → u.cell? ⟨bb, 0, none⟩ = some (.pointer (some ⟨rb, 0, none⟩)) ∧ u.cell? ⟨be, 0, none⟩ = some (.int .i64 a) ∧ u.cell? ⟨be, 1, none⟩ = some (.int .i64 d) ∧ u.cell? ⟨be, 2, none⟩ = some (.string s) from fun u hs => by
        have n1 : bb ∉ [rb] := by
          rw [List.mem_singleton]; exact blk_ne_of HB1.out HL7.out (by decide)
        have n2 : be ∉ [rb] := by
          rw [List.mem_singleton]; exact blk_ne_of HBe.out HL7.out (by decide)
        have h2 := HBe.out.stay hs n2
        exact ⟨(HB1.out.stay hs n1).cell 0, h2.cell 0, h2.cell 1, h2.cell 2⟩)
      have HSd := Lib.hid (Stay.drew (F := []) W1)
      have HSa := Lib.hid (show Stay [] W1 (W1.alloc (.cells #[.int .i64 0, .int .i64 0, .string ⟨#[]⟩] 37)).drew from (Stay.alloc _ _).drew')
      have HBa := Lib.hid (show Blk (W1.alloc (.cells #[.int .i64 0, .int .i64 0, .string ⟨#[]⟩] 37)).drew W1.heap.size [.int .i64 0, .int .i64 0, .string ⟨#[]⟩] 37 from (Blk.new W1 _ 37).stay (F := []) (Stay.drew _) (by simp))
      have hq0 := HSS.out W1.drew (HSd.out.mono (by simp))
      have HC1 := Lib.hid (show RDo rb a d s va vd vs 0 rs2 tx W1.drew from HRD.out _ (HS1.out.trans HSd.out))
      have HC2 := Lib.hid (show RDo rb a d s va vd vs 0 rs2 tx (W1.alloc (.cells #[.int .i64 0, .int .i64 0, .string ⟨#[]⟩] 37)).drew from HRD.out _ (HS1.out.trans HSa.out))
      unfold RDo at HC1 HC2
      have HKq := Lib.hid (show ∀ (u : World) (x y z : Value), Stay [rb] W1 u → (((u.setCell ⟨W1.heap.size, 0, none⟩ x).setCell ⟨W1.heap.size, 1, none⟩ y).setCell ⟨W1.heap.size, 2, none⟩ z).cell? ⟨bb, 0, none⟩ = some (.pointer (some ⟨rb, 0, none⟩)) ∧ (((u.setCell ⟨W1.heap.size, 0, none⟩ x).setCell ⟨W1.heap.size, 1, none⟩ y).setCell ⟨W1.heap.size, 2, none⟩ z).cell? ⟨be, 0, none⟩ = some (.int .i64 a) ∧ (((u.setCell ⟨W1.heap.size, 0, none⟩ x).setCell ⟨W1.heap.size, 1, none⟩ y).setCell ⟨W1.heap.size, 2, none⟩ z).cell? ⟨be, 1, none⟩ = some (.int .i64 d) ∧ (((u.setCell ⟨W1.heap.size, 0, none⟩ x).setCell ⟨W1.heap.size, 1, none⟩ y).setCell ⟨W1.heap.size, 2, none⟩ z).cell? ⟨be, 2, none⟩ = some (.string s) from fun u x y z hs =>
        HSS.out _ (((hs.set' (.inr (Nat.le_refl _))).set' (.inr (Nat.le_refl _))).set' (.inr (Nat.le_refl _))))
      clear c0 c2 c3 hL7
      go_region_held3 (fun w' => w'.cell? ⟨bb, 0, none⟩ = some (.pointer (some ⟨rb, 0, none⟩)) ∧ w'.cell? ⟨be, 0, none⟩ = some (.int .i64 a) ∧ w'.cell? ⟨be, 1, none⟩ = some (.int .i64 d) ∧ w'.cell? ⟨be, 2, none⟩ = some (.string s)) (first | exact hq | exact hq0 | exact HSS.out _ (HSa.out.mono (by simp)) | exact HKq.out _ _ _ _ HT5.out | go_keep)
        (first
          | (go_at_call 21; ((with_reducible refine HC1.out.mono ?_); rintro e w5 ⟨rfl, hR5, hs5⟩); have HT5 := Lib.hid ((HSd.out.mono (G := [rb]) (by simp)).trans hs5); have hq := HSS.out _ HT5.out; have HFA := Lib.hid (show UD (w5.alloc (.cells #[.int .i64 va, .int .i64 vd, .string vs] 37)) B bb rb (bcells rb rs (.slice DA dn dc) (.slice UA un uc) st sv gv) DA dc D rs2 tx be w5.heap.size [.int .i64 a, .int .i64 d, .string s] [.int .i64 va, .int .i64 vd, .string vs] ∧ Stay [rb] w (w5.alloc (.cells #[.int .i64 va, .int .i64 vd, .string vs] 37)) from ⟨ud_alloc HB1.out (by rw [← HDn.out]; exact HD1.out) HE1.out HR1.out HBe.out HT5.out hR5 [.int .i64 va, .int .i64 vd, .string vs], ((HS1.out.mono (by simp)).trans HT5.out).alloc'⟩); clear hR5 hs5)
          | (go_at_call 21; ((with_reducible refine HC2.out.mono ?_); rintro e w5 ⟨rfl, hR5, hs5⟩); have HT5 := Lib.hid ((HSa.out.mono (G := [rb]) (by simp)).trans hs5); have hq := HSS.out _ HT5.out; have HB7 := Lib.hid (HBa.out.stay hs5 (by rw [List.mem_singleton]; exact blk_ne_of HBa.out (HL7.out.stay HSa.out (by simp)) (by decide))); have q0 := HB7.out.cell 0; have q1 := HB7.out.cell 1; have q2 := HB7.out.cell 2; have f0 := HB7.out.free 0; have f1 := HB7.out.free 1; have f2 := HB7.out.free 2; change _ = some (Value.int .i64 0) at q0; change _ = some (Value.int .i64 0) at q1; change _ = some (Value.string ⟨#[]⟩) at q2; have hfb := ud_sets HB1.out (by rw [← HDn.out]; exact HD1.out) HE1.out HR1.out HBe.out HT5.out hR5 _ _ _ (.int .i64 va) (.int .i64 vd) (.string vs) HB7.out (Nat.le_refl _); have HFB := Lib.hid (And.intro hfb.1 ((HS1.out.mono (G := [rb]) (by simp)).trans hfb.2)); clear hfb hR5 hs5))
      all_goals
        go_wp2_with fail
        go_meet
        first
          | exact ⟨_, rfl, rfl, HFA⟩
          | exact ⟨_, rfl, rfl, HFB⟩
    case rest =>
      obtain ⟨b8, rfl, rfl, HQ⟩ := hcut
      obtain ⟨w6, hw6⟩ : ∃ x, x = wc := ⟨_, rfl⟩
      rw [← hw6] at HQ ⊢
      have HQD := Lib.hid HQ.out.1
      have HQS := Lib.hid HQ.out.2
      clear hw6 HQ c0 c2 c3 HRD HB1 HD1 HE1 HR1 HBe
      obtain ⟨t6, hR6, hx6⟩ := HQD.out.R
      have HSt := Lib.hid (stamp_any rb t6 rs2 w6 hR6)
      have c0 : w6.cell? ⟨bb, 0, none⟩ = some (.pointer (some ⟨rb, 0, none⟩)) := HQD.out.bbk.cell 0
      have c1 : w6.cell? ⟨bb, 1, none⟩ = some (.int .u64 rs) := HQD.out.bbk.cell 1
      have f1 := HQD.out.bbk.free 1
      obtain ⟨w7, hw7⟩ : ∃ x, x = w6.setCell ⟨bb, 1, none⟩ (.int .u64 rs2) := ⟨_, rfl⟩
      have HU7 := Lib.hid (show UD w7 B bb rb (bcells rb rs2 (.slice DA dn dc) (.slice UA un uc) st sv gv) DA dc D rs2 tx be b8 [.int .i64 a, .int .i64 d, .string s] [.int .i64 va, .int .i64 vd, .string vs] from by rw [hw7]; exact HQD.out.setb 1 _)
      have HT7 := Lib.hid (show Stay [rb, bb] w w7 from by rw [hw7]; exact (HQS.out.mono (by simp)).trans (Stay.setCell _ _ _ (by simp)))
      have e1 : w7.cell? ⟨be, 1, none⟩ = some (.int .i64 d) := HU7.out.e.cell 1
      have e2 : w7.cell? ⟨be, 2, none⟩ = some (.string s) := HU7.out.e.cell 2
      have HW7 := Lib.hid hw7
      clear hR6 hx6 hw7 HQD
      go_wp2_with fail
      refine HSt.out.mono ?_
      rintro e w' ⟨rfl, rfl⟩
      go_upto_region 12 with fail
      rw [← HW7.out]
      go_cut [73] (fun v wx => v = .bool false ∧ wx = w7)
      case first =>
        by_cases hd0 : d = 0
        · have hs0 : s.toList.isEmpty = false := HEm.out hd0
          subst hd0
          go_wp2_with fail
          go_meet
          exact ⟨rfl, rfl⟩
        · have q1 : decide (d = 0) = false := decide_eq_false hd0
          go_wp2_with fail
          go_meet
          exact ⟨rfl, rfl⟩
      case rest =>
        obtain ⟨rfl, hwc⟩ := hcut
        rw [hwc]
        clear hwc e1 e2 c0 c1 f1
        have b2 : w7.cell? ⟨bb, 2, none⟩ = some (.slice DA dn dc) := HU7.out.bbk.cell 2
        have b4 : w7.cell? ⟨bb, 4, none⟩ = some (.int .i64 st) := HU7.out.bbk.cell 4
        have HCk := Lib.hid (show ∀ u, UD u B bb rb (bcells rb rs2 (.slice DA dn dc) (.slice UA un uc) st sv gv) DA dc D rs2 tx be b8 [.int .i64 a, .int .i64 d, .string s] [.int .i64 va, .int .i64 vd, .string vs] → u.cell? ⟨bb, 2, none⟩ = some (.slice DA dn dc) ∧ u.cell? ⟨bb, 4, none⟩ = some (.int .i64 st) from fun u hu => ⟨hu.bbk.cell 2, hu.bbk.cell 4⟩)
        have hHeld := HCk.out _ (HU7.out.stay0 (Stay.drew w7))
        have HB7 := Lib.hid (show B ≤ w7.heap.size from Nat.le_trans HB0.out HT7.out.size)
        obtain ⟨i100, hi, hz, hsz, hy⟩ := info_parts info100
        have HI := Lib.hid (And.intro hi (And.intro hz (And.intro hsz hy)))
        have h63 : dn + 1 ≤ maxLen := by simp only [maxLen]; omega
        have h48 : (dn + 1) * 48 ≤ 140737488355328 := by omega
        have HMx := Lib.hid (And.intro h63 h48)
        clear hi hz hsz hy h63 h48 b2 b4
        go_upto_region 15 with fail
        refine AnyL.begin_ (S := fun w' : World => w'.cell? ⟨bb, 2, none⟩ = some (.slice DA dn dc) ∧ w'.cell? ⟨bb, 4, none⟩ = some (.int .i64 st)) (n := 14) (by kernel_rfl) ?_
        refine AnyL.take (i := 0) (v := ?_) [12, 13, 14] rfl (by kernel_rfl) (by kernel_rfl) (by kernel_rfl) (by kernel_rfl) (fun _ _ _ h => h) (Or.inl ⟨by rfl, ?_⟩) hHeld ?_
        rotate_left
        · intro w hSw
          obtain ⟨k0, k1⟩ := hSw
          simp only [List.getElem_toArray, List.getElem_cons_zero]
          go_simp
          all_goals with_reducible rfl
        simp only [List.getElem_toArray, List.getElem_cons_zero, Act.put, List.setIfInBounds_toArray, List.set_cons_zero, List.set_cons_succ]
        refine AnyL.take (i := 1) (v := ?_) [2, 3, 4, 11, 14] rfl (by kernel_rfl) (by kernel_rfl) (by kernel_rfl) (by kernel_rfl) (fun _ _ _ h => h) (Or.inl ⟨by rfl, ?_⟩) hHeld ?_
        rotate_left
        · intro w hSw
          obtain ⟨k0, k1⟩ := hSw
          simp only [List.getElem_toArray, List.getElem_cons_zero, List.getElem_cons_succ]
          go_simp
          all_goals with_reducible rfl
        simp only [List.getElem_toArray, List.getElem_cons_zero, List.getElem_cons_succ, Act.put, List.setIfInBounds_toArray, List.set_cons_zero, List.set_cons_succ]
        refine AnyL.take (i := 2) (v := ?_) [3, 4, 11, 14] rfl (by kernel_rfl) (by kernel_rfl) (by kernel_rfl) (by kernel_rfl) (fun _ _ _ h => h) (Or.inl ⟨by rfl, ?_⟩) hHeld ?_
        rotate_left
        · intro w hSw
          obtain ⟨k0, k1⟩ := hSw
          simp only [List.getElem_toArray, List.getElem_cons_zero, List.getElem_cons_succ]
          go_simp
          all_goals with_reducible rfl
        simp only [List.getElem_toArray, List.getElem_cons_zero, List.getElem_cons_succ, Act.put, List.setIfInBounds_toArray, List.set_cons_zero, List.set_cons_succ]
        refine AnyL.take (i := 3) (v := ?_) [4, 11, 14] rfl (by kernel_rfl) (by kernel_rfl) (by kernel_rfl) (by kernel_rfl) (fun _ _ _ h => h) (Or.inl ⟨by rfl, ?_⟩) hHeld ?_
        rotate_left
        · intro w hSw
          obtain ⟨k0, k1⟩ := hSw
          simp only [List.getElem_toArray, List.getElem_cons_zero, List.getElem_cons_succ]
          go_simp
          all_goals with_reducible rfl
        simp only [List.getElem_toArray, List.getElem_cons_zero, List.getElem_cons_succ, Act.put, List.setIfInBounds_toArray, List.set_cons_zero, List.set_cons_succ]
        refine AnyL.take (i := 4) (v := ?_) [11, 14] rfl (by kernel_rfl) (by kernel_rfl) (by kernel_rfl) (by kernel_rfl) (fun _ _ _ h => h) (Or.inl ⟨by rfl, ?_⟩) hHeld ?_
        rotate_left
        · intro w hSw
          obtain ⟨k0, k1⟩ := hSw
          simp only [List.getElem_toArray, List.getElem_cons_zero, List.getElem_cons_succ]
          go_simp
          all_goals with_reducible rfl
        simp only [List.getElem_toArray, List.getElem_cons_zero, List.getElem_cons_succ, Act.put, List.setIfInBounds_toArray, List.set_cons_zero, List.set_cons_succ]
        refine AnyL.take (i := 5) (v := ?_) [6, 7, 8, 9, 10, 11, 14] rfl (by kernel_rfl) (by kernel_rfl) (by kernel_rfl) (by kernel_rfl) (fun _ _ _ h => h) (Or.inl ⟨by rfl, ?_⟩) hHeld ?_
        rotate_left
        · intro w hSw
          obtain ⟨k0, k1⟩ := hSw
          simp only [List.getElem_toArray, List.getElem_cons_zero, List.getElem_cons_succ]
          go_simp
          all_goals with_reducible rfl
        simp only [List.getElem_toArray, List.getElem_cons_zero, List.getElem_cons_succ, Act.put, List.setIfInBounds_toArray, List.set_cons_zero, List.set_cons_succ]
        refine AnyL.take (i := 6) (v := ?_) [7, 8, 9, 10, 11, 14] rfl (by kernel_rfl) (by kernel_rfl) (by kernel_rfl) (by kernel_rfl) (fun _ _ _ h => h) (Or.inl ⟨by rfl, ?_⟩) hHeld ?_
        rotate_left
        · intro w hSw
          obtain ⟨k0, k1⟩ := hSw
          simp only [List.getElem_toArray, List.getElem_cons_zero, List.getElem_cons_succ]
          go_simp
          all_goals with_reducible rfl
        simp only [List.getElem_toArray, List.getElem_cons_zero, List.getElem_cons_succ, Act.put, List.setIfInBounds_toArray, List.set_cons_zero, List.set_cons_succ]
        refine AnyL.take (i := 7) (v := ?_) [8, 9, 10, 11, 14] rfl (by kernel_rfl) (by kernel_rfl) (by kernel_rfl) (by kernel_rfl) (fun _ _ _ h => h) (Or.inl ⟨by rfl, ?_⟩) hHeld ?_
        rotate_left
        · intro w hSw
          obtain ⟨k0, k1⟩ := hSw
          simp only [List.getElem_toArray, List.getElem_cons_zero, List.getElem_cons_succ]
          go_simp
          all_goals with_reducible rfl
        simp only [List.getElem_toArray, List.getElem_cons_zero, List.getElem_cons_succ, Act.put, List.setIfInBounds_toArray, List.set_cons_zero, List.set_cons_succ]
        refine AnyL.take (i := 8) (v := ?_) [9, 10, 11, 14] rfl (by kernel_rfl) (by kernel_rfl) (by kernel_rfl) (by kernel_rfl) (fun _ _ _ h => h) (Or.inl ⟨by rfl, ?_⟩) hHeld ?_
        rotate_left
        · intro w hSw
          obtain ⟨k0, k1⟩ := hSw
          simp only [List.getElem_toArray, List.getElem_cons_zero, List.getElem_cons_succ]
          go_simp
          all_goals with_reducible rfl
        simp only [List.getElem_toArray, List.getElem_cons_zero, List.getElem_cons_succ, Act.put, List.setIfInBounds_toArray, List.set_cons_zero, List.set_cons_succ]
        refine AnyL.take (i := 9) (v := ?_) [10, 11, 14] rfl (by kernel_rfl) (by kernel_rfl) (by kernel_rfl) (by kernel_rfl) (fun _ _ _ h => h) (Or.inl ⟨by rfl, ?_⟩) hHeld ?_
        rotate_left
        · intro w hSw
          obtain ⟨k0, k1⟩ := hSw
          simp only [List.getElem_toArray, List.getElem_cons_zero, List.getElem_cons_succ]
          go_simp
          all_goals with_reducible rfl
        simp only [List.getElem_toArray, List.getElem_cons_zero, List.getElem_cons_succ, Act.put, List.setIfInBounds_toArray, List.set_cons_zero, List.set_cons_succ]
        refine AnyL.next (i := 10) (by kernel_rfl) ?_
        refine wpOp_step rfl (fun K hK => ?_)
        have HK := Lib.hid hK
        clear hK
        simp only [List.getElem_toArray, List.getElem_cons_zero, List.getElem_cons_succ]
        rw [if_pos (by rfl)]
        go_wp2_with fail
        obtain ⟨Wn, hWn⟩ : ∃ W, W = (w7.alloc (.cells #[.slice none 0 0, .int .i64 0, .int .i64 st, .int .i64 0] 100)).drew := ⟨_, rfl⟩
        have hSn : Stay [] w7 Wn := by rw [hWn]; exact (Stay.alloc (F := []) _ _).drew'
        have HUn := Lib.hid (HU7.out.stay0 hSn)
        have HNw := Lib.hid (show ∀ j u, [Value.slice none 0 0, .int .i64 0, .int .i64 st, .int .i64 0][j]? = some u → Wn.cell? ((⟨w7.heap.size, 0, none⟩ : Addr).add j) = some u from by rw [hWn]; exact cells_new w7 [.slice none 0 0, .int .i64 0, .int .i64 st, .int .i64 0] 100 w7.heap.size rfl)
        have HSn := Lib.hid hSn
        rw [← hWn]
        clear hWn hSn
        have hqa := HCk.out Wn HUn.out
        have HSz := Lib.hid (show B ≤ Wn.heap.size from Nat.le_trans HB7.out HSn.out.size)
        refine HK.out _ _ ⟨.inr hqa, ?_⟩
        clear HK K
        refine AnyL.next (i := 11) (by kernel_rfl) ?_
        refine wpOp_step rfl (fun K hK => ?_)
        have HK := Lib.hid hK
        clear hK
        simp only [List.getElem_toArray, List.getElem_cons_zero, List.getElem_cons_succ]
        rw [if_pos (by rfl)]
        refine wp_append_win (.tmp 80) (.tmp 86) 96 rfl B 100 4 i100 _ 48 Try.underlying96 HI.out.1 HI.out.2.1 HI.out.2.2.1 HI.out.2.2.2 rfl (by omega) DA dn dc (gcs D) rfl (by have := HUn.out.dW; rw [← HDn.out] at this; exact this) ⟨w7.heap.size, 0, none⟩ 1 1 rfl [.slice none 0 0, .int .i64 0, .int .i64 st, .int .i64 0] rfl (by omega) HNw.out (by simp [Value.oneCell']) HMx.out.1 HMx.out.2 HSz.out ?_
        intro A' c' w8 hw8 hs8 ha8
        have HU8 := Lib.hid (show UD w8 B bb rb (bcells rb rs2 (.slice DA dn dc) (.slice UA un uc) st sv gv) A' c' (D ++ [⟨none, 0, [], 0, st, 0⟩]) rs2 tx be b8 [.int .i64 a, .int .i64 d, .string s] [.int .i64 va, .int .i64 vd, .string vs] from HUn.out.app hs8 (by rw [← HDn.out]; exact hw8) (Win.nil _ _ _ _))
        have HS8 := Lib.hid (show Stay (Ab DA) w7 w8 from (HSn.out.mono (by simp)).trans hs8)
        have HA8 := Lib.hid ha8
        clear hw8 hs8 ha8 hqa
        have hq8 : (w8.cell? ⟨bb, 2, none⟩ = some (.slice DA dn dc) ∧ w8.cell? ⟨bb, 4, none⟩ = some (.int .i64 st)) := ⟨HU8.out.bbk.cell 2, HU8.out.bbk.cell 4⟩
        have f8 := HU8.out.bbk.free 2
        refine HK.out _ _ ⟨.inr hq8, ?_⟩
        clear HK K
        refine AnyL.take (i := 12) (v := ?_) [13, 14] rfl (by kernel_rfl) (by kernel_rfl) (by kernel_rfl) (by kernel_rfl) (fun _ _ _ h => h) (Or.inl ⟨by rfl, ?_⟩) hq8 ?_
        rotate_left
        · intro w hSw
          obtain ⟨k0, k1⟩ := hSw
          simp only [List.getElem_toArray, List.getElem_cons_zero, List.getElem_cons_succ]
          go_simp
          all_goals with_reducible rfl
        simp only [List.getElem_toArray, List.getElem_cons_zero, List.getElem_cons_succ, Act.put, List.setIfInBounds_toArray, List.set_cons_zero, List.set_cons_succ]
        refine AnyL.take (i := 13) (v := ?_) [14] rfl (by kernel_rfl) (by kernel_rfl) (by kernel_rfl) (by kernel_rfl) (fun _ _ _ h => h) (Or.inl ⟨by rfl, ?_⟩) hq8 ?_
        rotate_left
        · intro w hSw
          obtain ⟨k0, k1⟩ := hSw
          simp only [List.getElem_toArray, List.getElem_cons_zero, List.getElem_cons_succ]
          go_simp
          all_goals with_reducible rfl
        simp only [List.getElem_toArray, List.getElem_cons_zero, List.getElem_cons_succ, Act.put, List.setIfInBounds_toArray, List.set_cons_zero, List.set_cons_succ]
        refine AnyL.next (i := 14) (by kernel_rfl) ?_
        refine wpOp_step rfl (fun K hK => ?_)
        have HK := Lib.hid hK
        clear hK
        simp only [List.getElem_toArray, List.getElem_cons_zero, List.getElem_cons_succ]
        rw [if_pos (by rfl)]
        have hq80 := hq8.1
        go_wp2_with fail
        refine HK.out _ _ ⟨.inl (by first | rfl | trivial), ?_⟩
        clear HK K
        refine AnyL.done (by kernel_rfl) ?_ _
        obtain ⟨w9, hw9⟩ : ∃ x, x = w8.setCell ⟨bb, 2, none⟩ (.slice A' (dn + 1) c') := ⟨_, rfl⟩
        rw [← hw9]
        have HU9 := Lib.hid (show UD w9 B bb rb (bcells rb rs2 (.slice A' (dn + 1) c') (.slice UA un uc) st sv gv) A' c' (D ++ [⟨none, 0, [], 0, st, 0⟩]) rs2 tx be b8 [.int .i64 a, .int .i64 d, .string s] [.int .i64 va, .int .i64 vd, .string vs] from by rw [hw9]; exact HU8.out.setb 2 _)
        have HS9 := Lib.hid (show Stay ([rb, bb] ++ Ab DA) w w9 from by
          rw [hw9]
          exact ((HT7.out.mono (fun f hf => List.mem_append_left _ hf)).trans (HS8.out.mono (fun f hf => List.mem_append_right _ hf))).trans (Stay.setCell _ _ _ (by simp)))
        have c3 : w9.cell? ⟨bb, 3, none⟩ = some (.slice UA un uc) := HU9.out.bbk.cell 3
        have f3 := HU9.out.bbk.free 3
        have hk1 : IntKind.i64.wrap ((dn : Int) - 1 + 1) = (dn : Int) := by simp only [IntKind.wrap, IntKind.bits, IntKind.signed]; simp; omega
        obtain ⟨w10, hw10⟩ : ∃ x, x = w9.setCell ⟨bb, 3, none⟩ (.slice none 0 0) := ⟨_, rfl⟩
        have HU10 := Lib.hid (show UD w10 B bb rb (bcells rb rs2 (.slice A' (dn + 1) c') (.slice none 0 0) st sv gv) A' c' (D ++ [⟨none, 0, [], 0, st, 0⟩]) rs2 tx be b8 [.int .i64 a, .int .i64 d, .string s] [.int .i64 va, .int .i64 vd, .string vs] from by rw [hw10]; exact HU9.out.setb 3 _)
        have HS10 := Lib.hid (show Stay ([rb, bb] ++ Ab DA) w w10 from by rw [hw10]; exact HS9.out.trans (Stay.setCell _ _ _ (by simp)))
        have HW10 := Lib.hid hw10
        clear hw9 hw10 HU8 HU9 HS9
        go_upto_region 18 with fail
        rw [← HW10.out]
        obtain ⟨g, o, rfl⟩ := HU10.out.dW.addr (by simp)
        have HA9 := Lib.hid (show g ∈ [rb, bb] ++ Ab DA ∨ w.heap.size ≤ g from by
          rcases HA8.out with h9 | ⟨g9, h9, h99⟩
          · exact .inl (List.mem_append_right _ (by rw [← h9]; simp [Ab]))
          · have e9 : g = g9 := by simpa [Ab] using h9
            subst e9
            exact .inr (Nat.le_trans HT7.out.size (Nat.le_trans HSn.out.size h99)))
        have hlt : dn < (D ++ [(⟨none, 0, [], 0, st, 0⟩ : MG)]).length := by rw [List.length_append, ← HDn.out]; simp
        have hgd : (D ++ [(⟨none, 0, [], 0, st, 0⟩ : MG)])[dn] = ⟨none, 0, [], 0, st, 0⟩ := by
          rw [List.getElem_append_right (by rw [HDn.out]; exact Nat.le_refl _)]
          simp
        obtain ⟨q0, q1, q2, q3⟩ := win_group HU10.out.dW dn hlt
        rw [hgd] at q0 q1 q2 q3
        simp only [List.length_nil] at q0 q1 q2 q3
        obtain ⟨p, hp⟩ : ∃ p, p = o + dn * 4 := ⟨_, rfl⟩
        have HP := Lib.hid hp
        have HQ := Lib.hid (And.intro q0 (And.intro q1 (And.intro q2 q3)))
        have hdn0 : (0 : Int) ≤ dn := by omega
        have hdn1 : (dn : Int) < (dn : Int) + 1 := by omega
        have HCl := Lib.hid (show ∀ u, UD u B bb rb (bcells rb rs2 (.slice (some ⟨g, o, none⟩) (dn + 1) c') (.slice none 0 0) st sv gv) (some ⟨g, o, none⟩) c' (D ++ [⟨none, 0, [], 0, st, 0⟩]) rs2 tx be b8 [.int .i64 a, .int .i64 d, .string s] [.int .i64 va, .int .i64 vd, .string vs] → u.cell? ⟨bb, 2, none⟩ = some (.slice (some ⟨g, o, none⟩) (dn + 1) c') ∧ u.cell? ⟨b8, 0, none⟩ = some (.int .i64 va) ∧ u.cell? ⟨b8, 1, none⟩ = some (.int .i64 vd) ∧ u.cell? ⟨b8, 2, none⟩ = some (.string vs) from fun u hu => ⟨hu.bbk.cell 2, hu.b.cell 0, hu.b.cell 1, hu.b.cell 2⟩)
        have HUd := Lib.hid (HU10.out.stay0 (Stay.drew w10))
        have hHeld := HCl.out _ HUd.out
        have HAd := Lib.hid (add_none B g (o + dn * 4) 0 [] va vd vs w10.drew (by have := HQ.out.1; exact this) (by have := HQ.out.2.1; exact this) (fun q => HUd.out.dW.free q) (Win.nil _ _ _ _) (by simp [Ab]) (by omega) (Nat.le_trans HB0.out HS10.out.size) (by have := HVs.out; omega))
        clear q0 q1 q2 q3 hgd hlt c3 f3 hp
        refine AnyL.begin_ (S := fun w' : World => w'.cell? ⟨bb, 2, none⟩ = some (.slice (some ⟨g, o, none⟩) (dn + 1) c') ∧ w'.cell? ⟨b8, 0, none⟩ = some (.int .i64 va) ∧ w'.cell? ⟨b8, 1, none⟩ = some (.int .i64 vd) ∧ w'.cell? ⟨b8, 2, none⟩ = some (.string vs)) (n := 99) (by kernel_rfl) ?_
        refine AnyL.takeS (i := 0) (v := ?_) rfl (by kernel_rfl) (by kernel_rfl) (by kernel_rfl) (by kernel_rfl) (fun _ _ _ h => h) (Or.inl ⟨by rfl, ?_⟩) hHeld ?_
        rotate_left
        · intro w hSw
          obtain ⟨k0, k1, k2, k3⟩ := hSw
          simp only [List.getElem_toArray, List.getElem_cons_zero]
          go_simp
          all_goals with_reducible rfl
        simp only [List.getElem_toArray, List.getElem_cons_zero, Act.put, List.setIfInBounds_toArray, List.set_cons_zero, List.set_cons_succ]
        refine AnyL.takeS (i := 1) (v := ?_) rfl (by kernel_rfl) (by kernel_rfl) (by kernel_rfl) (by kernel_rfl) (fun _ _ _ h => h) (Or.inl ⟨by rfl, ?_⟩) hHeld ?_
        rotate_left
        · intro w hSw
          obtain ⟨k0, k1, k2, k3⟩ := hSw
          simp only [List.getElem_toArray, List.getElem_cons_zero, List.getElem_cons_succ]
          go_simp
          all_goals with_reducible rfl
        simp only [List.getElem_toArray, List.getElem_cons_zero, List.getElem_cons_succ, Act.put, List.setIfInBounds_toArray, List.set_cons_zero, List.set_cons_succ]
        refine AnyL.takeS (i := 2) (v := ?_) rfl (by kernel_rfl) (by kernel_rfl) (by kernel_rfl) (by kernel_rfl) (fun _ _ _ h => h) (Or.inl ⟨by rfl, ?_⟩) hHeld ?_
        rotate_left
        · intro w hSw
          obtain ⟨k0, k1, k2, k3⟩ := hSw
          simp only [List.getElem_toArray, List.getElem_cons_zero, List.getElem_cons_succ]
          go_simp
          all_goals with_reducible rfl
        simp only [List.getElem_toArray, List.getElem_cons_zero, List.getElem_cons_succ, Act.put, List.setIfInBounds_toArray, List.set_cons_zero, List.set_cons_succ]
        refine AnyL.takeS (i := 3) (v := ?_) rfl (by kernel_rfl) (by kernel_rfl) (by kernel_rfl) (by kernel_rfl) (fun _ _ _ h => h) (Or.inl ⟨by rfl, ?_⟩) hHeld ?_
        rotate_left
        · intro w hSw
          obtain ⟨k0, k1, k2, k3⟩ := hSw
          simp only [List.getElem_toArray, List.getElem_cons_zero, List.getElem_cons_succ]
          go_simp
          all_goals with_reducible rfl
        simp only [List.getElem_toArray, List.getElem_cons_zero, List.getElem_cons_succ, Act.put, List.setIfInBounds_toArray, List.set_cons_zero, List.set_cons_succ]
        refine AnyL.takeS (i := 4) (v := ?_) rfl (by kernel_rfl) (by kernel_rfl) (by kernel_rfl) (by kernel_rfl) (fun _ _ _ h => h) (Or.inl ⟨by rfl, ?_⟩) hHeld ?_
        rotate_left
        · intro w hSw
          obtain ⟨k0, k1, k2, k3⟩ := hSw
          simp only [List.getElem_toArray, List.getElem_cons_zero, List.getElem_cons_succ]
          go_simp
          all_goals with_reducible rfl
        simp only [List.getElem_toArray, List.getElem_cons_zero, List.getElem_cons_succ, Act.put, List.setIfInBounds_toArray, List.set_cons_zero, List.set_cons_succ]
        refine AnyL.takeS (i := 5) (v := ?_) rfl (by kernel_rfl) (by kernel_rfl) (by kernel_rfl) (by kernel_rfl) (fun _ _ _ h => h) (Or.inl ⟨by rfl, ?_⟩) hHeld ?_
        rotate_left
        · intro w hSw
          obtain ⟨k0, k1, k2, k3⟩ := hSw
          simp only [List.getElem_toArray, List.getElem_cons_zero, List.getElem_cons_succ]
          go_simp
          all_goals with_reducible rfl
        simp only [List.getElem_toArray, List.getElem_cons_zero, List.getElem_cons_succ, Act.put, List.setIfInBounds_toArray, List.set_cons_zero, List.set_cons_succ]
        refine AnyL.takeS (i := 6) (v := ?_) rfl (by kernel_rfl) (by kernel_rfl) (by kernel_rfl) (by kernel_rfl) (fun _ _ _ h => h) (Or.inl ⟨by rfl, ?_⟩) hHeld ?_
        rotate_left
        · intro w hSw
          obtain ⟨k0, k1, k2, k3⟩ := hSw
          simp only [List.getElem_toArray, List.getElem_cons_zero, List.getElem_cons_succ]
          go_simp
          all_goals with_reducible rfl
        simp only [List.getElem_toArray, List.getElem_cons_zero, List.getElem_cons_succ, Act.put, List.setIfInBounds_toArray, List.set_cons_zero, List.set_cons_succ]
        refine AnyL.next (i := 7) (by kernel_rfl) ?_
        refine wpOp_step rfl (fun K hK => ?_)
        have HK := Lib.hid hK
        clear hK
        simp only [List.getElem_toArray, List.getElem_cons_zero, List.getElem_cons_succ]
        rw [if_pos (by rfl)]
        go_simp
        refine HAd.out.mono ?_
        rintro e w11 ⟨rfl, A1, c1, wm, wn, hs1, hs2, hw11, hwe⟩
        have HU11 := Lib.hid (show UD w11 B bb rb (bcells rb rs2 (.slice (some ⟨g, o, none⟩) (dn + 1) c') (.slice none 0 0) st sv gv) (some ⟨g, o, none⟩) c' (D ++ [⟨A1, c1, [⟨va, vd, vs⟩], vs.size, st, 0⟩]) rs2 tx be b8 [.int .i64 a, .int .i64 d, .string s] [.int .i64 va, .int .i64 vd, .string vs] from by
          rw [hwe]
          have h9 := ud_add HUd.out HDn.out hs1 hs2 hw11
          simpa using h9)
        have HS11 := Lib.hid (show Stay ([rb, bb] ++ Ab DA) w w11 from by
          rw [hwe]
          have h9 := ((HS10.out.drew').trans (hs1.mono (by simp))).trans (hs2.mono (by simp))
          exact (stay_put (stay_put h9 HA9.out) HA9.out).drew')
        clear hs1 hs2 hw11 hwe
        have hq11 : (w11.cell? ⟨bb, 2, none⟩ = some (.slice (some ⟨g, o, none⟩) (dn + 1) c') ∧ w11.cell? ⟨b8, 0, none⟩ = some (.int .i64 va) ∧ w11.cell? ⟨b8, 1, none⟩ = some (.int .i64 vd) ∧ w11.cell? ⟨b8, 2, none⟩ = some (.string vs)) := ⟨HU11.out.bbk.cell 2, HU11.out.b.cell 0, HU11.out.b.cell 1, HU11.out.b.cell 2⟩
        refine HK.out _ _ ⟨.inr hq11, ?_⟩
        clear HK K
        refine AnyL.done (by kernel_rfl) ?_ _
        go_wp2_with fail
        have hdn0 : (0 : Int) ≤ dn := by omega
        have hdn1 : (dn : Int) < (dn : Int) + 1 := by omega
        have HUv := Lib.hid (HU11.out.stay0 (Stay.drew w11))
        have HNx := Lib.hid (next_any bb rb rs2 _ _ _ sv gv w11.drew HUv.out.bbk HGv.out)
        have HSv := Lib.hid HS11.out.drew'
        have hHeld : (fun w' : World => w'.cell? ⟨bb, 2, none⟩ = some (.slice (some ⟨g, o, none⟩) (dn + 1) c')) w11.drew := HUv.out.bbk.cell 2
        go_upto_region 19 with fail
        refine AnyL.begin_ (S := fun w' : World => w'.cell? ⟨bb, 2, none⟩ = some (.slice (some ⟨g, o, none⟩) (dn + 1) c')) (n := 9) (by kernel_rfl) ?_
        refine AnyL.take (i := 0) (v := ?_) [1, 2, 3, 7, 8, 9] rfl (by kernel_rfl) (by kernel_rfl) (by kernel_rfl) (by kernel_rfl) (fun _ _ _ h => h) (Or.inl ⟨by rfl, ?_⟩) hHeld ?_
        rotate_left
        · intro w hSw
          have k0 := hSw
          simp only [List.getElem_toArray, List.getElem_cons_zero]
          go_simp
          all_goals with_reducible rfl
        simp only [List.getElem_toArray, List.getElem_cons_zero, Act.put, List.setIfInBounds_toArray, List.set_cons_zero, List.set_cons_succ]
        refine AnyL.take (i := 1) (v := ?_) [2, 3, 7, 8, 9] rfl (by kernel_rfl) (by kernel_rfl) (by kernel_rfl) (by kernel_rfl) (fun _ _ _ h => h) (Or.inl ⟨by rfl, ?_⟩) hHeld ?_
        rotate_left
        · intro w hSw
          have k0 := hSw
          simp only [List.getElem_toArray, List.getElem_cons_zero, List.getElem_cons_succ]
          go_simp
          all_goals with_reducible rfl
        simp only [List.getElem_toArray, List.getElem_cons_zero, List.getElem_cons_succ, Act.put, List.setIfInBounds_toArray, List.set_cons_zero, List.set_cons_succ]
        refine AnyL.take (i := 2) (v := ?_) [3, 7, 8, 9] rfl (by kernel_rfl) (by kernel_rfl) (by kernel_rfl) (by kernel_rfl) (fun _ _ _ h => h) (Or.inl ⟨by rfl, ?_⟩) hHeld ?_
        rotate_left
        · intro w hSw
          have k0 := hSw
          simp only [List.getElem_toArray, List.getElem_cons_zero, List.getElem_cons_succ]
          go_simp
          all_goals with_reducible rfl
        simp only [List.getElem_toArray, List.getElem_cons_zero, List.getElem_cons_succ, Act.put, List.setIfInBounds_toArray, List.set_cons_zero, List.set_cons_succ]
        refine AnyL.take (i := 3) (v := ?_) [7, 8, 9] rfl (by kernel_rfl) (by kernel_rfl) (by kernel_rfl) (by kernel_rfl) (fun _ _ _ h => h) (Or.inl ⟨by rfl, ?_⟩) hHeld ?_
        rotate_left
        · intro w hSw
          have k0 := hSw
          simp only [List.getElem_toArray, List.getElem_cons_zero, List.getElem_cons_succ]
          go_simp
          all_goals with_reducible rfl
        simp only [List.getElem_toArray, List.getElem_cons_zero, List.getElem_cons_succ, Act.put, List.setIfInBounds_toArray, List.set_cons_zero, List.set_cons_succ]
        refine AnyL.take (i := 4) (v := ?_) [7, 8, 9] rfl (by kernel_rfl) (by kernel_rfl) (by kernel_rfl) (by kernel_rfl) (fun _ _ _ h => h) (Or.inl ⟨by rfl, ?_⟩) hHeld ?_
        rotate_left
        · intro w hSw
          have k0 := hSw
          simp only [List.getElem_toArray, List.getElem_cons_zero, List.getElem_cons_succ]
          go_simp
          all_goals with_reducible rfl
        simp only [List.getElem_toArray, List.getElem_cons_zero, List.getElem_cons_succ, Act.put, List.setIfInBounds_toArray, List.set_cons_zero, List.set_cons_succ]
        refine AnyL.take (i := 5) (v := ?_) [6, 9] rfl (by kernel_rfl) (by kernel_rfl) (by kernel_rfl) (by kernel_rfl) (fun _ _ _ h => h) (Or.inl ⟨by rfl, ?_⟩) hHeld ?_
        rotate_left
        · intro w hSw
          have k0 := hSw
          simp only [List.getElem_toArray, List.getElem_cons_zero, List.getElem_cons_succ]
          go_simp
          all_goals with_reducible rfl
        simp only [List.getElem_toArray, List.getElem_cons_zero, List.getElem_cons_succ, Act.put, List.setIfInBounds_toArray, List.set_cons_zero, List.set_cons_succ]
        refine AnyL.next (i := 6) (by kernel_rfl) ?_
        refine wpOp_step rfl (fun K hK => ?_)
        have HK := Lib.hid hK
        clear hK
        simp only [List.getElem_toArray, List.getElem_cons_zero, List.getElem_cons_succ]
        rw [if_pos (by rfl)]
        go_simp
        refine HNx.out.mono ?_
        rintro e w12 ⟨rfl, hw12⟩
        have HU12 := Lib.hid (show UD w12 B bb rb (bcells rb rs2 (.slice (some ⟨g, o, none⟩) (dn + 1) c') (.slice none 0 0) (gv + 1) sv (gv + 1)) (some ⟨g, o, none⟩) c' (D ++ [⟨A1, c1, [⟨va, vd, vs⟩], vs.size, st, 0⟩]) rs2 tx be b8 [.int .i64 a, .int .i64 d, .string s] [.int .i64 va, .int .i64 vd, .string vs] from by
          rw [hw12]
          exact (HUv.out.setb 6 (.int .i64 (gv + 1))).setb 4 (.int .i64 (gv + 1)))
        have HS12 := Lib.hid (show Stay ([rb, bb] ++ Ab DA) w w12 from by
          rw [hw12]
          exact (HSv.out.trans (Stay.setCell _ _ _ (by simp))).trans (Stay.setCell _ _ _ (by simp)))
        clear hw12
        have hq12 : (w12.cell? ⟨bb, 2, none⟩ = some (.slice (some ⟨g, o, none⟩) (dn + 1) c')) := HU12.out.bbk.cell 2
        obtain ⟨_, _, _, q3⟩ := win_group HU12.out.dW dn (by rw [List.length_append, ← HDn.out]; simp)
        have f3 : w12.frozen? ⟨g, o + dn * 4 + 3, none⟩ = false := HU12.out.dW.free _
        refine HK.out _ _ ⟨.inr hq12, ?_⟩
        clear HK K
        refine AnyL.take (i := 7) (v := ?_) [8, 9] rfl (by kernel_rfl) (by kernel_rfl) (by kernel_rfl) (by kernel_rfl) (fun _ _ _ h => h) (Or.inl ⟨by rfl, ?_⟩) hq12 ?_
        rotate_left
        · intro w hSw
          have k0 := hSw
          simp only [List.getElem_toArray, List.getElem_cons_zero, List.getElem_cons_succ]
          go_simp
          all_goals with_reducible rfl
        simp only [List.getElem_toArray, List.getElem_cons_zero, List.getElem_cons_succ, Act.put, List.setIfInBounds_toArray, List.set_cons_zero, List.set_cons_succ]
        refine AnyL.take (i := 8) (v := ?_) [9] rfl (by kernel_rfl) (by kernel_rfl) (by kernel_rfl) (by kernel_rfl) (fun _ _ _ h => h) (Or.inl ⟨by rfl, ?_⟩) hq12 ?_
        rotate_left
        · intro w hSw
          have k0 := hSw
          simp only [List.getElem_toArray, List.getElem_cons_zero, List.getElem_cons_succ]
          go_simp
          all_goals with_reducible rfl
        simp only [List.getElem_toArray, List.getElem_cons_zero, List.getElem_cons_succ, Act.put, List.setIfInBounds_toArray, List.set_cons_zero, List.set_cons_succ]
        refine AnyL.next (i := 9) (by kernel_rfl) ?_
        refine wpOp_step rfl (fun K hK => ?_)
        have HK := Lib.hid hK
        clear hK
        simp only [List.getElem_toArray, List.getElem_cons_zero, List.getElem_cons_succ]
        rw [if_pos (by rfl)]
        go_wp2_with fail
        refine HK.out _ _ ⟨.inl (by first | rfl | trivial), ?_⟩
        clear HK K
        refine AnyL.done (by kernel_rfl) ?_ _
        go_wp2_with fail
        obtain ⟨w13, hw13⟩ : ∃ x, x = w12.setCell ⟨g, o + dn * 4 + 3, none⟩ (.int .i64 (gv + 1)) := ⟨_, rfl⟩
        rw [← hw13]
        obtain ⟨D2, hD2⟩ : ∃ D2 : List MG, D2 = D ++ [⟨A1, c1, [⟨va, vd, vs⟩], vs.size, st, gv + 1⟩] := ⟨_, rfl⟩
        have HU13 := Lib.hid (show UD w13 B bb rb (bcells rb rs2 (.slice (some ⟨g, o, none⟩) (dn + 1) c') (.slice none 0 0) (gv + 1) sv (gv + 1)) (some ⟨g, o, none⟩) c' D2 rs2 tx be b8 [.int .i64 a, .int .i64 d, .string s] [.int .i64 va, .int .i64 vd, .string vs] from by
          rw [hw13, hD2]
          exact ud_cell (y := ⟨A1, c1, [⟨va, vd, vs⟩], vs.size, st, gv + 1⟩) HU12.out HDn.out 3 (by omega) (.int .i64 (gv + 1)) rfl (HU12.out.dE ⟨A1, c1, [⟨va, vd, vs⟩], vs.size, st, 0⟩ (List.mem_append_right _ (List.mem_singleton.2 rfl))))
        have HS13 := Lib.hid (show Stay ([rb, bb] ++ Ab DA) w w13 from by
          rw [hw13]
          exact stay_put HS12.out HA9.out)
        have hDl2 : D2.length = dn + 1 := by rw [hD2, List.length_append, ← HDn.out]; rfl
        have hW13 : Win w13 B 100 4 (some ⟨g, o, none⟩) (dn + 1) c' (gcs D2) := by rw [← hDl2]; exact HU13.out.dW
        have hgr2 : (∀ y ∈ D2, 0 ≤ y.by_) ∧ chg D2 ≤ 4294967296 ∧ byt D2 ≤ 1099511627776 := by
          obtain ⟨g1, g2, g3⟩ := HGr.out
          rw [hD2]
          refine ⟨fun y hy => ?_, ?_, ?_⟩
          · rcases List.mem_append.1 hy with hy | hy
            · exact g1 y hy
            · rw [List.mem_singleton] at hy
              subst hy
              show (0 : Int) ≤ (vs.size : Int)
              omega
          · rw [chg_app]
            simp only [chg, List.map_cons, List.map_nil, List.sum_cons, List.sum_nil, List.length_cons, List.length_nil] at g2 ⊢
            omega
          · rw [byt_app]
            have h9 := HVs.out
            simp only [byt, List.map_cons, List.map_nil, List.sum_cons, List.sum_nil] at g3 ⊢
            omega
        have HFo := Lib.hid (forget_any B bb rb g o (dn + 1) c' rs2 (.slice none 0 0) (gv + 1) sv (gv + 1) D2 w13 HU13.out.bbk hW13 hDl2.symm (by omega) hgr2.1 hgr2.2.1 hgr2.2.2)
        have HLn := Lib.hid hDl2
        have HDe2 := Lib.hid hD2
        clear hw13 hDl2 hW13 hgr2 hD2
        refine HFo.out.mono ?_
        rintro e w14 ⟨rfl, j, hj, hb14, hs14, hch⟩
        have HFin := Lib.hid (show Did B bb rb DA D [⟨va, vd, vs⟩] vs.size st rs2 sv gv tx w (.returned (.int .i64 0)) w14 from by
          have hj2 : j < D2.length := by rw [HLn.out]; exact hj
          obtain ⟨f1, f2, f3⟩ := ud_fin HU13.out hs14 j hj2
          rw [HLn.out] at f1
          rw [HDe2.out] at f1 f2 hch
          refine ⟨A1, c1, some ⟨g, o + j * 4, none⟩, c' - j, j, rfl, ?_, ?_, ?_, f2, f3, HS13.out.trans (hs14.mono (by simp)), ?_⟩
          · rw [← HDn.out]; exact hj
          · rw [← HDn.out]; exact hb14
          · rw [← HDn.out]; exact f1
          · rw [← HDn.out]; exact hch)
        clear hb14 hs14 hch hj HFo
        go_wp2_with fail
        go_ret
        exact HFin.out
end Go.Proofs.Ytjoeebjmjnddoaa
