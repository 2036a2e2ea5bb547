/- package undo: Do: one more edit in the last group. -/
import Derived.Test.YtjoeebjmjnddoaaUdo0
namespace Go.Proofs.Ytjoeebjmjnddoaa
open Go.RowKit
set_option maxRecDepth 20000 in
set_option maxHeartbeats 32000000 in
theorem tdo_more (B bb rb : Nat) (DA : Option Addr) (dc : Nat) (D Dk : List MG) (A0 : Option Addr) (c0 : Nat) (ed : List Ed) (by_ bf sx : Int) (UA : Option Addr) (uc : Nat) (st sv gv : Int) (t : Rp) (rs : Int) (a d : Int) (s : ByteArray) (va vd : Int) (vs : ByteArray) (er rs2 : Int) (tx : List UInt8) (w : World)
    (hb : Blk w bb (bcells rb rs (.slice DA D.length dc) (.slice UA 0 uc) st sv gv) 98) (hD : Win w B 100 4 DA D.length dc (gcs D)) (hDE : ∀ y ∈ D, y.ok w B) (hR : RopeAt w rb t rs) (hu : U64 rs2) (hB : B ≤ w.heap.size) (hDl : D.length ≤ 4096)
    (hRD : ∀ u, Stay [] w u → RDo rb a d s va vd vs er rs2 tx u) (hDk : D = Dk ++ [⟨A0, c0, ed, by_, bf, sx⟩]) (hfl : ed.length < 1024) (hen0 : 0 < ed.length) (her : er = 0) (hem : d = 0 → s.toList.isEmpty = false) (hvs : vs.size ≤ 1048576) (hgv : 0 ≤ gv ∧ gv < 9223372036854775807) (hgr : (∀ y ∈ D, 0 ≤ y.by_) ∧ chg D ≤ 2147483648 ∧ byt D ≤ 549755813888) :
    Calls Try.prog 31 #[.pointer (some ⟨bb, 0, none⟩), .agg #[.int .i64 a, .int .i64 d, .string s], .bool true] w (Did B bb rb DA Dk (ed ++ [⟨va, vd, vs⟩]) (by_ + vs.size) bf rs2 sv gv tx w) := by
  subst her
  have HB0 := Lib.hid hB
  have HEm := Lib.hid hem
  have HVs := Lib.hid hvs
  have HGv := Lib.hid hgv
  have HGr := Lib.hid hgr
  have HFl := Lib.hid hfl
  have HE0 := Lib.hid hen0
  clear hem hvs hgv hgr hen0
  have HRD := Lib.hid hRD
  obtain ⟨W1, hW1⟩ : ∃ W, W = w.alloc (.cells #[.int .i64 a, .int .i64 d, .string s] 37) := ⟨_, rfl⟩
  have hs1 : Stay [] w W1 := by rw [hW1]; exact Stay.alloc _ _
  have hbe : Blk W1 w.heap.size [.int .i64 a, .int .i64 d, .string s] 37 := by rw [hW1]; exact Blk.new w _ _
  have HB1 := Lib.hid (hb.stay hs1 (by simp))
  have HD1 := Lib.hid (hD.stay0 hs1)
  have HE1 := Lib.hid (show ∀ x ∈ D, x.ok W1 B from fun x hx => (hDE x hx).stay0 hs1)
  have HR1 := Lib.hid (hR.stay0 hs1)
  have HLo := Lib.hid (look_same bb rb rs _ _ st sv gv t W1 HB1.out HR1.out)
  have HS1 := Lib.hid hs1
  have HW1 := Lib.hid hW1
  obtain ⟨be, hbee⟩ : ∃ b, b = w.heap.size := ⟨_, rfl⟩
  rw [← hbee] at hbe
  have HBe := Lib.hid hbe
  have HEe := Lib.hid hbee
  have HU := Lib.hid hu
  have HBw := Lib.hid (Nat.le_trans hB hs1.size)
  obtain ⟨dn, hdn⟩ : ∃ n, n = Dk.length := ⟨_, rfl⟩
  have hdl : D.length = dn + 1 := by rw [hDk, hdn]; simp
  have HDn := Lib.hid hdl.symm
  have HDk := Lib.hid hdn
  rw [hdl] at HB1 HD1 hDl
  have hkw : IntKind.i64.wrap ((dn : Int) + 1 - 1) = (dn : Int) := by simp only [IntKind.wrap, IntKind.bits, IntKind.signed]; simp; omega
  obtain ⟨g, o, rfl⟩ := hD.addr (by rw [hdl]; omega)
  obtain ⟨q0, q1, q2, q3⟩ := win_group HD1.out dn (by rw [hdl]; omega)
  have hgd : D[dn]'(by omega) = ⟨A0, c0, ed, by_, bf, sx⟩ := by
    have h9 : (Dk ++ [(⟨A0, c0, ed, by_, bf, sx⟩ : MG)])[dn]'(by simp [hdn]) = ⟨A0, c0, ed, by_, bf, sx⟩ := by
      rw [List.getElem_append_right (by omega)]
      simp
    simp only [hDk]
    exact h9
  rw [hgd] at q0 q1 q2 q3
  simp only at q0 q1 q2 q3
  obtain ⟨en, hen⟩ : ∃ n, n = ed.length := ⟨_, rfl⟩
  have HEn := Lib.hid hen
  rw [← hen] at q0 hfl
  have hgq : decide ((1024 : Int) ≤ en) = false := decide_eq_false (by omega)
  have hgq2 : ¬ (1024 : Int) ≤ en := by omega
  have hdn0 : (0 : Int) ≤ dn := by omega
  have hdn1 : (dn : Int) < (dn : Int) + 1 := by omega
  have hdn2 : (1 : Int) ≤ (dn : Int) + 1 := by omega
  have HDe := Lib.hid hDk
  have c0' : W1.cell? ⟨bb, 0, none⟩ = some (.pointer (some ⟨rb, 0, none⟩)) := HB1.out.cell 0
  have c2 : W1.cell? ⟨bb, 2, none⟩ = some (.slice (some ⟨g, o, none⟩) (dn + 1) dc) := HB1.out.cell 2
  have c3 : W1.cell? ⟨bb, 3, none⟩ = some (.slice UA 0 uc) := HB1.out.cell 3
  clear hRD hW1 hs1 hbe hb hD hDE hR hu hB hbee hdn hdl hgd hen hDk q1 q2 q3
  go_enter Try.func31, Try.ntmps31
  go_upto_region 1 with fail
  rw [← HW1.out, ← HEe.out]
  go_wp2_with fail
  refine HLo.out.mono ?_
  rintro e w' ⟨rfl, hwe⟩
  rw [hwe]
  clear hwe HLo
  go_upto_region 8 with fail
  go_cut [8, 9] (fun p v wx => ∃ b8 : Nat, p = .pointer (some ⟨b8, 0, none⟩) ∧ v = .int .i64 0 ∧ Hid (UD wx B bb rb (bcells rb rs (.slice (some ⟨g, o, none⟩) (dn + 1) dc) (.slice UA 0 uc) st sv gv) (some ⟨g, o, none⟩) dc D rs2 tx be b8 [.int .i64 a, .int .i64 d, .string s] [.int .i64 va, .int .i64 vd, .string vs] ∧ Stay [rb] w wx))
  case first =>
    obtain ⟨L7, hL7⟩ := HR1.out.blk
    have HL7 := Lib.hid hL7
    have HSS := Lib.hid (show ∀ u, Stay [rb] W1 u → u.cell? ⟨bb, 0, none⟩ = some (.pointer (some ⟨rb, 0, none⟩)) ∧ u.cell? ⟨be, 0, none⟩ = some (.int .i64 a) ∧ u.cell? ⟨be, 1, none⟩ = some (.int .i64 d) ∧ u.cell? ⟨be, 2, none⟩ = some (.string s) from fun u hs => by
      have n1 : bb ∉ [rb] := by
        rw [List.mem_singleton]; exact blk_ne_of HB1.out HL7.out (by decide)
      have n2 : be ∉ [rb] := by
        rw [List.mem_singleton]; exact blk_ne_of HBe.out HL7.out (by decide)
      have h2 := HBe.out.stay hs n2
      exact ⟨(HB1.out.stay hs n1).cell 0, h2.cell 0, h2.cell 1, h2.cell 2⟩)
    have HSd := Lib.hid (Stay.drew (F := []) W1)
    have HSa := Lib.hid (show Stay [] W1 (W1.alloc (.cells #[.int .i64 0, .int .i64 0, .string ⟨#[]⟩] 37)).drew from (Stay.alloc _ _).drew')
    have HBa := Lib.hid (show Blk (W1.alloc (.cells #[.int .i64 0, .int .i64 0, .string ⟨#[]⟩] 37)).drew W1.heap.size [.int .i64 0, .int .i64 0, .string ⟨#[]⟩] 37 from (Blk.new W1 _ 37).stay (F := []) (Stay.drew _) (by simp))
    have hq0 := HSS.out W1.drew (HSd.out.mono (by simp))
    have HC1 := Lib.hid (show RDo rb a d s va vd vs 0 rs2 tx W1.drew from HRD.out _ (HS1.out.trans HSd.out))
    have HC2 := Lib.hid (show RDo rb a d s va vd vs 0 rs2 tx (W1.alloc (.cells #[.int .i64 0, .int .i64 0, .string ⟨#[]⟩] 37)).drew from HRD.out _ (HS1.out.trans HSa.out))
    unfold RDo at HC1 HC2
    have HKq := Lib.hid (show ∀ (u : World) (x y z : Value), Stay [rb] W1 u → (((u.setCell ⟨W1.heap.size, 0, none⟩ x).setCell ⟨W1.heap.size, 1, none⟩ y).setCell ⟨W1.heap.size, 2, none⟩ z).cell? ⟨bb, 0, none⟩ = some (.pointer (some ⟨rb, 0, none⟩)) ∧ (((u.setCell ⟨W1.heap.size, 0, none⟩ x).setCell ⟨W1.heap.size, 1, none⟩ y).setCell ⟨W1.heap.size, 2, none⟩ z).cell? ⟨be, 0, none⟩ = some (.int .i64 a) ∧ (((u.setCell ⟨W1.heap.size, 0, none⟩ x).setCell ⟨W1.heap.size, 1, none⟩ y).setCell ⟨W1.heap.size, 2, none⟩ z).cell? ⟨be, 1, none⟩ = some (.int .i64 d) ∧ (((u.setCell ⟨W1.heap.size, 0, none⟩ x).setCell ⟨W1.heap.size, 1, none⟩ y).setCell ⟨W1.heap.size, 2, none⟩ z).cell? ⟨be, 2, none⟩ = some (.string s) from fun u x y z hs =>
      HSS.out _ (((hs.set' (.inr (Nat.le_refl _))).set' (.inr (Nat.le_refl _))).set' (.inr (Nat.le_refl _))))
    clear c0' c2 c3 hL7
    go_region_held3 (fun w' => w'.cell? ⟨bb, 0, none⟩ = some (.pointer (some ⟨rb, 0, none⟩)) ∧ w'.cell? ⟨be, 0, none⟩ = some (.int .i64 a) ∧ w'.cell? ⟨be, 1, none⟩ = some (.int .i64 d) ∧ w'.cell? ⟨be, 2, none⟩ = some (.string s)) (first | exact hq | exact hq0 | exact HSS.out _ (HSa.out.mono (by simp)) | exact HKq.out _ _ _ _ HT5.out | go_keep)
      (first
        | (go_at_call 21; ((with_reducible refine HC1.out.mono ?_); rintro e w5 ⟨rfl, hR5, hs5⟩); have HT5 := Lib.hid ((HSd.out.mono (G := [rb]) (by simp)).trans hs5); have hq := HSS.out _ HT5.out; have HFA := Lib.hid (show UD (w5.alloc (.cells #[.int .i64 va, .int .i64 vd, .string vs] 37)) B bb rb (bcells rb rs (.slice (some ⟨g, o, none⟩) (dn + 1) dc) (.slice UA 0 uc) st sv gv) (some ⟨g, o, none⟩) dc D rs2 tx be w5.heap.size [.int .i64 a, .int .i64 d, .string s] [.int .i64 va, .int .i64 vd, .string vs] ∧ Stay [rb] w (w5.alloc (.cells #[.int .i64 va, .int .i64 vd, .string vs] 37)) from ⟨ud_alloc HB1.out (by rw [← HDn.out]; exact HD1.out) HE1.out HR1.out HBe.out HT5.out hR5 [.int .i64 va, .int .i64 vd, .string vs], ((HS1.out.mono (by simp)).trans HT5.out).alloc'⟩); clear hR5 hs5)
        | (go_at_call 21; ((with_reducible refine HC2.out.mono ?_); rintro e w5 ⟨rfl, hR5, hs5⟩); have HT5 := Lib.hid ((HSa.out.mono (G := [rb]) (by simp)).trans hs5); have hq := HSS.out _ HT5.out; have HB7 := Lib.hid (HBa.out.stay hs5 (by rw [List.mem_singleton]; exact blk_ne_of HBa.out (HL7.out.stay HSa.out (by simp)) (by decide))); have q0 := HB7.out.cell 0; have q1 := HB7.out.cell 1; have q2 := HB7.out.cell 2; have f0 := HB7.out.free 0; have f1 := HB7.out.free 1; have f2 := HB7.out.free 2; change _ = some (Value.int .i64 0) at q0; change _ = some (Value.int .i64 0) at q1; change _ = some (Value.string ⟨#[]⟩) at q2; have hfb := ud_sets HB1.out (by rw [← HDn.out]; exact HD1.out) HE1.out HR1.out HBe.out HT5.out hR5 _ _ _ (.int .i64 va) (.int .i64 vd) (.string vs) HB7.out (Nat.le_refl _); have HFB := Lib.hid (And.intro hfb.1 ((HS1.out.mono (G := [rb]) (by simp)).trans hfb.2)); clear hfb hR5 hs5))
    all_goals
      go_wp2_with fail
      go_meet
      first
        | exact ⟨_, rfl, rfl, HFA⟩
        | exact ⟨_, rfl, rfl, HFB⟩
  case rest =>
    obtain ⟨b8, rfl, rfl, HQ⟩ := hcut
    obtain ⟨w6, hw6⟩ : ∃ x, x = wc := ⟨_, rfl⟩
    rw [← hw6] at HQ ⊢
    have HQD := Lib.hid HQ.out.1
    have HQS := Lib.hid HQ.out.2
    clear hw6 HQ c0' c2 c3 HRD HB1 HD1 HE1 HR1 HBe
    obtain ⟨t6, hR6, hx6⟩ := HQD.out.R
    have HSt := Lib.hid (stamp_any rb t6 rs2 w6 hR6)
    have c0 : w6.cell? ⟨bb, 0, none⟩ = some (.pointer (some ⟨rb, 0, none⟩)) := HQD.out.bbk.cell 0
    have c1 : w6.cell? ⟨bb, 1, none⟩ = some (.int .u64 rs) := HQD.out.bbk.cell 1
    have f1 := HQD.out.bbk.free 1
    obtain ⟨w7, hw7⟩ : ∃ x, x = w6.setCell ⟨bb, 1, none⟩ (.int .u64 rs2) := ⟨_, rfl⟩
    have HU7 := Lib.hid (show UD w7 B bb rb (bcells rb rs2 (.slice (some ⟨g, o, none⟩) (dn + 1) dc) (.slice UA 0 uc) st sv gv) (some ⟨g, o, none⟩) dc D rs2 tx be b8 [.int .i64 a, .int .i64 d, .string s] [.int .i64 va, .int .i64 vd, .string vs] from by rw [hw7]; exact HQD.out.setb 1 _)
    have HT7 := Lib.hid (show Stay [rb, bb] w w7 from by rw [hw7]; exact (HQS.out.mono (by simp)).trans (Stay.setCell _ _ _ (by simp)))
    have e1 : w7.cell? ⟨be, 1, none⟩ = some (.int .i64 d) := HU7.out.e.cell 1
    have e2 : w7.cell? ⟨be, 2, none⟩ = some (.string s) := HU7.out.e.cell 2
    have HW7 := Lib.hid hw7
    clear hR6 hx6 hw7 HQD
    go_wp2_with fail
    refine HSt.out.mono ?_
    rintro e w' ⟨rfl, rfl⟩
    go_upto_region 12 with fail
    rw [← HW7.out]
    go_cut [73] (fun v wx => v = .bool false ∧ wx = w7)
    case first =>
      by_cases hd0 : d = 0
      · have hs0 : s.toList.isEmpty = false := HEm.out hd0
        subst hd0
        go_wp2_with fail
        go_meet
        exact ⟨rfl, rfl⟩
      · have q1 : decide (d = 0) = false := decide_eq_false hd0
        go_wp2_with fail
        go_meet
        exact ⟨rfl, rfl⟩
    case rest =>
      obtain ⟨rfl, hwc⟩ := hcut
      rw [hwc]
      clear hwc e1 e2 c0 c1 f1
      have c3 : w7.cell? ⟨bb, 3, none⟩ = some (.slice UA 0 uc) := HU7.out.bbk.cell 3
      have f3 := HU7.out.bbk.free 3
      obtain ⟨w10, hw10⟩ : ∃ x, x = w7.setCell ⟨bb, 3, none⟩ (.slice none 0 0) := ⟨_, rfl⟩
      obtain ⟨gg, oo, rfl⟩ := Win.addr (show Win w7 B 37 3 A0 ed.length c0 (eds ed) from HU7.out.dE ⟨A0, c0, ed, by_, bf, sx⟩ (by rw [HDe.out]; exact List.mem_append_right _ (List.mem_singleton.2 rfl))) HE0.out
      have HU10 := Lib.hid (show UD w10 B bb rb (bcells rb rs2 (.slice (some ⟨g, o, none⟩) (dn + 1) dc) (.slice none 0 0) st sv gv) (some ⟨g, o, none⟩) dc (Dk ++ [⟨some ⟨gg, oo, none⟩, c0, ed, by_, bf, sx⟩]) rs2 tx be b8 [.int .i64 a, .int .i64 d, .string s] [.int .i64 va, .int .i64 vd, .string vs] from by
        have h9 := HU7.out.setb 3 (.slice none 0 0)
        rw [← hw10, HDe.out] at h9
        exact h9)
      have HS10 := Lib.hid (show Stay ([rb, bb] ++ Ab (some ⟨g, o, none⟩)) w w10 from by rw [hw10]; exact (HT7.out.mono (fun f hf => List.mem_append_left _ hf)).trans (Stay.setCell _ _ _ (by simp)))
      have HW10 := Lib.hid hw10
      clear hw10 HU7
      go_upto_region 18 with fail
      rw [← HW10.out]
      have HA9 := Lib.hid (show g ∈ [rb, bb] ++ Ab (some ⟨g, o, none⟩) ∨ w.heap.size ≤ g from .inl (by simp [Ab]))
      have hlt : dn < (Dk ++ [(⟨some ⟨gg, oo, none⟩, c0, ed, by_, bf, sx⟩ : MG)]).length := by rw [List.length_append, ← HDk.out]; simp
      have hgd : (Dk ++ [(⟨some ⟨gg, oo, none⟩, c0, ed, by_, bf, sx⟩ : MG)])[dn] = ⟨some ⟨gg, oo, none⟩, c0, ed, by_, bf, sx⟩ := by
        rw [List.getElem_append_right (by rw [HDk.out]; exact Nat.le_refl _)]
        simp
      obtain ⟨q0, q1, q2, q3⟩ := win_group HU10.out.dW dn hlt
      rw [hgd] at q0 q1 q2 q3
      simp only at q0 q1 q2 q3
      have HQ := Lib.hid (And.intro q0 (And.intro q1 (And.intro q2 q3)))
      have HCl := Lib.hid (show ∀ u, UD u B bb rb (bcells rb rs2 (.slice (some ⟨g, o, none⟩) (dn + 1) dc) (.slice none 0 0) st sv gv) (some ⟨g, o, none⟩) dc (Dk ++ [⟨some ⟨gg, oo, none⟩, c0, ed, by_, bf, sx⟩]) rs2 tx be b8 [.int .i64 a, .int .i64 d, .string s] [.int .i64 va, .int .i64 vd, .string vs] → u.cell? ⟨bb, 2, none⟩ = some (.slice (some ⟨g, o, none⟩) (dn + 1) dc) ∧ u.cell? ⟨b8, 0, none⟩ = some (.int .i64 va) ∧ u.cell? ⟨b8, 1, none⟩ = some (.int .i64 vd) ∧ u.cell? ⟨b8, 2, none⟩ = some (.string vs) from fun u hu => ⟨hu.bbk.cell 2, hu.b.cell 0, hu.b.cell 1, hu.b.cell 2⟩)
      have HUd := Lib.hid (HU10.out.stay0 (Stay.drew w10))
      have hHeld := HCl.out _ HUd.out
      have HAd := Lib.hid (add_some B g (o + dn * 4) gg oo ed.length c0 by_ ed va vd vs w10.drew (by have := HQ.out.1; exact this) (by have := HQ.out.2.1; exact this) (fun q => HUd.out.dW.free q) (show Win w10.drew B 37 3 (some ⟨gg, oo, none⟩) ed.length c0 (eds ed) from HUd.out.dE ⟨some ⟨gg, oo, none⟩, c0, ed, by_, bf, sx⟩ (List.mem_append_right _ (List.mem_singleton.2 rfl)))
        (fun f hf => by
          obtain ⟨LG, _, hg, _⟩ := HUd.out.dW.some_
          have h8 : Win w10.drew B 37 3 (some ⟨gg, oo, none⟩) ed.length c0 (eds ed) := HUd.out.dE ⟨some ⟨gg, oo, none⟩, c0, ed, by_, bf, sx⟩ (List.mem_append_right _ (List.mem_singleton.2 rfl))
          obtain ⟨_, _, L2, hL2⟩ := h8.ab f hf
          exact blk_ne_of hL2 hg (by decide)) (by have := HFl.out; omega) (Nat.le_trans HB0.out HS10.out.size) (by
          have h7 := HVs.out
          obtain ⟨g1, g2, g3⟩ := HGr.out
          rw [HDe.out, byt_app] at g3
          have g4 := byt_nn Dk (fun x hx => g1 x (by rw [HDe.out]; exact List.mem_append_left _ hx))
          have g5 := g1 ⟨some ⟨gg, oo, none⟩, c0, ed, by_, bf, sx⟩ (by rw [HDe.out]; exact List.mem_append_right _ (List.mem_singleton.2 rfl))
          simp only [byt, List.map_cons, List.map_nil, List.sum_cons, List.sum_nil] at g3 g4 g5
          omega))
      clear q0 q1 q2 q3 hgd hlt c3 f3
      refine AnyL.begin_ (S := fun w' : World => w'.cell? ⟨bb, 2, none⟩ = some (.slice (some ⟨g, o, none⟩) (dn + 1) dc) ∧ w'.cell? ⟨b8, 0, none⟩ = some (.int .i64 va) ∧ w'.cell? ⟨b8, 1, none⟩ = some (.int .i64 vd) ∧ w'.cell? ⟨b8, 2, none⟩ = some (.string vs)) (n := 99) (by kernel_rfl) ?_
      refine AnyL.takeS (i := 0) (v := ?_) rfl (by kernel_rfl) (by kernel_rfl) (by kernel_rfl) (by kernel_rfl) (fun _ _ _ h => h) (Or.inl ⟨by rfl, ?_⟩) hHeld ?_
      rotate_left
      · intro w hSw
        obtain ⟨k0, k1, k2, k3⟩ := hSw
        simp only [List.getElem_toArray, List.getElem_cons_zero]
        go_simp
        all_goals with_reducible rfl
      simp only [List.getElem_toArray, List.getElem_cons_zero, Act.put, List.setIfInBounds_toArray, List.set_cons_zero, List.set_cons_succ]
      refine AnyL.takeS (i := 1) (v := ?_) rfl (by kernel_rfl) (by kernel_rfl) (by kernel_rfl) (by kernel_rfl) (fun _ _ _ h => h) (Or.inl ⟨by rfl, ?_⟩) hHeld ?_
      rotate_left
      · intro w hSw
        obtain ⟨k0, k1, k2, k3⟩ := hSw
        simp only [List.getElem_toArray, List.getElem_cons_zero, List.getElem_cons_succ]
        go_simp
        all_goals with_reducible rfl
      simp only [List.getElem_toArray, List.getElem_cons_zero, List.getElem_cons_succ, Act.put, List.setIfInBounds_toArray, List.set_cons_zero, List.set_cons_succ]
      refine AnyL.takeS (i := 2) (v := ?_) rfl (by kernel_rfl) (by kernel_rfl) (by kernel_rfl) (by kernel_rfl) (fun _ _ _ h => h) (Or.inl ⟨by rfl, ?_⟩) hHeld ?_
      rotate_left
      · intro w hSw
        obtain ⟨k0, k1, k2, k3⟩ := hSw
        simp only [List.getElem_toArray, List.getElem_cons_zero, List.getElem_cons_succ]
        go_simp
        all_goals with_reducible rfl
      simp only [List.getElem_toArray, List.getElem_cons_zero, List.getElem_cons_succ, Act.put, List.setIfInBounds_toArray, List.set_cons_zero, List.set_cons_succ]
      refine AnyL.takeS (i := 3) (v := ?_) rfl (by kernel_rfl) (by kernel_rfl) (by kernel_rfl) (by kernel_rfl) (fun _ _ _ h => h) (Or.inl ⟨by rfl, ?_⟩) hHeld ?_
      rotate_left
      · intro w hSw
        obtain ⟨k0, k1, k2, k3⟩ := hSw
        simp only [List.getElem_toArray, List.getElem_cons_zero, List.getElem_cons_succ]
        go_simp
        all_goals with_reducible rfl
      simp only [List.getElem_toArray, List.getElem_cons_zero, List.getElem_cons_succ, Act.put, List.setIfInBounds_toArray, List.set_cons_zero, List.set_cons_succ]
      refine AnyL.takeS (i := 4) (v := ?_) rfl (by kernel_rfl) (by kernel_rfl) (by kernel_rfl) (by kernel_rfl) (fun _ _ _ h => h) (Or.inl ⟨by rfl, ?_⟩) hHeld ?_
      rotate_left
      · intro w hSw
        obtain ⟨k0, k1, k2, k3⟩ := hSw
        simp only [List.getElem_toArray, List.getElem_cons_zero, List.getElem_cons_succ]
        go_simp
        all_goals with_reducible rfl
      simp only [List.getElem_toArray, List.getElem_cons_zero, List.getElem_cons_succ, Act.put, List.setIfInBounds_toArray, List.set_cons_zero, List.set_cons_succ]
      refine AnyL.takeS (i := 5) (v := ?_) rfl (by kernel_rfl) (by kernel_rfl) (by kernel_rfl) (by kernel_rfl) (fun _ _ _ h => h) (Or.inl ⟨by rfl, ?_⟩) hHeld ?_
      rotate_left
      · intro w hSw
        obtain ⟨k0, k1, k2, k3⟩ := hSw
        simp only [List.getElem_toArray, List.getElem_cons_zero, List.getElem_cons_succ]
        go_simp
        all_goals with_reducible rfl
      simp only [List.getElem_toArray, List.getElem_cons_zero, List.getElem_cons_succ, Act.put, List.setIfInBounds_toArray, List.set_cons_zero, List.set_cons_succ]
      refine AnyL.takeS (i := 6) (v := ?_) rfl (by kernel_rfl) (by kernel_rfl) (by kernel_rfl) (by kernel_rfl) (fun _ _ _ h => h) (Or.inl ⟨by rfl, ?_⟩) hHeld ?_
      rotate_left
      · intro w hSw
        obtain ⟨k0, k1, k2, k3⟩ := hSw
        simp only [List.getElem_toArray, List.getElem_cons_zero, List.getElem_cons_succ]
        go_simp
        all_goals with_reducible rfl
      simp only [List.getElem_toArray, List.getElem_cons_zero, List.getElem_cons_succ, Act.put, List.setIfInBounds_toArray, List.set_cons_zero, List.set_cons_succ]
      refine AnyL.next (i := 7) (by kernel_rfl) ?_
      refine wpOp_step rfl (fun K hK => ?_)
      have HK := Lib.hid hK
      clear hK
      simp only [List.getElem_toArray, List.getElem_cons_zero, List.getElem_cons_succ]
      rw [if_pos (by rfl)]
      go_simp
      refine HAd.out.mono ?_
      rintro e w11 ⟨rfl, A1, c1, wm, wn, hs1, hs2, hw11, hwe⟩
      have HU11 := Lib.hid (show UD w11 B bb rb (bcells rb rs2 (.slice (some ⟨g, o, none⟩) (dn + 1) dc) (.slice none 0 0) st sv gv) (some ⟨g, o, none⟩) dc (Dk ++ [⟨A1, c1, ed ++ [⟨va, vd, vs⟩], by_ + vs.size, bf, sx⟩]) rs2 tx be b8 [.int .i64 a, .int .i64 d, .string s] [.int .i64 va, .int .i64 vd, .string vs] from by
        rw [hwe]
        exact ud_add HUd.out HDk.out hs1 hs2 hw11)
      have HS11 := Lib.hid (show Stay ([rb, bb] ++ Ab (some ⟨g, o, none⟩)) w w11 from by
        rw [hwe]
        have h9 := ((HS10.out.drew').trans (hs1.mono (by simp))).trans (hs2.mono (by simp))
        exact (stay_put (stay_put h9 HA9.out) HA9.out).drew')
      clear hs1 hs2 hw11 hwe
      have hq11 : (w11.cell? ⟨bb, 2, none⟩ = some (.slice (some ⟨g, o, none⟩) (dn + 1) dc) ∧ w11.cell? ⟨b8, 0, none⟩ = some (.int .i64 va) ∧ w11.cell? ⟨b8, 1, none⟩ = some (.int .i64 vd) ∧ w11.cell? ⟨b8, 2, none⟩ = some (.string vs)) := ⟨HU11.out.bbk.cell 2, HU11.out.b.cell 0, HU11.out.b.cell 1, HU11.out.b.cell 2⟩
      refine HK.out _ _ ⟨.inr hq11, ?_⟩
      clear HK K
      refine AnyL.done (by kernel_rfl) ?_ _
      go_wp2_with fail
      have hdn0 : (0 : Int) ≤ dn := by omega
      have hdn1 : (dn : Int) < (dn : Int) + 1 := by omega
      have HUv := Lib.hid (HU11.out.stay0 (Stay.drew w11))
      have HNx := Lib.hid (next_any bb rb rs2 _ _ _ sv gv w11.drew HUv.out.bbk HGv.out)
      have HSv := Lib.hid HS11.out.drew'
      have hHeld : (fun w' : World => w'.cell? ⟨bb, 2, none⟩ = some (.slice (some ⟨g, o, none⟩) (dn + 1) dc)) w11.drew := HUv.out.bbk.cell 2
      go_upto_region 19 with fail
      refine AnyL.begin_ (S := fun w' : World => w'.cell? ⟨bb, 2, none⟩ = some (.slice (some ⟨g, o, none⟩) (dn + 1) dc)) (n := 9) (by kernel_rfl) ?_
      refine AnyL.take (i := 0) (v := ?_) [1, 2, 3, 7, 8, 9] rfl (by kernel_rfl) (by kernel_rfl) (by kernel_rfl) (by kernel_rfl) (fun _ _ _ h => h) (Or.inl ⟨by rfl, ?_⟩) hHeld ?_
      rotate_left
      · intro w hSw
        have k0 := hSw
        simp only [List.getElem_toArray, List.getElem_cons_zero]
        go_simp
        all_goals with_reducible rfl
      simp only [List.getElem_toArray, List.getElem_cons_zero, Act.put, List.setIfInBounds_toArray, List.set_cons_zero, List.set_cons_succ]
      refine AnyL.take (i := 1) (v := ?_) [2, 3, 7, 8, 9] rfl (by kernel_rfl) (by kernel_rfl) (by kernel_rfl) (by kernel_rfl) (fun _ _ _ h => h) (Or.inl ⟨by rfl, ?_⟩) hHeld ?_
      rotate_left
      · intro w hSw
        have k0 := hSw
        simp only [List.getElem_toArray, List.getElem_cons_zero, List.getElem_cons_succ]
        go_simp
        all_goals with_reducible rfl
      simp only [List.getElem_toArray, List.getElem_cons_zero, List.getElem_cons_succ, Act.put, List.setIfInBounds_toArray, List.set_cons_zero, List.set_cons_succ]
      refine AnyL.take (i := 2) (v := ?_) [3, 7, 8, 9] rfl (by kernel_rfl) (by kernel_rfl) (by kernel_rfl) (by kernel_rfl) (fun _ _ _ h => h) (Or.inl ⟨by rfl, ?_⟩) hHeld ?_
      rotate_left
      · intro w hSw
        have k0 := hSw
        simp only [List.getElem_toArray, List.getElem_cons_zero, List.getElem_cons_succ]
        go_simp
        all_goals with_reducible rfl
      simp only [List.getElem_toArray, List.getElem_cons_zero, List.getElem_cons_succ, Act.put, List.setIfInBounds_toArray, List.set_cons_zero, List.set_cons_succ]
      refine AnyL.take (i := 3) (v := ?_) [7, 8, 9] rfl (by kernel_rfl) (by kernel_rfl) (by kernel_rfl) (by kernel_rfl) (fun _ _ _ h => h) (Or.inl ⟨by rfl, ?_⟩) hHeld ?_
      rotate_left
      · intro w hSw
        have k0 := hSw
        simp only [List.getElem_toArray, List.getElem_cons_zero, List.getElem_cons_succ]
        go_simp
        all_goals with_reducible rfl
      simp only [List.getElem_toArray, List.getElem_cons_zero, List.getElem_cons_succ, Act.put, List.setIfInBounds_toArray, List.set_cons_zero, List.set_cons_succ]
      refine AnyL.take (i := 4) (v := ?_) [7, 8, 9] rfl (by kernel_rfl) (by kernel_rfl) (by kernel_rfl) (by kernel_rfl) (fun _ _ _ h => h) (Or.inl ⟨by rfl, ?_⟩) hHeld ?_
      rotate_left
      · intro w hSw
        have k0 := hSw
        simp only [List.getElem_toArray, List.getElem_cons_zero, List.getElem_cons_succ]
        go_simp
        all_goals with_reducible rfl
      simp only [List.getElem_toArray, List.getElem_cons_zero, List.getElem_cons_succ, Act.put, List.setIfInBounds_toArray, List.set_cons_zero, List.set_cons_succ]
      refine AnyL.take (i := 5) (v := ?_) [6, 9] rfl (by kernel_rfl) (by kernel_rfl) (by kernel_rfl) (by kernel_rfl) (fun _ _ _ h => h) (Or.inl ⟨by rfl, ?_⟩) hHeld ?_
      rotate_left
      · intro w hSw
        have k0 := hSw
        simp only [List.getElem_toArray, List.getElem_cons_zero, List.getElem_cons_succ]
        go_simp
        all_goals with_reducible rfl
      simp only [List.getElem_toArray, List.getElem_cons_zero, List.getElem_cons_succ, Act.put, List.setIfInBounds_toArray, List.set_cons_zero, List.set_cons_succ]
      refine AnyL.next (i := 6) (by kernel_rfl) ?_
      refine wpOp_step rfl (fun K hK => ?_)
      have HK := Lib.hid hK
      clear hK
      simp only [List.getElem_toArray, List.getElem_cons_zero, List.getElem_cons_succ]
      rw [if_pos (by rfl)]
      go_simp
      refine HNx.out.mono ?_
      rintro e w12 ⟨rfl, hw12⟩
      have HU12 := Lib.hid (show UD w12 B bb rb (bcells rb rs2 (.slice (some ⟨g, o, none⟩) (dn + 1) dc) (.slice none 0 0) (gv + 1) sv (gv + 1)) (some ⟨g, o, none⟩) dc (Dk ++ [⟨A1, c1, ed ++ [⟨va, vd, vs⟩], by_ + vs.size, bf, sx⟩]) rs2 tx be b8 [.int .i64 a, .int .i64 d, .string s] [.int .i64 va, .int .i64 vd, .string vs] from by
        rw [hw12]
        exact (HUv.out.setb 6 (.int .i64 (gv + 1))).setb 4 (.int .i64 (gv + 1)))
      have HS12 := Lib.hid (show Stay ([rb, bb] ++ Ab (some ⟨g, o, none⟩)) w w12 from by
        rw [hw12]
        exact (HSv.out.trans (Stay.setCell _ _ _ (by simp))).trans (Stay.setCell _ _ _ (by simp)))
      clear hw12
      have hq12 : (w12.cell? ⟨bb, 2, none⟩ = some (.slice (some ⟨g, o, none⟩) (dn + 1) dc)) := HU12.out.bbk.cell 2
      obtain ⟨_, _, _, q3⟩ := win_group HU12.out.dW dn (by rw [List.length_append, ← HDk.out]; simp)
      have f3 : w12.frozen? ⟨g, o + dn * 4 + 3, none⟩ = false := HU12.out.dW.free _
      refine HK.out _ _ ⟨.inr hq12, ?_⟩
      clear HK K
      refine AnyL.take (i := 7) (v := ?_) [8, 9] rfl (by kernel_rfl) (by kernel_rfl) (by kernel_rfl) (by kernel_rfl) (fun _ _ _ h => h) (Or.inl ⟨by rfl, ?_⟩) hq12 ?_
      rotate_left
      · intro w hSw
        have k0 := hSw
        simp only [List.getElem_toArray, List.getElem_cons_zero, List.getElem_cons_succ]
        go_simp
        all_goals with_reducible rfl
      simp only [List.getElem_toArray, List.getElem_cons_zero, List.getElem_cons_succ, Act.put, List.setIfInBounds_toArray, List.set_cons_zero, List.set_cons_succ]
      refine AnyL.take (i := 8) (v := ?_) [9] rfl (by kernel_rfl) (by kernel_rfl) (by kernel_rfl) (by kernel_rfl) (fun _ _ _ h => h) (Or.inl ⟨by rfl, ?_⟩) hq12 ?_
      rotate_left
      · intro w hSw
        have k0 := hSw
        simp only [List.getElem_toArray, List.getElem_cons_zero, List.getElem_cons_succ]
        go_simp
        all_goals with_reducible rfl
      simp only [List.getElem_toArray, List.getElem_cons_zero, List.getElem_cons_succ, Act.put, List.setIfInBounds_toArray, List.set_cons_zero, List.set_cons_succ]
      refine AnyL.next (i := 9) (by kernel_rfl) ?_
      refine wpOp_step rfl (fun K hK => ?_)
      have HK := Lib.hid hK
      clear hK
      simp only [List.getElem_toArray, List.getElem_cons_zero, List.getElem_cons_succ]
      rw [if_pos (by rfl)]
      go_wp2_with fail
      refine HK.out _ _ ⟨.inl (by first | rfl | trivial), ?_⟩
      clear HK K
      refine AnyL.done (by kernel_rfl) ?_ _
      go_wp2_with fail
      obtain ⟨w13, hw13⟩ : ∃ x, x = w12.setCell ⟨g, o + dn * 4 + 3, none⟩ (.int .i64 (gv + 1)) := ⟨_, rfl⟩
      rw [← hw13]
      obtain ⟨D2, hD2⟩ : ∃ D2 : List MG, D2 = Dk ++ [⟨A1, c1, ed ++ [⟨va, vd, vs⟩], by_ + vs.size, bf, gv + 1⟩] := ⟨_, rfl⟩
      have HU13 := Lib.hid (show UD w13 B bb rb (bcells rb rs2 (.slice (some ⟨g, o, none⟩) (dn + 1) dc) (.slice none 0 0) (gv + 1) sv (gv + 1)) (some ⟨g, o, none⟩) dc D2 rs2 tx be b8 [.int .i64 a, .int .i64 d, .string s] [.int .i64 va, .int .i64 vd, .string vs] from by
        rw [hw13, hD2]
        exact ud_cell (y := ⟨A1, c1, ed ++ [⟨va, vd, vs⟩], by_ + vs.size, bf, gv + 1⟩) HU12.out HDk.out 3 (by omega) (.int .i64 (gv + 1)) rfl (HU12.out.dE ⟨A1, c1, ed ++ [⟨va, vd, vs⟩], by_ + vs.size, bf, sx⟩ (List.mem_append_right _ (List.mem_singleton.2 rfl))))
      have HS13 := Lib.hid (show Stay ([rb, bb] ++ Ab (some ⟨g, o, none⟩)) w w13 from by
        rw [hw13]
        exact stay_put HS12.out HA9.out)
      have hDl2 : D2.length = dn + 1 := by rw [hD2, List.length_append, ← HDk.out]; rfl
      have hW13 : Win w13 B 100 4 (some ⟨g, o, none⟩) (dn + 1) dc (gcs D2) := by rw [← hDl2]; exact HU13.out.dW
      have hgr2 : (∀ y ∈ D2, 0 ≤ y.by_) ∧ chg D2 ≤ 4294967296 ∧ byt D2 ≤ 1099511627776 := by
        obtain ⟨g1, g2, g3⟩ := HGr.out
        rw [hD2]
        rw [HDe.out, chg_app] at g2
        rw [HDe.out, byt_app] at g3
        have g5 := g1 ⟨some ⟨gg, oo, none⟩, c0, ed, by_, bf, sx⟩ (by rw [HDe.out]; exact List.mem_append_right _ (List.mem_singleton.2 rfl))
        refine ⟨fun y hy => ?_, ?_, ?_⟩
        · rcases List.mem_append.1 hy with hy | hy
          · exact g1 y (by rw [HDe.out]; exact List.mem_append_left _ hy)
          · rw [List.mem_singleton] at hy
            subst hy
            show (0 : Int) ≤ by_ + (vs.size : Int)
            simp only at g5
            omega
        · rw [chg_app]
          simp only [chg, List.map_cons, List.map_nil, List.sum_cons, List.sum_nil, List.length_cons, List.length_nil, List.length_append] at g2 ⊢
          omega
        · rw [byt_app]
          have h9 := HVs.out
          simp only [byt, List.map_cons, List.map_nil, List.sum_cons, List.sum_nil] at g3 g5 ⊢
          omega
      have HFo := Lib.hid (forget_any B bb rb g o (dn + 1) dc rs2 (.slice none 0 0) (gv + 1) sv (gv + 1) D2 w13 HU13.out.bbk hW13 hDl2.symm (by omega) hgr2.1 hgr2.2.1 hgr2.2.2)
      have HLn := Lib.hid hDl2
      have HDe2 := Lib.hid hD2
      clear hw13 hDl2 hW13 hgr2 hD2
      refine HFo.out.mono ?_
      rintro e w14 ⟨rfl, j, hj, hb14, hs14, hch⟩
      have HFin := Lib.hid (show Did B bb rb (some ⟨g, o, none⟩) Dk (ed ++ [⟨va, vd, vs⟩]) (by_ + vs.size) bf rs2 sv gv tx w (.returned (.int .i64 0)) w14 from by
        have hj2 : j < D2.length := by rw [HLn.out]; exact hj
        obtain ⟨f1, f2, f3⟩ := ud_fin HU13.out hs14 j hj2
        rw [HLn.out] at f1
        rw [HDe2.out] at f1 f2 hch
        refine ⟨A1, c1, some ⟨g, o + j * 4, none⟩, dc - j, j, rfl, ?_, ?_, ?_, f2, f3, HS13.out.trans (hs14.mono (by simp)), ?_⟩
        · rw [← HDk.out]; exact hj
        · rw [← HDk.out]; exact hb14
        · rw [← HDk.out]; exact f1
        · rw [← HDk.out]; exact hch)
      clear hb14 hs14 hch hj HFo
      go_wp2_with fail
      go_ret
      exact HFin.out
end Go.Proofs.Ytjoeebjmjnddoaa
