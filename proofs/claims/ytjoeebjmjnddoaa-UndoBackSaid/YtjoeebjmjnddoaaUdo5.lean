/- package undo: Do: the rope refuses (more). -/
import Derived.Test.YtjoeebjmjnddoaaUdo0
namespace Go.Proofs.Ytjoeebjmjnddoaa
open Go.RowKit
set_option maxRecDepth 20000 in
set_option maxHeartbeats 32000000 in
theorem tdo_refused (B bb rb : Nat) (DA : Option Addr) (dc : Nat) (D Dk : List MG) (A0 : Option Addr) (c0 : Nat) (ed : List Ed) (by_ bf sx : Int) (UA : Option Addr) (uc : Nat) (st sv gv : Int) (t : Rp) (rs : Int) (a d : Int) (s : ByteArray) (va vd : Int) (vs : ByteArray) (er rs2 : Int) (tx : List UInt8) (w : World)
    (hb : Blk w bb (bcells rb rs (.slice DA D.length dc) (.slice UA 0 uc) st sv gv) 98) (hD : Win w B 100 4 DA D.length dc (gcs D)) (hDE : ∀ y ∈ D, y.ok w B) (hR : RopeAt w rb t rs) (hu : U64 rs2) (hB : B ≤ w.heap.size) (hDl : D.length ≤ 4096)
    (hRD : ∀ u, Stay [] w u → RDo rb a d s va vd vs er rs2 tx u) (hDk : D = Dk ++ [⟨A0, c0, ed, by_, bf, sx⟩]) (hfl : ed.length < 1024) (her : er ≠ 0) :
    Calls Try.prog 31 #[.pointer (some ⟨bb, 0, none⟩), .agg #[.int .i64 a, .int .i64 d, .string s], .bool true] w (fun e w' => e = .returned (.int .i64 er) ∧ Blk w' bb (bcells rb rs (.slice DA D.length dc) (.slice UA 0 uc) st sv gv) 98 ∧ Win w' B 100 4 DA D.length dc (gcs D) ∧ (∀ y ∈ D, y.ok w' B) ∧ (∃ t', RopeAt w' rb t' rs2 ∧ t'.text = tx) ∧ Stay [rb] w w') := by
  have HRD := Lib.hid hRD
  obtain ⟨W1, hW1⟩ : ∃ W, W = w.alloc (.cells #[.int .i64 a, .int .i64 d, .string s] 37) := ⟨_, rfl⟩
  have hs1 : Stay [] w W1 := by rw [hW1]; exact Stay.alloc _ _
  have hbe : Blk W1 w.heap.size [.int .i64 a, .int .i64 d, .string s] 37 := by rw [hW1]; exact Blk.new w _ _
  have HB1 := Lib.hid (hb.stay hs1 (by simp))
  have HD1 := Lib.hid (hD.stay0 hs1)
  have HE1 := Lib.hid (show ∀ x ∈ D, x.ok W1 B from fun x hx => (hDE x hx).stay0 hs1)
  have HR1 := Lib.hid (hR.stay0 hs1)
  have HLo := Lib.hid (look_same bb rb rs _ _ st sv gv t W1 HB1.out HR1.out)
  have HS1 := Lib.hid hs1
  have HW1 := Lib.hid hW1
  obtain ⟨be, hbee⟩ : ∃ b, b = w.heap.size := ⟨_, rfl⟩
  rw [← hbee] at hbe
  have HBe := Lib.hid hbe
  have HEe := Lib.hid hbee
  have HU := Lib.hid hu
  have HBw := Lib.hid (Nat.le_trans hB hs1.size)
  obtain ⟨dn, hdn⟩ : ∃ n, n = Dk.length := ⟨_, rfl⟩
  have hdl : D.length = dn + 1 := by rw [hDk, hdn]; simp
  have HDn := Lib.hid hdl.symm
  have HDk := Lib.hid hdn
  rw [hdl] at HB1 HD1 hDl
  have hkw : IntKind.i64.wrap ((dn : Int) + 1 - 1) = (dn : Int) := by simp only [IntKind.wrap, IntKind.bits, IntKind.signed]; simp; omega
  obtain ⟨g, o, rfl⟩ := hD.addr (by rw [hdl]; omega)
  obtain ⟨q0, q1, q2, q3⟩ := win_group HD1.out dn (by rw [hdl]; omega)
  have hgd : D[dn]'(by omega) = ⟨A0, c0, ed, by_, bf, sx⟩ := by
    have h9 : (Dk ++ [(⟨A0, c0, ed, by_, bf, sx⟩ : MG)])[dn]'(by simp [hdn]) = ⟨A0, c0, ed, by_, bf, sx⟩ := by
      rw [List.getElem_append_right (by omega)]
      simp
    simp only [hDk]
    exact h9
  rw [hgd] at q0 q1 q2 q3
  simp only at q0 q1 q2 q3
  obtain ⟨en, hen⟩ : ∃ n, n = ed.length := ⟨_, rfl⟩
  have HEn := Lib.hid hen
  rw [← hen] at q0 hfl
  have hgq : decide ((1024 : Int) ≤ en) = false := decide_eq_false (by omega)
  have hgq2 : ¬ (1024 : Int) ≤ en := by omega
  have hdn0 : (0 : Int) ≤ dn := by omega
  have hdn1 : (dn : Int) < (dn : Int) + 1 := by omega
  have hdn2 : (1 : Int) ≤ (dn : Int) + 1 := by omega
  have HDe := Lib.hid hDk
  have c0' : W1.cell? ⟨bb, 0, none⟩ = some (.pointer (some ⟨rb, 0, none⟩)) := HB1.out.cell 0
  have c2 : W1.cell? ⟨bb, 2, none⟩ = some (.slice (some ⟨g, o, none⟩) (dn + 1) dc) := HB1.out.cell 2
  have c3 : W1.cell? ⟨bb, 3, none⟩ = some (.slice UA 0 uc) := HB1.out.cell 3
  clear hRD hW1 hs1 hbe hb hD hDE hR hu hB hbee hdn hdl hgd hen hDk q1 q2 q3
  go_enter Try.func31, Try.ntmps31
  go_upto_region 1 with fail
  rw [← HW1.out, ← HEe.out]
  go_wp2_with fail
  refine HLo.out.mono ?_
  rintro e w' ⟨rfl, hwe⟩
  rw [hwe]
  clear hwe HLo
  go_upto_region 8 with fail
  go_cut [8, 9] (fun p v wx => ∃ b8 : Nat, p = .pointer (some ⟨b8, 0, none⟩) ∧ v = .int .i64 er ∧ Hid (UD wx B bb rb (bcells rb rs (.slice (some ⟨g, o, none⟩) (dn + 1) dc) (.slice UA 0 uc) st sv gv) (some ⟨g, o, none⟩) dc D rs2 tx be b8 [.int .i64 a, .int .i64 d, .string s] [.int .i64 va, .int .i64 vd, .string vs] ∧ Stay [rb] w wx))
  case first =>
    obtain ⟨L7, hL7⟩ := HR1.out.blk
    have HL7 := Lib.hid hL7
    have HSS := Lib.hid (show ∀ u, Stay [rb] W1 u → u.cell? ⟨bb, 0, none⟩ = some (.pointer (some ⟨rb, 0, none⟩)) ∧ u.cell? ⟨be, 0, none⟩ = some (.int .i64 a) ∧ u.cell? ⟨be, 1, none⟩ = some (.int .i64 d) ∧ u.cell? ⟨be, 2, none⟩ = some (.string s) from fun u hs => by
      have n1 : bb ∉ [rb] := by
        rw [List.mem_singleton]; exact blk_ne_of HB1.out HL7.out (by decide)
      have n2 : be ∉ [rb] := by
        rw [List.mem_singleton]; exact blk_ne_of HBe.out HL7.out (by decide)
      have h2 := HBe.out.stay hs n2
      exact ⟨(HB1.out.stay hs n1).cell 0, h2.cell 0, h2.cell 1, h2.cell 2⟩)
    have HSd := Lib.hid (Stay.drew (F := []) W1)
    have HSa := Lib.hid (show Stay [] W1 (W1.alloc (.cells #[.int .i64 0, .int .i64 0, .string ⟨#[]⟩] 37)).drew from (Stay.alloc _ _).drew')
    have HBa := Lib.hid (show Blk (W1.alloc (.cells #[.int .i64 0, .int .i64 0, .string ⟨#[]⟩] 37)).drew W1.heap.size [.int .i64 0, .int .i64 0, .string ⟨#[]⟩] 37 from (Blk.new W1 _ 37).stay (F := []) (Stay.drew _) (by simp))
    have hq0 := HSS.out W1.drew (HSd.out.mono (by simp))
    have HC1 := Lib.hid (show RDo rb a d s va vd vs er rs2 tx W1.drew from HRD.out _ (HS1.out.trans HSd.out))
    have HC2 := Lib.hid (show RDo rb a d s va vd vs er rs2 tx (W1.alloc (.cells #[.int .i64 0, .int .i64 0, .string ⟨#[]⟩] 37)).drew from HRD.out _ (HS1.out.trans HSa.out))
    unfold RDo at HC1 HC2
    have HKq := Lib.hid (show ∀ (u : World) (x y z : Value), Stay [rb] W1 u → (((u.setCell ⟨W1.heap.size, 0, none⟩ x).setCell ⟨W1.heap.size, 1, none⟩ y).setCell ⟨W1.heap.size, 2, none⟩ z).cell? ⟨bb, 0, none⟩ = some (.pointer (some ⟨rb, 0, none⟩)) ∧ (((u.setCell ⟨W1.heap.size, 0, none⟩ x).setCell ⟨W1.heap.size, 1, none⟩ y).setCell ⟨W1.heap.size, 2, none⟩ z).cell? ⟨be, 0, none⟩ = some (.int .i64 a) ∧ (((u.setCell ⟨W1.heap.size, 0, none⟩ x).setCell ⟨W1.heap.size, 1, none⟩ y).setCell ⟨W1.heap.size, 2, none⟩ z).cell? ⟨be, 1, none⟩ = some (.int .i64 d) ∧ (((u.setCell ⟨W1.heap.size, 0, none⟩ x).setCell ⟨W1.heap.size, 1, none⟩ y).setCell ⟨W1.heap.size, 2, none⟩ z).cell? ⟨be, 2, none⟩ = some (.string s) from fun u x y z hs =>
      HSS.out _ (((hs.set' (.inr (Nat.le_refl _))).set' (.inr (Nat.le_refl _))).set' (.inr (Nat.le_refl _))))
    clear c0' c2 c3 hL7
    go_region_held3 (fun w' => w'.cell? ⟨bb, 0, none⟩ = some (.pointer (some ⟨rb, 0, none⟩)) ∧ w'.cell? ⟨be, 0, none⟩ = some (.int .i64 a) ∧ w'.cell? ⟨be, 1, none⟩ = some (.int .i64 d) ∧ w'.cell? ⟨be, 2, none⟩ = some (.string s)) (first | exact hq | exact hq0 | exact HSS.out _ (HSa.out.mono (by simp)) | exact HKq.out _ _ _ _ HT5.out | go_keep)
      (first
        | (go_at_call 21; ((with_reducible refine HC1.out.mono ?_); rintro e w5 ⟨rfl, hR5, hs5⟩); have HT5 := Lib.hid ((HSd.out.mono (G := [rb]) (by simp)).trans hs5); have hq := HSS.out _ HT5.out; have HFA := Lib.hid (show UD (w5.alloc (.cells #[.int .i64 va, .int .i64 vd, .string vs] 37)) B bb rb (bcells rb rs (.slice (some ⟨g, o, none⟩) (dn + 1) dc) (.slice UA 0 uc) st sv gv) (some ⟨g, o, none⟩) dc D rs2 tx be w5.heap.size [.int .i64 a, .int .i64 d, .string s] [.int .i64 va, .int .i64 vd, .string vs] ∧ Stay [rb] w (w5.alloc (.cells #[.int .i64 va, .int .i64 vd, .string vs] 37)) from ⟨ud_alloc HB1.out (by rw [← HDn.out]; exact HD1.out) HE1.out HR1.out HBe.out HT5.out hR5 [.int .i64 va, .int .i64 vd, .string vs], ((HS1.out.mono (by simp)).trans HT5.out).alloc'⟩); clear hR5 hs5)
        | (go_at_call 21; ((with_reducible refine HC2.out.mono ?_); rintro e w5 ⟨rfl, hR5, hs5⟩); have HT5 := Lib.hid ((HSa.out.mono (G := [rb]) (by simp)).trans hs5); have hq := HSS.out _ HT5.out; have HB7 := Lib.hid (HBa.out.stay hs5 (by rw [List.mem_singleton]; exact blk_ne_of HBa.out (HL7.out.stay HSa.out (by simp)) (by decide))); have q0 := HB7.out.cell 0; have q1 := HB7.out.cell 1; have q2 := HB7.out.cell 2; have f0 := HB7.out.free 0; have f1 := HB7.out.free 1; have f2 := HB7.out.free 2; change _ = some (Value.int .i64 0) at q0; change _ = some (Value.int .i64 0) at q1; change _ = some (Value.string ⟨#[]⟩) at q2; have hfb := ud_sets HB1.out (by rw [← HDn.out]; exact HD1.out) HE1.out HR1.out HBe.out HT5.out hR5 _ _ _ (.int .i64 va) (.int .i64 vd) (.string vs) HB7.out (Nat.le_refl _); have HFB := Lib.hid (And.intro hfb.1 ((HS1.out.mono (G := [rb]) (by simp)).trans hfb.2)); clear hfb hR5 hs5))
    all_goals
      go_wp2_with fail
      go_meet
      first
        | exact ⟨_, rfl, rfl, HFA⟩
        | exact ⟨_, rfl, rfl, HFB⟩
  case rest =>
    obtain ⟨b8, rfl, rfl, HQ⟩ := hcut
    obtain ⟨w6, hw6⟩ : ∃ x, x = wc := ⟨_, rfl⟩
    rw [← hw6] at HQ ⊢
    have HQD := Lib.hid HQ.out.1
    have HQS := Lib.hid HQ.out.2
    clear hw6 HQ c0' c2 c3 HRD HB1 HD1 HE1 HR1 HBe
    have hqn : er ≠ 0 := her
    have q0 : decide (er = 0) = false := decide_eq_false her
    have HFn := Lib.hid (show Blk w6 bb (bcells rb rs (.slice (some ⟨g, o, none⟩) D.length dc) (.slice UA 0 uc) st sv gv) 98 ∧ Win w6 B 100 4 (some ⟨g, o, none⟩) D.length dc (gcs D) ∧ (∀ y ∈ D, y.ok w6 B) ∧ (∃ t', RopeAt w6 rb t' rs2 ∧ t'.text = tx) ∧ Stay [rb] w w6 from by
      rw [← HDn.out]
      have h1 := HQD.out.dW
      rw [← HDn.out] at h1
      exact ⟨HQD.out.bbk, h1, HQD.out.dE, HQD.out.R, HQS.out⟩)
    go_wp2_with fail
    go_ret
    exact ⟨rfl, HFn.out⟩
end Go.Proofs.Ytjoeebjmjnddoaa
