/- package undo: Do: no room. -/
import Derived.Test.YtjoeebjmjnddoaaUdo0
namespace Go.Proofs.Ytjoeebjmjnddoaa
open Go.RowKit
set_option maxRecDepth 20000 in
set_option maxHeartbeats 32000000 in
theorem tdo_full (B bb rb : Nat) (DA : Option Addr) (dc : Nat) (D Dk : List MG) (A0 : Option Addr) (c0 : Nat) (ed : List Ed) (by_ bf sx : Int) (UA : Option Addr) (uc : Nat) (st sv gv : Int) (t : Rp) (rs : Int) (a d : Int) (s : ByteArray) (va vd : Int) (vs : ByteArray) (er rs2 : Int) (tx : List UInt8) (w : World)
    (hb : Blk w bb (bcells rb rs (.slice DA D.length dc) (.slice UA 0 uc) st sv gv) 98) (hD : Win w B 100 4 DA D.length dc (gcs D)) (hDE : ∀ y ∈ D, y.ok w B) (hR : RopeAt w rb t rs) (hu : U64 rs2) (hB : B ≤ w.heap.size) (hDl : D.length ≤ 4096)
    (hRD : ∀ u, Stay [] w u → RDo rb a d s va vd vs er rs2 tx u) (hDk : D = Dk ++ [⟨A0, c0, ed, by_, bf, sx⟩]) (hfl : 1024 ≤ ed.length) :
    Calls Try.prog 31 #[.pointer (some ⟨bb, 0, none⟩), .agg #[.int .i64 a, .int .i64 d, .string s], .bool true] w (fun e w' => e = .returned (.int .i64 4) ∧ Stay [] w w') := by
  have HRD := Lib.hid hRD
  obtain ⟨W1, hW1⟩ : ∃ W, W = w.alloc (.cells #[.int .i64 a, .int .i64 d, .string s] 37) := ⟨_, rfl⟩
  have hs1 : Stay [] w W1 := by rw [hW1]; exact Stay.alloc _ _
  have hbe : Blk W1 w.heap.size [.int .i64 a, .int .i64 d, .string s] 37 := by rw [hW1]; exact Blk.new w _ _
  have HB1 := Lib.hid (hb.stay hs1 (by simp))
  have HD1 := Lib.hid (hD.stay0 hs1)
  have HE1 := Lib.hid (show ∀ x ∈ D, x.ok W1 B from fun x hx => (hDE x hx).stay0 hs1)
  have HR1 := Lib.hid (hR.stay0 hs1)
  have HLo := Lib.hid (look_same bb rb rs _ _ st sv gv t W1 HB1.out HR1.out)
  have HS1 := Lib.hid hs1
  have HW1 := Lib.hid hW1
  obtain ⟨be, hbee⟩ : ∃ b, b = w.heap.size := ⟨_, rfl⟩
  rw [← hbee] at hbe
  have HBe := Lib.hid hbe
  have HEe := Lib.hid hbee
  have HU := Lib.hid hu
  have HBw := Lib.hid (Nat.le_trans hB hs1.size)
  obtain ⟨dn, hdn⟩ : ∃ n, n = Dk.length := ⟨_, rfl⟩
  have hdl : D.length = dn + 1 := by rw [hDk, hdn]; simp
  have HDn := Lib.hid hdl.symm
  have HDk := Lib.hid hdn
  rw [hdl] at HB1 HD1 hDl
  have hkw : IntKind.i64.wrap ((dn : Int) + 1 - 1) = (dn : Int) := by simp only [IntKind.wrap, IntKind.bits, IntKind.signed]; simp; omega
  obtain ⟨g, o, rfl⟩ := hD.addr (by rw [hdl]; omega)
  obtain ⟨q0, q1, q2, q3⟩ := win_group HD1.out dn (by rw [hdl]; omega)
  have hgd : D[dn]'(by omega) = ⟨A0, c0, ed, by_, bf, sx⟩ := by
    have h9 : (Dk ++ [(⟨A0, c0, ed, by_, bf, sx⟩ : MG)])[dn]'(by simp [hdn]) = ⟨A0, c0, ed, by_, bf, sx⟩ := by
      rw [List.getElem_append_right (by omega)]
      simp
    simp only [hDk]
    exact h9
  rw [hgd] at q0 q1 q2 q3
  simp only at q0 q1 q2 q3
  obtain ⟨en, hen⟩ : ∃ n, n = ed.length := ⟨_, rfl⟩
  have HEn := Lib.hid hen
  rw [← hen] at q0 hfl
  have hgq : decide ((1024 : Int) ≤ en) = true := decide_eq_true (by omega)
  have hgq2 : (1024 : Int) ≤ en := by omega
  have hdn0 : (0 : Int) ≤ dn := by omega
  have hdn1 : (dn : Int) < (dn : Int) + 1 := by omega
  have hdn2 : (1 : Int) ≤ (dn : Int) + 1 := by omega
  have HDe := Lib.hid hDk
  have c0' : W1.cell? ⟨bb, 0, none⟩ = some (.pointer (some ⟨rb, 0, none⟩)) := HB1.out.cell 0
  have c2 : W1.cell? ⟨bb, 2, none⟩ = some (.slice (some ⟨g, o, none⟩) (dn + 1) dc) := HB1.out.cell 2
  have c3 : W1.cell? ⟨bb, 3, none⟩ = some (.slice UA 0 uc) := HB1.out.cell 3
  clear hRD hW1 hs1 hbe hb hD hDE hR hu hB hbee hdn hdl hgd hen hDk q1 q2 q3
  go_enter Try.func31, Try.ntmps31
  go_upto_region 1 with fail
  rw [← HW1.out, ← HEe.out]
  go_wp2_with fail
  refine HLo.out.mono ?_
  rintro e w' ⟨rfl, hwe⟩
  rw [hwe]
  clear hwe HLo
  go_wp2_with fail
  go_ret
  exact ⟨rfl, HS1.out⟩
end Go.Proofs.Ytjoeebjmjnddoaa
