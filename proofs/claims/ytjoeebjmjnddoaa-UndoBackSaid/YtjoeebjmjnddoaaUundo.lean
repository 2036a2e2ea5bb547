/- package undo: Undo, Redo. -/
import Derived.Test.YtjoeebjmjnddoaaUbook
import Derived.Test.YtjoeebjmjnddoaaUturn
namespace Go.Proofs.Ytjoeebjmjnddoaa
open Go.RowKit
theorem info100 : (Try.prog.info? 100).map (fun i => (i.zero, i.size, i.bytes)) = some (some (.agg #[.slice none 0 0, .int .i64 0, .int .i64 0, .int .i64 0]), 4, 48) := by kernel_rfl
theorem gcs_app (L : List MG) (g : MG) : gcs (L ++ [g]) = gcs L ++ g.cells := by simp [gcs]
/-- what Undo, Redo leave -/
def Redone (B bb rb m : Nat) (idx : Nat → Nat) (cur : Nat → List UInt8) (sel : MG → Int) (mk : Value → Value → Int → Int → List Value) (PA : Option Addr) (P' : List MG) (QA : Option Addr) (Q : List MG) (g : MG) (w : World) (e : Ending) (w' : World) : Prop :=
  ∃ (dA : Option Addr) (dc : Nat) (g' : MG) (QA' : Option Addr) (qc' : Nat) (t' : Rp) (rs' : Int), e = .returned (.tuple #[.slice dA m dc, .int .i64 0]) ∧ g'.ed.length = m ∧ (∀ k, k < m → ∃ x, g'.ed[idx k]? = some x ∧ UndB x (g.ed.getD (idx k) zeroE) (cur (k + 1)) (cur k)) ∧ g'.be = g.be ∧ g'.st = g.st ∧ 0 ≤ g'.by_ ∧ g'.by_ ≤ m * 1048576 ∧
    Win w' B 37 3 dA m dc (eds ((List.range m).map fun k => g.ed.getD (idx k) zeroE)) ∧ Blk w' bb (mk (.slice PA P'.length P'.length) (.slice QA' (Q.length + 1) qc') rs' (sel g)) 98 ∧ Win w' B 100 4 PA P'.length P'.length (gcs P') ∧ Win w' B 100 4 QA' (Q ++ [g']).length qc' (gcs (Q ++ [g'])) ∧
    (∀ x ∈ P', x.ok w' B) ∧ (∀ x ∈ Q ++ [g'], x.ok w' B) ∧ (∀ f ∈ Ab PA, f ∉ Ab QA') ∧ RopeAt w' rb t' rs' ∧ U64 rs' ∧ t'.text = cur m ∧ Stay ([rb, bb] ++ Ab QA) w w'
set_option maxRecDepth 20000 in
set_option maxHeartbeats 32000000 in
theorem undo_call (B bb rb : Nat) (PA : Option Addr) (pc : Nat) (P' : List MG) (g : MG) (QA : Option Addr) (qc : Nat) (Q : List MG) (st sv gv : Int) (cur : Nat → List UInt8) (t : Rp) (rs : Int) (w : World)
    (hb : Blk w bb (bcells rb rs (.slice PA (P'.length + 1) pc) (.slice QA Q.length qc) st sv gv) 98) (hP : Win w B 100 4 PA (P'.length + 1) pc (gcs (P' ++ [g]))) (hQ : Win w B 100 4 QA Q.length qc (gcs Q)) (hPE : ∀ y ∈ P', y.ok w B) (hg : g.ok w B) (hQE : ∀ y ∈ Q, y.ok w B) (hap : ∀ f ∈ Ab PA, f ∉ Ab QA)
    (hR : RopeAt w rb t rs) (hu : U64 rs) (hB : B ≤ w.heap.size) (hQl : Q.length ≤ 4096) (hm : 0 < g.ed.length ∧ g.ed.length ≤ 4096) (hc0 : t.text = cur 0) (hun : ∀ k, k < g.ed.length → Undoes (g.ed.getD (g.ed.length - 1 - k) zeroE) (cur k) (cur (k + 1))) :
    Calls Try.prog 33 #[.pointer (some ⟨bb, 0, none⟩)] w (Redone B bb rb g.ed.length (fun k => g.ed.length - 1 - k) cur (fun g => g.be) (fun pv qv rs st => bcells rb rs pv qv st sv gv) PA P' QA Q g w) := by
  have HLo := Lib.hid (look_same bb rb rs _ _ st sv gv t w hb hR)
  obtain ⟨pg, po, rfl⟩ := hP.addr (by omega)
  have hl0 := last_some B bb 2 pg po P'.length pc (P' ++ [g]) _ w hb rfl hP (by simp)
  have hgm : (P' ++ [g])[P'.length]'(by simp) = g := by simp
  rw [hgm] at hl0
  obtain ⟨GA, gc, ged, gby, gbe, gst⟩ := g
  obtain ⟨gg, go, rfl⟩ : ∃ gg go, GA = some ⟨gg, go, none⟩ := Win.addr (show Win w B 37 3 GA ged.length gc (eds ged) from hg) hm.1
  simp only at hm hun ⊢
  obtain ⟨m, hme⟩ : ∃ m, m = ged.length := ⟨_, rfl⟩
  have HLa := Lib.hid (show Calls Try.prog 63 #[.pointer (some ⟨bb, 2, none⟩)] w fun e w' => e = .returned (.tuple #[.agg #[.slice (some ⟨gg, go, none⟩) m gc, .int .i64 gby, .int .i64 gbe, .int .i64 gst], .bool true]) ∧ Blk w' bb (bcells rb rs (.slice (some ⟨pg, po, none⟩) P'.length P'.length) (.slice QA Q.length qc) st sv gv) 98 ∧ Stay [bb] w w' from by
    rw [hme]; exact hl0)
  have hgk : Win w B 37 3 (some ⟨gg, go, none⟩) ged.length gc (eds ged) := hg
  have hPf := hP.front P'.length (by omega)
  rw [gcs_app, show P'.length * 4 = (gcs P').length from (gcs_length P').symm, List.take_left] at hPf
  rw [← hme] at hm hun hgk ⊢
  have HP := Lib.hid hPf
  have HQ := Lib.hid hQ
  have HPE := Lib.hid (And.intro hPE hQE)
  have HGk := Lib.hid hgk
  have HAp := Lib.hid hap
  have HR := Lib.hid hR
  have HU := Lib.hid hu
  have HC0 := Lib.hid hc0
  have HUn := Lib.hid hun
  have HBb := Lib.hid hb
  have HMe := Lib.hid hme
  have HBl := Lib.hid hB
  obtain ⟨qn, hqn⟩ : ∃ qn, qn = Q.length := ⟨_, rfl⟩
  have HQn := Lib.hid hqn.symm
  have hqn2 : qn ≤ 4096 := by omega
  have hm1 := hm.1
  have hm2 := hm.2
  clear hb hP hl0 hgm hg hgk hPf hQ hPE hQE hap hR hu hc0 hun hme hB hm hQl hqn
  go_enter Try.func33, Try.ntmps33
  go_wp2_with fail
  refine HLo.out.mono ?_
  rintro e w' ⟨rfl, hwe⟩
  rw [hwe]
  clear hwe
  go_wp2_with fail
  refine HLa.out.mono ?_
  rintro e W3 ⟨rfl, hb3, hs3⟩
  have HB3 := Lib.hid hb3
  have HS3 := Lib.hid hs3
  clear hb3 hs3 HLa HLo
  obtain ⟨W4, hW4⟩ : ∃ W, W = W3.alloc (.cells #[.slice (some ⟨gg, go, none⟩) m gc, .int .i64 gby, .int .i64 gbe, .int .i64 gst] 100) := ⟨_, rfl⟩
  have hs4 : Stay [] W3 W4 := by rw [hW4]; exact Stay.alloc _ _
  have hbx : Blk W4 W3.heap.size [.slice (some ⟨gg, go, none⟩) m gc, .int .i64 gby, .int .i64 gbe, .int .i64 gst] 100 := by rw [hW4]; exact Blk.new W3 _ _
  have HM4 := Lib.hid (show UM W4 B bb rb W3.heap.size (bcells rb rs (.slice (some ⟨pg, po, none⟩) P'.length P'.length) (.slice QA Q.length qc) st sv gv) [.slice (some ⟨gg, go, none⟩) m gc, .int .i64 gby, .int .i64 gbe, .int .i64 gst] (some ⟨pg, po, none⟩) P'.length P' QA qc Q ⟨some ⟨gg, go, none⟩, gc, ged, gby, gbe, gst⟩ t rs from by
    obtain ⟨L7, h7⟩ := HR.out.blk
    have n1 : ∀ {f : Nat} {l : List Value} {ty : TypeId}, Blk w f l ty → ty ≠ 98 → f ∉ [bb] := fun {f l ty} hf hn hm => by
      rw [List.mem_singleton] at hm
      exact blk_ne_of hf HBb.out hn hm
    have n2 : ∀ f ∈ [bb], ∀ L, ¬ Blk w f L 37 := fun f hf L hL => n1 hL (by decide) hf
    have n3 : ∀ (A : Option Addr) (n c : Nat) (xs : List Value), Win w B 100 4 A n c xs → ∀ f ∈ Ab A, f ∉ [bb] := fun A n c xs hw f hf => by
      obtain ⟨_, _, L2, hL2⟩ := hw.ab f hf
      exact n1 hL2 (by decide)
    have old : ∀ (A : Option Addr) (n c : Nat) (xs : List Value), Win w B 100 4 A n c xs → W3.heap.size ∉ Ab A := fun A n c xs hw hm => by
      have h1 := (hw.ab _ hm).2.1
      have h2 := HS3.out.size
      omega
    exact ⟨HB3.out.stay hs4 (by simp), hbx, (HP.out.stay HS3.out (n3 _ _ _ _ HP.out)).stay0 hs4, (HQ.out.stay HS3.out (n3 _ _ _ _ HQ.out)).stay0 hs4, fun x hx => ((HPE.out.1 x hx).stay HS3.out n2).stay0 hs4, fun x hx => ((HPE.out.2 x hx).stay HS3.out n2).stay0 hs4,
      (MG.ok.stay (g := ⟨some ⟨gg, go, none⟩, gc, ged, gby, gbe, gst⟩) (show Win w B 37 3 (some ⟨gg, go, none⟩) ged.length gc (eds ged) from by rw [← HMe.out]; exact HGk.out) HS3.out n2).stay0 hs4,
      (HR.out.stay HS3.out (blk_noPair98 HBb.out) (n1 h7 (by decide))).stay0 hs4, HAp.out, old _ _ _ _ HP.out, old _ _ _ _ HQ.out⟩)
  have HS4 := Lib.hid (HS3.out.trans (hs4.mono (by simp)))
  have HB4 := Lib.hid (show B ≤ W4.heap.size from Nat.le_trans HBl.out HS4.out.size)
  have HW4 := Lib.hid hW4
  obtain ⟨bx, hbxe⟩ : ∃ b, b = W3.heap.size := ⟨_, rfl⟩
  rw [← hbxe] at HM4 hbx
  have HXe := Lib.hid hbxe
  have HXw := Lib.hid (show w.heap.size ≤ bx from by rw [hbxe]; exact HS3.out.size)
  have x0 : W4.cell? ⟨bx, 0, none⟩ = some (.slice (some ⟨gg, go, none⟩) m gc) := hbx.cell 0
  have x1 : W4.cell? ⟨bx, 1, none⟩ = some (.int .i64 gby) := hbx.cell 1
  have x2 : W4.cell? ⟨bx, 2, none⟩ = some (.int .i64 gbe) := hbx.cell 2
  have x3 : W4.cell? ⟨bx, 3, none⟩ = some (.int .i64 gst) := hbx.cell 3
  have HTu := Lib.hid (turn_undo B bb rb m gg go gc bx rs (.slice (some ⟨pg, po, none⟩) P'.length P'.length) (.slice QA Q.length qc) st sv gv gby gbe gst ged (fun k => ged.getD k zeroE) (fun k => m - 1 - k) cur t rs W4 HM4.out.bbk HM4.out.R HU.out (by have h := HM4.out.gE; have h2 : Win W4 B 37 3 (some ⟨gg, go, none⟩) ged.length gc (eds ged) := h; rw [← HMe.out] at h2; exact h2) ⟨hm1, hm2⟩ HB4.out HC0.out
    (fun k hk => by show m - 1 - k < m; omega) (fun i j hi hj hij => by have hij : m - 1 - i = m - 1 - j := hij; omega) (fun k hk => by rw [List.getD_eq_getElem?_getD, List.getElem?_eq_getElem (by rw [← HMe.out]; exact hk)]; rfl) HUn.out x0 ⟨_, hbx⟩ (fun k hk => rfl))
  clear hW4 hs4 hbx hbxe HP HQ HPE HGk HAp HR HC0 HB3
  go_upto_region 7 with fail
  rw [← HW4.out, ← HXe.out]
  go_wp2_with fail
  refine HTu.out.mono ?_
  rintro e W5 ⟨X, A', y, dA, dc, t', rs', rfl, hXl, hXw, hXu, hdid, hR5, hu5, ht5, hb5, hs5, hy0, hy1⟩
  have HXl := Lib.hid hXl
  have HM5 := Lib.hid (show UM W5 B bb rb bx (bcells rb rs' (.slice (some ⟨pg, po, none⟩) P'.length P'.length) (.slice QA Q.length qc) st sv gv) [.slice (some ⟨gg, go, none⟩) m gc, .int .i64 gby, .int .i64 gbe, .int .i64 gst] (some ⟨pg, po, none⟩) P'.length P' QA qc Q ⟨A', m, X, y, gbe, gst⟩ t' rs' from HM4.out.turn hs5 hb5 hR5 (show Win W5 B 37 3 A' X.length m (eds X) from by rw [hXl]; exact hXw))
  have HS5 := Lib.hid (show Stay [rb, bb] w W5 from (HS4.out.mono (by simp)).trans hs5)
  have HXu := Lib.hid hXu
  have HDid := Lib.hid hdid
  have HU5 := Lib.hid (And.intro hu5 (And.intro ht5 (And.intro hy0 hy1)))
  clear hXl hXw hXu hdid hR5 hu5 ht5 hb5 hs5 hy0 hy1 HTu x0 x1 x2 x3 HM4
  have z0 : W5.cell? ⟨bx, 0, none⟩ = some (.slice (some ⟨gg, go, none⟩) m gc) := HM5.out.box.cell 0
  have z1 : W5.cell? ⟨bx, 1, none⟩ = some (.int .i64 gby) := HM5.out.box.cell 1
  have z2 : W5.cell? ⟨bx, 2, none⟩ = some (.int .i64 gbe) := HM5.out.box.cell 2
  have z3 : W5.cell? ⟨bx, 3, none⟩ = some (.int .i64 gst) := HM5.out.box.cell 3
  have y0 := HM5.out.box.free 0
  have y1 := HM5.out.box.free 1
  have y2 := HM5.out.box.free 2
  have y3 := HM5.out.box.free 3
  obtain ⟨W6, hW6⟩ : ∃ W, W = (((W5.setCell ⟨bx, 0, none⟩ (.slice A' m m)).setCell ⟨bx, 1, none⟩ (.int .i64 y)).setCell ⟨bx, 2, none⟩ (.int .i64 gbe)).setCell ⟨bx, 3, none⟩ (.int .i64 gst) := ⟨_, rfl⟩
  have hM6 : UM W6 B bb rb bx (bcells rb rs' (.slice (some ⟨pg, po, none⟩) P'.length P'.length) (.slice QA Q.length qc) st sv gv) [.slice A' m m, .int .i64 y, .int .i64 gbe, .int .i64 gst] (some ⟨pg, po, none⟩) P'.length P' QA qc Q ⟨A', m, X, y, gbe, gst⟩ t' rs' := by
    rw [hW6]; exact (((HM5.out.setx 0 (.slice A' m m)).setx 1 (.int .i64 y)).setx 2 (.int .i64 gbe)).setx 3 (.int .i64 gst)
  have hS6 : Stay [bx] W5 W6 := by
    rw [hW6]
    have hss : ∀ (u : World) (j : Nat) (v : Value), Stay [bx] u (u.setCell ⟨bx, j, none⟩ v) := fun u j v => Stay.setCell _ _ _ (by simp)
    exact (((hss W5 0 _).trans (hss _ 1 _)).trans (hss _ 2 _)).trans (hss _ 3 _)
  have HDid6 := Lib.hid (show Win W6 B 37 3 dA m dc (eds ((List.range m).map fun k => ged.getD ((fun k => m - 1 - k) k) zeroE)) from HDid.out.stay hS6 (fun f hf hm => by
    rw [List.mem_singleton] at hm
    obtain ⟨_, _, L2, hL2⟩ := HDid.out.ab f hf
    exact blk_ne_of hL2 HM5.out.box (by decide) hm))
  have HS6 := Lib.hid (show Stay [rb, bb] w W6 from HS5.out.trans' hS6 (fun f hf => .inr (by rw [List.mem_singleton] at hf; rw [hf]; exact HXw.out)))
  have HM6 := Lib.hid hM6
  have HW6 := Lib.hid hW6
  clear hM6 hS6 hW6
  go_upto_region 8 with fail
  rw [← HW6.out]
  obtain ⟨i100, hi, hz, hsz, hy⟩ := info_parts info100
  have HI := Lib.hid (And.intro hi (And.intro hz (And.intro hsz hy)))
  have h63 : qn + 1 ≤ maxLen := by simp only [maxLen]; omega
  have h48 : (qn + 1) * 48 ≤ 140737488355328 := by omega
  have HMx := Lib.hid (And.intro h63 h48)
  obtain ⟨L6, hL6e⟩ : ∃ L6, L6 = bcells rb rs' (.slice (some ⟨pg, po, none⟩) P'.length P'.length) (.slice QA Q.length qc) st sv gv := ⟨_, rfl⟩
  have HL6e := Lib.hid hL6e
  rw [← hL6e] at HM6
  have HL6 := Lib.hid (show L6[3]? = some (.slice QA qn qc) from by rw [hL6e, ← HQn.out]; rfl)
  obtain ⟨PA, hPA⟩ : ∃ PA : Option Addr, PA = some ⟨pg, po, none⟩ := ⟨_, rfl⟩
  have HPA := Lib.hid hPA
  rw [← hPA] at HM6
  have HBw := Lib.hid (show B ≤ W6.heap.size from Nat.le_trans HBl.out HS6.out.size)
  have HCk := Lib.hid (show ∀ u, UM u B bb rb bx L6 [.slice A' m m, .int .i64 y, .int .i64 gbe, .int .i64 gst] PA P'.length P' QA qc Q ⟨A', m, X, y, gbe, gst⟩ t' rs' → u.cell? ⟨bb, 3, none⟩ = some (.slice QA qn qc) ∧ u.cell? ⟨bx, 0, none⟩ = some (.slice A' m m) ∧ u.cell? ⟨bx, 1, none⟩ = some (.int .i64 y) ∧ u.cell? ⟨bx, 2, none⟩ = some (.int .i64 gbe) ∧ u.cell? ⟨bx, 3, none⟩ = some (.int .i64 gst) from fun u hu =>
    ⟨(hu.bbk.cell 3).trans HL6.out, hu.box.cell 0, hu.box.cell 1, hu.box.cell 2, hu.box.cell 3⟩)
  have hHeld := HCk.out _ (HM6.out.stay0 (Stay.drew W6))
  clear hi hz hsz hy h63 h48 hL6e hPA z0 z1 z2 z3 y0 y1 y2 y3 HM5
  refine AnyL.begin_ (S := fun w' : World => w'.cell? ⟨bb, 3, none⟩ = some (.slice QA qn qc) ∧ w'.cell? ⟨bx, 0, none⟩ = some (.slice A' m m) ∧ w'.cell? ⟨bx, 1, none⟩ = some (.int .i64 y) ∧ w'.cell? ⟨bx, 2, none⟩ = some (.int .i64 gbe) ∧ w'.cell? ⟨bx, 3, none⟩ = some (.int .i64 gst)) (n := 10) (by kernel_rfl) ?_
  refine AnyL.take (i := 0) (v := ?_) [8, 9, 10] rfl (by kernel_rfl) (by kernel_rfl) (by kernel_rfl) (by kernel_rfl) (fun _ _ _ h => h) (Or.inl ⟨by rfl, ?_⟩) hHeld ?_
  rotate_left
  · intro w hSw
    obtain ⟨k0, k1, k2, k3, k4⟩ := hSw
    simp only [List.getElem_toArray, List.getElem_cons_zero]
    go_simp
    all_goals with_reducible rfl
  simp only [List.getElem_toArray, List.getElem_cons_zero, Act.put, List.setIfInBounds_toArray, List.set_cons_zero, List.set_cons_succ]
  refine AnyL.take (i := 1) (v := ?_) [2, 3, 4, 7, 10] rfl (by kernel_rfl) (by kernel_rfl) (by kernel_rfl) (by kernel_rfl) (fun _ _ _ h => h) (Or.inl ⟨by rfl, ?_⟩) hHeld ?_
  rotate_left
  · intro w hSw
    obtain ⟨k0, k1, k2, k3, k4⟩ := hSw
    simp only [List.getElem_toArray, List.getElem_cons_zero, List.getElem_cons_succ]
    go_simp
    all_goals with_reducible rfl
  simp only [List.getElem_toArray, List.getElem_cons_zero, List.getElem_cons_succ, Act.put, List.setIfInBounds_toArray, List.set_cons_zero, List.set_cons_succ]
  refine AnyL.take (i := 2) (v := ?_) [3, 4, 7, 10] rfl (by kernel_rfl) (by kernel_rfl) (by kernel_rfl) (by kernel_rfl) (fun _ _ _ h => h) (Or.inl ⟨by rfl, ?_⟩) hHeld ?_
  rotate_left
  · intro w hSw
    obtain ⟨k0, k1, k2, k3, k4⟩ := hSw
    simp only [List.getElem_toArray, List.getElem_cons_zero, List.getElem_cons_succ]
    go_simp
    all_goals with_reducible rfl
  simp only [List.getElem_toArray, List.getElem_cons_zero, List.getElem_cons_succ, Act.put, List.setIfInBounds_toArray, List.set_cons_zero, List.set_cons_succ]
  refine AnyL.take (i := 3) (v := ?_) [4, 7, 10] rfl (by kernel_rfl) (by kernel_rfl) (by kernel_rfl) (by kernel_rfl) (fun _ _ _ h => h) (Or.inl ⟨by rfl, ?_⟩) hHeld ?_
  rotate_left
  · intro w hSw
    obtain ⟨k0, k1, k2, k3, k4⟩ := hSw
    simp only [List.getElem_toArray, List.getElem_cons_zero, List.getElem_cons_succ]
    go_simp
    all_goals with_reducible rfl
  simp only [List.getElem_toArray, List.getElem_cons_zero, List.getElem_cons_succ, Act.put, List.setIfInBounds_toArray, List.set_cons_zero, List.set_cons_succ]
  refine AnyL.take (i := 4) (v := ?_) [7, 10] rfl (by kernel_rfl) (by kernel_rfl) (by kernel_rfl) (by kernel_rfl) (fun _ _ _ h => h) (Or.inl ⟨by rfl, ?_⟩) hHeld ?_
  rotate_left
  · intro w hSw
    obtain ⟨k0, k1, k2, k3, k4⟩ := hSw
    simp only [List.getElem_toArray, List.getElem_cons_zero, List.getElem_cons_succ]
    go_simp
    all_goals with_reducible rfl
  simp only [List.getElem_toArray, List.getElem_cons_zero, List.getElem_cons_succ, Act.put, List.setIfInBounds_toArray, List.set_cons_zero, List.set_cons_succ]
  refine AnyL.take (i := 5) (v := ?_) [6, 7, 10] rfl (by kernel_rfl) (by kernel_rfl) (by kernel_rfl) (by kernel_rfl) (fun _ _ _ h => h) (Or.inl ⟨by rfl, ?_⟩) hHeld ?_
  rotate_left
  · intro w hSw
    obtain ⟨k0, k1, k2, k3, k4⟩ := hSw
    simp only [List.getElem_toArray, List.getElem_cons_zero, List.getElem_cons_succ]
    go_simp
    all_goals with_reducible rfl
  simp only [List.getElem_toArray, List.getElem_cons_zero, List.getElem_cons_succ, Act.put, List.setIfInBounds_toArray, List.set_cons_zero, List.set_cons_succ]
  refine AnyL.next (i := 6) (by kernel_rfl) ?_
  refine wpOp_step rfl (fun K hK => ?_)
  have HK := Lib.hid hK
  clear hK
  simp only [List.getElem_toArray, List.getElem_cons_zero, List.getElem_cons_succ]
  rw [if_pos (by rfl)]
  go_wp2_with fail
  obtain ⟨Wn, hWn⟩ : ∃ W, W = (W6.alloc (.cells #[.slice A' m m, .int .i64 y, .int .i64 gbe, .int .i64 gst] 100)).drew := ⟨_, rfl⟩
  have hSn : Stay [] W6 Wn := by rw [hWn]; exact (Stay.alloc (F := []) _ _).drew'
  have HMn := Lib.hid (HM6.out.stay0 hSn)
  have HNw := Lib.hid (show ∀ j u, [Value.slice A' m m, .int .i64 y, .int .i64 gbe, .int .i64 gst][j]? = some u → Wn.cell? ((⟨W6.heap.size, 0, none⟩ : Addr).add j) = some u from by rw [hWn]; exact cells_new W6 [.slice A' m m, .int .i64 y, .int .i64 gbe, .int .i64 gst] 100 W6.heap.size rfl)
  have HSn := Lib.hid hSn
  rw [← hWn]
  clear hWn hSn
  have hqa := HCk.out Wn HMn.out
  have HSz := Lib.hid (show B ≤ Wn.heap.size from Nat.le_trans HBw.out HSn.out.size)
  refine HK.out _ _ ⟨.inr hqa, ?_⟩
  clear HK K
  refine AnyL.next (i := 7) (by kernel_rfl) ?_
  refine wpOp_step rfl (fun K hK => ?_)
  have HK := Lib.hid hK
  clear hK
  simp only [List.getElem_toArray, List.getElem_cons_zero, List.getElem_cons_succ]
  rw [if_pos (by rfl)]
  refine wp_append_win (.tmp 31) (.tmp 33) 96 rfl B 100 4 i100 _ 48 Try.underlying96 HI.out.1 HI.out.2.1 HI.out.2.2.1 HI.out.2.2.2 rfl (by omega) QA qn qc (gcs Q) rfl (by have := HMn.out.uW; rw [HQn.out] at this; exact this) ⟨W6.heap.size, 0, none⟩ 1 1 rfl [.slice A' m m, .int .i64 y, .int .i64 gbe, .int .i64 gst] rfl (by omega) HNw.out (by simp [Value.oneCell']) HMx.out.1 HMx.out.2 HSz.out ?_
  intro QA' qc' w7 hw7 hs7 ha7
  have HM7 := Lib.hid (show UM w7 B bb rb bx (L6) [.slice A' m m, .int .i64 y, .int .i64 gbe, .int .i64 gst] PA P'.length P' QA' qc' (Q ++ [⟨A', m, X, y, gbe, gst⟩]) ⟨A', m, X, y, gbe, gst⟩ t' rs' from HMn.out.app hs7 (by
    rw [HQn.out]
    show Win w7 B 100 4 QA' (qn + 1) qc' (gcs Q ++ [.slice A' X.length m, .int .i64 y, .int .i64 gbe, .int .i64 gst])
    rw [HXl.out]
    exact hw7) ha7)
  have HS7 := Lib.hid (show Stay (Ab QA) W6 w7 from (HSn.out.mono (by simp)).trans hs7)
  clear hw7 hs7 ha7 hqa
  have hq7 : (w7.cell? ⟨bb, 3, none⟩ = some (.slice QA qn qc) ∧ w7.cell? ⟨bx, 0, none⟩ = some (.slice A' m m) ∧ w7.cell? ⟨bx, 1, none⟩ = some (.int .i64 y) ∧ w7.cell? ⟨bx, 2, none⟩ = some (.int .i64 gbe) ∧ w7.cell? ⟨bx, 3, none⟩ = some (.int .i64 gst)) := ⟨(HM7.out.bbk.cell 3).trans HL6.out, HM7.out.box.cell 0, HM7.out.box.cell 1, HM7.out.box.cell 2, HM7.out.box.cell 3⟩
  have f7 := HM7.out.bbk.free 3
  refine HK.out _ _ ⟨.inr hq7, ?_⟩
  clear HK K
  refine AnyL.take (i := 8) (v := ?_) [9, 10] rfl (by kernel_rfl) (by kernel_rfl) (by kernel_rfl) (by kernel_rfl) (fun _ _ _ h => h) (Or.inl ⟨by rfl, ?_⟩) hq7 ?_
  rotate_left
  · intro w hSw
    obtain ⟨k0, k1, k2, k3, k4⟩ := hSw
    simp only [List.getElem_toArray, List.getElem_cons_zero, List.getElem_cons_succ]
    go_simp
    all_goals with_reducible rfl
  simp only [List.getElem_toArray, List.getElem_cons_zero, List.getElem_cons_succ, Act.put, List.setIfInBounds_toArray, List.set_cons_zero, List.set_cons_succ]
  refine AnyL.take (i := 9) (v := ?_) [10] rfl (by kernel_rfl) (by kernel_rfl) (by kernel_rfl) (by kernel_rfl) (fun _ _ _ h => h) (Or.inl ⟨by rfl, ?_⟩) hq7 ?_
  rotate_left
  · intro w hSw
    obtain ⟨k0, k1, k2, k3, k4⟩ := hSw
    simp only [List.getElem_toArray, List.getElem_cons_zero, List.getElem_cons_succ]
    go_simp
    all_goals with_reducible rfl
  simp only [List.getElem_toArray, List.getElem_cons_zero, List.getElem_cons_succ, Act.put, List.setIfInBounds_toArray, List.set_cons_zero, List.set_cons_succ]
  refine AnyL.next (i := 10) (by kernel_rfl) ?_
  refine wpOp_step rfl (fun K hK => ?_)
  have HK := Lib.hid hK
  clear hK
  simp only [List.getElem_toArray, List.getElem_cons_zero, List.getElem_cons_succ]
  rw [if_pos (by rfl)]
  have hq70 := hq7.1
  go_wp2_with fail
  refine HK.out _ _ ⟨.inl (by first | rfl | trivial), ?_⟩
  clear HK K
  refine AnyL.done (by kernel_rfl) ?_ _
  obtain ⟨w8, hw8⟩ : ∃ x, x = w7.setCell ⟨bb, 3, none⟩ (.slice QA' (qn + 1) qc') := ⟨_, rfl⟩
  rw [← hw8]
  have HM8 := Lib.hid (show UM w8 B bb rb bx (L6.set 3 (.slice QA' (qn + 1) qc')) [.slice A' m m, .int .i64 y, .int .i64 gbe, .int .i64 gst] PA P'.length P' QA' qc' (Q ++ [⟨A', m, X, y, gbe, gst⟩]) ⟨A', m, X, y, gbe, gst⟩ t' rs' from by rw [hw8]; exact HM7.out.setb 3 _)
  have HS8 := Lib.hid (show Stay ([rb, bb] ++ Ab QA) w w8 from by
    rw [hw8]
    exact ((HS6.out.mono (by simp)).trans (HS7.out.mono (fun f hf => List.mem_append_right _ hf))).trans (Stay.setCell _ _ _ (by simp)))
  have HD8 := Lib.hid (show Win w8 B 37 3 dA m dc (eds ((List.range m).map fun k => ged.getD ((fun k => m - 1 - k) k) zeroE)) from by
    rw [hw8]
    have h1 := HDid6.out.stay HS7.out (fun f hf => by
      obtain ⟨_, _, L2, hL2⟩ := HDid6.out.ab f hf
      exact win_types HM6.out.uW hL2 (by decide))
    exact h1.stay (Stay.setCell (F := [bb]) _ _ _ (by simp)) (fun f hf hm => by
      rw [List.mem_singleton] at hm
      obtain ⟨_, _, L2, hL2⟩ := h1.ab f hf
      exact blk_ne_of hL2 HM7.out.bbk (by decide) hm))
  have v2 : w8.cell? ⟨bx, 2, none⟩ = some (.int .i64 gbe) := HM8.out.box.cell 2
  have v4 : w8.cell? ⟨bb, 4, none⟩ = some (.int .i64 st) := by
    rw [HM8.out.bbk.cell 4, HL6e.out]
    rfl
  have g4 := HM8.out.bbk.free 4
  have HFin := Lib.hid (show Redone B bb rb m (fun k => m - 1 - k) cur (fun g => g.be) (fun pv qv rs st => bcells rb rs pv qv st sv gv) (some ⟨pg, po, none⟩) P' QA Q ⟨some ⟨gg, go, none⟩, gc, ged, gby, gbe, gst⟩ w (.returned (.tuple #[.slice dA m dc, .int .i64 0])) (w8.setCell ⟨bb, 4, none⟩ (.int .i64 gbe)) from by
    have hM9 := HM8.out.setb 4 (.int .i64 gbe)
    have hD9 := HD8.out.stay (Stay.setCell (F := [bb]) w8 ⟨bb, 4, none⟩ (.int .i64 gbe) (by simp)) (fun f hf hm => by
      rw [List.mem_singleton] at hm
      obtain ⟨_, _, L2, hL2⟩ := HD8.out.ab f hf
      exact blk_ne_of hL2 HM8.out.bbk (by decide) hm)
    refine ⟨dA, dc, ⟨A', m, X, y, gbe, gst⟩, QA', qc', t', rs', rfl, HXl.out, HXu.out, rfl, rfl, HU5.out.2.2.1, HU5.out.2.2.2, hD9, ?_, ?_, hM9.uW, hM9.dE, hM9.uE, ?_, hM9.R, HU5.out.1, HU5.out.2.1, HS8.out.trans (Stay.setCell _ _ _ (by simp))⟩
    · have h1 := hM9.bbk
      rw [HL6e.out] at h1
      rw [HQn.out]
      exact h1
    · have h1 := hM9.dW
      rw [HPA.out] at h1
      exact h1
    · have h1 := hM9.ap
      rw [HPA.out] at h1
      exact h1)
  clear hw8
  go_wp2_with fail
  exact bodyPost_ret (v := .tuple #[.slice dA m dc, .int .i64 0]) (by simp [results, Try.results33, go_sem]) rfl HFin.out
set_option maxRecDepth 20000 in
set_option maxHeartbeats 32000000 in
theorem redo_call (B bb rb : Nat) (PA : Option Addr) (pc : Nat) (P' : List MG) (g : MG) (QA : Option Addr) (qc : Nat) (Q : List MG) (st sv gv : Int) (cur : Nat → List UInt8) (t : Rp) (rs : Int) (w : World)
    (hb : Blk w bb (bcells rb rs (.slice QA Q.length qc) (.slice PA (P'.length + 1) pc) st sv gv) 98) (hP : Win w B 100 4 PA (P'.length + 1) pc (gcs (P' ++ [g]))) (hQ : Win w B 100 4 QA Q.length qc (gcs Q)) (hPE : ∀ y ∈ P', y.ok w B) (hg : g.ok w B) (hQE : ∀ y ∈ Q, y.ok w B) (hap : ∀ f ∈ Ab PA, f ∉ Ab QA)
    (hR : RopeAt w rb t rs) (hu : U64 rs) (hB : B ≤ w.heap.size) (hQl : Q.length ≤ 4096) (hm : 0 < g.ed.length ∧ g.ed.length ≤ 4096) (hc0 : t.text = cur 0) (hun : ∀ k, k < g.ed.length → Undoes (g.ed.getD ((fun k => k) k) zeroE) (cur k) (cur (k + 1))) :
    Calls Try.prog 34 #[.pointer (some ⟨bb, 0, none⟩)] w (Redone B bb rb g.ed.length (fun k => k) cur (fun g => g.st) (fun pv qv rs st => bcells rb rs qv pv st sv gv) PA P' QA Q g w) := by
  have HLo := Lib.hid (look_same bb rb rs _ _ st sv gv t w hb hR)
  obtain ⟨pg, po, rfl⟩ := hP.addr (by omega)
  have hl0 := last_some B bb 3 pg po P'.length pc (P' ++ [g]) _ w hb rfl hP (by simp)
  have hgm : (P' ++ [g])[P'.length]'(by simp) = g := by simp
  rw [hgm] at hl0
  obtain ⟨GA, gc, ged, gby, gbe, gst⟩ := g
  obtain ⟨gg, go, rfl⟩ : ∃ gg go, GA = some ⟨gg, go, none⟩ := Win.addr (show Win w B 37 3 GA ged.length gc (eds ged) from hg) hm.1
  simp only at hm hun ⊢
  obtain ⟨m, hme⟩ : ∃ m, m = ged.length := ⟨_, rfl⟩
  have HLa := Lib.hid (show Calls Try.prog 63 #[.pointer (some ⟨bb, 3, none⟩)] w fun e w' => e = .returned (.tuple #[.agg #[.slice (some ⟨gg, go, none⟩) m gc, .int .i64 gby, .int .i64 gbe, .int .i64 gst], .bool true]) ∧ Blk w' bb (bcells rb rs (.slice QA Q.length qc) (.slice (some ⟨pg, po, none⟩) P'.length P'.length) st sv gv) 98 ∧ Stay [bb] w w' from by
    rw [hme]; exact hl0)
  have hgk : Win w B 37 3 (some ⟨gg, go, none⟩) ged.length gc (eds ged) := hg
  have hPf := hP.front P'.length (by omega)
  rw [gcs_app, show P'.length * 4 = (gcs P').length from (gcs_length P').symm, List.take_left] at hPf
  rw [← hme] at hm hun hgk ⊢
  have HP := Lib.hid hPf
  have HQ := Lib.hid hQ
  have HPE := Lib.hid (And.intro hPE hQE)
  have HGk := Lib.hid hgk
  have HAp := Lib.hid hap
  have HR := Lib.hid hR
  have HU := Lib.hid hu
  have HC0 := Lib.hid hc0
  have HUn := Lib.hid hun
  have HBb := Lib.hid hb
  have HMe := Lib.hid hme
  have HBl := Lib.hid hB
  obtain ⟨qn, hqn⟩ : ∃ qn, qn = Q.length := ⟨_, rfl⟩
  have HQn := Lib.hid hqn.symm
  have hqn2 : qn ≤ 4096 := by omega
  have hm1 := hm.1
  have hm2 := hm.2
  clear hb hP hl0 hgm hg hgk hPf hQ hPE hQE hap hR hu hc0 hun hme hB hm hQl hqn
  go_enter Try.func34, Try.ntmps34
  go_wp2_with fail
  refine HLo.out.mono ?_
  rintro e w' ⟨rfl, hwe⟩
  rw [hwe]
  clear hwe
  go_wp2_with fail
  refine HLa.out.mono ?_
  rintro e W3 ⟨rfl, hb3, hs3⟩
  have HB3 := Lib.hid hb3
  have HS3 := Lib.hid hs3
  clear hb3 hs3 HLa HLo
  obtain ⟨W4, hW4⟩ : ∃ W, W = W3.alloc (.cells #[.slice (some ⟨gg, go, none⟩) m gc, .int .i64 gby, .int .i64 gbe, .int .i64 gst] 100) := ⟨_, rfl⟩
  have hs4 : Stay [] W3 W4 := by rw [hW4]; exact Stay.alloc _ _
  have hbx : Blk W4 W3.heap.size [.slice (some ⟨gg, go, none⟩) m gc, .int .i64 gby, .int .i64 gbe, .int .i64 gst] 100 := by rw [hW4]; exact Blk.new W3 _ _
  have HM4 := Lib.hid (show UM W4 B bb rb W3.heap.size (bcells rb rs (.slice QA Q.length qc) (.slice (some ⟨pg, po, none⟩) P'.length P'.length) st sv gv) [.slice (some ⟨gg, go, none⟩) m gc, .int .i64 gby, .int .i64 gbe, .int .i64 gst] (some ⟨pg, po, none⟩) P'.length P' QA qc Q ⟨some ⟨gg, go, none⟩, gc, ged, gby, gbe, gst⟩ t rs from by
    obtain ⟨L7, h7⟩ := HR.out.blk
    have n1 : ∀ {f : Nat} {l : List Value} {ty : TypeId}, Blk w f l ty → ty ≠ 98 → f ∉ [bb] := fun {f l ty} hf hn hm => by
      rw [List.mem_singleton] at hm
      exact blk_ne_of hf HBb.out hn hm
    have n2 : ∀ f ∈ [bb], ∀ L, ¬ Blk w f L 37 := fun f hf L hL => n1 hL (by decide) hf
    have n3 : ∀ (A : Option Addr) (n c : Nat) (xs : List Value), Win w B 100 4 A n c xs → ∀ f ∈ Ab A, f ∉ [bb] := fun A n c xs hw f hf => by
      obtain ⟨_, _, L2, hL2⟩ := hw.ab f hf
      exact n1 hL2 (by decide)
    have old : ∀ (A : Option Addr) (n c : Nat) (xs : List Value), Win w B 100 4 A n c xs → W3.heap.size ∉ Ab A := fun A n c xs hw hm => by
      have h1 := (hw.ab _ hm).2.1
      have h2 := HS3.out.size
      omega
    exact ⟨HB3.out.stay hs4 (by simp), hbx, (HP.out.stay HS3.out (n3 _ _ _ _ HP.out)).stay0 hs4, (HQ.out.stay HS3.out (n3 _ _ _ _ HQ.out)).stay0 hs4, fun x hx => ((HPE.out.1 x hx).stay HS3.out n2).stay0 hs4, fun x hx => ((HPE.out.2 x hx).stay HS3.out n2).stay0 hs4,
      (MG.ok.stay (g := ⟨some ⟨gg, go, none⟩, gc, ged, gby, gbe, gst⟩) (show Win w B 37 3 (some ⟨gg, go, none⟩) ged.length gc (eds ged) from by rw [← HMe.out]; exact HGk.out) HS3.out n2).stay0 hs4,
      (HR.out.stay HS3.out (blk_noPair98 HBb.out) (n1 h7 (by decide))).stay0 hs4, HAp.out, old _ _ _ _ HP.out, old _ _ _ _ HQ.out⟩)
  have HS4 := Lib.hid (HS3.out.trans (hs4.mono (by simp)))
  have HB4 := Lib.hid (show B ≤ W4.heap.size from Nat.le_trans HBl.out HS4.out.size)
  have HW4 := Lib.hid hW4
  obtain ⟨bx, hbxe⟩ : ∃ b, b = W3.heap.size := ⟨_, rfl⟩
  rw [← hbxe] at HM4 hbx
  have HXe := Lib.hid hbxe
  have HXw := Lib.hid (show w.heap.size ≤ bx from by rw [hbxe]; exact HS3.out.size)
  have x0 : W4.cell? ⟨bx, 0, none⟩ = some (.slice (some ⟨gg, go, none⟩) m gc) := hbx.cell 0
  have x1 : W4.cell? ⟨bx, 1, none⟩ = some (.int .i64 gby) := hbx.cell 1
  have x2 : W4.cell? ⟨bx, 2, none⟩ = some (.int .i64 gbe) := hbx.cell 2
  have x3 : W4.cell? ⟨bx, 3, none⟩ = some (.int .i64 gst) := hbx.cell 3
  have HTu := Lib.hid (turn_redo B bb rb m gg go gc rs (.slice QA Q.length qc) (.slice (some ⟨pg, po, none⟩) P'.length P'.length) st sv gv gby gbe gst ged (fun k => ged.getD k zeroE) (fun k => k) cur t rs W4 HM4.out.bbk HM4.out.R HU.out (by have h := HM4.out.gE; have h2 : Win W4 B 37 3 (some ⟨gg, go, none⟩) ged.length gc (eds ged) := h; rw [← HMe.out] at h2; exact h2) ⟨hm1, hm2⟩ HB4.out HC0.out
    (fun k hk => by exact hk) (fun i j hi hj hij => by exact hij) (fun k hk => by rw [List.getD_eq_getElem?_getD, List.getElem?_eq_getElem (by rw [← HMe.out]; exact hk)]; rfl) HUn.out (fun k hk => rfl))
  clear hW4 hs4 hbx hbxe HP HQ HPE HGk HAp HR HC0 HB3
  go_upto_region 7 with fail
  rw [← HW4.out, ← HXe.out]
  go_wp2_with fail
  refine HTu.out.mono ?_
  rintro e W5 ⟨X, A', y, dA, dc, t', rs', rfl, hXl, hXw, hXu, hdid, hR5, hu5, ht5, hb5, hs5, hy0, hy1⟩
  have HXl := Lib.hid hXl
  have HM5 := Lib.hid (show UM W5 B bb rb bx (bcells rb rs' (.slice QA Q.length qc) (.slice (some ⟨pg, po, none⟩) P'.length P'.length) st sv gv) [.slice (some ⟨gg, go, none⟩) m gc, .int .i64 gby, .int .i64 gbe, .int .i64 gst] (some ⟨pg, po, none⟩) P'.length P' QA qc Q ⟨A', m, X, y, gbe, gst⟩ t' rs' from HM4.out.turn hs5 hb5 hR5 (show Win W5 B 37 3 A' X.length m (eds X) from by rw [hXl]; exact hXw))
  have HS5 := Lib.hid (show Stay [rb, bb] w W5 from (HS4.out.mono (by simp)).trans hs5)
  have HXu := Lib.hid hXu
  have HDid := Lib.hid hdid
  have HU5 := Lib.hid (And.intro hu5 (And.intro ht5 (And.intro hy0 hy1)))
  clear hXl hXw hXu hdid hR5 hu5 ht5 hb5 hs5 hy0 hy1 HTu x0 x1 x2 x3 HM4
  have z0 : W5.cell? ⟨bx, 0, none⟩ = some (.slice (some ⟨gg, go, none⟩) m gc) := HM5.out.box.cell 0
  have z1 : W5.cell? ⟨bx, 1, none⟩ = some (.int .i64 gby) := HM5.out.box.cell 1
  have z2 : W5.cell? ⟨bx, 2, none⟩ = some (.int .i64 gbe) := HM5.out.box.cell 2
  have z3 : W5.cell? ⟨bx, 3, none⟩ = some (.int .i64 gst) := HM5.out.box.cell 3
  have y0 := HM5.out.box.free 0
  have y1 := HM5.out.box.free 1
  have y2 := HM5.out.box.free 2
  have y3 := HM5.out.box.free 3
  obtain ⟨W6, hW6⟩ : ∃ W, W = (((W5.setCell ⟨bx, 0, none⟩ (.slice A' m m)).setCell ⟨bx, 1, none⟩ (.int .i64 y)).setCell ⟨bx, 2, none⟩ (.int .i64 gbe)).setCell ⟨bx, 3, none⟩ (.int .i64 gst) := ⟨_, rfl⟩
  have hM6 : UM W6 B bb rb bx (bcells rb rs' (.slice QA Q.length qc) (.slice (some ⟨pg, po, none⟩) P'.length P'.length) st sv gv) [.slice A' m m, .int .i64 y, .int .i64 gbe, .int .i64 gst] (some ⟨pg, po, none⟩) P'.length P' QA qc Q ⟨A', m, X, y, gbe, gst⟩ t' rs' := by
    rw [hW6]; exact (((HM5.out.setx 0 (.slice A' m m)).setx 1 (.int .i64 y)).setx 2 (.int .i64 gbe)).setx 3 (.int .i64 gst)
  have hS6 : Stay [bx] W5 W6 := by
    rw [hW6]
    have hss : ∀ (u : World) (j : Nat) (v : Value), Stay [bx] u (u.setCell ⟨bx, j, none⟩ v) := fun u j v => Stay.setCell _ _ _ (by simp)
    exact (((hss W5 0 _).trans (hss _ 1 _)).trans (hss _ 2 _)).trans (hss _ 3 _)
  have HDid6 := Lib.hid (show Win W6 B 37 3 dA m dc (eds ((List.range m).map fun k => ged.getD ((fun k => k) k) zeroE)) from HDid.out.stay hS6 (fun f hf hm => by
    rw [List.mem_singleton] at hm
    obtain ⟨_, _, L2, hL2⟩ := HDid.out.ab f hf
    exact blk_ne_of hL2 HM5.out.box (by decide) hm))
  have HS6 := Lib.hid (show Stay [rb, bb] w W6 from HS5.out.trans' hS6 (fun f hf => .inr (by rw [List.mem_singleton] at hf; rw [hf]; exact HXw.out)))
  have HM6 := Lib.hid hM6
  have HW6 := Lib.hid hW6
  clear hM6 hS6 hW6
  go_upto_region 8 with fail
  rw [← HW6.out]
  obtain ⟨i100, hi, hz, hsz, hy⟩ := info_parts info100
  have HI := Lib.hid (And.intro hi (And.intro hz (And.intro hsz hy)))
  have h63 : qn + 1 ≤ maxLen := by simp only [maxLen]; omega
  have h48 : (qn + 1) * 48 ≤ 140737488355328 := by omega
  have HMx := Lib.hid (And.intro h63 h48)
  obtain ⟨L6, hL6e⟩ : ∃ L6, L6 = bcells rb rs' (.slice QA Q.length qc) (.slice (some ⟨pg, po, none⟩) P'.length P'.length) st sv gv := ⟨_, rfl⟩
  have HL6e := Lib.hid hL6e
  rw [← hL6e] at HM6
  have HL6 := Lib.hid (show L6[2]? = some (.slice QA qn qc) from by rw [hL6e, ← HQn.out]; rfl)
  obtain ⟨PA, hPA⟩ : ∃ PA : Option Addr, PA = some ⟨pg, po, none⟩ := ⟨_, rfl⟩
  have HPA := Lib.hid hPA
  rw [← hPA] at HM6
  have HBw := Lib.hid (show B ≤ W6.heap.size from Nat.le_trans HBl.out HS6.out.size)
  have HCk := Lib.hid (show ∀ u, UM u B bb rb bx L6 [.slice A' m m, .int .i64 y, .int .i64 gbe, .int .i64 gst] PA P'.length P' QA qc Q ⟨A', m, X, y, gbe, gst⟩ t' rs' → u.cell? ⟨bb, 2, none⟩ = some (.slice QA qn qc) ∧ u.cell? ⟨bx, 0, none⟩ = some (.slice A' m m) ∧ u.cell? ⟨bx, 1, none⟩ = some (.int .i64 y) ∧ u.cell? ⟨bx, 2, none⟩ = some (.int .i64 gbe) ∧ u.cell? ⟨bx, 3, none⟩ = some (.int .i64 gst) from fun u hu =>
    ⟨(hu.bbk.cell 2).trans HL6.out, hu.box.cell 0, hu.box.cell 1, hu.box.cell 2, hu.box.cell 3⟩)
  have hHeld := HCk.out _ (HM6.out.stay0 (Stay.drew W6))
  clear hi hz hsz hy h63 h48 hL6e hPA z0 z1 z2 z3 y0 y1 y2 y3 HM5
  refine AnyL.begin_ (S := fun w' : World => w'.cell? ⟨bb, 2, none⟩ = some (.slice QA qn qc) ∧ w'.cell? ⟨bx, 0, none⟩ = some (.slice A' m m) ∧ w'.cell? ⟨bx, 1, none⟩ = some (.int .i64 y) ∧ w'.cell? ⟨bx, 2, none⟩ = some (.int .i64 gbe) ∧ w'.cell? ⟨bx, 3, none⟩ = some (.int .i64 gst)) (n := 10) (by kernel_rfl) ?_
  refine AnyL.take (i := 0) (v := ?_) [8, 9, 10] rfl (by kernel_rfl) (by kernel_rfl) (by kernel_rfl) (by kernel_rfl) (fun _ _ _ h => h) (Or.inl ⟨by rfl, ?_⟩) hHeld ?_
  rotate_left
  · intro w hSw
    obtain ⟨k0, k1, k2, k3, k4⟩ := hSw
    simp only [List.getElem_toArray, List.getElem_cons_zero]
    go_simp
    all_goals with_reducible rfl
  simp only [List.getElem_toArray, List.getElem_cons_zero, Act.put, List.setIfInBounds_toArray, List.set_cons_zero, List.set_cons_succ]
  refine AnyL.take (i := 1) (v := ?_) [2, 3, 4, 7, 10] rfl (by kernel_rfl) (by kernel_rfl) (by kernel_rfl) (by kernel_rfl) (fun _ _ _ h => h) (Or.inl ⟨by rfl, ?_⟩) hHeld ?_
  rotate_left
  · intro w hSw
    obtain ⟨k0, k1, k2, k3, k4⟩ := hSw
    simp only [List.getElem_toArray, List.getElem_cons_zero, List.getElem_cons_succ]
    go_simp
    all_goals with_reducible rfl
  simp only [List.getElem_toArray, List.getElem_cons_zero, List.getElem_cons_succ, Act.put, List.setIfInBounds_toArray, List.set_cons_zero, List.set_cons_succ]
  refine AnyL.take (i := 2) (v := ?_) [3, 4, 7, 10] rfl (by kernel_rfl) (by kernel_rfl) (by kernel_rfl) (by kernel_rfl) (fun _ _ _ h => h) (Or.inl ⟨by rfl, ?_⟩) hHeld ?_
  rotate_left
  · intro w hSw
    obtain ⟨k0, k1, k2, k3, k4⟩ := hSw
    simp only [List.getElem_toArray, List.getElem_cons_zero, List.getElem_cons_succ]
    go_simp
    all_goals with_reducible rfl
  simp only [List.getElem_toArray, List.getElem_cons_zero, List.getElem_cons_succ, Act.put, List.setIfInBounds_toArray, List.set_cons_zero, List.set_cons_succ]
  refine AnyL.take (i := 3) (v := ?_) [4, 7, 10] rfl (by kernel_rfl) (by kernel_rfl) (by kernel_rfl) (by kernel_rfl) (fun _ _ _ h => h) (Or.inl ⟨by rfl, ?_⟩) hHeld ?_
  rotate_left
  · intro w hSw
    obtain ⟨k0, k1, k2, k3, k4⟩ := hSw
    simp only [List.getElem_toArray, List.getElem_cons_zero, List.getElem_cons_succ]
    go_simp
    all_goals with_reducible rfl
  simp only [List.getElem_toArray, List.getElem_cons_zero, List.getElem_cons_succ, Act.put, List.setIfInBounds_toArray, List.set_cons_zero, List.set_cons_succ]
  refine AnyL.take (i := 4) (v := ?_) [7, 10] rfl (by kernel_rfl) (by kernel_rfl) (by kernel_rfl) (by kernel_rfl) (fun _ _ _ h => h) (Or.inl ⟨by rfl, ?_⟩) hHeld ?_
  rotate_left
  · intro w hSw
    obtain ⟨k0, k1, k2, k3, k4⟩ := hSw
    simp only [List.getElem_toArray, List.getElem_cons_zero, List.getElem_cons_succ]
    go_simp
    all_goals with_reducible rfl
  simp only [List.getElem_toArray, List.getElem_cons_zero, List.getElem_cons_succ, Act.put, List.setIfInBounds_toArray, List.set_cons_zero, List.set_cons_succ]
  refine AnyL.take (i := 5) (v := ?_) [6, 7, 10] rfl (by kernel_rfl) (by kernel_rfl) (by kernel_rfl) (by kernel_rfl) (fun _ _ _ h => h) (Or.inl ⟨by rfl, ?_⟩) hHeld ?_
  rotate_left
  · intro w hSw
    obtain ⟨k0, k1, k2, k3, k4⟩ := hSw
    simp only [List.getElem_toArray, List.getElem_cons_zero, List.getElem_cons_succ]
    go_simp
    all_goals with_reducible rfl
  simp only [List.getElem_toArray, List.getElem_cons_zero, List.getElem_cons_succ, Act.put, List.setIfInBounds_toArray, List.set_cons_zero, List.set_cons_succ]
  refine AnyL.next (i := 6) (by kernel_rfl) ?_
  refine wpOp_step rfl (fun K hK => ?_)
  have HK := Lib.hid hK
  clear hK
  simp only [List.getElem_toArray, List.getElem_cons_zero, List.getElem_cons_succ]
  rw [if_pos (by rfl)]
  go_wp2_with fail
  obtain ⟨Wn, hWn⟩ : ∃ W, W = (W6.alloc (.cells #[.slice A' m m, .int .i64 y, .int .i64 gbe, .int .i64 gst] 100)).drew := ⟨_, rfl⟩
  have hSn : Stay [] W6 Wn := by rw [hWn]; exact (Stay.alloc (F := []) _ _).drew'
  have HMn := Lib.hid (HM6.out.stay0 hSn)
  have HNw := Lib.hid (show ∀ j u, [Value.slice A' m m, .int .i64 y, .int .i64 gbe, .int .i64 gst][j]? = some u → Wn.cell? ((⟨W6.heap.size, 0, none⟩ : Addr).add j) = some u from by rw [hWn]; exact cells_new W6 [.slice A' m m, .int .i64 y, .int .i64 gbe, .int .i64 gst] 100 W6.heap.size rfl)
  have HSn := Lib.hid hSn
  rw [← hWn]
  clear hWn hSn
  have hqa := HCk.out Wn HMn.out
  have HSz := Lib.hid (show B ≤ Wn.heap.size from Nat.le_trans HBw.out HSn.out.size)
  refine HK.out _ _ ⟨.inr hqa, ?_⟩
  clear HK K
  refine AnyL.next (i := 7) (by kernel_rfl) ?_
  refine wpOp_step rfl (fun K hK => ?_)
  have HK := Lib.hid hK
  clear hK
  simp only [List.getElem_toArray, List.getElem_cons_zero, List.getElem_cons_succ]
  rw [if_pos (by rfl)]
  refine wp_append_win (.tmp 30) (.tmp 32) 96 rfl B 100 4 i100 _ 48 Try.underlying96 HI.out.1 HI.out.2.1 HI.out.2.2.1 HI.out.2.2.2 rfl (by omega) QA qn qc (gcs Q) rfl (by have := HMn.out.uW; rw [HQn.out] at this; exact this) ⟨W6.heap.size, 0, none⟩ 1 1 rfl [.slice A' m m, .int .i64 y, .int .i64 gbe, .int .i64 gst] rfl (by omega) HNw.out (by simp [Value.oneCell']) HMx.out.1 HMx.out.2 HSz.out ?_
  intro QA' qc' w7 hw7 hs7 ha7
  have HM7 := Lib.hid (show UM w7 B bb rb bx (L6) [.slice A' m m, .int .i64 y, .int .i64 gbe, .int .i64 gst] PA P'.length P' QA' qc' (Q ++ [⟨A', m, X, y, gbe, gst⟩]) ⟨A', m, X, y, gbe, gst⟩ t' rs' from HMn.out.app hs7 (by
    rw [HQn.out]
    show Win w7 B 100 4 QA' (qn + 1) qc' (gcs Q ++ [.slice A' X.length m, .int .i64 y, .int .i64 gbe, .int .i64 gst])
    rw [HXl.out]
    exact hw7) ha7)
  have HS7 := Lib.hid (show Stay (Ab QA) W6 w7 from (HSn.out.mono (by simp)).trans hs7)
  clear hw7 hs7 ha7 hqa
  have hq7 : (w7.cell? ⟨bb, 2, none⟩ = some (.slice QA qn qc) ∧ w7.cell? ⟨bx, 0, none⟩ = some (.slice A' m m) ∧ w7.cell? ⟨bx, 1, none⟩ = some (.int .i64 y) ∧ w7.cell? ⟨bx, 2, none⟩ = some (.int .i64 gbe) ∧ w7.cell? ⟨bx, 3, none⟩ = some (.int .i64 gst)) := ⟨(HM7.out.bbk.cell 2).trans HL6.out, HM7.out.box.cell 0, HM7.out.box.cell 1, HM7.out.box.cell 2, HM7.out.box.cell 3⟩
  have f7 := HM7.out.bbk.free 2
  refine HK.out _ _ ⟨.inr hq7, ?_⟩
  clear HK K
  refine AnyL.take (i := 8) (v := ?_) [9, 10] rfl (by kernel_rfl) (by kernel_rfl) (by kernel_rfl) (by kernel_rfl) (fun _ _ _ h => h) (Or.inl ⟨by rfl, ?_⟩) hq7 ?_
  rotate_left
  · intro w hSw
    obtain ⟨k0, k1, k2, k3, k4⟩ := hSw
    simp only [List.getElem_toArray, List.getElem_cons_zero, List.getElem_cons_succ]
    go_simp
    all_goals with_reducible rfl
  simp only [List.getElem_toArray, List.getElem_cons_zero, List.getElem_cons_succ, Act.put, List.setIfInBounds_toArray, List.set_cons_zero, List.set_cons_succ]
  refine AnyL.take (i := 9) (v := ?_) [10] rfl (by kernel_rfl) (by kernel_rfl) (by kernel_rfl) (by kernel_rfl) (fun _ _ _ h => h) (Or.inl ⟨by rfl, ?_⟩) hq7 ?_
  rotate_left
  · intro w hSw
    obtain ⟨k0, k1, k2, k3, k4⟩ := hSw
    simp only [List.getElem_toArray, List.getElem_cons_zero, List.getElem_cons_succ]
    go_simp
    all_goals with_reducible rfl
  simp only [List.getElem_toArray, List.getElem_cons_zero, List.getElem_cons_succ, Act.put, List.setIfInBounds_toArray, List.set_cons_zero, List.set_cons_succ]
  refine AnyL.next (i := 10) (by kernel_rfl) ?_
  refine wpOp_step rfl (fun K hK => ?_)
  have HK := Lib.hid hK
  clear hK
  simp only [List.getElem_toArray, List.getElem_cons_zero, List.getElem_cons_succ]
  rw [if_pos (by rfl)]
  have hq70 := hq7.1
  go_wp2_with fail
  refine HK.out _ _ ⟨.inl (by first | rfl | trivial), ?_⟩
  clear HK K
  refine AnyL.done (by kernel_rfl) ?_ _
  obtain ⟨w8, hw8⟩ : ∃ x, x = w7.setCell ⟨bb, 2, none⟩ (.slice QA' (qn + 1) qc') := ⟨_, rfl⟩
  rw [← hw8]
  have HM8 := Lib.hid (show UM w8 B bb rb bx (L6.set 2 (.slice QA' (qn + 1) qc')) [.slice A' m m, .int .i64 y, .int .i64 gbe, .int .i64 gst] PA P'.length P' QA' qc' (Q ++ [⟨A', m, X, y, gbe, gst⟩]) ⟨A', m, X, y, gbe, gst⟩ t' rs' from by rw [hw8]; exact HM7.out.setb 2 _)
  have HS8 := Lib.hid (show Stay ([rb, bb] ++ Ab QA) w w8 from by
    rw [hw8]
    exact ((HS6.out.mono (by simp)).trans (HS7.out.mono (fun f hf => List.mem_append_right _ hf))).trans (Stay.setCell _ _ _ (by simp)))
  have HD8 := Lib.hid (show Win w8 B 37 3 dA m dc (eds ((List.range m).map fun k => ged.getD ((fun k => k) k) zeroE)) from by
    rw [hw8]
    have h1 := HDid6.out.stay HS7.out (fun f hf => by
      obtain ⟨_, _, L2, hL2⟩ := HDid6.out.ab f hf
      exact win_types HM6.out.uW hL2 (by decide))
    exact h1.stay (Stay.setCell (F := [bb]) _ _ _ (by simp)) (fun f hf hm => by
      rw [List.mem_singleton] at hm
      obtain ⟨_, _, L2, hL2⟩ := h1.ab f hf
      exact blk_ne_of hL2 HM7.out.bbk (by decide) hm))
  have v2 : w8.cell? ⟨bx, 3, none⟩ = some (.int .i64 gst) := HM8.out.box.cell 3
  have v4 : w8.cell? ⟨bb, 4, none⟩ = some (.int .i64 st) := by
    rw [HM8.out.bbk.cell 4, HL6e.out]
    rfl
  have g4 := HM8.out.bbk.free 4
  have HFin := Lib.hid (show Redone B bb rb m (fun k => k) cur (fun g => g.st) (fun pv qv rs st => bcells rb rs qv pv st sv gv) (some ⟨pg, po, none⟩) P' QA Q ⟨some ⟨gg, go, none⟩, gc, ged, gby, gbe, gst⟩ w (.returned (.tuple #[.slice dA m dc, .int .i64 0])) (w8.setCell ⟨bb, 4, none⟩ (.int .i64 gst)) from by
    have hM9 := HM8.out.setb 4 (.int .i64 gst)
    have hD9 := HD8.out.stay (Stay.setCell (F := [bb]) w8 ⟨bb, 4, none⟩ (.int .i64 gst) (by simp)) (fun f hf hm => by
      rw [List.mem_singleton] at hm
      obtain ⟨_, _, L2, hL2⟩ := HD8.out.ab f hf
      exact blk_ne_of hL2 HM8.out.bbk (by decide) hm)
    refine ⟨dA, dc, ⟨A', m, X, y, gbe, gst⟩, QA', qc', t', rs', rfl, HXl.out, HXu.out, rfl, rfl, HU5.out.2.2.1, HU5.out.2.2.2, hD9, ?_, ?_, hM9.uW, hM9.dE, hM9.uE, ?_, hM9.R, HU5.out.1, HU5.out.2.1, HS8.out.trans (Stay.setCell _ _ _ (by simp))⟩
    · have h1 := hM9.bbk
      rw [HL6e.out] at h1
      rw [HQn.out]
      exact h1
    · have h1 := hM9.dW
      rw [HPA.out] at h1
      exact h1
    · have h1 := hM9.ap
      rw [HPA.out] at h1
      exact h1)
  clear hw8
  go_wp2_with fail
  exact bodyPost_ret (v := .tuple #[.slice dA m dc, .int .i64 0]) (by simp [results, Try.results34, go_sem]) rfl HFin.out
end Go.Proofs.Ytjoeebjmjnddoaa
