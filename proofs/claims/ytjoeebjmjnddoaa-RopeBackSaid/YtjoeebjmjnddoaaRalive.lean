/- shuttlelaw18: alive. -/
import Derived.Test.YtjoeebjmjnddoaaRalive0
namespace Go.Proofs.Ytjoeebjmjnddoaa
open Go.RowKit Go.Shelf
attribute [local go_sem] Oper.semAt_some
theorem cell_of_box_r {W : World} {B : Nat} {v : Value} {t : TypeId} (h : W.heap[B]? = some (.cells #[v] t (0, 0))) : W.cell? ⟨B, 0, none⟩ = some v ∧ W.frozen? ⟨B, 0, none⟩ = false := by
  constructor <;> simp [World.cell?, World.frozen?, h]
theorem alive_lines : lineL [97, 98, 10, 99] ((1 : Nat) : Int) = (3, 1) := by decide
theorem alive_edit : editL [97, 98, 10, 99] 1 2 [120, 121, 122] = [97, 120, 121, 122, 99] := by decide
theorem alive_cut : cutL [97, 98, 10, 99] 1 (1 + 2) = [98, 10] := by decide
/-- the boxes that the loop keeps: the edit, the text that grows -/
structure Loop0 (w3 : World) (bE bS : Nat) (tx : List UInt8) (W : World) : Prop where
  e0 : W.cell? ⟨bE, 0, none⟩ = some (.int .i64 1)
  e1 : W.cell? ⟨bE, 1, none⟩ = some (.int .i64 3)
  e2 : W.cell? ⟨bE, 2, none⟩ = some (.string (str [98, 10]))
  s0 : W.cell? ⟨bS, 0, none⟩ = some (.string (str tx))
  sf : W.frozen? ⟨bS, 0, none⟩ = false
  bel : Below w3.heap.size w3 W
theorem loop0_own {w3 : World} {bE bS Bl : Nat} (hB : w3.heap.size ≤ Bl) : OwnFrom Bl (fun (pre : List (Nat × List UInt8)) W => Loop0 w3 bE bS (joinC pre) W) := fun pre A A' row hs hg hr => by
  have hr' : ∀ r, row = some r → ∃ o : Obj, A.heap[r]? = some o ∧ o.isCells = false := fun r e => (hr r e).2
  exact ⟨cell_kept hs.e0 hg hr', cell_kept hs.e1 hg hr', cell_kept hs.e2 hg hr', cell_kept hs.s0 hg hr', (frozen_kept hs.s0 hg hr').trans hs.sf, hs.bel.grown hg hs.bel.size (fun k e => Nat.le_trans hB (hr k e).1)⟩
set_option maxRecDepth 100000 in
set_option maxHeartbeats 16000000 in
theorem alive_any (w : World) : Calls Try.prog 14 #[] w fun e w' => e = .returned (.bool true) ∧ Below w.heap.size w w' := by
  have HN := Lib.hid (show Calls Try.prog 12 #[.string ⟨#[97, 98, 10, 99]⟩] w (Newed w [97, 98, 10, 99]) from new_any [97, 98, 10, 99] w (by decide))
  refine (callsIn_wide (n := 3)).1 ?_
  refine callsIn_of_wp_marks Try.func14 rfl trivial ?_ rfl
  simp only [Try.ntmps14, List.size_toArray, List.length_cons, List.length_nil, Nat.reduceAdd, Nat.reduceSub, Array.replicate_succ, Array.replicate_zero, List.push_toArray, List.append_toArray, List.nil_append, List.cons_append]
  gi_wp2
  refine ⟨trivial, (callsIn_wide.2 HN.out).mono ?_⟩
  rintro e w1 ⟨rb, t, rfl, hge, hr, ht, hb⟩
  have HB1 := Lib.hid hb
  have HR1 := Lib.hid hr
  have HL := Lib.hid (show Calls Try.prog 24 #[.pointer (some ⟨rb, 0, none⟩), .int .i64 1] w1 fun e w' => e = .returned (.tuple #[.int .i64 3, .int .i64 1]) ∧ Stay [] w1 w' from by
    have h := line_in rb t 0 1 w1 hr (by show 1 ≤ nl t.text; rw [ht]; decide)
    rw [ht, alive_lines] at h
    exact h)
  have HT := Lib.hid ht
  clear hr ht hb HN
  gi_wp2
  refine ⟨trivial, (callsIn_wide.2 HL.out).mono ?_⟩
  rintro e w2 ⟨rfl, hs⟩
  have HB2 := Lib.hid (HB1.out.trans (hs.toBelow HB1.out.size (by simp)))
  have HR2 := Lib.hid (HR1.out.stay0 hs)
  have HD := Lib.hid (show Calls Try.prog 21 #[.pointer (some ⟨rb, 0, none⟩), .agg #[.int .i64 1, .int .i64 2, .string ⟨#[120, 121, 122]⟩]] w2 (DoneAt w2 rb t 0 1 2 [120, 121, 122]) from
    do_ok rb t 0 1 2 [120, 121, 122] w2 (HR1.out.stay0 hs) (by omega) (by show 1 + 2 ≤ t.text.length; rw [HT.out]; decide) (by show 3 + (t.text.length - 2) ≤ 1048576; rw [HT.out]; decide))
  clear hs HL HR1 HB1
  gi_wp2
  refine ⟨trivial, (callsIn_wide.2 HD.out).mono ?_⟩
  rintro e w3 ⟨rfl, ⟨t3, hr3, ht3⟩, hs3⟩
  rw [HT.out] at ht3
  have ht3' : t3.text = [97, 120, 121, 122, 99] := ht3.trans alive_edit
  rw [HT.out, alive_cut]
  have hr3' : RopeAt w3 rb t3 1 := hr3
  have HB3 := Lib.hid (HB2.out.trans (hs3.toBelow HB2.out.size (by intro g hg; simp at hg; omega)))
  obtain ⟨v3, hv3⟩ := hr3'
  have HV3 := Lib.hid hv3
  have HT3 := Lib.hid ht3'
  clear hr3 ht3 ht3' hs3 hv3 HD HR2 HB2 HT
  obtain ⟨W5, hW5⟩ : ∃ W5, W5 = (w3.alloc (.cells #[.int .i64 1, .int .i64 3, .string (str [98, 10])] 37)).alloc (.cells #[.string ⟨#[]⟩] 9) := ⟨_, rfl⟩
  have HW5 := Lib.hid hW5
  have HS5 := Lib.hid (show Stay [] w3 W5 from by rw [hW5]; exact (Stay.alloc _ _).alloc')
  have HE5 := Lib.hid (show Blk W5 w3.heap.size [.int .i64 1, .int .i64 3, .string (str [98, 10])] 37 ∧ Blk W5 (w3.heap.size + 1) [.string (str [])] 9 ∧ W5.heap.size = w3.heap.size + 2 from by
    rw [hW5]
    refine ⟨(Blk.new w3 _ 37).stay (F := []) (Stay.alloc _ _) (by simp), ?_, by simp⟩
    have h := Blk.new (w3.alloc (.cells #[.int .i64 1, .int .i64 3, .string (str [98, 10])] 37)) [.string (str [])] 9
    rw [size_alloc'] at h
    exact h)
  have HP := Lib.hid (show Calls Try.prog 15 #[.pointer (some ⟨rb, 0, none⟩), .int .i64 1, .int .i64 3] W5 (Pieced W5 v3 1 4) from by
    have h := pieces_any rb v3 t3 1 1 3 W5 ⟨Blk.stay HV3.out.1 HS5.out (by simp), HV3.out.2.1.stay HS5.out (NoPair.nil _), HV3.out.2.2⟩ (by omega) (by omega)
    have e1 : frL 1 t3.len = 1 := by rw [Rp.len, HT3.out]; rfl
    have e2 : toL 1 3 t3.len = 4 := by rw [Rp.len, HT3.out]; rfl
    rw [e1, e2] at h
    exact h)
  clear hW5
  gi_wp2
  rw [← HW5.out]
  refine ⟨trivial, (callsIn_wide.2 HP.out).mono ?_⟩
  rintro e W1 ⟨b1, b2, b3, rfl, hI⟩
  have hfn := func_nil
  gi_wp2
  have hl5 : t3.len = 5 := by rw [Rp.len, HT3.out]; rfl
  obtain ⟨hj1, hj2⟩ := pcs_joinC t3 1 4 (by omega) (by omega)
  have HJ := Lib.hid (show joinC (pcs t3 0 1 4) = [120, 121, 122] from hj1.trans (by rw [HT3.out]; rfl))
  have hb5 : Below w3.heap.size w3 W5 := HS5.out.toBelow (Nat.le_refl _) (by simp)
  have hBW : Below w3.heap.size w3 W1 := hb5.trans (hI.bel.mono hb5.size)
  have hst := pieces_stops w3 _ W1 b1 b2 b3 v3 t3 1 4 2 HV3.out.2.1 hBW hI (by omega) (by omega)
  obtain ⟨ps, hps⟩ : ∃ ps, ps = pcs t3 0 1 4 := ⟨_, rfl⟩
  rw [← hps] at hst HJ hj2
  have HPl := Lib.hid (show ps.length ≤ 5 from by omega)
  have HBW := Lib.hid hBW
  have HZ1 := Lib.hid hI.bel.size
  have hkE := HE5.out.1.stay (F := []) (Stay.below hI.bel) (by simp)
  have hkS := HE5.out.2.1.stay (F := []) (Stay.below hI.bel) (by simp)
  have h0 : Loop0 w3 w3.heap.size (w3.heap.size + 1) (joinC []) W1 := ⟨hkE.cell 0, hkE.cell 1, hkE.cell 2, hkS.cell 0, hkS.free 0, hBW⟩
  clear hj1 hps hI hb5 hl5 HP hkE hkS
  refine frame_named (fun A hA => ?_)
  refine wpIn_rangeFunc_ownF (F := Fence.wide) rfl (by omega) (gf := 41) (lb := #[.pointer (some ⟨b1, 0, none⟩), .pointer (some ⟨b2, 0, none⟩), .pointer (some ⟨b3, 0, none⟩)]) (by rw [hA]; rfl) trivial (enters_of Try.func41 (by kernel_rfl) rfl) hst belowK_t (belowK_b hBW.size) (Below.refl _ _) (fun _ => rfl)
    (fun pre W => Loop0 w3 w3.heap.size (w3.heap.size + 1) (joinC pre) W) (fun _ _ _ => False)
    (loop0_own hBW.size) (fun _ _ _ _ _ hs _ _ => hs) h0
    (fun x => { tmps := ((A.tmps.setIfInBounds 37 (.int .i64 (clipA x.1))).setIfInBounds 38 (.string (str (clipS x.2)))).setIfInBounds 10 (.string (str (clipS x.2))), defers := [] }) ?assign ?body ?done ?stop
  case assign =>
    intro l x W K hK
    subst hA
    unfold encP
    gi_wp2
    exact hK
  case body =>
    rintro l pre x W hb hpl
    subst hA
    have hs0 := hb.s0
    have hsf := hb.sf
    have hsz : (str (joinC pre)).size + (str (clipS x.2)).size ≤ 9223372036854775807 := by
      rw [str_size, str_size]
      have h1 := joinC_le pre
      have h2 := clipS_le x.2
      have h3 : pre.length * 2097152 ≤ 1048576 * 2097152 := Nat.mul_le_mul_right _ (by have := HPl.out; omega)
      omega
    have HL := Lib.hid hb
    have HE := Lib.hid (str_app (joinC pre) (clipS x.2))
    have HC := Lib.hid (joinC_snoc pre x)
    have hcat := Stay.setCell (F := [w3.heap.size + 1]) W ⟨w3.heap.size + 1, 0, none⟩ (.string (str (joinC pre ++ clipS x.2))) (by simp)
    have HF := Lib.hid (show Loop0 w3 w3.heap.size (w3.heap.size + 1) (joinC pre ++ clipS x.2) (W.setCell ⟨w3.heap.size + 1, 0, none⟩ (.string (str (joinC pre ++ clipS x.2)))) from by
      have hk : ∀ (j : Nat) (u : Value), W.cell? ⟨w3.heap.size, j, none⟩ = some u → (W.setCell ⟨w3.heap.size + 1, 0, none⟩ (.string (str (joinC pre ++ clipS x.2)))).cell? ⟨w3.heap.size, j, none⟩ = some u := fun j u hu => (hcat.cell_ (a := ⟨w3.heap.size, j, none⟩) (World.block_lt_of_cell? _ _ hu) (by simp)).trans hu
      exact ⟨hk _ _ hb.e0, hk _ _ hb.e1, hk _ _ hb.e2, World.cell?_setCell_same' _ _ _ (by rw [hs0]; rfl), by rw [World.frozen?_setCell]; exact hsf, hb.bel.setCell (p := ⟨w3.heap.size + 1, 0, none⟩) (Nat.le_succ _) _⟩)
    clear hb hpl hcat
    obtain ⟨sA, hsA⟩ : ∃ s, s = str (joinC pre) := ⟨_, rfl⟩
    obtain ⟨sB, hsB⟩ : ∃ s, s = str (clipS x.2) := ⟨_, rfl⟩
    rw [← hsA, ← hsB] at HE hsz
    rw [← hsA] at hs0
    rw [← hsB]
    clear hsA hsB
    gi_wp2
    rw [HE.out]
    exact ⟨KeepsOthers.setCell _ _ _, (Below.refl w3.heap.size W).setCell (p := ⟨w3.heap.size + 1, 0, none⟩) (Nat.le_succ _) _, by
      show Loop0 w3 w3.heap.size (w3.heap.size + 1) (joinC (pre ++ [x])) _
      rw [HC.out]
      exact HF.out⟩
  case done =>
    rintro D ys W hD rfl hb hK
    subst hA
    rw [HJ.out] at hb
    have HR := Lib.hid (show ∀ u, Stay [] W u → RopeAt u rb t3 1 from fun u hs => RopeAt.stay0 (RopeAt.below ⟨v3, HV3.out⟩ hb.bel) hs)
    have HKd := Lib.hid (show ∀ u, Stay [] W u → u.heap[D]? = some (.deferred (some [])) from fun u hs => (hs.block D (Array.getElem?_eq_some_iff.1 hK).1 (by simp)).trans hK)
    have HBd := Lib.hid (show ∀ u, Stay [] W u → Below w.heap.size w (u.putObj D (.deferred none)) from fun u hs => by
      have h1 := HB3.out.trans (hb.bel.mono HB3.out.size)
      have h2 := h1.trans (hs.toBelow h1.size (by simp))
      exact h2.trans (belowK_b (w := w) (Nat.le_refl _) u D _ _ (by have := HBW.out.size; have := HB3.out.size; omega) (HKd.out u hs) rfl rfl))
    have e0 := hb.e0
    have e1 := hb.e1
    have e2 : W.cell? ⟨w3.heap.size, 2, none⟩ = some (.string ⟨#[98, 10]⟩) := hb.e2
    have HS0 := Lib.hid (show ∀ u, Stay [] W u → u.cell? ⟨w3.heap.size + 1, 0, none⟩ = some (.string ⟨#[120, 121, 122]⟩) from fun u hs => (hs.cell_ (a := ⟨w3.heap.size + 1, 0, none⟩) (World.block_lt_of_cell? _ _ hb.s0) (by simp)).trans hb.s0)
    have hq : ∀ w, (binOp .eql 37 (.agg #[.int .i64 1, .int .i64 3, .string ⟨#[98, 10]⟩]) (.agg #[.int .i64 1, .int .i64 3, .string ⟨#[98, 10]⟩])).run Try.prog w = .ok (.bool true) w := fun w => by
      have h := edit_eql 1 3 1 3 ⟨#[98, 10]⟩ ⟨#[98, 10]⟩ w
      simpa using h
    have HTx := Lib.hid (show ∀ u b t, RopeAt u b t 1 → t.text = [97, 120, 121, 122, 99] → Calls Try.prog 19 #[.pointer (some ⟨b, 0, none⟩)] u fun e w' => e = .returned (.string ⟨#[97, 120, 121, 122, 99]⟩) ∧ Stay [] u w' from fun u b t h ht => by
      refine (text_any b t 1 u h).mono ?_
      rintro e w' ⟨rfl, hb⟩
      exact ⟨by rw [ht]; rfl, Stay.below hb⟩)
    have HLn := Lib.hid (show ∀ u, Stay [] W u → Calls Try.prog 23 #[.pointer (some ⟨rb, 0, none⟩)] u fun e w' => e = .returned (.int .i64 5) ∧ Stay [] u w' from fun u hs => by
      have h := len_any rb t3 1 u (HR.out u hs)
      rw [Rp.len, HT3.out] at h
      exact h)
    have HLs := Lib.hid (show ∀ u, Stay [] W u → Calls Try.prog 22 #[.pointer (some ⟨rb, 0, none⟩)] u fun e w' => e = .returned (.int .i64 1) ∧ Stay [] u w' from fun u hs => by
      have h := lines_any rb t3 1 u (HR.out u hs)
      rw [Rp.nls, HT3.out] at h
      exact h)
    have HSl := Lib.hid (show ∀ u, Stay [] W u → Calls Try.prog 25 #[.pointer (some ⟨rb, 0, none⟩), .int .i64 (-5), .int .i64 7] u fun e w' => e = .returned (.string ⟨#[97, 120]⟩) ∧ Stay [] u w' from fun u hs => by
      refine (slicer_any rb t3 1 (-5) 7 u (HR.out u hs) (by omega) (by omega)).mono ?_
      rintro e w' ⟨rfl, hb⟩
      exact ⟨by rw [Rp.len, HT3.out]; rfl, Stay.below hb⟩)
    have HSt := Lib.hid (fun u (hs : Stay [] W u) => stamp_any rb t3 1 u (HR.out u hs))
    have HLa := Lib.hid (show ∀ u, Stay [] W u → Calls Try.prog 26 #[.pointer (some ⟨rb, 0, none⟩), .int .i64 9] u fun e w' => e = .returned (.int .i64 0) ∧ Stay [] u w' from fun u hs => by
      refine (lineat_any rb t3 1 9 u (HR.out u hs)).mono ?_
      rintro e w' ⟨rfl, hb⟩
      exact ⟨by rw [Rp.len, HT3.out]; rfl, Stay.below hb⟩)
    have HTw := Lib.hid (fun u (hs : Stay [] W u) => twin_any rb t3 1 u (HR.out u hs))
    clear hb hK
    gi_wp2
    refine ⟨trivial, (callsIn_wide.2 (HTx.out W rb t3 (HR.out W (Stay.refl _ _)) HT3.out)).mono ?_⟩
    rintro e u1 ⟨rfl, hs⟩
    have HU1 := Lib.hid hs
    clear hs
    gi_wp2
    refine ⟨trivial, (callsIn_wide.2 (HLn.out _ HU1.out)).mono ?_⟩
    rintro e u2 ⟨rfl, hs⟩
    have HU2 := Lib.hid (HU1.out.trans hs)
    clear hs
    gi_wp2
    refine ⟨trivial, (callsIn_wide.2 (HLs.out _ HU2.out)).mono ?_⟩
    rintro e u3 ⟨rfl, hs⟩
    have HU3 := Lib.hid (HU2.out.trans hs)
    clear hs
    gi_wp2
    refine ⟨trivial, (callsIn_wide.2 (HSl.out _ HU3.out)).mono ?_⟩
    rintro e u4 ⟨rfl, hs⟩
    have HU4 := Lib.hid (HU3.out.trans hs)
    have s4 := HS0.out _ HU4.out
    clear hs
    gi_wp2
    refine ⟨trivial, (callsIn_wide.2 (HSt.out _ HU4.out)).mono ?_⟩
    rintro e u5 ⟨rfl, rfl⟩
    gi_wp2
    refine ⟨trivial, (callsIn_wide.2 (HLa.out _ HU4.out)).mono ?_⟩
    rintro e u6 ⟨rfl, hs⟩
    have HU6 := Lib.hid (HU4.out.trans hs)
    clear hs
    gi_wp2
    refine ⟨trivial, (callsIn_wide.2 (HTw.out _ HU6.out)).mono ?_⟩
    rintro e u7 ⟨b, rfl, hge7, hr7, hb7⟩
    have HU7 := Lib.hid (HU6.out.trans (Stay.below hb7))
    have HR7 := Lib.hid hr7
    clear hr7 hb7 hge7
    gi_wp2
    refine ⟨trivial, (callsIn_wide.2 (HTx.out _ b t3 HR7.out HT3.out)).mono ?_⟩
    rintro e u8 ⟨rfl, hs⟩
    have HU8 := Lib.hid (HU7.out.trans hs)
    clear hs
    gi_wp2
    refine ⟨by simp, .inl ⟨_, _, rfl, run_takeDeferred (HKd.out _ HU8.out), ?_⟩⟩
    exact ⟨_, results_tmp rfl _ _ _, rfl, HBd.out _ HU8.out⟩
  case stop =>
    rintro D c pre W _ _ h _
    exact h.elim
end Go.Proofs.Ytjoeebjmjnddoaa
