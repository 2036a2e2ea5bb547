/- shuttlelaw18: RopeNil: the walk. -/
import Derived.Test.YtjoeebjmjnddoaaRnil
namespace Go.Proofs.Ytjoeebjmjnddoaa
open Go.RowKit Go.Shelf
attribute [local go_sem] Oper.semAt_some
theorem func_nil' (f : FuncId) (x y : Array Value) (w : World) : (binOp .eql 32 (.func (.func f) x y) .nilFunc).run Try.prog w = .ok (.bool false) w := func_nil f x y w
/-- what the loop keeps: the edit that was told, the step, the answer's box -/
structure Nil0 (w0 : World) (bS bR bE : Nat) (a n : Int) (W : World) : Prop where
  s2 : W.cell? ⟨bS, 4, none⟩ = some (.int .i64 a)
  s3 : W.cell? ⟨bS, 5, none⟩ = some (.int .i64 n)
  r0 : W.cell? ⟨bR, 0, none⟩ = some (.bool false)
  rf : W.frozen? ⟨bR, 0, none⟩ = false
  e0 : W.cell? ⟨bE, 0, none⟩ = some (.int .i64 0)
  e1 : W.cell? ⟨bE, 1, none⟩ = some (.int .i64 0)
  e2 : W.cell? ⟨bE, 2, none⟩ = some (.string ⟨#[]⟩)
  bel : Below w0.heap.size w0 W
theorem nil0_own {w0 : World} {bS bR bE Bl : Nat} {a n : Int} (hB : w0.heap.size ≤ Bl) : OwnFrom Bl (fun (_ : List (Nat × List UInt8)) W => Nil0 w0 bS bR bE a n W) := fun pre A A' row hs hg hr => by
  have hr' : ∀ r, row = some r → ∃ o : Obj, A.heap[r]? = some o ∧ o.isCells = false := fun r e => (hr r e).2
  exact ⟨cell_kept hs.s2 hg hr', cell_kept hs.s3 hg hr', cell_kept hs.r0 hg hr', (frozen_kept hs.r0 hg hr').trans hs.rf, cell_kept hs.e0 hg hr', cell_kept hs.e1 hg hr', cell_kept hs.e2 hg hr', hs.bel.grown hg hs.bel.size (fun k e => Nat.le_trans hB (hr k e).1)⟩
theorem Nil0.stay {w0 : World} {bS bR bE : Nat} {a n : Int} {W W' : World} (h : Nil0 w0 bS bR bE a n W) (hs : Stay [] W W') : Nil0 w0 bS bR bE a n W' := by
  have hk : ∀ (b j : Nat) (u : Value), W.cell? ⟨b, j, none⟩ = some u → W'.cell? ⟨b, j, none⟩ = some u := fun b j u hu => (hs.cell_ (a := ⟨b, j, none⟩) (World.block_lt_of_cell? _ _ hu) (by simp)).trans hu
  have hf : W'.frozen? ⟨bR, 0, none⟩ = W.frozen? ⟨bR, 0, none⟩ := by
    have := hs.block bR (World.block_lt_of_cell? _ _ h.r0) (by simp)
    unfold World.frozen?
    rw [show (⟨bR, 0, none⟩ : Addr).block = bR from rfl, this]
  exact ⟨hk _ _ _ h.s2, hk _ _ _ h.s3, hk _ _ _ h.r0, hf.trans h.rf, hk _ _ _ h.e0, hk _ _ _ h.e1, hk _ _ _ h.e2, h.bel.trans (hs.toBelow h.bel.size (by simp))⟩
set_option maxRecDepth 100000 in
set_option maxHeartbeats 16000000 in
theorem nillaw_any (d a1 d1 : Int) (s1 : ByteArray) (a n : Int) (w : World) : Calls Try.prog 6 #[.agg #[.int .i64 d, .int .i64 a1, .int .i64 d1, .string s1, .int .i64 a, .int .i64 n]] w fun e w' => e = .returned (.bool true) ∧ Below w.heap.size w w' := by
  have HDo := Lib.hid (fun u => do_nil a1 d1 s1 u)
  have HLi := Lib.hid (fun u => line_nil n u)
  have HPi := Lib.hid (fun u => pieces_nil a n u)
  have HBx := Lib.hid (show ∃ W0, W0 = (w.alloc (.cells #[.int .i64 d, .int .i64 a1, .int .i64 d1, .string s1, .int .i64 a, .int .i64 n] 39)).alloc (.cells #[.bool false] 4) ∧ Stay [] w W0 ∧ Blk W0 w.heap.size [.int .i64 d, .int .i64 a1, .int .i64 d1, .string s1, .int .i64 a, .int .i64 n] 39 ∧ Blk W0 (w.heap.size + 1) [.bool false] 4 from by
    refine ⟨_, rfl, (Stay.alloc _ _).alloc', (Blk.new w [.int .i64 d, .int .i64 a1, .int .i64 d1, .string s1, .int .i64 a, .int .i64 n] 39).stay (F := []) (Stay.alloc _ _) (by simp), ?_⟩
    have h := Blk.new (w.alloc (.cells #[.int .i64 d, .int .i64 a1, .int .i64 d1, .string s1, .int .i64 a, .int .i64 n] 39)) [.bool false] 4
    rw [size_alloc'] at h
    exact h)
  obtain ⟨W0, hW0, hs0, hb0, hb1⟩ := HBx.out
  have HW0 := Lib.hid hW0
  have HS0 := Lib.hid hs0
  have HB0 := Lib.hid hb0
  have HB1 := Lib.hid hb1
  have c1 : W0.cell? ⟨w.heap.size, 1, none⟩ = some (.int .i64 a1) := hb0.cell 1
  have c2 : W0.cell? ⟨w.heap.size, 2, none⟩ = some (.int .i64 d1) := hb0.cell 2
  have c3 : W0.cell? ⟨w.heap.size, 3, none⟩ = some (.string s1) := hb0.cell 3
  clear hW0 hs0 hb0 hb1 HBx
  refine (callsIn_wide (n := 3)).1 ?_
  refine callsIn_of_wp_marks Try.func6 rfl trivial ?_ rfl
  simp only [Try.ntmps6, List.size_toArray, List.length_cons, List.length_nil, Nat.reduceAdd, Nat.reduceSub, Array.replicate_succ, Array.replicate_zero, List.push_toArray, List.append_toArray, List.nil_append, List.cons_append]
  gi_wp2
  rw [← HW0.out]
  refine ⟨trivial, (callsIn_wide.2 (HDo.out W0)).mono ?_⟩
  rintro e w1 ⟨rfl, hb⟩
  have HT1 := Lib.hid (show Stay [] W0 w1 from Stay.below hb)
  obtain ⟨bS, hbS⟩ : ∃ b, b = w.heap.size := ⟨_, rfl⟩
  rw [← hbS] at c1 c2 c3 HB0 HB1 ⊢
  have HbS := Lib.hid hbS
  clear c1 c2 c3 hb hbS
  have HE := Lib.hid (show ∃ W2, W2 = w1.alloc (.cells #[.int .i64 0, .int .i64 0, .string ⟨#[]⟩] 37) ∧ Nil0 w bS (bS + 1) w1.heap.size a n W2 from by
    have h1 := HB0.out.stay (HT1.out.alloc' (o := .cells #[.int .i64 0, .int .i64 0, .string ⟨#[]⟩] 37)) (by simp)
    have h2 := HB1.out.stay (HT1.out.alloc' (o := .cells #[.int .i64 0, .int .i64 0, .string ⟨#[]⟩] 37)) (by simp)
    have h3 := Blk.new w1 [.int .i64 0, .int .i64 0, .string ⟨#[]⟩] 37
    exact ⟨_, rfl, h1.cell 4, h1.cell 5, h2.cell 0, h2.free 0, h3.cell 0, h3.cell 1, h3.cell 2, (HS0.out.trans HT1.out.alloc').toBelow (Nat.le_refl _) (by simp)⟩)
  obtain ⟨W2, hW2, hN2⟩ := HE.out
  have HW2 := Lib.hid hW2
  have HN2 := Lib.hid hN2
  have c4 := hN2.s2
  have c5 := hN2.s3
  have c5b := hN2.s3
  rw [hW2] at c5b
  clear hW2 hN2 HE
  gi_wp2
  rw [← HW2.out]
  refine ⟨trivial, (callsIn_wide.2 (HLi.out W2)).mono ?_⟩
  rintro e w3 ⟨rfl, rfl⟩
  gi_wp2
  refine ⟨trivial, (callsIn_wide.2 (HPi.out W2)).mono ?_⟩
  rintro e w4 ⟨rfl, rfl⟩
  have hfn := func_nil'
  have hst := none_stops 2 W2
  obtain ⟨bE, hbE⟩ : ∃ b, b = w1.heap.size := ⟨_, rfl⟩
  rw [← hbE] at HN2 ⊢
  clear hbE c4 c5 c5b
  have hbel := HN2.out.bel
  gi_wp2
  refine frame_named (fun A hA => ?_)
  refine wpIn_rangeFunc_ownF (F := Fence.wide) rfl (by omega) (gf := 39) (lb := #[]) (by rw [hA]; rfl) trivial (enters_of Try.func39 (by kernel_rfl) rfl) hst belowK_t (belowK_b (Nat.le_refl _)) (Below.refl _ _) (fun _ => rfl)
    (fun pre W => Nil0 w bS (bS + 1) bE a n W) (fun _ _ _ => False)
    (nil0_own hbel.size) (fun _ _ _ _ _ hs _ _ => hs) HN2.out
    (fun x => { tmps := (A.tmps.setIfInBounds 32 (.int .i64 (clipA x.1))).setIfInBounds 33 (.string (str (clipS x.2))), defers := [] }) ?assign ?body ?done ?stop
  case assign =>
    intro l x W K hK
    subst hA
    unfold encP
    gi_wp2
    exact hK
  case body =>
    rintro l pre x W _ hpl
    exact absurd hpl (Nat.not_lt_zero _)
  case done =>
    rintro D ys W hD rfl hN hK
    subst hA
    have HN := Lib.hid (show ∀ u, Stay [] W u → Nil0 w bS (bS + 1) bE a n u from fun u hs => hN.stay hs)
    have HKd := Lib.hid (show ∀ u, Stay [] W u → u.heap[D]? = some (.deferred (some [])) from fun u hs => (hs.block D (Array.getElem?_eq_some_iff.1 hK).1 (by simp)).trans hK)
    have HDl := Lib.hid (show W2.heap.size ≤ D from hD)
    have HDne := Lib.hid (show D ≠ bS + 1 from fun e => by
      have h1 := World.block_lt_of_cell? _ _ HN2.out.r0
      simp only at h1
      omega)
    have c0 := hN.e0
    have c1 := hN.e1
    have c2 := hN.e2
    have hq : ∀ w, (binOp .eql 37 (.agg #[.int .i64 0, .int .i64 0, .string ⟨#[]⟩]) (.agg #[.int .i64 0, .int .i64 0, .string ⟨#[]⟩])).run Try.prog w = .ok (.bool true) w := fun w => by
      have h := edit_eql 0 0 0 0 ⟨#[]⟩ ⟨#[]⟩ w
      simpa using h
    clear hN hK hD
    gi_wp2
    refine ⟨trivial, (callsIn_wide.2 (len_nil W)).mono ?_⟩
    rintro e u1 ⟨rfl, rfl⟩
    gi_wp2
    refine ⟨trivial, (callsIn_wide.2 (lines_nil W)).mono ?_⟩
    rintro e u1 ⟨rfl, rfl⟩
    gi_wp2
    refine ⟨trivial, (callsIn_wide.2 (text_nil W)).mono ?_⟩
    rintro e u1 ⟨rfl, hb⟩
    have HU1 := Lib.hid (show Stay [] W u1 from Stay.below hb)
    have d4 := (HN.out u1 HU1.out).s2
    have d5 := (HN.out u1 HU1.out).s3
    clear hb
    gi_wp2
    refine ⟨trivial, (callsIn_wide.2 (slicer_nil a n u1)).mono ?_⟩
    rintro e u2 ⟨rfl, hb⟩
    have HU2 := Lib.hid (HU1.out.trans (Stay.below hb))
    have f4 := (HN.out u2 HU2.out).s2
    clear hb
    gi_wp2
    refine ⟨trivial, (callsIn_wide.2 (lineat_nil a u2)).mono ?_⟩
    rintro e u3 ⟨rfl, rfl⟩
    gi_wp2
    refine ⟨trivial, (callsIn_wide.2 (stamp_nil u2)).mono ?_⟩
    rintro e u3 ⟨rfl, rfl⟩
    gi_wp2
    refine ⟨trivial, (callsIn_wide.2 (twin_nil u2)).mono ?_⟩
    rintro e u3 ⟨rfl, rfl⟩
    gi_wp2
    refine ⟨trivial, (callsIn_wide.2 (alive_any u2)).mono ?_⟩
    rintro e u3 ⟨rfl, hb⟩
    have HU3 := Lib.hid (HU2.out.trans (Stay.below hb))
    have r3 := (HN.out u3 HU3.out).r0
    have rf3 := (HN.out u3 HU3.out).rf
    clear hb
    have hK' : (u3.setCell ⟨bS + 1, 0, none⟩ (.bool true)).heap[D]? = some (.deferred (some [])) := (KeepsOthers.setCell _ _ _).same D _ (HKd.out _ HU3.out) rfl
    have hr' : (u3.setCell ⟨bS + 1, 0, none⟩ (.bool true)).cell? ⟨bS + 1, 0, none⟩ = some (.bool true) := World.cell?_setCell_same' _ _ _ (by rw [r3]; rfl)
    have hr2 : ((u3.setCell ⟨bS + 1, 0, none⟩ (.bool true)).putObj D (.deferred none)).cell? ⟨bS + 1, 0, none⟩ = some (.bool true) := cell_kept hr' (grownBy_putObj' _ D (.deferred none)) (fun r e => by cases e; exact ⟨_, hK', rfl⟩)
    have HKf := Lib.hid hK'
    have HRf := Lib.hid hr2
    have HBf := Lib.hid (show Below w.heap.size w ((u3.setCell ⟨bS + 1, 0, none⟩ (.bool true)).putObj D (.deferred none)) from by
      have h1 := ((HN.out u3 HU3.out).bel).setCell (p := ⟨bS + 1, 0, none⟩) (by rw [HbS.out]; exact Nat.le_succ _) (.bool true)
      exact h1.trans (belowK_b (w := w) (Nat.le_refl _) _ D _ _ (by have := HDl.out; have := hbel.size; omega) hK' rfl rfl))
    clear hK' hr' hr2
    gi_wp2
    refine ⟨by simp, .inl ⟨_, _, rfl, run_takeDeferred HKf.out, ?_⟩⟩
    exact ⟨.bool true, by simp [results, Try.results6, go_sem, HRf.out], rfl, HBf.out⟩
  case stop =>
    rintro D c pre W _ _ h _
    exact h.elim
end Go.Proofs.Ytjoeebjmjnddoaa
