/- slices' stable sort at items: insertionSort: the walk. -/
import Derived.Test.YtlphmcodajookaaDoorNsymI3
import Derived.Test.YtlphmcodajookaaDoorNinsR
import Derived.Shelf.SlSortCmp.QuietGrown
namespace Go.Proofs.YtlphmcodajookaaDoor
open Go.RowKit Go.Sort
set_option maxRecDepth 20000 in
set_option maxHeartbeats 16000000 in
theorem insI_any (w : World) (g o c pb : Nat) (pre post : List Value) (P A Q : List It) (N a b : Nat) (h : SegI w g pre (P ++ (A ++ Q)) post) (ho : o = pre.length) (hN : N = (P ++ (A ++ Q)).length)
    (ha : a = P.length) (hb : b = P.length + A.length) (hL : N ≤ 2305843009213693952) (hp : w.cell? ⟨pb, 0, none⟩ = some (.func (.func 116) #[] #[])) (hne : pb ≠ g) :
    Calls Tryd.prog 143 #[.slice (some ⟨g, o, none⟩) N c, .int .i64 a, .int .i64 b, cmpFnI pb] w fun e w' => e = .returned (.tuple #[]) ∧ (∃ C, Stab keyI A C ∧ SegI w' g pre (P ++ (C ++ Q)) post) ∧ Stay [g] w w' := by
  have HS := Lib.hid h
  have HR := Lib.hid (Stay.refl [g] w)
  have HO := Lib.hid ho
  have HN := Lib.hid (show N = P.length + A.length + Q.length from by rw [hN]; simp only [List.length_append]; omega)
  have HC := Lib.hid (show ∀ (u : World) (y z : It), Stay [g] w u → Calls Tryd.prog 131 #[.agg #[.int .i32 y.r, .int .u8 y.b.toNat, .bool y.bad, .int .u8 (keyI y)], .agg #[.int .i32 z.r, .int .u8 z.b.toNat, .bool z.bad, .int .u8 (keyI z)], .pointer (some ⟨pb, 0, none⟩)] u fun e w' => e = .returned (.int .i64 (cmp8 (keyI y) (keyI z))) ∧ ∃ q os, w' = grow (u.drewN q) os from fun u y z hu => cmpI_any y z pb u ((hu.cell_ (a := ⟨pb, 0, none⟩) (World.block_lt_of_cell? _ _ hp) (by simpa using hne)).trans hp))
  have HM := Lib.hid (show a = P.length ∧ b = a + A.length ∧ b ≤ N ∧ N ≤ 2305843009213693952 from by have := HN.out; omega)
  obtain ⟨a1, ha1⟩ : ∃ a1, a1 = a + 1 := ⟨_, rfl⟩
  have w0 : IntKind.i64.wrap ((a : Int) + 1) = a1 := by have := HM.out; simp only [IntKind.wrap, IntKind.bits, IntKind.signed]; simp; omega
  have HA1 := Lib.hid ha1
  unfold cmpFnI
  clear h ho hN ha hb hL hp hne ha1
  by_cases hA0 : A = []
  · subst hA0
    have hlt : ¬ (a1 : Int) < b := by have := HM.out; have := HA1.out; simp at *; omega
    go_enter Tryd.func143, Tryd.ntmps143
    go_upto_region 1 with fail
    refine wp_loop_rounds 1 ?_
    rw [rounds_succ]
    go_wp2_with fail
    go_end0
    exact ⟨rfl, ⟨[], ⟨List.Pairwise.nil, fun _ => rfl⟩, HS.out⟩, HR.out⟩
  · have HA0 := Lib.hid (show 1 ≤ A.length from List.length_pos_iff.2 hA0)
    clear hA0
    go_enter Tryd.func143, Tryd.ntmps143
    go_wp2_with fail
    go_loopw [8] (fun iv wr => ∃ (i u : Nat) (C : List It), iv = .int .i64 i ∧ Hid (i = a + u) ∧ 1 ≤ u ∧ u ≤ A.length ∧ Hid (Stab keyI (A.take u) C) ∧ Hid (SegI wr g pre (P ++ (C ++ (A.drop u ++ Q))) post) ∧ Hid (Stay [g] w wr)) (fun iv _ => b - (intOf iv).toNat)
    case atStart =>
      refine ⟨a1, 1, A.take 1, rfl, HA1, Nat.le_refl _, HA0.out, ⟨?_, fun _ => rfl⟩, ?_, HR⟩
      · cases A with
        | nil => exact List.Pairwise.nil
        | cons x A => simp
      · show SegI _ _ _ _ _
        rw [← List.append_assoc (A.take 1), List.take_append_drop]
        exact HS.out
    case round =>
      clear HS HR
      obtain ⟨i, u, C, rfl, HI, hu1, hu, HSt, HS, HR⟩ := hrel
      have hi := HI.out
      have hm := HM.out
      by_cases hub : u < A.length
      · have hib : (i : Int) < b := by omega
        obtain ⟨y, hy⟩ : ∃ y, A[u]? = some y := ⟨_, List.getElem?_eq_getElem hub⟩
        have hd : A.drop u = y :: A.drop (u + 1) := by
          obtain ⟨hl, e1⟩ := List.getElem?_eq_some_iff.1 hy
          rw [List.drop_eq_getElem_cons hl, e1]
        have ht : A.take (u + 1) = A.take u ++ [y] := by rw [List.take_add_one, hy]; rfl
        have HCl := Lib.hid (show C.length = u from by rw [HSt.out.perm.length_eq, List.length_take]; omega)
        obtain ⟨R, hR⟩ : ∃ R, R = A.drop (u + 1) ++ Q := ⟨_, rfl⟩
        have HS0 := Lib.hid (show SegI wr g pre (P ++ (C ++ (y :: ([] ++ R)))) post from by
          have := HS.out
          rw [hd] at this
          rw [hR]; exact this)
        have HT := Lib.hid (And.intro ht (And.intro hR hub))
        have HNx := Lib.hid (show b ≤ N ∧ i < b ∧ IntKind.i64.wrap ((i : Int) + 1) = ((i : Int) + 1) from ⟨hm.2.2.1, by omega, by simp only [IntKind.wrap, IntKind.bits, IntKind.signed]; simp; omega⟩)
        clear hi hm hy hd ht hR hub HS
        go_wp2_with fail
        go_loopw [9] (fun jv wr => ∃ (j : Nat) (C1 C2 : List It), jv = .int .i64 j ∧ Hid (j = a + C1.length ∧ C = C1 ++ C2 ∧ ∀ z ∈ C2, keyI y < keyI z) ∧ Hid (SegI wr g pre (P ++ (C1 ++ (y :: (C2 ++ R)))) post) ∧ Hid (Stay [g] w wr)) (fun jv _ => (intOf jv).toNat)
        case atStart => exact ⟨i, C, [], rfl, ⟨by have := HI.out; have := HCl.out; omega, by simp, by simp⟩, HS0, HR⟩
        case round =>
          clear HS0 HR
          obtain ⟨j, C1, C2, rfl, HJ, HS, HR⟩ := hrel
          have hj := HJ.out
          have hm := HM.out
          have hn := HN.out
          have hcl := HCl.out
          have hlenC : C1.length + C2.length = u := by rw [← hcl, hj.2.1, List.length_append]
          have hnx := HNx.out.2.2
          have hnb := HNx.out
          -- out of the inner loop
          have HOut := Lib.hid (show (∀ x ∈ C1, keyI x ≤ keyI y) → Stab keyI (A.take (u + 1)) (C1 ++ y :: C2) from fun hx => by
            rw [HT.out.1]
            refine HSt.out.snoc ?_
            rw [hj.2.1]
            exact stab_one_right (by have := HSt.out.1; rw [hj.2.1] at this; exact this) hx hj.2.2)
          have HNext := Lib.hid (show SegI wr g pre (P ++ ((C1 ++ y :: C2) ++ (A.drop (u + 1) ++ Q))) post from by
            have := HS.out
            rw [HT.out.2.1] at this
            simpa using this)
          have HFinal := Lib.hid (show i + 1 = a + (u + 1) ∧ u + 1 ≤ A.length from ⟨by have := HI.out; omega, HT.out.2.2⟩)
          rcases List.eq_nil_or_concat C1 with hC1 | ⟨C1', z, hC1⟩
          · subst hC1
            have hja : ¬ (a : Int) < j := by have := hj.1; simp at this; omega
            have hjd : decide ((a : Int) < j) = false := decide_eq_false hja
            have hjd2 : decide (a < j) = false := decide_eq_false (by omega)
            clear hj hm hn hcl hlenC hnb
            go_upto_region 4 with fail
            go_quiet (fail)
            go_wp2_with fail
            go_roundw
            case rel => exact ⟨i + 1, u + 1, _, by go_num, HFinal.out.1, by omega, HFinal.out.2, HOut.out (by simp), HNext.out.stay (F := []) (Stay.drewN _ _) (by simp), HR.out.drewN'⟩
            case measure => have := HNx.out; simp [intOf]; omega
          · rw [List.concat_eq_append] at hC1
            subst hC1
            have hj1 := hj.1
            rw [List.length_append, List.length_singleton] at hj1 hlenC
            obtain ⟨k1, hk1⟩ : ∃ k1, j = k1 + 1 := ⟨a + C1'.length, by omega⟩
            have hja : (a : Int) < j := by omega
            have hjd : decide ((a : Int) < j) = true := decide_eq_true hja
            have hjd2 : decide (a < j) = true := decide_eq_true (by omega)
            have v1 : IntKind.i64.wrap ((j : Int) - 1) = (k1 : Int) := by simp only [IntKind.wrap, IntKind.bits, IntKind.signed]; simp; omega
            have hseg : SegI wr g pre ((P ++ C1') ++ z :: y :: (C2 ++ R)) post := by
              have := HS.out
              have e : P ++ ((C1' ++ [z]) ++ (y :: (C2 ++ R))) = (P ++ C1') ++ z :: y :: (C2 ++ R) := by simp
              rw [← e]; exact this
            have hpl : (P ++ C1').length = k1 := by rw [List.length_append]; omega
            have hx0 : ((P ++ C1') ++ z :: y :: (C2 ++ R))[k1]? = some z := by rw [← hpl]; simp
            have hy0 : ((P ++ C1') ++ z :: y :: (C2 ++ R))[j]? = some y := by
              rw [List.getElem?_append_right (by omega), show j - (P ++ C1').length = 1 by omega]; rfl
            have hcz := hseg.cell hx0
            have hcy := hseg.cell hy0
            rw [← HO.out] at hcz hcy
            obtain ⟨cz0, cz1, cz2, cz3⟩ := hcz
            obtain ⟨cy0, cy1, cy2, cy3⟩ := hcy
            have hgl := hseg.lt
            have pz0 : ∀ n os, (grow (wr.drewN n) os).cell? ⟨g, o + k1 * 4, none⟩ = some (.int .i32 z.r) := fun n os => cell_grown hgl cz0 n os
            have pz1 : ∀ n os, (grow (wr.drewN n) os).cell? ⟨g, o + k1 * 4 + 1, none⟩ = some (.int .u8 z.b.toNat) := fun n os => cell_grown hgl cz1 n os
            have pz2 : ∀ n os, (grow (wr.drewN n) os).cell? ⟨g, o + k1 * 4 + 2, none⟩ = some (.bool z.bad) := fun n os => cell_grown hgl cz2 n os
            have pz3 : ∀ n os, (grow (wr.drewN n) os).cell? ⟨g, o + k1 * 4 + 3, none⟩ = some (.int .u8 (keyI z)) := fun n os => cell_grown hgl cz3 n os
            have py0 : ∀ n os, (grow (wr.drewN n) os).cell? ⟨g, o + j * 4, none⟩ = some (.int .i32 y.r) := fun n os => cell_grown hgl cy0 n os
            have py1 : ∀ n os, (grow (wr.drewN n) os).cell? ⟨g, o + j * 4 + 1, none⟩ = some (.int .u8 y.b.toNat) := fun n os => cell_grown hgl cy1 n os
            have py2 : ∀ n os, (grow (wr.drewN n) os).cell? ⟨g, o + j * 4 + 2, none⟩ = some (.bool y.bad) := fun n os => cell_grown hgl cy2 n os
            have py3 : ∀ n os, (grow (wr.drewN n) os).cell? ⟨g, o + j * 4 + 3, none⟩ = some (.int .u8 (keyI y)) := fun n os => cell_grown hgl cy3 n os
            obtain ⟨r, hr⟩ : ∃ r, r = cmp8 (keyI y) (keyI z) := ⟨_, rfl⟩
            have HCr := Lib.hid (show ∀ n os, Calls Tryd.prog 131 #[.agg #[.int .i32 y.r, .int .u8 y.b.toNat, .bool y.bad, .int .u8 (keyI y)], .agg #[.int .i32 z.r, .int .u8 z.b.toNat, .bool z.bad, .int .u8 (keyI z)], .pointer (some ⟨pb, 0, none⟩)] (grow (wr.drewN n) os) fun e w' => e = .returned (.int .i64 r) ∧ ∃ q os', w' = grow ((grow (wr.drewN n) os).drewN q) os' from fun n os => by
              rw [hr]
              exact HC.out _ y z (HR.out.trans (Stay.grow_ wr n os)))
            have HRr := Lib.hid (show r < 0 ↔ keyI y < keyI z from by
              rw [hr]; unfold cmp8
              split
              · omega
              · split <;> omega)
            have i0 : (0 : Int) ≤ j := by omega
            have j0 : (0 : Int) ≤ k1 := by omega
            have hju : j < a + A.length := by have := HFinal.out.2; omega
            have iN : (j : Int) < N := by omega
            have jN : (k1 : Int) < N := by omega
            have iN2 : decide (N ≤ j) = false := decide_eq_false (by omega)
            have jN2 : decide (N ≤ k1) = false := decide_eq_false (by omega)
            have mixed : Tryd.prog.follows Departure.mixedOrders = true := by kernel_rfl
            have HSg := Lib.hid hseg
            have HIdx := Lib.hid (show j = k1 + 1 ∧ k1 = a + C1'.length ∧ o + j ≠ o + k1 from by omega)
            have HGet := Lib.hid (And.intro hx0 (And.intro hy0 hpl))
            have HOrd := Lib.hid (show ∀ x ∈ C1' ++ [z], keyI x ≤ keyI z from fun x hx => by
              have h1 := HSt.out.1
              rw [hj.2.1, List.pairwise_append, List.pairwise_append] at h1
              rw [List.mem_append, List.mem_singleton] at hx
              rcases hx with hx | hx
              · exact h1.1.2.2 x hx z (by simp)
              · rw [hx]; exact Int.le_refl _)
            have HJ2 := Lib.hid (And.intro hj.2.1 hj.2.2)
            clear hj hj1 hm hn hcl hlenC hnb hju hseg hpl hx0 hy0 cz0 cz1 cz2 cz3 cy0 cy1 cy2 cy3 hgl hr hk1
            go_upto_region 4 with fail
            by_cases hrn : r < 0
            · go_quiet_grown (first | (go_at_call 131; exact Calls.grown_of (HCr.out _ _)))
              obtain ⟨W2, hW2⟩ : ∃ W, W = grow (wr.drewN nq) osq := ⟨_, rfl⟩
              rw [← hW2]
              have hst : Stay [] wr W2 := by rw [hW2]; exact Stay.grow_ wr nq osq
              have hs2 := HSg.out.stay hst (by simp)
              have HS2 := Lib.hid hs2
              have HR2 := Lib.hid (HR.out.trans (hst.mono (by simp)))
              obtain ⟨qz0, qz1, qz2, qz3⟩ := hs2.cell HGet.out.1
              obtain ⟨qy0, qy1, qy2, qy3⟩ := hs2.cell HGet.out.2.1
              rw [← HO.out] at qz0 qz1 qz2 qz3 qy0 qy1 qy2 qy3
              have fz0 : W2.frozen? ⟨g, o + k1 * 4, none⟩ = false := hs2.free _
              have fz1 : W2.frozen? ⟨g, o + k1 * 4 + 1, none⟩ = false := hs2.free _
              have fz2 : W2.frozen? ⟨g, o + k1 * 4 + 2, none⟩ = false := hs2.free _
              have fz3 : W2.frozen? ⟨g, o + k1 * 4 + 3, none⟩ = false := hs2.free _
              have fy0 : W2.frozen? ⟨g, o + j * 4, none⟩ = false := hs2.free _
              have fy1 : W2.frozen? ⟨g, o + j * 4 + 1, none⟩ = false := hs2.free _
              have fy2 : W2.frozen? ⟨g, o + j * 4 + 2, none⟩ = false := hs2.free _
              have fy3 : W2.frozen? ⟨g, o + j * 4 + 3, none⟩ = false := hs2.free _
              have n00 : o + j * 4 ≠ o + k1 * 4 := by have := HIdx.out; omega
              have m00 : o + k1 * 4 ≠ o + j * 4 := by have := HIdx.out; omega
              have n01 : o + j * 4 ≠ o + k1 * 4 + 1 := by have := HIdx.out; omega
              have m01 : o + k1 * 4 + 1 ≠ o + j * 4 := by have := HIdx.out; omega
              have n02 : o + j * 4 ≠ o + k1 * 4 + 2 := by have := HIdx.out; omega
              have m02 : o + k1 * 4 + 2 ≠ o + j * 4 := by have := HIdx.out; omega
              have n03 : o + j * 4 ≠ o + k1 * 4 + 3 := by have := HIdx.out; omega
              have m03 : o + k1 * 4 + 3 ≠ o + j * 4 := by have := HIdx.out; omega
              have n10 : o + j * 4 + 1 ≠ o + k1 * 4 := by have := HIdx.out; omega
              have m10 : o + k1 * 4 ≠ o + j * 4 + 1 := by have := HIdx.out; omega
              have n11 : o + j * 4 + 1 ≠ o + k1 * 4 + 1 := by have := HIdx.out; omega
              have m11 : o + k1 * 4 + 1 ≠ o + j * 4 + 1 := by have := HIdx.out; omega
              have n12 : o + j * 4 + 1 ≠ o + k1 * 4 + 2 := by have := HIdx.out; omega
              have m12 : o + k1 * 4 + 2 ≠ o + j * 4 + 1 := by have := HIdx.out; omega
              have n13 : o + j * 4 + 1 ≠ o + k1 * 4 + 3 := by have := HIdx.out; omega
              have m13 : o + k1 * 4 + 3 ≠ o + j * 4 + 1 := by have := HIdx.out; omega
              have n20 : o + j * 4 + 2 ≠ o + k1 * 4 := by have := HIdx.out; omega
              have m20 : o + k1 * 4 ≠ o + j * 4 + 2 := by have := HIdx.out; omega
              have n21 : o + j * 4 + 2 ≠ o + k1 * 4 + 1 := by have := HIdx.out; omega
              have m21 : o + k1 * 4 + 1 ≠ o + j * 4 + 2 := by have := HIdx.out; omega
              have n22 : o + j * 4 + 2 ≠ o + k1 * 4 + 2 := by have := HIdx.out; omega
              have m22 : o + k1 * 4 + 2 ≠ o + j * 4 + 2 := by have := HIdx.out; omega
              have n23 : o + j * 4 + 2 ≠ o + k1 * 4 + 3 := by have := HIdx.out; omega
              have m23 : o + k1 * 4 + 3 ≠ o + j * 4 + 2 := by have := HIdx.out; omega
              have n30 : o + j * 4 + 3 ≠ o + k1 * 4 := by have := HIdx.out; omega
              have m30 : o + k1 * 4 ≠ o + j * 4 + 3 := by have := HIdx.out; omega
              have n31 : o + j * 4 + 3 ≠ o + k1 * 4 + 1 := by have := HIdx.out; omega
              have m31 : o + k1 * 4 + 1 ≠ o + j * 4 + 3 := by have := HIdx.out; omega
              have n32 : o + j * 4 + 3 ≠ o + k1 * 4 + 2 := by have := HIdx.out; omega
              have m32 : o + k1 * 4 + 2 ≠ o + j * 4 + 3 := by have := HIdx.out; omega
              have n33 : o + j * 4 + 3 ≠ o + k1 * 4 + 3 := by have := HIdx.out; omega
              have m33 : o + k1 * 4 + 3 ≠ o + j * 4 + 3 := by have := HIdx.out; omega
              have HSw := Lib.hid (show SegI (putW (putW W2 g (o + j * 4) z) g (o + k1 * 4) y) g pre (P ++ (C1' ++ (y :: ((z :: C2) ++ R)))) post from by
                have h9 := hs2.swap HGet.out.2.1 HGet.out.1
                rw [HO.out]
                have e2 : swap2 ((P ++ C1') ++ z :: y :: (C2 ++ R)) j k1 = P ++ (C1' ++ (y :: ((z :: C2) ++ R))) := by
                  have := swap2_prev (P ++ C1') (C2 ++ R) z y
                  rw [HGet.out.2.2, ← HIdx.out.1] at this
                  rw [this]; simp
                rw [← e2]
                exact h9)
              have HJn := Lib.hid (show k1 = a + C1'.length ∧ C = C1' ++ (z :: C2) ∧ ∀ x ∈ z :: C2, keyI y < keyI x from ⟨HIdx.out.2.1, by rw [HJ2.out.1]; simp, fun x hx => by
                rcases List.mem_cons.1 hx with e | e
                · rw [e]; exact HRr.out.1 hrn
                · exact HJ2.out.2 x e⟩)
              clear hW2 hst hs2 pz0 pz1 pz2 pz3 py0 py1 py2 py3 HS
              go_wp2_with fail
              go_region
              all_goals
                go_wp2_with fail
                go_roundw
                case rel => exact ⟨k1, C1', z :: C2, rfl, HJn, HSw.out.stay (F := []) (Stay.drew _) (by simp), ((HR2.out.putW (o + j * 4) (by simp) z).putW (o + k1 * 4) (by simp) y).drew'⟩
                case measure => have := HIdx.out; simp [intOf]; omega
            · go_quiet_grown (first | (go_at_call 131; exact Calls.grown_of (HCr.out _ _)))
              have HO2 := Lib.hid (HOut.out (fun x hx => by have h1 := HOrd.out x hx; have := mt HRr.out.2 hrn; omega))
              have HNx2 := Lib.hid (HNext.out.stay (F := []) (Stay.grow_ wr nq osq) (by simp))
              have HR2 := Lib.hid (HR.out.trans (Stay.grow_ wr nq osq))
              clear pz0 pz1 pz2 pz3 py0 py1 py2 py3 HS
              go_wp2_with fail
              go_roundw
              case rel => exact ⟨i + 1, u + 1, _, by go_num, HFinal.out.1, by omega, HFinal.out.2, HO2, HNx2, HR2⟩
              case measure => have := HNx.out; simp [intOf]; omega
      · have hu2 : u = A.length := by omega
        have hib : ¬ (i : Int) < b := by omega
        have HF := Lib.hid (show Stab keyI A C from by
          have := HSt.out
          rw [List.take_of_length_le (by omega)] at this
          exact this)
        have HS2 := Lib.hid (show SegI wr g pre (P ++ (C ++ Q)) post from by
          have := HS.out
          rw [List.drop_of_length_le (by omega)] at this
          exact this)
        clear hi hm hub hu2
        go_wp2_with fail
        go_end0
        exact ⟨rfl, ⟨C, HF.out, HS2.out⟩, HR.out⟩
end Go.Proofs.YtlphmcodajookaaDoor
