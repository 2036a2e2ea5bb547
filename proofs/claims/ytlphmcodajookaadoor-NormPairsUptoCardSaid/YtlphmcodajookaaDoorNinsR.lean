/- slices' stable sort at runes: insertionSort: the walk. -/
import Derived.Test.YtlphmcodajookaaDoorNAsymR
import Derived.Shelf.SlSortCmp.QuietGrown
namespace Go.Proofs.YtlphmcodajookaaDoor
open Go.RowKit Go.Sort
theorem Stab.snoc {α : Type} {key : α → Int} {A C C' : List α} {y : α} (h : Stab key A C) (k : Stab key (C ++ [y]) C') : Stab key (A ++ [y]) C' := ⟨k.1, fun q => by rw [k.2, List.filter_append, List.filter_append, h.2]⟩
set_option maxRecDepth 20000 in
set_option maxHeartbeats 16000000 in
theorem insR_any (w : World) (g o c pb : Nat) (pre post : List Value) (P A Q : List Int) (N a b : Nat) (h : SegR w g pre (P ++ (A ++ Q)) post) (ho : o = pre.length) (hN : N = (P ++ (A ++ Q)).length)
    (ha : a = P.length) (hb : b = P.length + A.length) (hL : N ≤ 2305843009213693952) (hp : w.cell? ⟨pb, 0, none⟩ = some (.func (.func 39) #[] #[])) (hne : pb ≠ g) :
    Calls Tryd.prog 137 #[.slice (some ⟨g, o, none⟩) N c, .int .i64 a, .int .i64 b, cmpFn pb] w fun e w' => e = .returned (.tuple #[]) ∧ (∃ C, Stab markN A C ∧ SegR w' g pre (P ++ (C ++ Q)) post) ∧ Stay [g] w w' := by
  have HS := Lib.hid h
  have HR := Lib.hid (Stay.refl [g] w)
  have HO := Lib.hid ho
  have HN := Lib.hid (show N = P.length + A.length + Q.length from by rw [hN]; simp only [List.length_append]; omega)
  have HC := Lib.hid (show ∀ (u : World) (y z : Int), Stay [g] w u → Calls Tryd.prog 110 #[.int .i32 y, .int .i32 z, .pointer (some ⟨pb, 0, none⟩)] u fun e w' => e = .returned (.int .i64 (cmp8 (markN y) (markN z))) ∧ ∃ q os, w' = grow (u.drewN q) os from fun u y z hu => cmpR_grow y z pb u ((hu.cell_ (a := ⟨pb, 0, none⟩) (World.block_lt_of_cell? _ _ hp) (by simpa using hne)).trans hp))
  have HM := Lib.hid (show a = P.length ∧ b = a + A.length ∧ b ≤ N ∧ N ≤ 2305843009213693952 from by have := HN.out; omega)
  obtain ⟨a1, ha1⟩ : ∃ a1, a1 = a + 1 := ⟨_, rfl⟩
  have w0 : IntKind.i64.wrap ((a : Int) + 1) = a1 := by have := HM.out; simp only [IntKind.wrap, IntKind.bits, IntKind.signed]; simp; omega
  have HA1 := Lib.hid ha1
  unfold cmpFn
  clear h ho hN ha hb hL hp hne ha1
  by_cases hA0 : A = []
  · subst hA0
    have hlt : ¬ (a1 : Int) < b := by have := HM.out; have := HA1.out; simp at *; omega
    go_enter Tryd.func137, Tryd.ntmps137
    go_upto_region 1 with fail
    refine wp_loop_rounds 1 ?_
    rw [rounds_succ]
    go_wp2_with fail
    go_end0
    exact ⟨rfl, ⟨[], ⟨List.Pairwise.nil, fun _ => rfl⟩, HS.out⟩, HR.out⟩
  · have HA0 := Lib.hid (show 1 ≤ A.length from List.length_pos_iff.2 hA0)
    clear hA0
    go_enter Tryd.func137, Tryd.ntmps137
    go_wp2_with fail
    go_loopw [8] (fun iv wr => ∃ (i u : Nat) (C : List Int), iv = .int .i64 i ∧ Hid (i = a + u) ∧ 1 ≤ u ∧ u ≤ A.length ∧ Hid (Stab markN (A.take u) C) ∧ Hid (SegR wr g pre (P ++ (C ++ (A.drop u ++ Q))) post) ∧ Hid (Stay [g] w wr)) (fun iv _ => b - (intOf iv).toNat)
    case atStart =>
      refine ⟨a1, 1, A.take 1, rfl, HA1, Nat.le_refl _, HA0.out, ⟨?_, fun _ => rfl⟩, ?_, HR⟩
      · cases A with
        | nil => exact List.Pairwise.nil
        | cons x A => simp
      · show SegR _ _ _ _ _
        rw [← List.append_assoc (A.take 1), List.take_append_drop]
        exact HS.out
    case round =>
      clear HS HR
      obtain ⟨i, u, C, rfl, HI, hu1, hu, HSt, HS, HR⟩ := hrel
      have hi := HI.out
      have hm := HM.out
      by_cases hub : u < A.length
      · have hib : (i : Int) < b := by omega
        obtain ⟨y, hy⟩ : ∃ y, A[u]? = some y := ⟨_, List.getElem?_eq_getElem hub⟩
        have hd : A.drop u = y :: A.drop (u + 1) := by
          obtain ⟨hl, e1⟩ := List.getElem?_eq_some_iff.1 hy
          rw [List.drop_eq_getElem_cons hl, e1]
        have ht : A.take (u + 1) = A.take u ++ [y] := by rw [List.take_add_one, hy]; rfl
        have HCl := Lib.hid (show C.length = u from by rw [HSt.out.perm.length_eq, List.length_take]; omega)
        obtain ⟨R, hR⟩ : ∃ R, R = A.drop (u + 1) ++ Q := ⟨_, rfl⟩
        have HS0 := Lib.hid (show SegR wr g pre (P ++ (C ++ (y :: ([] ++ R)))) post from by
          have := HS.out
          rw [hd] at this
          rw [hR]; exact this)
        have HT := Lib.hid (And.intro ht (And.intro hR hub))
        have HNx := Lib.hid (show b ≤ N ∧ i < b ∧ IntKind.i64.wrap ((i : Int) + 1) = ((i : Int) + 1) from ⟨hm.2.2.1, by omega, by simp only [IntKind.wrap, IntKind.bits, IntKind.signed]; simp; omega⟩)
        clear hi hm hy hd ht hR hub HS
        go_wp2_with fail
        go_loopw [9] (fun jv wr => ∃ (j : Nat) (C1 C2 : List Int), jv = .int .i64 j ∧ Hid (j = a + C1.length ∧ C = C1 ++ C2 ∧ ∀ z ∈ C2, markN y < markN z) ∧ Hid (SegR wr g pre (P ++ (C1 ++ (y :: (C2 ++ R)))) post) ∧ Hid (Stay [g] w wr)) (fun jv _ => (intOf jv).toNat)
        case atStart => exact ⟨i, C, [], rfl, ⟨by have := HI.out; have := HCl.out; omega, by simp, by simp⟩, HS0, HR⟩
        case round =>
          clear HS0 HR
          obtain ⟨j, C1, C2, rfl, HJ, HS, HR⟩ := hrel
          have hj := HJ.out
          have hm := HM.out
          have hn := HN.out
          have hcl := HCl.out
          have hlenC : C1.length + C2.length = u := by rw [← hcl, hj.2.1, List.length_append]
          have hnx := HNx.out.2.2
          have hnb := HNx.out
          -- out of the inner loop
          have HOut := Lib.hid (show (∀ x ∈ C1, markN x ≤ markN y) → Stab markN (A.take (u + 1)) (C1 ++ y :: C2) from fun hx => by
            rw [HT.out.1]
            refine HSt.out.snoc ?_
            rw [hj.2.1]
            exact stab_one_right (by have := HSt.out.1; rw [hj.2.1] at this; exact this) hx hj.2.2)
          have HNext := Lib.hid (show SegR wr g pre (P ++ ((C1 ++ y :: C2) ++ (A.drop (u + 1) ++ Q))) post from by
            have := HS.out
            rw [HT.out.2.1] at this
            simpa using this)
          have HFinal := Lib.hid (show i + 1 = a + (u + 1) ∧ u + 1 ≤ A.length from ⟨by have := HI.out; omega, HT.out.2.2⟩)
          rcases List.eq_nil_or_concat C1 with hC1 | ⟨C1', z, hC1⟩
          · subst hC1
            have hja : ¬ (a : Int) < j := by have := hj.1; simp at this; omega
            have hjd : decide ((a : Int) < j) = false := decide_eq_false hja
            have hjd2 : decide (a < j) = false := decide_eq_false (by omega)
            clear hj hm hn hcl hlenC hnb
            go_upto_region 4 with fail
            go_quiet (fail)
            go_wp2_with fail
            go_roundw
            case rel => exact ⟨i + 1, u + 1, _, by go_num, HFinal.out.1, by omega, HFinal.out.2, HOut.out (by simp), HNext.out.stay (F := []) (Stay.drewN _ _) (by simp), HR.out.drewN'⟩
            case measure => have := HNx.out; simp [intOf]; omega
          · rw [List.concat_eq_append] at hC1
            subst hC1
            have hj1 := hj.1
            rw [List.length_append, List.length_singleton] at hj1 hlenC
            obtain ⟨k1, hk1⟩ : ∃ k1, j = k1 + 1 := ⟨a + C1'.length, by omega⟩
            have hja : (a : Int) < j := by omega
            have hjd : decide ((a : Int) < j) = true := decide_eq_true hja
            have hjd2 : decide (a < j) = true := decide_eq_true (by omega)
            have v1 : IntKind.i64.wrap ((j : Int) - 1) = (k1 : Int) := by simp only [IntKind.wrap, IntKind.bits, IntKind.signed]; simp; omega
            have hseg : SegR wr g pre ((P ++ C1') ++ z :: y :: (C2 ++ R)) post := by
              have := HS.out
              have e : P ++ ((C1' ++ [z]) ++ (y :: (C2 ++ R))) = (P ++ C1') ++ z :: y :: (C2 ++ R) := by simp
              rw [← e]; exact this
            have hpl : (P ++ C1').length = k1 := by rw [List.length_append]; omega
            have hx0 : ((P ++ C1') ++ z :: y :: (C2 ++ R))[k1]? = some z := by rw [← hpl]; simp
            have hy0 : ((P ++ C1') ++ z :: y :: (C2 ++ R))[j]? = some y := by
              rw [List.getElem?_append_right (by omega), show j - (P ++ C1').length = 1 by omega]; rfl
            have hcz := hseg.cell hx0
            have hcy := hseg.cell hy0
            rw [← HO.out] at hcz hcy
            have hgl := hseg.lt
            have pz : ∀ n os, (grow (wr.drewN n) os).cell? ⟨g, o + k1, none⟩ = some (.int .i32 z) := fun n os => cell_grown hgl hcz n os
            have py : ∀ n os, (grow (wr.drewN n) os).cell? ⟨g, o + j, none⟩ = some (.int .i32 y) := fun n os => cell_grown hgl hcy n os
            obtain ⟨r, hr⟩ : ∃ r, r = cmp8 (markN y) (markN z) := ⟨_, rfl⟩
            have HCr := Lib.hid (show ∀ n os, Calls Tryd.prog 110 #[.int .i32 y, .int .i32 z, .pointer (some ⟨pb, 0, none⟩)] (grow (wr.drewN n) os) fun e w' => e = .returned (.int .i64 r) ∧ ∃ q os', w' = grow ((grow (wr.drewN n) os).drewN q) os' from fun n os => by
              rw [hr]
              exact HC.out _ y z (HR.out.trans (Stay.grow_ wr n os)))
            have HRr := Lib.hid (show r < 0 ↔ markN y < markN z from by
              rw [hr]; unfold cmp8
              split
              · omega
              · split <;> omega)
            have i0 : (0 : Int) ≤ j := by omega
            have j0 : (0 : Int) ≤ k1 := by omega
            have hju : j < a + A.length := by have := HFinal.out.2; omega
            have iN : (j : Int) < N := by omega
            have jN : (k1 : Int) < N := by omega
            have iN2 : decide (N ≤ j) = false := decide_eq_false (by omega)
            have jN2 : decide (N ≤ k1) = false := decide_eq_false (by omega)
            have mixed : Tryd.prog.follows Departure.mixedOrders = true := by kernel_rfl
            have HSg := Lib.hid hseg
            have HIdx := Lib.hid (show j = k1 + 1 ∧ k1 = a + C1'.length ∧ o + j ≠ o + k1 from by omega)
            have HGet := Lib.hid (And.intro hx0 (And.intro hy0 hpl))
            have HOrd := Lib.hid (show ∀ x ∈ C1' ++ [z], markN x ≤ markN z from fun x hx => by
              have h1 := HSt.out.1
              rw [hj.2.1, List.pairwise_append, List.pairwise_append] at h1
              rw [List.mem_append, List.mem_singleton] at hx
              rcases hx with hx | hx
              · exact h1.1.2.2 x hx z (by simp)
              · rw [hx]; exact Int.le_refl _)
            have HJ2 := Lib.hid (And.intro hj.2.1 hj.2.2)
            clear hj hj1 hm hn hcl hlenC hnb hju hseg hpl hx0 hy0 hcz hcy hgl hr hk1
            go_upto_region 4 with fail
            by_cases hrn : r < 0
            · go_quiet_grown (first | (go_at_call 110; exact Calls.grown_of (HCr.out _ _)))
              obtain ⟨W2, hW2⟩ : ∃ W, W = grow (wr.drewN nq) osq := ⟨_, rfl⟩
              rw [← hW2]
              have hst : Stay [] wr W2 := by rw [hW2]; exact Stay.grow_ wr nq osq
              have hs2 := HSg.out.stay hst (by simp)
              have HS2 := Lib.hid hs2
              have HR2 := Lib.hid (HR.out.trans (hst.mono (by simp)))
              have pz2 : W2.cell? ⟨g, o + k1, none⟩ = some (.int .i32 z) := by rw [HO.out]; exact hs2.cell HGet.out.1
              have py2 : W2.cell? ⟨g, o + j, none⟩ = some (.int .i32 y) := by rw [HO.out]; exact hs2.cell HGet.out.2.1
              have fz : W2.frozen? ⟨g, o + k1, none⟩ = false := hs2.free _
              have fy : W2.frozen? ⟨g, o + j, none⟩ = false := hs2.free _
              have hne : o + j ≠ o + k1 := HIdx.out.2.2
              have hne2 : o + k1 ≠ o + j := hne.symm
              have HSw := Lib.hid (show SegR ((W2.setCell ⟨g, o + j, none⟩ (.int .i32 z)).setCell ⟨g, o + k1, none⟩ (.int .i32 y)) g pre (P ++ (C1' ++ (y :: ((z :: C2) ++ R)))) post from by
                have h9 := hs2.swap HGet.out.2.1 HGet.out.1
                rw [HO.out]
                have e2 : swap2 ((P ++ C1') ++ z :: y :: (C2 ++ R)) j k1 = P ++ (C1' ++ (y :: ((z :: C2) ++ R))) := by
                  have := swap2_prev (P ++ C1') (C2 ++ R) z y
                  rw [HGet.out.2.2, ← HIdx.out.1] at this
                  rw [this]; simp
                rw [← e2]
                exact h9)
              have HJn := Lib.hid (show k1 = a + C1'.length ∧ C = C1' ++ (z :: C2) ∧ ∀ x ∈ z :: C2, markN y < markN x from ⟨HIdx.out.2.1, by rw [HJ2.out.1]; simp, fun x hx => by
                rcases List.mem_cons.1 hx with e | e
                · rw [e]; exact HRr.out.1 hrn
                · exact HJ2.out.2 x e⟩)
              clear hW2 hst hs2 pz py HS
              go_wp2_with fail
              go_region
              all_goals
                go_wp2_with fail
                go_roundw
                case rel => exact ⟨k1, C1', z :: C2, rfl, HJn, HSw.out.stay (F := []) (Stay.drew _) (by simp), ((HR2.out.set' (.inl (by simp))).set' (.inl (by simp))).drew'⟩
                case measure => have := HIdx.out; simp [intOf]; omega
            · go_quiet_grown (first | (go_at_call 110; exact Calls.grown_of (HCr.out _ _)))
              have HO2 := Lib.hid (HOut.out (fun x hx => by have h1 := HOrd.out x hx; have := mt HRr.out.2 hrn; omega))
              have HNx2 := Lib.hid (HNext.out.stay (F := []) (Stay.grow_ wr nq osq) (by simp))
              have HR2 := Lib.hid (HR.out.trans (Stay.grow_ wr nq osq))
              clear pz py HS
              go_wp2_with fail
              go_roundw
              case rel => exact ⟨i + 1, u + 1, _, by go_num, HFinal.out.1, by omega, HFinal.out.2, HO2, HNx2, HR2⟩
              case measure => have := HNx.out; simp [intOf]; omega
      · have hu2 : u = A.length := by omega
        have hib : ¬ (i : Int) < b := by omega
        have HF := Lib.hid (show Stab markN A C from by
          have := HSt.out
          rw [List.take_of_length_le (by omega)] at this
          exact this)
        have HS2 := Lib.hid (show SegR wr g pre (P ++ (C ++ Q)) post from by
          have := HS.out
          rw [List.drop_of_length_le (by omega)] at this
          exact this)
        clear hi hm hub hu2
        go_wp2_with fail
        go_end0
        exact ⟨rfl, ⟨C, HF.out, HS2.out⟩, HR.out⟩
end Go.Proofs.YtlphmcodajookaaDoor
