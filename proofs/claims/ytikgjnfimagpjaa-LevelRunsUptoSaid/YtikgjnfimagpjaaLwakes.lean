/- package level: wakes. -/
import Derived.Test.YtikgjnfimagpjaaLsides
namespace Go.Proofs.Ytikgjnfimagpjaa
open Go.RowKit
def five : List Int := [0, 20, 1, 22, 0]
def fiveLv : List Int := [0, 0, 1, 0, 0]
theorem five_levels : (lto ((min 0 125 : Nat) : Int) five five.length).1 = fiveLv ∧ (lto ((min 0 125 : Nat) : Int) five five.length).2.1.length = 5 := by decide
theorem five_pairs : pairsL five = [-1, 3, -1, 1, -1] := by decide
theorem five_runs : runsL five fiveLv = [[0, 1, 3, 4], [2]] := by decide
theorem five_sides : sidesL five fiveLv 0 [2] = (1, 1) := by decide
theorem five_lv (i : Nat) : 0 ≤ fiveLv.getD i 0 ∧ fiveLv.getD i 0 < 256 := by
  have h : ∀ x ∈ fiveLv, 0 ≤ x ∧ x < 256 := by decide
  by_cases hi : i < fiveLv.length
  · refine h _ ?_
    rw [List.getD_eq_getElem?_getD, List.getElem?_eq_getElem hi]
    exact List.getElem_mem _
  · rw [List.getD_eq_getElem?_getD, List.getElem?_eq_none (by omega)]
    decide
theorem runs_five (A A2 : Option Addr) (c c2 : Nat) (w : World) (hc : 5 ≤ c ∧ c ≤ maxLen) (h : Sl w w.heap.size A (ints .i8 five)) (h2 : Sl w w.heap.size A2 (ints .u8 fiveLv)) :
    Calls Try.prog 23 #[.slice A 5 c, .slice A2 5 c2] w fun e w' => ∃ g oc A0 c0 A1 c1, e = .returned (.slice (some ⟨g, 0, none⟩) 2 oc) ∧ w'.cell? ⟨g, 0, none⟩ = some (.slice A0 4 c0) ∧ w'.cell? ⟨g, 1, none⟩ = some (.slice A1 1 c1) ∧
      Own w' 3 w.heap.size (.slice A1 1 c1) (ints .i64 [2]) ∧ Below w.heap.size w w' := by
  refine (runs_any five fiveLv A A2 c c2 w (by decide) (by decide) hc h h2).mono ?_
  rintro e w' ⟨ov, rvs, rfl, hm, hb⟩
  rw [five_runs] at hm
  obtain ⟨OA, oc, rfl⟩ := hm.own.slice
  rw [hm.len] at hm ⊢
  obtain ⟨g, A0, l0, c0, rfl, hv0, hc0, hf0, hg0, hl0, ho0, -⟩ := hm.at_ 0 (by decide)
  obtain ⟨g', A1, l1, c1, hg', hv1, hc1, hf1, hg1, hl1, ho1, -⟩ := hm.at_ 1 (by decide)
  simp only [Option.some.injEq, Addr.mk.injEq, and_true] at hg'
  subst hg'
  subst hl0
  subst hl1
  exact ⟨g, oc, A0, c0, A1, c1, rfl, hc0, hc1, ho1, hb⟩
theorem sides_five (A A2 A3 : Option Addr) (c c2 c3 : Nat) (w : World) (hc : 5 ≤ c ∧ c ≤ maxLen) (h : Sl w w.heap.size A (ints .i8 five)) (h2 : Sl w w.heap.size A2 (ints .u8 fiveLv)) (h3 : Sl w w.heap.size A3 (ints .i64 [2])) :
    Calls Try.prog 27 #[.slice A 5 c, .slice A2 5 c2, .int .u8 0, .slice A3 1 c3] w fun e w' => e = .returned (.tuple #[.int .i8 1, .int .i8 1]) ∧ Below w.heap.size w w' := by
  refine (sides_any five fiveLv [2] 0 A A2 A3 c c2 c3 w (by decide) (by decide) (by decide) hc h h2 h3 (by decide) five_lv).mono ?_
  rintro e w' ⟨rfl, hb⟩
  rw [five_sides]
  exact ⟨rfl, hb⟩
theorem base_two (w : World) : Calls Try.prog 14 #[.slice (some ⟨w.heap.size, 0, none⟩) 2 2, .int .i8 0] (w.alloc (.cells #[.int .i8 12, .int .i8 1] 23)) fun e w' => e = .returned (.int .u8 1) ∧ w.alloc (.cells #[.int .i8 12, .int .i8 1] 23) = w' := by
  have h := sl_new w .i8 [12, 1] 23
  rw [← size_alloc' w (.cells (ints .i8 [12, 1]).toArray 23)] at h
  refine (base_any [12, 1] (some ⟨w.heap.size, 0, none⟩) 2 0 _ (by decide) (by decide) (by decide) h).mono ?_
  rintro e w' ⟨rfl, rfl⟩
  exact ⟨by rw [show baseL [12, 1] 0 = 1 from by decide], rfl⟩
theorem base_five (A : Option Addr) (c : Nat) (w : World) (hc : 5 ≤ c ∧ c ≤ maxLen) (h : Sl w w.heap.size A (ints .i8 five)) : Calls Try.prog 14 #[.slice A 5 c, .int .i8 0] w fun e w' => e = .returned (.int .u8 0) ∧ w = w' := by
  refine (base_any five A c 0 w (by decide) hc.1 hc.2 h).mono ?_
  rintro e w' ⟨rfl, rfl⟩
  exact ⟨by rw [show baseL five 0 = 0 from by decide], rfl⟩
set_option maxRecDepth 20000 in
set_option maxHeartbeats 4000000 in
theorem wakes_any (w : World) : Calls Try.prog 17 #[] w fun e w' => e = .returned (.bool true) ∧ Below w.heap.size w w' := by
  obtain ⟨w1, hw1⟩ : ∃ w1, w1 = w.alloc (.cells #[.int .i8 0, .int .i8 20, .int .i8 1, .int .i8 22, .int .i8 0] 23) := ⟨_, rfl⟩
  have HB1 := Lib.hid (show Below w.heap.size w w1 from by rw [hw1]; exact (Below.refl _ _).alloc (Nat.le_refl _) _)
  have hz1 : w1.heap.size = w.heap.size + 1 := by rw [hw1]; simp
  have hs1 : Sl w1 w1.heap.size (some ⟨w.heap.size, 0, none⟩) (ints .i8 five) := by
    rw [hw1, size_alloc']
    exact sl_new w .i8 five 23
  have HS1 := Lib.hid hs1
  have HL := Lib.hid (show Calls Try.prog 19 #[.slice (some ⟨w.heap.size, 0, none⟩) 5 5, .int .u8 0] w1 fun e w' => ∃ LA lc KA kc, e = .returned (.tuple #[.slice LA 5 lc, .slice KA 5 kc]) ∧ Own w' 5 w1.heap.size (.slice LA 5 lc) (ints .u8 fiveLv) ∧ Below w1.heap.size w1 w' from by
    refine (levels_any five (some ⟨w.heap.size, 0, none⟩) 5 0 w1 (by decide) (by decide) hs1).mono ?_
    rintro e w' ⟨lv, kv, rfl, h2, h3, -, h5⟩
    rw [five_levels.1] at h2
    obtain ⟨LA, lc, rfl⟩ := h2.slice
    obtain ⟨KA, kc, rfl⟩ := h3.slice
    rw [ints_length] at h2 h3
    rw [five_levels.2] at h3
    refine ⟨LA, lc, KA, kc, ?_, h2, h5⟩
    rw [ints_length, ints_length, five_levels.2]
    rfl)
  have HG1 := Lib.hid hw1
  clear hs1 hw1
  go_enter Try.func17, Try.ntmps17
  go_wp2_with (first
    | (go_at_call 19; rw [← HG1.out]; refine HL.out.mono ?_; rintro e w2 ⟨LA, lc, KA, kc, rfl, hlo, hlb⟩
       have HB2 := Lib.hid hlb
       have HLO := Lib.hid hlo
       have HS2 := Lib.hid ((HS1.out.below hlb).more hlb.size)
       have HP := Lib.hid (pairs_any five (some ⟨w.heap.size, 0, none⟩) 5 w2 (by decide) HS2.out)
       clear hlo hlb)
    | (go_at_call 12; refine HP.out.mono ?_; rintro e w3 ⟨rfl, hpo, hpb⟩
       rw [five_pairs] at hpo
       have HB3 := Lib.hid hpb
       have HPO := Lib.hid hpo
       have HS3 := Lib.hid ((HS2.out.below hpb).more hpb.size)
       have HLO3 := Lib.hid (HLO.out.below_ hpb)
       clear hpo hpb)
    | (go_at_call 23
       have HR := Lib.hid (runs_five (some ⟨w.heap.size, 0, none⟩) LA 5 lc w3 (by decide) HS3.out HLO3.out.sl)
       refine HR.out.mono ?_; rintro e w4 ⟨g, oc, A0, c0, A1, c1, rfl, hr0, hr1, hro, hrb⟩
       have HB4 := Lib.hid hrb
       have hp0 := own_at (HPO.out.below_ hrb) (i := 0) (by decide)
       have hp1 := own_at (HPO.out.below_ hrb) (i := 1) (by decide)
       obtain ⟨-, gl, rfl, hgl1, hgl2⟩ := HLO3.out.form (by decide)
       have hl2 := own_at (HLO3.out.below_ hrb) (i := 2) (by decide)
       have hl3 := own_at (HLO3.out.below_ hrb) (i := 3) (by decide)
       simp only [fiveLv, List.getD_cons_zero, List.getD_cons_succ] at hp0 hp1 hl2 hl3
       have HS4 := Lib.hid ((HS3.out.below hrb).more hrb.size)
       have HLS4 := Lib.hid ((HLO3.out.below_ hrb).sl)
       have HSi := Lib.hid (sides_five (some ⟨w.heap.size, 0, none⟩) (some ⟨gl, 0, none⟩) A1 5 lc c1 w4 (by decide) HS4.out HLS4.out hro.sl)
       clear hro hrb)
    | (go_at_call 27; refine HSi.out.mono ?_; rintro e w5 ⟨rfl, hsb⟩
       have HB5 := Lib.hid hsb
       have HS5 := Lib.hid ((HS4.out.below hsb).more hsb.size)
       have HT := Lib.hid (base_two w5)
       have HF := Lib.hid (base_five (some ⟨w.heap.size, 0, none⟩) 5 (w5.alloc (.cells #[.int .i8 12, .int .i8 1] 23)) (by decide) ((HS5.out.alloc (Nat.le_refl _) _).more (by simp)))
       clear hsb)
    | (go_at_call 14; first
       | (refine HT.out.mono ?_; rintro e w' ⟨rfl, rfl⟩; clear HT)
       | (refine HF.out.mono ?_; rintro e w' ⟨rfl, rfl⟩)))
  go_ret
  have b1 : w.heap.size ≤ w1.heap.size := HB1.out.size
  have b2 := HB2.out.size
  have b3 := HB3.out.size
  have b4 := HB4.out.size
  have b5 := HB5.out.size
  exact ⟨rfl, ((((HB1.out.trans (HB2.out.mono b1)).trans (HB3.out.mono (by omega))).trans (HB4.out.mono (by omega))).trans (HB5.out.mono (by omega))).alloc (by omega) _⟩
end Go.Proofs.Ytikgjnfimagpjaa
