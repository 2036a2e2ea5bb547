/- WeakKnown: the chapter's examples: the walk. -/
import Derived.Test.YtlomcnmijfiihaaWorks
namespace Go.Proofs.Ytlomcnmijfiihaa
open Go.RowKit
theorem below_alloc_trans {w w' : World} {o : Obj} (h : Below (w.alloc o).heap.size (w.alloc o) w') : Below w.heap.size w w' :=
  ((Below.refl _ _).alloc (Nat.le_refl _) o).trans (h.mono (by simp))
/-- the closure: two lists are made, the first resolved, held against the second -/
theorem is_any (s : Int) (zs out : List Int) (n m : Nat) (w : World) (hn : n = zs.length) (hm : m = out.length) (hl : zs.length ≤ 100) (hl2 : out.length ≤ 100) (ho : resolveL zs s = out) :
    Calls Try.prog 19 #[.int .i8 s, .slice (some ⟨w.heap.size, 0, none⟩) n n, .slice (some ⟨w.heap.size + 1, 0, none⟩) m m] ((w.alloc (.cells (i8s zs).toArray 23)).alloc (.cells (i8s out).toArray 23)) fun e w' => e = .returned (.bool true) ∧ Below w.heap.size w w' := by
  subst hn
  subst hm
  have h1 : Sl ((w.alloc (.cells (i8s zs).toArray 23)).alloc (.cells (i8s out).toArray 23)) (w.heap.size + 2) (some ⟨w.heap.size, 0, none⟩) (i8s zs) := ((sl_new w zs 23).alloc (by simp) _).more (by omega)
  have h2 : Sl ((w.alloc (.cells (i8s zs).toArray 23)).alloc (.cells (i8s out).toArray 23)) (w.heap.size + 2) (some ⟨w.heap.size + 1, 0, none⟩) (i8s out) := by
    have := sl_new (w.alloc (.cells (i8s zs).toArray 23)) out 23
    rw [size_alloc'] at this
    exact this
  have hb : Below w.heap.size w ((w.alloc (.cells (i8s zs).toArray 23)).alloc (.cells (i8s out).toArray 23)) := ((Below.refl _ _).alloc (Nat.le_refl _) _).alloc (by simp) _
  have hz : ((w.alloc (.cells (i8s zs).toArray 23)).alloc (.cells (i8s out).toArray 23)).heap.size = w.heap.size + 2 := by simp
  generalize ((w.alloc (.cells (i8s zs).toArray 23)).alloc (.cells (i8s out).toArray 23)) = W at *
  have HZ := Lib.hid hz
  clear hz
  go_enter Try.func19, Try.ntmps19
  go_wp2_with fail
  refine (resolve_any zs _ _ s W (by omega) (by rw [HZ.out]; exact h1)).mono ?_
  rintro e w1 ⟨A', c', rfl, ho1, hb1⟩
  rw [ho] at ho1
  have hlen : zs.length = out.length := by rw [← ho]; simp
  have HL := Lib.hid hlen
  have HO := Lib.hid ho
  clear hlen ho
  have h3 : Sl w1 w1.heap.size A' (i8s out) := ho1.sl
  have h4 : Sl w1 w1.heap.size (some ⟨w.heap.size + 1, 0, none⟩) (i8s out) := by
    refine (h2.below (hb1.mono ?_)).more ?_
    · rw [HZ.out]; exact Nat.le_refl _
    · have := hb1.size; rw [HZ.out] at this; exact this
  have HB := Lib.hid (hb.trans (hb1.mono hb.size))
  have hs1 : w.heap.size ≤ w1.heap.size := HB.out.size
  clear ho1 hb1
  go_wp2_with fail
  rw [HL.out]
  refine (same_any out out A' _ c' _ w1 (by omega) (by omega) h3 h4).mono ?_
  rintro e w2 ⟨rfl, hb2⟩
  go_wp2
  go_ret
  exact ⟨by simp, HB.out.trans (hb2.mono hs1)⟩
set_option maxRecDepth 100000 in
set_option maxHeartbeats 8000000 in
theorem known_any (w : World) : Calls Try.prog 8 #[] w fun e w' => e = .returned (.bool true) ∧ Below w.heap.size w w' := by
  go_enter Try.func8, Try.ntmps8
  go_wp2_with fail
  refine (is_any 0 [2, 8, 8] [1, 1, 1] 3 3 w rfl rfl (by decide) (by decide) (by decide)).mono ?_
  rintro e w1 ⟨rfl, hb1⟩
  have B1 := Lib.hid hb1
  have z1 := hb1.size
  clear hb1
  go_wp2_with fail
  refine (is_any 1 [8, 3] [1, 3] 2 2 w1 rfl rfl (by decide) (by decide) (by decide)).mono ?_
  rintro e w2 ⟨rfl, hb2⟩
  have B2 := Lib.hid (B1.out.trans (hb2.mono z1))
  have z2 := Nat.le_trans z1 hb2.size
  clear hb2
  go_wp2_with fail
  refine (is_any 0 [8, 3] [0, 0] 2 2 w2 rfl rfl (by decide) (by decide) (by decide)).mono ?_
  rintro e w3 ⟨rfl, hb3⟩
  have B3 := Lib.hid (B2.out.trans (hb3.mono z2))
  have z3 := Nat.le_trans z2 hb3.size
  clear hb3
  go_wp2_with fail
  refine (is_any 0 [19, 8, 22, 8] [19, 13, 22, 13] 4 4 w3 rfl rfl (by decide) (by decide) (by decide)).mono ?_
  rintro e w4 ⟨rfl, hb4⟩
  have B4 := Lib.hid (B3.out.trans (hb4.mono z3))
  have z4 := Nat.le_trans z3 hb4.size
  clear hb4
  go_wp2_with fail
  refine (is_any 1 [2, 13, 3] [1, 13, 6] 3 3 w4 rfl rfl (by decide) (by decide) (by decide)).mono ?_
  rintro e w5 ⟨rfl, hb5⟩
  have B5 := Lib.hid (B4.out.trans (hb5.mono z4))
  have z5 := Nat.le_trans z4 hb5.size
  clear hb5
  go_wp2_with fail
  refine (is_any 1 [6, 7, 6] [6, 6, 6] 3 3 w5 rfl rfl (by decide) (by decide) (by decide)).mono ?_
  rintro e w6 ⟨rfl, hb6⟩
  have B6 := Lib.hid (B5.out.trans (hb6.mono z5))
  have z6 := Nat.le_trans z5 hb6.size
  clear hb6
  go_wp2_with fail
  refine (is_any 1 [3, 7, 6] [3, 13, 6] 3 3 w6 rfl rfl (by decide) (by decide) (by decide)).mono ?_
  rintro e w7 ⟨rfl, hb7⟩
  have B7 := Lib.hid (B6.out.trans (hb7.mono z6))
  have z7 := Nat.le_trans z6 hb7.size
  clear hb7
  go_wp2_with fail
  refine (is_any 1 [3, 4, 3] [3, 3, 3] 3 3 w7 rfl rfl (by decide) (by decide) (by decide)).mono ?_
  rintro e w8 ⟨rfl, hb8⟩
  have B8 := Lib.hid (B7.out.trans (hb8.mono z7))
  have z8 := Nat.le_trans z7 hb8.size
  clear hb8
  go_wp2_with fail
  refine (is_any 1 [6, 4, 6] [6, 13, 6] 3 3 w8 rfl rfl (by decide) (by decide) (by decide)).mono ?_
  rintro e w9 ⟨rfl, hb9⟩
  have B9 := Lib.hid (B8.out.trans (hb9.mono z8))
  have z9 := Nat.le_trans z8 hb9.size
  clear hb9
  go_wp2_with fail
  refine (is_any 1 [3, 7, 7, 3] [3, 13, 13, 3] 4 4 w9 rfl rfl (by decide) (by decide) (by decide)).mono ?_
  rintro e w10 ⟨rfl, hb10⟩
  have B10 := Lib.hid (B9.out.trans (hb10.mono z9))
  have z10 := Nat.le_trans z9 hb10.size
  clear hb10
  go_wp2_with fail
  refine (is_any 1 [5, 5, 3] [3, 3, 3] 3 3 w10 rfl rfl (by decide) (by decide) (by decide)).mono ?_
  rintro e w11 ⟨rfl, hb11⟩
  have B11 := Lib.hid (B10.out.trans (hb11.mono z10))
  have z11 := Nat.le_trans z10 hb11.size
  clear hb11
  go_wp2_with fail
  refine (is_any 1 [6, 5, 3] [6, 3, 3] 3 3 w11 rfl rfl (by decide) (by decide) (by decide)).mono ?_
  rintro e w12 ⟨rfl, hb12⟩
  have B12 := Lib.hid (B11.out.trans (hb12.mono z11))
  have z12 := Nat.le_trans z11 hb12.size
  clear hb12
  go_wp2_with fail
  refine (is_any 1 [5, 6] [13, 6] 2 2 w12 rfl rfl (by decide) (by decide) (by decide)).mono ?_
  rintro e w13 ⟨rfl, hb13⟩
  have B13 := Lib.hid (B12.out.trans (hb13.mono z12))
  have z13 := Nat.le_trans z12 hb13.size
  clear hb13
  go_wp2_with fail
  refine (is_any 0 [1, 3] [1, 3] 2 2 w13 rfl rfl (by decide) (by decide) (by decide)).mono ?_
  rintro e w14 ⟨rfl, hb14⟩
  have B14 := Lib.hid (B13.out.trans (hb14.mono z13))
  have z14 := Nat.le_trans z13 hb14.size
  clear hb14
  go_wp2_with fail
  refine (is_any 1 [0, 13, 3] [0, 13, 0] 3 3 w14 rfl rfl (by decide) (by decide) (by decide)).mono ?_
  rintro e w15 ⟨rfl, hb15⟩
  have B15 := Lib.hid (B14.out.trans (hb15.mono z14))
  have z15 := Nat.le_trans z14 hb15.size
  clear hb15
  go_wp2_with fail
  refine (is_any 9 [3] [0] 1 1 w15 rfl rfl (by decide) (by decide) (by decide)).mono ?_
  rintro e w16 ⟨rfl, hb16⟩
  have B16 := Lib.hid (B15.out.trans (hb16.mono z15))
  have z16 := Nat.le_trans z15 hb16.size
  clear hb16
  go_wp2_with fail
  refine (resolve_any [] none 0 1 w16 (by decide) (Sl.nil_ _ _ _)).mono ?_
  rintro e w17 ⟨A17, c17, rfl, ho17, hb17⟩
  have B17 := Lib.hid (B16.out.trans (hb17.mono z16))
  have z17 := Nat.le_trans z16 hb17.size
  clear hb17 ho17
  go_wp2_with fail
  refine (step_lit 9 [77, 8] [13, 8] 0 2 w17 23 rfl (by decide) (by decide)).mono ?_
  rintro e w18 ⟨A18, c18, rfl, ho18, hb18⟩
  have B18 := Lib.hid (B17.out.trans (hb18.mono z17))
  have z18 := Nat.le_trans z17 hb18.size
  have h18 := Lib.hid ho18.sl
  clear hb18 ho18
  go_wp2_with fail
  refine (same_lit [13, 8] A18 _ 2 c18 w18 23 rfl rfl (by decide) h18.out).mono ?_
  rintro e w19 ⟨rfl, hb19⟩
  have B19 := Lib.hid (B18.out.trans (hb19.mono z18))
  have z19 := Nat.le_trans z18 hb19.size
  clear hb19
  go_wp2_with fail
  refine (works_any w19).mono ?_
  rintro e w20 ⟨rfl, hb20⟩
  have B20 := Lib.hid (B19.out.trans (hb20.mono z19))
  clear hb20
  go_wp2_with fail
  go_ret
  exact ⟨rfl, B20.out⟩
end Go.Proofs.Ytlomcnmijfiihaa
