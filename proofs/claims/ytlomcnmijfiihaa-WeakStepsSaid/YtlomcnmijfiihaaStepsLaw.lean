/- WeakSteps: the walk. -/
import Derived.Test.YtlomcnmijfiihaaResolves
namespace Go.Proofs.Ytlomcnmijfiihaa
open Go.RowKit
set_option maxRecDepth 100000 in
set_option maxHeartbeats 8000000 in
theorem stepsLaw_any (n : Int) (zs : List Int) (A : Option Addr) (c : Nat) (s : Int) (w : World) (hl : zs.length ≤ 140737488351232) (h : Sl w w.heap.size A (i8s zs)) :
    Calls Try.prog 4 #[.int .i64 n, .slice A zs.length c, .int .i8 s] w fun e w' => e = .returned (.bool true) ∧ Below w.heap.size w w' := by
  go_enter Try.func4, Try.ntmps4
  go_wp2_with fail
  refine (rstep_any n zs A c s w hl h).mono ?_
  rintro e w1 ⟨Aw, cw, rfl, how, hb⟩
  have S1 := Lib.hid (show Sl w1 w1.heap.size A (i8s zs) ∧ Below w.heap.size w w1 ∧ Sl w1 w1.heap.size Aw (i8s (stepL n zs s)) from ⟨(h.below hb).more hb.size, hb, how.sl⟩)
  have z1 := hb.size
  have H0 := Lib.hid h
  clear hb h how
  go_wp2_with fail
  refine (lent_any zs A c w1 hl S1.out.1).mono ?_
  rintro e w2 ⟨rfl, hok, hb⟩
  have S2 := Lib.hid (show Sl w2 w2.heap.size A (i8s zs) ∧ Below w.heap.size w w2 ∧ Sl w2 w2.heap.size Aw (i8s (stepL n zs s)) from
    ⟨(S1.out.1.below hb).more hb.size, S1.out.2.1.trans (hb.mono z1), (S1.out.2.2.below hb).more hb.size⟩)
  have K2 := Lib.hid hok
  have KL := Lib.hid (show w1.heap.size < w2.heap.size from (hok.lt _ rfl).2)
  have z2 := Nat.le_trans z1 hb.size
  have hsk := hok.sl
  rw [i8s_app] at hsk
  have hsk2 := sl_prefix hsk
  clear hb hok hsk
  go_wp2_with fail
  refine (step_any n zs _ _ s w2 hl hsk2).mono ?_
  rintro e w3 ⟨Aa, ca, rfl, hoa, hb⟩
  have S3 := Lib.hid (show Sl w3 w3.heap.size A (i8s zs) ∧ Below w.heap.size w w3 ∧ Sl w3 w3.heap.size Aw (i8s (stepL n zs s)) from
    ⟨(S2.out.1.below hb).more hb.size, S2.out.2.1.trans (hb.mono z2), (S2.out.2.2.below hb).more hb.size⟩)
  have K3 := Lib.hid (K2.out.below_ hb)
  have B23 := Lib.hid hb
  have OA := Lib.hid hoa
  have z3 := Nat.le_trans z2 hb.size
  have hsk := K3.out.sl
  rw [i8s_app] at hsk
  have hsk3 := sl_prefix hsk
  clear hb hoa hsk2 hsk
  go_wp2_with fail
  refine (step_any n zs _ _ s w3 hl hsk3).mono ?_
  rintro e w5 ⟨Ab, cb, rfl, hob, hb⟩
  have S5 := Lib.hid (show Sl w5 w5.heap.size A (i8s zs) ∧ Below w.heap.size w w5 ∧ Sl w5 w5.heap.size Aw (i8s (stepL n zs s)) from
    ⟨(S3.out.1.below hb).more hb.size, S3.out.2.1.trans (hb.mono z3), (S3.out.2.2.below hb).more hb.size⟩)
  have K5 := Lib.hid (K3.out.below_ hb)
  have OA5 := Lib.hid (OA.out.below_ hb)
  have OB5 := Lib.hid hob
  have z5 := Nat.le_trans z3 hb.size
  have q5 := hb.size
  have DAB := Lib.hid (show ∀ g, (Value.slice Aa zs.length ca).ownBlock = some g → (Value.slice Ab zs.length cb).ownBlock ≠ some g from fun g hg hg2 => by
    have h1 := (OA.out.lt g hg).2
    have h2 := (hob.lt g hg2).1
    omega)
  clear hb hob hsk3 OA K2 K3 S1 S2 S3
  have C1 := same_any (stepL n zs s) (stepL n zs s) Aa Aw ca cw w5 (by simpa using hl) (by simpa using hl) OA5.out.sl S5.out.2.2
  simp only [decide_true, stepL_length] at C1
  have HC1 := Lib.hid C1
  clear C1
  go_wp2_with fail
  refine HC1.out.mono ?_
  rintro e w6 ⟨rfl, hb⟩
  have S6 := Lib.hid (show Sl w6 w6.heap.size A (i8s zs) ∧ Below w.heap.size w w6 ∧ Sl w6 w6.heap.size Aw (i8s (stepL n zs s)) from
    ⟨(S5.out.1.below hb).more hb.size, S5.out.2.1.trans (hb.mono z5), (S5.out.2.2.below hb).more hb.size⟩)
  have K6 := Lib.hid (K5.out.below_ hb)
  have OA6 := Lib.hid (OA5.out.below_ hb)
  have OB6 := Lib.hid (OB5.out.below_ hb)
  have z6 := Nat.le_trans z5 hb.size
  have q6 := hb.size
  have C2 := same_any (stepL n zs s) (stepL n zs s) Ab Aw cb cw w6 (by simpa using hl) (by simpa using hl) OB6.out.sl S6.out.2.2
  simp only [decide_true, stepL_length] at C2
  have HC2 := Lib.hid C2
  clear C2 hb HC1 S5 K5 OA5 OB5
  go_wp2_with fail
  refine HC2.out.mono ?_
  rintro e w9 ⟨rfl, hb⟩
  have S9 := Lib.hid (show Sl w9 w9.heap.size A (i8s zs) ∧ Below w.heap.size w w9 from ⟨(S6.out.1.below hb).more hb.size, S6.out.2.1.trans (hb.mono z6)⟩)
  have K9 := Lib.hid (K6.out.below_ hb)
  have OA9 := Lib.hid (OA6.out.below_ hb)
  have OB9 := Lib.hid (OB6.out.below_ hb)
  have z9 := Nat.le_trans z6 hb.size
  have q9 := hb.size
  clear hb HC2 S6 K6 OA6 OB6
  go_wp2_with fail
  refine (kept_any zs _ _ A c w9 hl K9.out S9.out.1).mono ?_
  rintro e w10 ⟨rfl, hb⟩
  have S10 := Lib.hid (show Sl w10 w10.heap.size A (i8s zs) ∧ Below w.heap.size w w10 from ⟨(S9.out.1.below hb).more hb.size, S9.out.2.trans (hb.mono z9)⟩)
  have K10 := Lib.hid (K9.out.below_ hb)
  have OA10 := Lib.hid (OA9.out.below_ hb)
  have OB10 := Lib.hid (OB9.out.below_ hb)
  have z10 := Nat.le_trans z9 hb.size
  have ZZ := Lib.hid (show w2.heap.size ≤ w10.heap.size ∧ w2.heap.size ≤ w3.heap.size from ⟨by have := B23.out.size; have := q5; have := q6; have := q9; have := hb.size; omega, B23.out.size⟩)
  clear hb S9 K9 OA9 OB9
  go_wp2_with fail
  refine (fresh_any zs.length _ _ (by simp) (by simp) Aa Ab ca cb w2.heap.size w10 hl OA10.out (own_mono OB10.out ZZ.out.2) DAB.out ZZ.out.1).mono ?_
  rintro e w11 ⟨rfl, hb⟩
  have S11 := Lib.hid (show Sl w11 w11.heap.size A (i8s zs) ∧ Below w.heap.size w w11 from by
    have bw := S10.out.2.trans (hb.mono z2)
    exact ⟨(H0.out.below bw).more bw.size, bw⟩)
  have K11 := Lib.hid (own_below_at K10.out hb (fun g hg => by
    have : g = w1.heap.size := by simpa [Value.ownBlock] using hg.symm
    rw [this]; exact KL.out))
  have z11 := Nat.le_trans z10 hb.size
  clear hb S10 K10 OA10 OB10
  go_wp2_with fail
  refine (kept_any zs _ _ A c w11 hl K11.out S11.out.1).mono ?_
  rintro e w12 ⟨rfl, hb⟩
  have B12 := Lib.hid (S11.out.2.trans (hb.mono z11))
  have z12 := Nat.le_trans z11 hb.size
  clear hb
  go_wp2_with fail
  refine (works_any w12).mono ?_
  rintro e w13 ⟨rfl, hb⟩
  have B13 := Lib.hid (B12.out.trans (hb.mono z12))
  clear hb
  go_wp2_with fail
  go_ret
  exact ⟨rfl, B13.out⟩
end Go.Proofs.Ytlomcnmijfiihaa
