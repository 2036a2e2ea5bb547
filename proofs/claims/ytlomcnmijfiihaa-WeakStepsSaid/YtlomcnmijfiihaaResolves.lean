/- WeakResolves, WeakSteps: the walks. -/
import Derived.Test.YtlomcnmijfiihaaFreshWalk
namespace Go.Proofs.Ytlomcnmijfiihaa
open Go.RowKit
theorem own_below_at {w w' : World} {e : TypeId} {B B' : Nat} {v : Value} {xs : List Value} (h : Own w e B v xs) (hb : Below B' w w') (hg : ∀ g, v.ownBlock = some g → g < B') : Own w' e B v xs := by
  refine ⟨h.1, ?_⟩
  rcases h.2 with hn | ⟨g, cap, cur, rfl, hb', hh, rest⟩
  · exact .inl hn
  · exact .inr ⟨g, cap, cur, rfl, hb', (hb.block g (hg g rfl)).trans hh, rest⟩
theorem below_z {B : Nat} {w w' : World} (h : Below B w w') : w.heap.size ≤ w'.heap.size := h.size
set_option maxRecDepth 100000 in
set_option maxHeartbeats 8000000 in
theorem resolves_any (zs os : List Int) (A A0 : Option Addr) (c c0 : Nat) (s : Int) (w : World) (hl : zs.length ≤ 140737488351232) (hl0 : os.length ≤ 140737488351232) (h : Sl w w.heap.size A (i8s zs)) (h0 : Sl w w.heap.size A0 (i8s os)) :
    Calls Try.prog 3 #[.slice A zs.length c, .slice A0 os.length c0, .int .i8 s] w fun e w' => e = .returned (.bool true) ∧ Below w.heap.size w w' := by
  go_enter Try.func3, Try.ntmps3
  go_wp2_with fail
  refine (rresolve_any zs A c s w hl h).mono ?_
  rintro e w1 ⟨Aw, cw, rfl, how, hb⟩
  have S1 := Lib.hid (show Sl w1 w1.heap.size A (i8s zs) ∧ Sl w1 w1.heap.size A0 (i8s os) ∧ Below w.heap.size w w1 ∧ Sl w1 w1.heap.size Aw (i8s (resolveL zs s)) from ⟨(h.below hb).more hb.size, (h0.below hb).more hb.size, hb, how.sl⟩)
  have z1 := hb.size
  have H0 := Lib.hid h
  clear hb h h0 how
  go_wp2_with fail
  refine (lent_any zs A c w1 hl S1.out.1).mono ?_
  rintro e w2 ⟨rfl, hok, hb⟩
  have S2 := Lib.hid (show Sl w2 w2.heap.size A (i8s zs) ∧ Sl w2 w2.heap.size A0 (i8s os) ∧ Below w.heap.size w w2 ∧ Sl w2 w2.heap.size Aw (i8s (resolveL zs s)) from
    ⟨(S1.out.1.below hb).more hb.size, (S1.out.2.1.below hb).more hb.size, S1.out.2.2.1.trans (hb.mono z1), (S1.out.2.2.2.below hb).more hb.size⟩)
  have K2 := Lib.hid hok
  have KL := Lib.hid (show w1.heap.size < w2.heap.size from (hok.lt _ rfl).2)
  have z2 := Nat.le_trans z1 hb.size
  have hsk := hok.sl
  rw [i8s_app] at hsk
  have hsk2 := sl_prefix hsk
  clear hb hok hsk
  go_wp2_with fail
  refine (resolve_any zs _ _ s w2 hl hsk2).mono ?_
  rintro e w3 ⟨Aa, ca, rfl, hoa, hb⟩
  have S3 := Lib.hid (show Sl w3 w3.heap.size A (i8s zs) ∧ Sl w3 w3.heap.size A0 (i8s os) ∧ Below w.heap.size w w3 ∧ Sl w3 w3.heap.size Aw (i8s (resolveL zs s)) from
    ⟨(S2.out.1.below hb).more hb.size, (S2.out.2.1.below hb).more hb.size, S2.out.2.2.1.trans (hb.mono z2), (S2.out.2.2.2.below hb).more hb.size⟩)
  have K3 := Lib.hid (K2.out.below_ hb)
  have B23 := Lib.hid hb
  have OA := Lib.hid hoa
  have z3 := Nat.le_trans z2 hb.size
  clear hb hoa hsk2
  go_wp2_with fail
  refine (resolve_any os A0 c0 s w3 hl0 S3.out.2.1).mono ?_
  rintro e w4 ⟨Ac, cc, rfl, hoc, hb⟩
  have S4 := Lib.hid (show Sl w4 w4.heap.size A (i8s zs) ∧ Sl w4 w4.heap.size A0 (i8s os) ∧ Below w.heap.size w w4 ∧ Sl w4 w4.heap.size Aw (i8s (resolveL zs s)) from
    ⟨(S3.out.1.below hb).more hb.size, (S3.out.2.1.below hb).more hb.size, S3.out.2.2.1.trans (hb.mono z3), (S3.out.2.2.2.below hb).more hb.size⟩)
  have K4 := Lib.hid (K3.out.below_ hb)
  have OA4 := Lib.hid (OA.out.below_ hb)
  have OC := Lib.hid hoc
  have B34 := Lib.hid hb
  have z4 := Nat.le_trans z3 hb.size
  have hsk := K4.out.sl
  rw [i8s_app] at hsk
  have hsk2 := sl_prefix hsk
  clear hb hoc hsk
  go_wp2_with fail
  refine (resolve_any zs _ _ s w4 hl hsk2).mono ?_
  rintro e w5 ⟨Ab, cb, rfl, hob, hb⟩
  have S5 := Lib.hid (show Sl w5 w5.heap.size A (i8s zs) ∧ Sl w5 w5.heap.size A0 (i8s os) ∧ Below w.heap.size w w5 ∧ Sl w5 w5.heap.size Aw (i8s (resolveL zs s)) from
    ⟨(S4.out.1.below hb).more hb.size, (S4.out.2.1.below hb).more hb.size, S4.out.2.2.1.trans (hb.mono z4), (S4.out.2.2.2.below hb).more hb.size⟩)
  have K5 := Lib.hid (K4.out.below_ hb)
  have OA5 := Lib.hid (OA4.out.below_ hb)
  have OC5 := Lib.hid (OC.out.below_ hb)
  have OB5 := Lib.hid hob
  have z5 := Nat.le_trans z4 hb.size
  have q5 := hb.size
  have DAB := Lib.hid (show ∀ g, (Value.slice Aa zs.length ca).ownBlock = some g → (Value.slice Ab zs.length cb).ownBlock ≠ some g from fun g hg hg2 => by
    have h1 := (OA.out.lt g hg).2
    have h2 := (hob.lt g hg2).1
    have h3 := B34.out.size
    omega)
  clear hb hob hsk2 OA OA4 OC K2 K3 K4 S1 S2 S3 S4
  -- the answers are held against what is wanted
  have C1 := same_any (resolveL zs s) (resolveL zs s) Aa Aw ca cw w5 (by simpa using hl) (by simpa using hl) OA5.out.sl S5.out.2.2.2
  simp only [decide_true, resolveL_length] at C1
  have HC1 := Lib.hid C1
  clear C1
  go_wp2_with fail
  refine HC1.out.mono ?_
  rintro e w6 ⟨rfl, hb⟩
  have S6 := Lib.hid (show Sl w6 w6.heap.size A (i8s zs) ∧ Sl w6 w6.heap.size A0 (i8s os) ∧ Below w.heap.size w w6 ∧ Sl w6 w6.heap.size Aw (i8s (resolveL zs s)) from
    ⟨(S5.out.1.below hb).more hb.size, (S5.out.2.1.below hb).more hb.size, S5.out.2.2.1.trans (hb.mono z5), (S5.out.2.2.2.below hb).more hb.size⟩)
  have K6 := Lib.hid (K5.out.below_ hb)
  have OA6 := Lib.hid (OA5.out.below_ hb)
  have OB6 := Lib.hid (OB5.out.below_ hb)
  have OC6 := Lib.hid (OC5.out.below_ hb)
  have z6 := Nat.le_trans z5 hb.size
  have q6 := hb.size
  have C2 := same_any (resolveL zs s) (resolveL zs s) Ab Aw cb cw w6 (by simpa using hl) (by simpa using hl) OB6.out.sl S6.out.2.2.2
  simp only [decide_true, resolveL_length] at C2
  have HC2 := Lib.hid C2
  clear C2 hb HC1 S5 K5 OA5 OB5 OC5
  go_wp2_with fail
  refine HC2.out.mono ?_
  rintro e w7 ⟨rfl, hb⟩
  have S7 := Lib.hid (show Sl w7 w7.heap.size A (i8s zs) ∧ Sl w7 w7.heap.size A0 (i8s os) ∧ Below w.heap.size w w7 from
    ⟨(S6.out.1.below hb).more hb.size, (S6.out.2.1.below hb).more hb.size, S6.out.2.2.1.trans (hb.mono z6)⟩)
  have K7 := Lib.hid (K6.out.below_ hb)
  have OA7 := Lib.hid (OA6.out.below_ hb)
  have OB7 := Lib.hid (OB6.out.below_ hb)
  have OC7 := Lib.hid (OC6.out.below_ hb)
  have z7 := Nat.le_trans z6 hb.size
  have q7 := hb.size
  clear hb HC2 S6 K6 OA6 OB6 OC6
  go_wp2_with fail
  refine (rresolve_any os A0 c0 s w7 hl0 S7.out.2.1).mono ?_
  rintro e w8 ⟨Ad, cd, rfl, hod, hb⟩
  have S8 := Lib.hid (show Sl w8 w8.heap.size A (i8s zs) ∧ Below w.heap.size w w8 from ⟨(S7.out.1.below hb).more hb.size, S7.out.2.2.trans (hb.mono z7)⟩)
  have K8 := Lib.hid (K7.out.below_ hb)
  have OA8 := Lib.hid (OA7.out.below_ hb)
  have OB8 := Lib.hid (OB7.out.below_ hb)
  have OC8 := Lib.hid (OC7.out.below_ hb)
  have z8 := Nat.le_trans z7 hb.size
  have q8 := hb.size
  have C3 := same_any (resolveL os s) (resolveL os s) Ac Ad cc cd w8 (by simpa using hl0) (by simpa using hl0) OC8.out.sl hod.sl
  simp only [decide_true, resolveL_length] at C3
  have HC3 := Lib.hid C3
  clear C3 hb hod S7 K7 OA7 OB7 OC7
  go_wp2_with fail
  refine HC3.out.mono ?_
  rintro e w9 ⟨rfl, hb⟩
  have S9 := Lib.hid (show Sl w9 w9.heap.size A (i8s zs) ∧ Below w.heap.size w w9 from ⟨(S8.out.1.below hb).more hb.size, S8.out.2.trans (hb.mono z8)⟩)
  have K9 := Lib.hid (K8.out.below_ hb)
  have OA9 := Lib.hid (OA8.out.below_ hb)
  have OB9 := Lib.hid (OB8.out.below_ hb)
  have z9 := Nat.le_trans z8 hb.size
  have q9 := hb.size
  clear hb HC3 S8 K8 OA8 OB8 OC8
  go_wp2_with fail
  refine (kept_any zs _ _ A c w9 hl K9.out S9.out.1).mono ?_
  rintro e w10 ⟨rfl, hb⟩
  have S10 := Lib.hid (show Sl w10 w10.heap.size A (i8s zs) ∧ Below w.heap.size w w10 from ⟨(S9.out.1.below hb).more hb.size, S9.out.2.trans (hb.mono z9)⟩)
  have K10 := Lib.hid (K9.out.below_ hb)
  have OA10 := Lib.hid (OA9.out.below_ hb)
  have OB10 := Lib.hid (OB9.out.below_ hb)
  have z10 := Nat.le_trans z9 hb.size
  have ZZ := Lib.hid (show w2.heap.size ≤ w10.heap.size ∧ w2.heap.size ≤ w4.heap.size from ⟨by have := B23.out.size; have := B34.out.size; have := q5; have := q6; have := q7; have := q8; have := q9; have := hb.size; omega, Nat.le_trans B23.out.size B34.out.size⟩)
  clear hb S9 K9 OA9 OB9
  go_wp2_with fail
  refine (fresh_any zs.length _ _ (by simp) (by simp) Aa Ab ca cb w2.heap.size w10 hl OA10.out (own_mono OB10.out ZZ.out.2) DAB.out ZZ.out.1).mono ?_
  rintro e w11 ⟨rfl, hb⟩
  have S11 := Lib.hid (show Sl w11 w11.heap.size A (i8s zs) ∧ Below w.heap.size w w11 from by
    have bw := S10.out.2.trans (hb.mono z2)
    exact ⟨(H0.out.below bw).more bw.size, bw⟩)
  have K11 := Lib.hid (own_below_at K10.out hb (fun g hg => by
    have : g = w1.heap.size := by simpa [Value.ownBlock] using hg.symm
    rw [this]; exact KL.out))
  have z11 := Nat.le_trans z10 hb.size
  clear hb S10 K10 OA10 OB10
  go_wp2_with fail
  refine (kept_any zs _ _ A c w11 hl K11.out S11.out.1).mono ?_
  rintro e w12 ⟨rfl, hb⟩
  have B12 := Lib.hid (S11.out.2.trans (hb.mono z11))
  have z12 := Nat.le_trans z11 hb.size
  clear hb
  go_wp2_with fail
  refine (works_any w12).mono ?_
  rintro e w13 ⟨rfl, hb⟩
  have B13 := Lib.hid (B12.out.trans (hb.mono z12))
  clear hb
  go_wp2_with fail
  go_ret
  exact ⟨rfl, B13.out⟩
end Go.Proofs.Ytlomcnmijfiihaa
