/- shuttlelaw24: damage. -/
import Derived.Test.YtohkjopdoejedaaGrow
namespace Go.Proofs.Ytohkjopdoejedaa
open Go.RowKit
def dmgI (l : List (Nat × Nat × Nat)) : List Int := l.flatMap fun q => [(q.1 : Int), (q.2.1 : Int), (q.2.2 : Int)]
theorem dmgI_length (l : List (Nat × Nat × Nat)) : (dmgI l).length = 3 * l.length := by
  induction l with
  | nil => rfl
  | cons q l ih =>
    show ([_, _, _] ++ dmgI l).length = _
    rw [List.length_append, ih]
    simp
    omega
theorem dmgI_at : ∀ (l : List (Nat × Nat × Nat)) (i : Nat) (h : i < l.length), (dmgI l)[3 * i]? = some ((l[i]).1 : Int) ∧ (dmgI l)[3 * i + 1]? = some ((l[i]).2.1 : Int) ∧ (dmgI l)[3 * i + 2]? = some ((l[i]).2.2 : Int)
  | [], i, h => by simp at h
  | q :: l, 0, _ => ⟨rfl, rfl, rfl⟩
  | q :: l, i + 1, h => by
    have ih := dmgI_at l i (by simpa using h)
    have e : dmgI (q :: l) = [(q.1 : Int), (q.2.1 : Int), (q.2.2 : Int)] ++ dmgI l := rfl
    rw [e]
    refine ⟨?_, ?_, ?_⟩ <;> rw [List.getElem?_append_right (by simp; omega)]
    · rw [show 3 * (i + 1) - [(q.1 : Int), (q.2.1 : Int), (q.2.2 : Int)].length = 3 * i by simp; omega]; exact ih.1
    · rw [show 3 * (i + 1) + 1 - [(q.1 : Int), (q.2.1 : Int), (q.2.2 : Int)].length = 3 * i + 1 by simp; omega]; exact ih.2.1
    · rw [show 3 * (i + 1) + 2 - [(q.1 : Int), (q.2.1 : Int), (q.2.2 : Int)].length = 3 * i + 2 by simp; omega]; exact ih.2.2
theorem rectCells_at : ∀ (l : List (Nat × Nat × Nat)) (i : Nat) (h : i < l.length) (j : Nat), j < 4 → (rectCells l)[i * 4 + j]? = [Value.int .i64 (l[i]).1, .int .i64 (l[i]).2.1, .int .i64 (l[i]).2.2, .int .i64 1][j]?
  | [], i, h, _, _ => by simp at h
  | q :: l, 0, _, j, hj => by
    have e : rectCells (q :: l) = [Value.int .i64 q.1, .int .i64 q.2.1, .int .i64 q.2.2, .int .i64 1] ++ rectCells l := rfl
    rw [e, List.getElem?_append_left (by simp; omega)]
    simp
  | q :: l, i + 1, h, j, hj => by
    have e : rectCells (q :: l) = [Value.int .i64 q.1, .int .i64 q.2.1, .int .i64 q.2.2, .int .i64 1] ++ rectCells l := rfl
    rw [e, List.getElem?_append_right (by simp; omega)]
    have h1 := rectCells_at l i (by simpa using h) j hj
    rw [show (i + 1) * 4 + j - [Value.int .i64 q.1, .int .i64 q.2.1, .int .i64 q.2.2, .int .i64 1].length = i * 4 + j by simp; omega, h1]
    simp
theorem rc_neq (a1 a2 a3 a4 b1 b2 b3 b4 : Int) (w : World) : (binOp .neq 35 (.agg #[.int .i64 a1, .int .i64 a2, .int .i64 a3, .int .i64 a4]) (.agg #[.int .i64 b1, .int .i64 b2, .int .i64 b3, .int .i64 b4])).run Try.prog w = .ok (.bool (!(decide (a1 = b1) && decide (a2 = b2) && decide (a3 = b3) && decide (a4 = b4)))) w := by
  have hS : Try.prog.underlying 35 = some (.struct (Try.prog.fieldsOf 35)) := by kernel_rfl
  have hp : Try.prog.stoodInHeld 35 = false := by kernel_rfl
  rw [run_neq_struct, show (10000 : Nat) = 9999 + 1 from rfl, run_equalIn_agg w 9999 35 _ _ hS hp]
  simp only [Program.fieldsOf, Try.underlying35]
  go_simp
  by_cases h1 : a1 = b1 <;> by_cases h2 : a2 = b2 <;> by_cases h3 : a3 = b3 <;> by_cases h4 : a4 = b4 <;> simp [h1, h2, h3, h4]
theorem rc_guard : Try.prog.eqGuardType Try.prog.depth 35 = false := by kernel_rfl
theorem list_eq_of3 (l : List (Nat × Nat × Nat)) (want : List Int) (hl : 3 * l.length = want.length) (h : ∀ i (hi : i < l.length), want.getD (3 * i) 0 = ((l[i]).1 : Int) ∧ want.getD (3 * i + 1) 0 = ((l[i]).2.1 : Int) ∧ want.getD (3 * i + 2) 0 = ((l[i]).2.2 : Int)) : dmgI l = want := by
  apply List.ext_getElem?
  intro k
  by_cases hk : k < want.length
  · have hi : k / 3 < l.length := by omega
    have h1 := h (k / 3) hi
    have h2 := dmgI_at l (k / 3) hi
    have hw : want[k]? = some (want.getD k 0) := by rw [List.getD_eq_getElem?_getD, List.getElem?_eq_getElem hk]; rfl
    rw [hw]
    have hr : k % 3 = 0 ∨ k % 3 = 1 ∨ k % 3 = 2 := by omega
    rcases hr with hr | hr | hr
    · have e : k = 3 * (k / 3) := by omega
      rw [e, h1.1]
      exact h2.1
    · have e : k = 3 * (k / 3) + 1 := by omega
      rw [e, h1.2.1]
      exact h2.2.1
    · have e : k = 3 * (k / 3) + 2 := by omega
      rw [e, h1.2.2]
      exact h2.2.2
  · rw [List.getElem?_eq_none (by rw [dmgI_length]; omega), List.getElem?_eq_none (by omega)]
theorem ints_at (want : List Int) (j : Nat) (hj : j < want.length) : (ints .i64 want)[j]? = some (.int .i64 (want.getD j 0)) := by
  unfold ints
  rw [List.getElem?_map, List.getElem?_eq_getElem hj, List.getD_eq_getElem?_getD, List.getElem?_eq_getElem hj]
  rfl
set_option maxRecDepth 20000 in
set_option maxHeartbeats 4000000 in
theorem dmgchk_any (s base : Nat) (os : List Nat) (S : Sc) (bw : Nat) (want : List Int) (w : World) (hn : want.length ≤ 4096) (hb : Blk w bw (ints .i64 want) 3) (h : Sm w s base os S) :
    Calls Try.prog 28 #[.pointer (some ⟨s, 0, none⟩), .slice (some ⟨bw, 0, none⟩) want.length want.length] w fun e w' => e = .returned (.bool (decide (dmgI (S.dmg S.H) = want))) ∧ Below w.heap.size w w' := by
  have HD := Lib.hid (damage_any s base os S w h)
  have hlt := hb.lt
  have HBk := Lib.hid hb
  have hdl := dmg_len S S.H
  have hH := h.ok.h
  have HLl := Lib.hid (dmgI_length (S.dmg S.H))
  obtain ⟨l, hl⟩ : ∃ l, l = S.dmg S.H := ⟨_, rfl⟩
  obtain ⟨n, hne⟩ : ∃ n, n = l.length := ⟨_, rfl⟩
  rw [← hl] at HD hdl HLl ⊢
  rw [← hne] at HD hdl HLl
  have hn1 : n ≤ 1024 := by omega
  obtain ⟨m, hm⟩ : ∃ m, m = want.length := ⟨_, rfl⟩
  rw [← hm] at hn ⊢
  have HNe := Lib.hid hne
  have HMe := Lib.hid hm
  clear h hb hl hdl hH hne hm
  go_enter Try.func28, Try.ntmps28
  go_wp2_with fail
  refine HD.out.mono ?_
  rintro e w1 ⟨A, c, rfl, ho, hb⟩
  have HO := Lib.hid ho
  have HB := Lib.hid hb
  have HBw := Lib.hid (HBk.out.stay (Stay.below (F := []) hb) (by simp))
  clear ho hb HD
  by_cases hnm : 3 * n = m
  · have hnm' : (3 : Int) * n = m := by omega
    go_wp2_with fail
    go_loopw [4, 6] (fun bv iv wr => ∃ k : Nat, bv = .bool false ∧ k ≤ n ∧ iv = .int .i64 k ∧ Hid (∀ i (hi : i < l.length), i < k → want.getD (3 * i) 0 = ((l[i]).1 : Int) ∧ want.getD (3 * i + 1) 0 = ((l[i]).2.1 : Int) ∧ want.getD (3 * i + 2) 0 = ((l[i]).2.2 : Int)) ∧ Hid (Stay [] w1 wr)) (fun _ iv _ => n - (intOf iv).toNat)
    case atStart => exact ⟨0, rfl, by omega, rfl, fun i hi h0 => by omega, Stay.refl _ _⟩
    case round =>
      obtain ⟨k, rfl, hk, rfl, HEq, HTk⟩ := hrel
      by_cases hlt2 : k < n
      · have hlt' : (k : Int) < n := by omega
        have hk0 : (0 : Int) ≤ k := by omega
        have hok := HTk.out.own HO.out (by simp)
        obtain ⟨g, cap, hv, -, -⟩ := owned_form hok (by omega)
        injection hv with hA _ hc
        subst hA
        subst hc
        have hkl : k < l.length := by rw [← HNe.out]; exact hlt2
        have key : ∀ j v, [Value.int .i64 (l[k]).1, .int .i64 (l[k]).2.1, .int .i64 (l[k]).2.2, .int .i64 1][j]? = some v → wr.cell? ⟨g, k * 4 + j, none⟩ = some v := fun j v hj => by
          have hj6 : j < 4 := by have := (List.getElem?_eq_some_iff.1 hj).1; exact this
          rw [World.ownsRow.cellAt hok (k * 4 + j) (by omega), rectCells_at l k hkl j hj6, hj]
        have keyw : ∀ j, j < m → wr.cell? ⟨bw, j, none⟩ = some (.int .i64 (want.getD j 0)) := fun j hj => by
          rw [(HBw.out.stay HTk.out (by simp)).cell, ints_at want j (by rw [← HMe.out]; exact hj)]
        obtain ⟨p0, hp0⟩ : ∃ p, p = 3 * k := ⟨_, rfl⟩
        obtain ⟨p1, hp1⟩ : ∃ p, p = 3 * k + 1 := ⟨_, rfl⟩
        obtain ⟨p2, hp2⟩ : ∃ p, p = 3 * k + 2 := ⟨_, rfl⟩
        have w0 := keyw p0 (by omega)
        have w1' := keyw p1 (by omega)
        have w2 := keyw p2 (by omega)
        have HEk := Lib.hid (show ∀ i (hi : i < l.length), i < k + 1 → (i = k → want.getD p0 0 = ((l[k]).1 : Int) ∧ want.getD p1 0 = ((l[k]).2.1 : Int) ∧ want.getD p2 0 = ((l[k]).2.2 : Int)) → want.getD (3 * i) 0 = ((l[i]).1 : Int) ∧ want.getD (3 * i + 1) 0 = ((l[i]).2.1 : Int) ∧ want.getD (3 * i + 2) 0 = ((l[i]).2.2 : Int) from by
          intro i hi h1 h2
          by_cases e : i = k
          · subst e
            rw [← hp2, ← hp1, ← hp0]
            exact h2 rfl
          · exact HEq.out i hi (by omega))
        have HNo := Lib.hid (show ¬ (want.getD p0 0 = ((l[k]).1 : Int) ∧ want.getD p1 0 = ((l[k]).2.1 : Int) ∧ want.getD p2 0 = ((l[k]).2.2 : Int)) → decide (dmgI l = want) = false from by
          intro h1
          rw [decide_eq_false_iff_not]
          intro e
          apply h1
          have h2 := dmgI_at l k hkl
          rw [e] at h2
          rw [hp0, hp1, hp2]
          simp only [List.getD_eq_getElem?_getD, h2.1, h2.2.1, h2.2.2]
          exact ⟨rfl, rfl, rfl⟩)
        obtain ⟨v0, hv0⟩ : ∃ v, v = want.getD p0 0 := ⟨_, rfl⟩
        obtain ⟨v1, hv1⟩ : ∃ v, v = want.getD p1 0 := ⟨_, rfl⟩
        obtain ⟨v2, hv2⟩ : ∃ v, v = want.getD p2 0 := ⟨_, rfl⟩
        obtain ⟨u0, hu0⟩ : ∃ u : Nat, u = (l[k]).1 := ⟨_, rfl⟩
        obtain ⟨u1, hu1⟩ : ∃ u : Nat, u = (l[k]).2.1 := ⟨_, rfl⟩
        obtain ⟨u2, hu2⟩ : ∃ u : Nat, u = (l[k]).2.2 := ⟨_, rfl⟩
        rw [← hv0, ← hv1, ← hv2, ← hu0, ← hu1, ← hu2] at HEk HNo
        rw [← hv0] at w0
        rw [← hv1] at w1'
        rw [← hv2] at w2
        rw [← hu0, ← hu1, ← hu2] at key
        have c0 := key 0 _ rfl
        rw [Nat.add_zero] at c0
        have c1 := key 1 _ rfl
        have c2 := key 2 _ rfl
        have c3 := key 3 _ rfl
        have q0 : (3 : Int) * k = p0 := by omega
        have q1 : (p0 : Int) + 1 = p1 := by omega
        have q2 : (p0 : Int) + 2 = p2 := by omega
        have r0 : IntKind.i64.wrap (p0 : Int) = p0 := by simp only [IntKind.wrap, IntKind.bits, IntKind.signed]; simp; omega
        have r1 : IntKind.i64.wrap (p1 : Int) = p1 := by simp only [IntKind.wrap, IntKind.bits, IntKind.signed]; simp; omega
        have r2 : IntKind.i64.wrap (p2 : Int) = p2 := by simp only [IntKind.wrap, IntKind.bits, IntKind.signed]; simp; omega
        have t0 : (p0 : Int) < m := by omega
        have t1 : (p1 : Int) < m := by omega
        have t2 : (p2 : Int) < m := by omega
        have hneq := rc_neq u0 u1 u2 1 v0 v1 v2 1
        have hgu := rc_guard
        obtain ⟨bb, hbb⟩ : ∃ bb, bb = !(decide ((u0 : Int) = v0) && decide ((u1 : Int) = v1) && decide ((u2 : Int) = v2) && decide ((1 : Int) = 1)) := ⟨_, rfl⟩
        rw [← hbb] at hneq
        have HBb := Lib.hid hbb
        clear key keyw hv0 hv1 hv2 hu0 hu1 hu2 hp0 hp1 hp2 hok hkl hbb
        cases bb with
        | true =>
          have HF := Lib.hid (show decide (dmgI l = want) = false from HNo.out (fun ⟨e1, e2, e3⟩ => by
            have := HBb.out
            simp [e1, e2, e3] at this))
          go_wp2_with fail
          go_quiet (fail)
          go_wp2_with fail
          exact bodyPost_ret (v := .bool false) (by simp [results, Try.results28, go_sem]) rfl ⟨by rw [HF.out], HB.out.trans ((HTk.out.drewN').toBelow HB.out.size (by simp))⟩
        | false =>
          have HE3 := Lib.hid (show v0 = (u0 : Int) ∧ v1 = (u1 : Int) ∧ v2 = (u2 : Int) from by
            have := HBb.out
            simp at this
            omega)
          go_wp2_with fail
          go_quiet (fail)
          go_wp2_with fail
          go_roundw
          case rel => exact ⟨k + 1, rfl, by omega, by go_num, fun i hi h1 => HEk.out i hi h1 (fun _ => HE3.out), HTk.out.drewN'⟩
          case measure => simp [intOf]; omega
      · have hk' : k = n := by omega
        have hlt' : ¬ (k : Int) < n := by omega
        have HF := Lib.hid (show decide (dmgI l = want) = true from by
          rw [decide_eq_true_eq]
          exact list_eq_of3 l want (by rw [← HNe.out, ← HMe.out]; exact hnm) (fun i hi => HEq.out i hi (by rw [hk', HNe.out]; exact hi)))
        have HBf := Lib.hid (HB.out.trans (HTk.out.toBelow HB.out.size (by simp)))
        clear hk'
        go_wp2_with fail
        exact bodyPost_ret (v := .bool true) (by simp [results, Try.results28, go_sem]) rfl ⟨by rw [HF.out], HBf.out⟩
  · have hnm' : ¬ (3 : Int) * n = m := by omega
    have HF := Lib.hid (show decide (dmgI l = want) = false from by
      rw [decide_eq_false_iff_not]
      intro e
      have := HLl.out
      rw [e, ← HMe.out] at this
      omega)
    go_wp2_with fail
    exact bodyPost_ret (v := .bool false) (by simp [results, Try.results28, go_sem]) rfl ⟨by rw [HF.out], HB.out⟩
end Go.Proofs.Ytohkjopdoejedaa
