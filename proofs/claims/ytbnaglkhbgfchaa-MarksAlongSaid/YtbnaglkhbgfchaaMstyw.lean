/- package marks: Styles: the walk. -/
import Derived.Test.YtbnaglkhbgfchaaMstyles
import Derived.RegionTactic
namespace Go.Proofs.Ytbnaglkhbgfchaa
open Go.RowKit
structure VO (L : List EN) (seen : Array Nat) (O : List EN) : Prop where
  sub : ∀ x ∈ O, x ∈ L
  nd : O.Nodup
  sn : ∀ x ∈ L, seen.contains x.bn = true ↔ x ∈ O
theorem VO.nil (L : List EN) : VO L #[] [] := ⟨by simp, List.nodup_nil, fun x hx => by simp⟩
theorem VO.step {L : List EN} {seen : Array Nat} {O : List EN} {x : EN} (h : VO L seen O) (hn : (L.map (·.bn)).Nodup) (hx : x ∈ L) (hsn : seen.contains x.bn = false) : VO L (seen.push x.bn) (O ++ [x]) := by
  have hxo : x ∉ O := fun hm => by
    have := (h.sn x hx).2 hm
    rw [hsn] at this
    cases this
  refine ⟨fun y hy => ?_, ?_, fun y hy => ?_⟩
  · rcases List.mem_append.1 hy with hy | hy
    · exact h.sub y hy
    · rw [List.mem_singleton] at hy
      rw [hy]
      exact hx
  · rw [List.nodup_append]
    exact ⟨h.nd, by simp, fun a ha b hb => by
      simp at hb
      subst hb
      exact fun e => hxo (by rw [← e]; exact ha)⟩
  · rw [contains_push, Bool.or_eq_true, h.sn y hy, List.mem_append, List.mem_singleton]
    constructor
    · rintro (h4 | h4)
      · exact .inl h4
      · exact .inr (nodup_eq hn hy hx (by simpa using h4))
    · rintro (h4 | h4)
      · exact .inl h4
      · exact .inr (by rw [h4]; simp)
theorem VO.perm {L : List EN} {seen : Array Nat} {O : List EN} (h : VO L seen O) (hn : (L.map (·.bn)).Nodup) (hall : ∀ x ∈ L, seen.contains x.bn = true) : O.Perm L :=
  (List.perm_ext_iff_of_nodup h.nd (nodup_of_map hn)).2 (fun a => ⟨h.sub a, fun ha => (h.sn a ha).1 (hall a ha)⟩)
/-- what Styles hands back -/
def Styled (w : World) (a : Int) (n : Nat) (L : List EN) (e : Ending) (w' : World) : Prop :=
  ∃ (b1 : Nat) (O : List EN), e = .returned (.slice (some ⟨b1, 0, none⟩) n n) ∧ O.Perm L ∧ Blk w' b1 (stsL n (stF a O)) 33 ∧ w.heap.size ≤ b1 ∧ Stay [] w w'
theorem two_boxes' (W : World) (L1 L2 : List Value) (t1 t2 : TypeId) : Blk ((W.alloc (.cells L1.toArray t1)).alloc (.cells L2.toArray t2)).drew W.heap.size L1 t1 ∧ Blk ((W.alloc (.cells L1.toArray t1)).alloc (.cells L2.toArray t2)).drew (W.heap.size + 1) L2 t2 ∧ Stay [] W ((W.alloc (.cells L1.toArray t1)).alloc (.cells L2.toArray t2)).drew := by
  obtain ⟨h1, h2, h3⟩ := two_news W L1 L2 t1 t2
  exact ⟨h1.stay (F := []) (Stay.drew _) (by simp), h2.stay (F := []) (Stay.drew _) (by simp), h3.drew'⟩
set_option maxRecDepth 20000 in
set_option maxHeartbeats 32000000 in
theorem styles_any {w : World} {sb mb ck : Nat} {L : List EN} {last : Int} (h : SetAt w sb mb L ck last) (a : Int) (n : Nat) (hn : n ≤ 1048576) (ha : -(n : Int) ≤ a ∧ a ≤ 4611686018427387904) :
    Calls Try.prog 18 #[.pointer (some ⟨sb, 0, none⟩), .int .i64 a, .int .i64 n] w (Styled w a n L) := by
  have hmk1 : ∀ w, (Instr.makeSlice 51 (.int .i64 n) (.int .i64 n)).run Try.prog w = .ok (.slice (some ⟨w.heap.size, 0, none⟩) n n) (w.alloc (.cells (List.replicate n (Value.int .u16 0)).toArray 33)) := fun w => by
    obtain ⟨i, hi, hz, hs, hy⟩ := info_parts info33
    have hr := run_make (P := Try.prog) w 51 33 i _ Try.underlying51 hi hz .i64 .i64 n n (by omega) (Int.le_refl _) (by rw [hy]; omega) (by omega)
    rw [hs, made1 _ rfl] at hr
    simpa only [Int.toNat_natCast] using hr
  have hmk2 : ∀ w, (Instr.makeSlice 73 (.int .i64 n) (.int .i64 n)).run Try.prog w = .ok (.slice (some ⟨w.heap.size, 0, none⟩) n n) (w.alloc (.cells (List.replicate n (Value.int .i64 0)).toArray 3)) := fun w => by
    obtain ⟨i, hi, hz, hs, hy⟩ := info_parts info3'
    have hr := run_make (P := Try.prog) w 73 3 i _ Try.underlying73 hi hz .i64 .i64 n n (by omega) (Int.le_refl _) (by rw [hy]; omega) (by omega)
    rw [hs, made1 _ rfl] at hr
    simpa only [Int.toNat_natCast] using hr
  have hz1 : List.replicate n (Value.int .u16 0) = stsL n (fun _ => (0, 0)) := by
    refine List.ext_getElem (by simp [stsL]) (fun i h1 h2 => by simp [stsL])
  have hz2 : List.replicate n (Value.int .i64 0) = idsL n (fun _ => (0, 0)) := by
    refine List.ext_getElem (by simp [idsL]) (fun i h1 h2 => by simp [idsL])
  rw [hz1] at hmk1
  rw [hz2] at hmk2
  have q1 : ¬ (n : Int) < 0 := by omega
  have q2 : ¬ (1048576 : Int) < n := by omega
  have q3 : ¬ a < -(n : Int) := by omega
  have q4 : IntKind.i64.wrap (-(n : Int)) = -(n : Int) := by simp only [IntKind.wrap, IntKind.bits, IntKind.signed]; simp; omega
  have HH := Lib.hid h
  have HA := Lib.hid ha
  have HN := Lib.hid hn
  clear h hz1 hz2 ha hn
  go_enter Try.func18, Try.ntmps18
  go_upto_region 3 with fail
  go_cut [7, 8] (fun v u wx => ∃ b1 b2 : Nat, v = .slice (some ⟨b1, 0, none⟩) n n ∧ u = .slice (some ⟨b2, 0, none⟩) n n ∧ Hid (Blk wx b1 (stsL n fun _ => (0, 0)) 33 ∧ Blk wx b2 (idsL n fun _ => (0, 0)) 3 ∧ w.heap.size ≤ b1 ∧ w.heap.size ≤ b2 ∧ Stay [] w wx))
  case first =>
    go_region
    all_goals
      go_wp2_with fail
      go_meet
    · obtain ⟨x1, x2, x3⟩ := two_boxes' w (stsL n fun _ => (0, 0)) (idsL n fun _ => (0, 0)) 33 3
      exact ⟨_, _, rfl, rfl, Lib.hid ⟨x1, x2, by omega, by omega, x3⟩⟩
    · obtain ⟨x1, x2, x3⟩ := two_boxes' w (idsL n fun _ => (0, 0)) (stsL n fun _ => (0, 0)) 3 33
      exact ⟨_, _, rfl, rfl, Lib.hid ⟨x2, x1, by omega, by omega, x3⟩⟩
  case rest =>
    obtain ⟨b1, b2, rfl, rfl, HQ⟩ := hcut
    obtain ⟨W2, hW2⟩ : ∃ x, x = wc := ⟨_, rfl⟩
    rw [← hW2] at HQ ⊢
    have h2 := HH.out.stay0 HQ.out.2.2.2.2
    have c0 : W2.cell? ⟨sb, 0, none⟩ = some (.map (some mb)) := h2.blk.cell 0
    have hrg := range_run h2.m
    have hsi : Stay [] W2 (W2.alloc (.mapIter (some mb) ck #[] ck)) := ⟨rfl, rfl, rfl, by simp, fun i hi _ => heap_alloc_old W2 _ hi⟩
    have HS0 := Lib.hid (show SI w (W2.alloc (.mapIter (some mb) ck #[] ck)) sb mb W2.heap.size ck b1 b2 n L last #[] (stF a []) from
      ⟨h2.m.stay hsi (by simp), IterAt.new _ _ _, h2.blk.stay hsi (by simp), HQ.out.1.stay hsi (by simp), HQ.out.2.1.stay hsi (by simp), HQ.out.2.2.2.2.trans hsi, HQ.out.2.2.2.2.size, HQ.out.2.2.1, HQ.out.2.2.2.1⟩)
    obtain ⟨ib, hib⟩ : ∃ b, b = W2.heap.size := ⟨_, rfl⟩
    rw [← hib] at HS0 hrg
    clear hW2 h2 hsi hib HQ hmk1 hmk2
    go_wp2_with fail
    go_loopw [9] (fun _ wr => ∃ (seen : Array Nat) (O : List EN), Hid (VO L seen O) ∧ Hid (SI w wr sb mb ib ck b1 b2 n L last seen (stF a O))) (fun _ wr => leftN wr ib mb)
    case atStart => exact ⟨#[], [], Lib.hid (VO.nil L), HS0⟩
    case round =>
      clear HS0 hrg c0
      obtain ⟨seen, O, HV, HS⟩ := hrel
      rcases next_run 0 HS.out.m HS.out.i with ⟨hall, hnx⟩ | ⟨x, hx, hsn, w1, hnx, hst1, hit1⟩
      · have HF := Lib.hid (show Styled w a n L (.returned (.slice (some ⟨b1, 0, none⟩) n n)) wr from ⟨b1, O, rfl, HV.out.perm HS.out.m.nb hall, HS.out.o, HS.out.hib.2.1, HS.out.st⟩)
        clear hall
        go_wp2_with fail
        go_ret
        exact HF.out
      · have hs1 := HS.out.stepped hst1 hit1
        have HV1 := Lib.hid (HV.out.step HS.out.m.nb hx hsn)
        have hen := entry_run hs1.m hx hit1
        have hok := HH.out.ok x hx
        have hid1 := HH.out.id x hx
        have HLt := Lib.hid (show (L.filter fun y => !(seen.push x.bn).contains y.bn).length < leftN wr ib mb from by rw [HS.out.left]; exact left_lt hx hsn)
        obtain ⟨id, ⟨xb, xe, xg, xs⟩, bn⟩ := x
        simp only [St.val] at hnx hen
        obtain ⟨k0, k1, k2⟩ := hok
        simp only at k0 k1 k2 hid1
        obtain ⟨W3, hW3⟩ : ∃ W, W = w1.alloc (.cells #[.int .i64 xb, .int .i64 xe, .bool xg, .int .u16 xs] 67) := ⟨_, rfl⟩
        have hs3 : Stay [] w1 W3 := by rw [hW3]; exact Stay.alloc _ _
        have hb3 : Blk W3 w1.heap.size [.int .i64 xb, .int .i64 xe, .bool xg, .int .u16 xs] 67 := by rw [hW3]; exact Blk.new w1 _ _
        obtain ⟨b7, hb7e⟩ : ∃ b, b = w1.heap.size := ⟨_, rfl⟩
        rw [← hb7e] at hb3
        have HSI := Lib.hid (hs1.stay0 hs3)
        have HB3 := Lib.hid hb3
        have m0 : W3.cell? ⟨b7, 0, none⟩ = some (.int .i64 xb) := hb3.cell 0
        obtain ⟨p0, hp0⟩ : ∃ p, p = max xb a := ⟨_, rfl⟩
        have hmx : ∀ ts t (w : World), (Builtin.max_ ts t #[.int .i64 xb, .int .i64 a]).run Try.prog w = .ok (.int .i64 p0) w := fun ts t w => by rw [hp0]; exact max_ints xb a ts t w
        obtain ⟨q0, hq0⟩ : ∃ q : Nat, p0 = a + q := ⟨(p0 - a).toNat, by omega⟩
        have HPq := Lib.hid (show p0 = max xb a ∧ p0 = a + q0 from ⟨hp0, hq0⟩)
        have HW3 := Lib.hid hW3
        have HBe := Lib.hid hb7e
        have HKb := Lib.hid (And.intro k0 (And.intro k1 (And.intro k2 hid1)))
        have HM0 := Lib.hid (show SI w W3 sb mb ib ck b1 b2 n L last (seen.push bn) (mid a ⟨id, ⟨xb, xe, xg, xs⟩, bn⟩ (stF a O) q0 q0) from HSI.out.congr (fun j hj => by unfold mid; rw [if_neg (by omega)]))
        clear hx hsn hst1 hit1 hs1 hid1 hW3 hs3 hb3 hb7e hp0 hq0 k0 k1 k2 HSI
        go_upto_region 9 with fail
        rw [← HW3.out, ← HBe.out]
        go_wp2_with fail
        go_loopw [11] (fun pv wr2 => ∃ (q : Nat) (pp : Int), pv = .int .i64 pp ∧ Hid (pp = a + q ∧ q0 ≤ q ∧ ∀ j : Nat, q0 ≤ j → j < q → a + j < xe) ∧ Hid (SI w wr2 sb mb ib ck b1 b2 n L last (seen.push bn) (mid a ⟨id, ⟨xb, xe, xg, xs⟩, bn⟩ (stF a O) q0 q)) ∧ Hid (Blk wr2 b7 [.int .i64 xb, .int .i64 xe, .bool xg, .int .u16 xs] 67)) (fun pv _ => (xe - intOf pv).toNat)
        case atStart => exact ⟨q0, p0, rfl, Lib.hid ⟨HPq.out.2, Nat.le_refl _, fun j h1 h2 => by omega⟩, HM0, HB3⟩
        case round =>
          clear HM0 m0
          obtain ⟨q, pp, rfl, HPP, HSq, HBq⟩ := hrel
          have m1 : wr.cell? ⟨b7, 1, none⟩ = some (.int .i64 xe) := HBq.out.cell 1
          have m3 : wr.cell? ⟨b7, 3, none⟩ = some (.int .u16 xs) := HBq.out.cell 3
          have HEnd := Lib.hid (show (xe ≤ pp ∨ n ≤ q) → SI w wr sb mb ib ck b1 b2 n L last (seen.push bn) (stF a (O ++ [⟨id, ⟨xb, xe, xg, xs⟩, bn⟩])) from fun hor => HSq.out.congr (fun j hj => by
            rw [stF_app]
            obtain ⟨e1, e2, e3⟩ := HPP.out
            obtain ⟨e4, e5⟩ := HPq.out
            unfold mid
            by_cases hj1 : q0 ≤ j ∧ j < q
            · rw [if_pos hj1]
            · rw [if_neg hj1]
              unfold stp
              rw [if_neg]
              simp only
              rintro ⟨⟨e6, e7⟩, _⟩
              rcases hor with e8 | e8 <;> omega))
          by_cases hc1 : pp < xe
          · obtain ⟨e1, e2, e3⟩ := HPP.out
            obtain ⟨u0, u1, u2, u3⟩ := HKb.out
            have a0 := HA.out.1
            have n0 := HN.out
            have hsub : IntKind.i64.wrap (pp - a) = (q : Int) := by
              have : pp - a = q := by omega
              rw [this]
              simp only [IntKind.wrap, IntKind.bits, IntKind.signed]; simp; omega
            have hadd : IntKind.i64.wrap (pp + 1) = pp + 1 := by simp only [IntKind.wrap, IntKind.bits, IntKind.signed]; simp; omega
            by_cases hc2 : q < n
            · have hc2' : (q : Int) < n := by omega
              have hq0' : (0 : Int) ≤ q := by omega
              obtain ⟨i0, hi0⟩ : ∃ z, z = (stF a O q).1 := ⟨_, rfl⟩
              have hmq : mid a ⟨id, ⟨xb, xe, xg, xs⟩, bn⟩ (stF a O) q0 q q = stF a O q := by unfold mid; rw [if_neg (by omega)]
              have d1 : wr.cell? ⟨b2, q, none⟩ = some (.int .i64 i0) := by rw [HSq.out.d.cell q, idsL_at n q _ hc2, hmq, hi0]
              have f1 := HSq.out.o.free q
              have f2 : (wr.setCell ⟨b1, q, none⟩ (.int .u16 xs)).frozen? ⟨b2, q, none⟩ = false := by rw [World.frozen?_setCell]; exact HSq.out.d.free q
              have d2 : (wr.setCell ⟨b1, q, none⟩ (.int .u16 xs)).cell? ⟨b2, q, none⟩ = some (.int .i64 i0) := by
                have h9 := (HSq.out.d.stay (F := [b1]) (Stay.setCell wr ⟨b1, q, none⟩ (.int .u16 xs) (by simp)) (by simpa using (blk_ty HSq.out.o HSq.out.d (by decide)).symm)).cell q
                rw [h9, idsL_at n q _ hc2, hmq, hi0]
              have o1 : wr.cell? ⟨b1, q, none⟩ = some (.int .u16 (stF a O q).2) := by rw [HSq.out.o.cell q, stsL_at n q _ hc2, hmq]
              have hcov : xb ≤ a + q ∧ a + q < xe := by
                obtain ⟨e4, e5⟩ := HPq.out
                omega
              have HI0 := Lib.hid (And.intro hi0 hcov)
              have HNx := Lib.hid (show pp + 1 = a + ((q + 1 : Nat) : Int) ∧ q0 ≤ q + 1 ∧ ∀ j : Nat, q0 ≤ j → j < q + 1 → a + j < xe from ⟨by push_cast; omega, by omega, fun j h1 h2 => by
                by_cases e : j < q
                · exact e3 j h1 e
                · have : j = q := by omega
                  subst this
                  exact hcov.2⟩)
              clear e1 e2 e3 u0 u1 u2 u3 a0 n0 hi0 hcov HEnd
              by_cases hc3 : i0 < id
              · have HSn := Lib.hid (show SI w ((wr.setCell ⟨b1, q, none⟩ (.int .u16 xs)).setCell ⟨b2, q, none⟩ (.int .i64 id)) sb mb ib ck b1 b2 n L last (seen.push bn) (mid a ⟨id, ⟨xb, xe, xg, xs⟩, bn⟩ (stF a O) q0 (q + 1)) from HSq.out.put hc2 (by
                  unfold mid
                  rw [if_pos ⟨HPP.out.2.1, Nat.lt_succ_self _⟩]
                  unfold stp
                  rw [if_pos ⟨HI0.out.2, by rw [← HI0.out.1]; exact hc3⟩]) (fun j hj => by
                  unfold mid
                  by_cases e : q0 ≤ j ∧ j < q
                  · rw [if_pos e, if_pos ⟨e.1, by omega⟩]
                  · rw [if_neg e, if_neg (by omega)]))
                have HBn := Lib.hid (show Blk ((wr.setCell ⟨b1, q, none⟩ (.int .u16 xs)).setCell ⟨b2, q, none⟩ (.int .i64 id)) b7 [.int .i64 xb, .int .i64 xe, .bool xg, .int .u16 xs] 67 from HBq.out.stay (F := [b1, b2]) ((Stay.setCell _ _ _ (by simp)).trans (Stay.setCell _ _ _ (by simp))) (by
                  simp
                  exact ⟨blk_ty HBq.out HSq.out.o (by decide), blk_ty HBq.out HSq.out.d (by decide)⟩))
                clear hmq
                go_wp2_with fail
                go_roundw
                case rel => exact ⟨q + 1, pp + 1, rfl, HNx, HSn, HBn⟩
                case measure => simp [intOf]; omega
              · have HSn := Lib.hid (show SI w wr sb mb ib ck b1 b2 n L last (seen.push bn) (mid a ⟨id, ⟨xb, xe, xg, xs⟩, bn⟩ (stF a O) q0 (q + 1)) from HSq.out.congr (fun j hj => by
                  unfold mid
                  by_cases e : q0 ≤ j ∧ j < q
                  · rw [if_pos e, if_pos ⟨e.1, by omega⟩]
                  · rw [if_neg e]
                    by_cases e2 : j = q
                    · subst e2
                      rw [if_pos ⟨HPP.out.2.1, Nat.lt_succ_self _⟩]
                      unfold stp
                      rw [if_neg (fun hh => hc3 (by rw [HI0.out.1]; exact hh.2))]
                    · rw [if_neg (by omega)]))
                clear hmq
                go_wp2_with fail
                go_roundw
                case rel => exact ⟨q + 1, pp + 1, rfl, HNx, HSn, HBq⟩
                case measure => simp [intOf]; omega
            · have hc2' : ¬ (q : Int) < n := by omega
              have HSe := Lib.hid (HEnd.out (.inr (by omega)))
              clear e1 e2 e3 u0 u1 u2 u3 a0 n0
              go_wp2_with fail
              go_roundw
              case rel => exact ⟨_, _, HV1, HSe⟩
              case measure => rw [HSe.out.left]; exact HLt.out
          · have HSe := Lib.hid (HEnd.out (.inl (by omega)))
            go_wp2_with fail
            go_roundw
            case rel => exact ⟨_, _, HV1, HSe⟩
            case measure => rw [HSe.out.left]; exact HLt.out
end Go.Proofs.Ytbnaglkhbgfchaa
