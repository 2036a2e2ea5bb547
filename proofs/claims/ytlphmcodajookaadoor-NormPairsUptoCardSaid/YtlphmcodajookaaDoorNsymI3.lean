/- slices' stable sort at items: symMerge: the walk. -/
import Derived.Test.YtlphmcodajookaaDoorNAsymI
namespace Go.Proofs.YtlphmcodajookaaDoor
open Go.RowKit
/-- two rows in order, one behind the other, are merged -/
def SymI (g o c pb N : Nat) (pre post : List Value) (A B : List It) : Prop :=
  ∀ (w : World) (P Q : List It) (a m b : Nat), SegI w g pre (P ++ (A ++ (B ++ Q))) post → N = (P ++ (A ++ (B ++ Q))).length → a = P.length → m = P.length + A.length → b = P.length + A.length + B.length →
    w.cell? ⟨pb, 0, none⟩ = some (.func (.func 116) #[] #[]) →
    Calls Tryd.prog 144 #[.slice (some ⟨g, o, none⟩) N c, .int .i64 a, .int .i64 m, .int .i64 b, cmpFnI pb] w fun e w' => e = .returned (.tuple #[]) ∧ (∃ C, Stab keyI (A ++ B) C ∧ SegI w' g pre (P ++ (C ++ Q)) post) ∧ Stay [g] w w'
set_option maxRecDepth 20000 in
set_option maxHeartbeats 16000000 in
theorem symI_both (g o c pb N : Nat) (pre post : List Value) (A B : List It) (ho : o = pre.length) (hL : N ≤ 2305843009213693952) (hne : pb ≠ g) (hA : Ord keyI A) (hB : Ord keyI B) (hA2 : 2 ≤ A.length) (hB2 : 2 ≤ B.length)
    (ih : ∀ A' B' : List It, A'.length + B'.length < A.length + B.length → 0 < A'.length → 0 < B'.length → Ord keyI A' → Ord keyI B' → SymI g o c pb N pre post A' B') : SymI g o c pb N pre post A B := by
  intro w P Q a m b h hN ha hm hb hp
  have HS := Lib.hid h
  have HR := Lib.hid (Stay.refl [g] w)
  have HO := Lib.hid ho
  have HN := Lib.hid (show N = P.length + A.length + B.length + Q.length from by rw [hN]; simp only [List.length_append]; omega)
  have HA := Lib.hid hA
  have HB := Lib.hid hB
  have HCell := Lib.hid (show ∀ u, Stay [g] w u → u.cell? ⟨pb, 0, none⟩ = some (.func (.func 116) #[] #[]) from fun u hu => (hu.cell_ (a := ⟨pb, 0, none⟩) (World.block_lt_of_cell? _ _ hp) (by simpa using hne)).trans hp)
  have HC := Lib.hid (show ∀ (u : World) (y z : It), Stay [g] w u → Calls Tryd.prog 131 #[.agg #[.int .i32 y.r, .int .u8 y.b.toNat, .bool y.bad, .int .u8 (keyI y)], .agg #[.int .i32 z.r, .int .u8 z.b.toNat, .bool z.bad, .int .u8 (keyI z)], .pointer (some ⟨pb, 0, none⟩)] u fun e w' => e = .returned (.int .i64 (cmp8 (keyI y) (keyI z))) ∧ Stay [] u w' from fun u y z hu => (cmpI_any y z pb u (HCell.out u hu)).mono fun _ _ ⟨h1, q, os, h2⟩ => ⟨h1, by rw [h2]; exact Stay.grow_ u q os⟩)
  obtain ⟨mid, hmid⟩ : ∃ mid : Nat, mid = (a + b) / 2 := ⟨_, rfl⟩
  obtain ⟨n, hn⟩ : ∃ n : Nat, n = mid + m := ⟨_, rfl⟩
  have HM := Lib.hid (show a = P.length ∧ m = a + A.length ∧ b = m + B.length ∧ b ≤ N ∧ N ≤ 2305843009213693952 ∧ mid = (a + b) / 2 ∧ n = mid + m ∧ 2 ≤ A.length ∧ 2 ≤ B.length from by have := HN.out; omega)
  obtain ⟨s0, hs0⟩ : ∃ s : Nat, s = if mid < m then n - b else a := ⟨_, rfl⟩
  obtain ⟨r0, hr0⟩ : ∃ r : Nat, r = if mid < m then mid else m := ⟨_, rfl⟩
  have HB0 := Lib.hid (show a ≤ s0 ∧ s0 ≤ r0 ∧ r0 ≤ m ∧ r0 ≤ mid ∧ (∀ x, s0 ≤ x → x < r0 → x < m ∧ m ≤ n - 1 - x ∧ n - 1 - x < b) ∧ (r0 = mid ∨ r0 = m) ∧ (s0 = a ∨ s0 + b = n) ∧ n ≤ s0 + b ∧ m + r0 ≤ n from by
    have := HM.out
    by_cases hc : mid < m
    · rw [if_pos hc] at hs0 hr0
      refine ⟨by omega, by omega, by omega, by omega, fun x h1 h2 => by omega, .inl hr0, .inr (by omega), by omega, by omega⟩
    · rw [if_neg hc] at hs0 hr0
      refine ⟨by omega, by omega, by omega, by omega, fun x h1 h2 => by omega, .inr hr0, .inl hs0, by omega, by omega⟩)
  have HIh := Lib.hid ih
  have HRot := Lib.hid (fun (u : World) (P' X Y Q' : List It) (a' m' b' : Nat) (k1 : SegI u g pre (P' ++ (X ++ (Y ++ Q'))) post) (k2 : N = (P' ++ (X ++ (Y ++ Q'))).length) (k3 : a' = P'.length) (k4 : m' = P'.length + X.length) (k5 : b' = P'.length + X.length + Y.length) (k6 : 0 < X.length) (k7 : 0 < Y.length) => rotI_any u g o c pre post P' X Y Q' N a' m' b' (cmpFnI pb) k1 ho k2 k3 k4 k5 k6 k7 hL)
  obtain ⟨d1, hd1⟩ : ∃ d : Int, d = (m : Int) - a := ⟨_, rfl⟩
  obtain ⟨d2, hd2⟩ : ∃ d : Int, d = (b : Int) - m := ⟨_, rfl⟩
  have hz1 : (d1 == 1) = false := by have := HM.out; simp; omega
  have hz2 : (d2 == 1) = false := by have := HM.out; simp; omega
  have w0 : IntKind.i64.wrap ((m : Int) - a) = d1 := by rw [hd1]; have := HM.out; simp only [IntKind.wrap, IntKind.bits, IntKind.signed]; simp; omega
  have w00 : IntKind.i64.wrap ((b : Int) - m) = d2 := by rw [hd2]; have := HM.out; simp only [IntKind.wrap, IntKind.bits, IntKind.signed]; simp; omega
  have v1 : IntKind.i64.wrap ((a : Int) + b) = (a : Int) + b := by have := HM.out; simp only [IntKind.wrap, IntKind.bits, IntKind.signed]; simp; omega
  have v2 : IntKind.u64.wrap ((a : Int) + b) = (a : Int) + b := by have := HM.out; simp only [IntKind.wrap, IntKind.bits, IntKind.signed]; simp; omega
  have v3 : ((a : Int) + b) / 2 = mid := by have := HM.out; omega
  have v4 : IntKind.u64.wrap (mid : Int) = mid := by have := HM.out; simp only [IntKind.wrap, IntKind.bits, IntKind.signed]; simp; omega
  have v5 : IntKind.i64.wrap (mid : Int) = mid := by have := HM.out; simp only [IntKind.wrap, IntKind.bits, IntKind.signed]; simp; omega
  have v6 : IntKind.i64.wrap ((mid : Int) + m) = n := by have := HM.out; simp only [IntKind.wrap, IntKind.bits, IntKind.signed]; simp; omega
  unfold cmpFnI
  clear h hN ha hm hb hp ho hL hne hA hB hA2 hB2 ih hd1 hd2 hmid hn
  go_enter Tryd.func144, Tryd.ntmps144
  go_upto_if 140 with fail
  go_cut [20, 21] (fun sv rv wx => sv = .int .i64 s0 ∧ rv = .int .i64 r0 ∧ wx = w)
  case first => as_aux_lemma =>
    by_cases hc : mid < m
    · rw [if_pos hc] at hs0 hr0
      have hcz : (mid : Int) < m := by omega
      have v7 : IntKind.i64.wrap ((n : Int) - b) = s0 := by have := HM.out; simp only [IntKind.wrap, IntKind.bits, IntKind.signed]; simp; omega
      subst hr0
      clear hs0 HS HR HO HN HA HB HCell HC HM HB0 HIh HRot hc
      go_wp2_with fail
      go_meet
      exact ⟨rfl, rfl, rfl⟩
    · rw [if_neg hc] at hs0 hr0
      have hcz : ¬ (mid : Int) < m := by omega
      subst hs0 hr0
      clear HS HR HO HN HA HB HCell HC HM HB0 HIh HRot hc
      go_wp2_with fail
      go_meet
      exact ⟨rfl, rfl, rfl⟩
  case rest =>
    obtain ⟨rfl, rfl, hwc⟩ := hcut
    rw [hwc]
    clear hwc hs0 hr0 v1 v2 v3 v4 v5 v6 w0 w00 hz1 hz2
    obtain ⟨p, hpn⟩ : ∃ p : Nat, p = n - 1 := ⟨_, rfl⟩
    have v7 : IntKind.i64.wrap ((n : Int) - 1) = p := by have := HM.out; simp only [IntKind.wrap, IntKind.bits, IntKind.signed]; simp; omega
    have HPn := Lib.hid hpn
    clear hpn
    go_wp2_with fail
    go_loopw [20, 21] (fun sv rv wr => ∃ (s r : Nat), sv = .int .i64 s ∧ rv = .int .i64 r ∧ s0 ≤ s ∧ s ≤ r ∧ r ≤ r0 ∧ Hid (s = s0 ∨ ∃ y z, B[p - (s - 1) - m]? = some y ∧ A[s - 1 - a]? = some z ∧ keyI z ≤ keyI y) ∧ Hid (r = r0 ∨ ∃ y z, B[p - r - m]? = some y ∧ A[r - a]? = some z ∧ keyI y < keyI z) ∧ Hid (SegI wr g pre (P ++ (A ++ (B ++ Q))) post) ∧ Hid (Stay [g] w wr))
      (fun sv rv _ => (intOf rv).toNat - (intOf sv).toNat)
    case atStart => exact ⟨s0, r0, rfl, rfl, Nat.le_refl _, HB0.out.2.1, Nat.le_refl _, .inl rfl, .inl rfl, HS, HR⟩
    case round =>
      clear HS HR
      obtain ⟨s, r, rfl, rfl, hs0, hsr, hr0, HU, HV, HS, HR⟩ := hrel
      by_cases hlt : s < r
      · obtain ⟨h, hh⟩ : ∃ h : Nat, h = (s + r) / 2 := ⟨_, rfl⟩
        obtain ⟨q, hq⟩ : ∃ q : Nat, q = p - h := ⟨_, rfl⟩
        have hbd := HB0.out.2.2.2.2.1 h (by omega) (by omega)
        have hmm := HM.out
        have hnn := HN.out
        have hpp := HPn.out
        have hb1 := HB0.out
        have hq2 : m ≤ q ∧ q < b ∧ a ≤ h ∧ h < m := by omega
        obtain ⟨y, hy⟩ : ∃ y, B[q - m]? = some y := ⟨_, List.getElem?_eq_getElem (by omega)⟩
        obtain ⟨z, hz⟩ : ∃ z, A[h - a]? = some z := ⟨_, List.getElem?_eq_getElem (by omega)⟩
        have hltz : (s : Int) < r := by omega
        have w1 : IntKind.i64.wrap ((s : Int) + r) = (s : Int) + r := by simp only [IntKind.wrap, IntKind.bits, IntKind.signed]; simp; omega
        have w2 : IntKind.u64.wrap ((s : Int) + r) = (s : Int) + r := by simp only [IntKind.wrap, IntKind.bits, IntKind.signed]; simp; omega
        have w3 : ((s : Int) + r) / 2 = h := by omega
        have w4 : IntKind.u64.wrap (h : Int) = h := by simp only [IntKind.wrap, IntKind.bits, IntKind.signed]; simp; omega
        have w5 : IntKind.i64.wrap (h : Int) = h := by simp only [IntKind.wrap, IntKind.bits, IntKind.signed]; simp; omega
        have w6 : IntKind.i64.wrap ((h : Int) + 1) = (h : Int) + 1 := by simp only [IntKind.wrap, IntKind.bits, IntKind.signed]; simp; omega
        have w7 : IntKind.i64.wrap ((p : Int) - h) = (q : Int) := by simp only [IntKind.wrap, IntKind.bits, IntKind.signed]; simp; omega
        have hgy := HS.out.cell (i := q) (x := y) (by
          rw [List.getElem?_append_right (by omega), List.getElem?_append_right (by omega), List.getElem?_append_left (by omega), show q - P.length - A.length = q - m by omega]
          exact hy)
        have hgz := HS.out.cell (i := h) (x := z) (by
          rw [List.getElem?_append_right (by omega), List.getElem?_append_left (by omega), show h - P.length = h - a by omega]
          exact hz)
        obtain ⟨px0, px1, px2, px3⟩ := hgy
        obtain ⟨py0, py1, py2, py3⟩ := hgz
        rw [← HO.out] at px0 px1 px2 px3 py0 py1 py2 py3
        have hg := HS.out.lt
        have HP := Lib.hid (show (wr.cell? ⟨g, o + q * 4, none⟩ = some (.int .i32 y.r) ∧ wr.cell? ⟨g, o + q * 4 + 1, none⟩ = some (.int .u8 y.b.toNat) ∧ wr.cell? ⟨g, o + q * 4 + 2, none⟩ = some (.bool y.bad) ∧ wr.cell? ⟨g, o + q * 4 + 3, none⟩ = some (.int .u8 (keyI y)) ∧ wr.cell? ⟨g, o + h * 4, none⟩ = some (.int .i32 z.r) ∧ wr.cell? ⟨g, o + h * 4 + 1, none⟩ = some (.int .u8 z.b.toNat) ∧ wr.cell? ⟨g, o + h * 4 + 2, none⟩ = some (.bool z.bad) ∧ wr.cell? ⟨g, o + h * 4 + 3, none⟩ = some (.int .u8 (keyI z))) ∧ g < wr.heap.size from ⟨⟨px0, px1, px2, px3, py0, py1, py2, py3⟩, hg⟩)
        have HCr := Lib.hid (fun u hu => HC.out u y z (HR.out.trans hu))
        obtain ⟨e, he⟩ : ∃ e, e = cmp8 (keyI y) (keyI z) := ⟨_, rfl⟩
        rw [← he] at HCr
        have HRr := Lib.hid (show e < 0 ↔ keyI y < keyI z from by
          rw [he]; unfold cmp8
          split
          · omega
          · split <;> omega)
        have ih0 : (0 : Int) ≤ h := by omega
        have iN : (h : Int) < N := by omega
        have iq0 : (0 : Int) ≤ q := by omega
        have iqN : (q : Int) < N := by omega
        have iN2 : decide (N ≤ h) = false := decide_eq_false (by omega)
        have iqN2 : decide (N ≤ q) = false := decide_eq_false (by omega)
        have HT := Lib.hid (show s ≤ h ∧ h < r ∧ q = p - h ∧ B[q - m]? = some y ∧ A[h - a]? = some z from ⟨by omega, by omega, hq, hy, hz⟩)
        clear hbd hmm hnn hpp hb1 hq2 hy hz hg he hq hh hlt
        go_upto_region 35 with fail
        go_region_held3 (fun w' => w'.cell? ⟨g, o + q * 4, none⟩ = some (.int .i32 y.r) ∧ w'.cell? ⟨g, o + q * 4 + 1, none⟩ = some (.int .u8 y.b.toNat) ∧ w'.cell? ⟨g, o + q * 4 + 2, none⟩ = some (.bool y.bad) ∧ w'.cell? ⟨g, o + q * 4 + 3, none⟩ = some (.int .u8 (keyI y)) ∧ w'.cell? ⟨g, o + h * 4, none⟩ = some (.int .i32 z.r) ∧ w'.cell? ⟨g, o + h * 4 + 1, none⟩ = some (.int .u8 z.b.toNat) ∧ w'.cell? ⟨g, o + h * 4 + 2, none⟩ = some (.bool z.bad) ∧ w'.cell? ⟨g, o + h * 4 + 3, none⟩ = some (.int .u8 (keyI z))) (first | exact hq | exact ⟨px0, px1, px2, px3, py0, py1, py2, py3⟩ | go_keep)
          (first
            | (go_at_call 131; ((with_reducible refine (HCr.out _ (by exact Stay.drew _)).mono ?_); rintro e w1 ⟨rfl, hs1⟩); have HS1 := Lib.hid (show Stay [] wr w1 from (Stay.drew _).trans hs1); have hq : w1.cell? ⟨g, o + q * 4, none⟩ = some (.int .i32 y.r) ∧ w1.cell? ⟨g, o + q * 4 + 1, none⟩ = some (.int .u8 y.b.toNat) ∧ w1.cell? ⟨g, o + q * 4 + 2, none⟩ = some (.bool y.bad) ∧ w1.cell? ⟨g, o + q * 4 + 3, none⟩ = some (.int .u8 (keyI y)) ∧ w1.cell? ⟨g, o + h * 4, none⟩ = some (.int .i32 z.r) ∧ w1.cell? ⟨g, o + h * 4 + 1, none⟩ = some (.int .u8 z.b.toNat) ∧ w1.cell? ⟨g, o + h * 4 + 2, none⟩ = some (.bool z.bad) ∧ w1.cell? ⟨g, o + h * 4 + 3, none⟩ = some (.int .u8 (keyI z)) := it8_stay HS1.out HP.out.2 HP.out.1; clear hs1))
        have HS2 := Lib.hid (HS.out.stay HS1.out (by simp))
        have HR2 := Lib.hid (HR.out.trans (HS1.out.mono (by simp)))
        clear hq px0 px1 px2 px3 py0 py1 py2 py3
        by_cases hrn : e < 0
        · have HV2 := Lib.hid (show h = r0 ∨ ∃ y z, B[p - h - m]? = some y ∧ A[h - a]? = some z ∧ keyI y < keyI z from .inr ⟨y, z, by rw [← HT.out.2.2.1]; exact HT.out.2.2.2.1, HT.out.2.2.2.2, HRr.out.1 hrn⟩)
          have hb1 : decide (e < 0) = true := decide_eq_true hrn
          rw [hb1]
          clear hb1
          go_wp2_with fail
          go_roundw
          case rel => exact ⟨s, h, rfl, rfl, hs0, HT.out.1, by have := HT.out.2.1; omega, HU, HV2, HS2, HR2⟩
          case measure => have := HT.out; simp [intOf]; omega
        · have HU2 := Lib.hid (show h + 1 = s0 ∨ ∃ y z, B[p - (h + 1 - 1) - m]? = some y ∧ A[h + 1 - 1 - a]? = some z ∧ keyI z ≤ keyI y from .inr ⟨y, z, by rw [Nat.add_sub_cancel, ← HT.out.2.2.1]; exact HT.out.2.2.2.1, by rw [Nat.add_sub_cancel]; exact HT.out.2.2.2.2, by have := mt HRr.out.2 hrn; omega⟩)
          have hb1 : decide (e < 0) = false := decide_eq_false hrn
          rw [hb1]
          clear hb1
          go_wp2_with fail
          go_roundw
          case rel => exact ⟨h + 1, r, by go_num, rfl, by have := HT.out.1; omega, HT.out.2.1, hr0, HU2, HV, HS2, HR2⟩
          case measure => have := HT.out; simp [intOf]; omega
      · obtain rfl : s = r := by omega
        have hltz : ¬ (s : Int) < s := by omega
        obtain ⟨en, hen⟩ : ∃ en : Nat, en = n - s := ⟨_, rfl⟩
        have HG := Lib.hid (show a ≤ s ∧ s ≤ m ∧ m ≤ en ∧ en ≤ b ∧ en - m = mid - s ∧ s ≤ mid ∧ en = n - s ∧ n = en + s ∧ mid - a = (s - a) + (en - m) ∧ mid < b ∧ a ≤ mid from by
          have h1 := HB0.out
          have h2 := HM.out
          omega)
        have v8 : IntKind.i64.wrap ((n : Int) - s) = en := by have := HG.out; have := HM.out; have := HN.out; simp only [IntKind.wrap, IntKind.bits, IntKind.signed]; simp; omega
        obtain ⟨A1, hA1⟩ : ∃ l, l = A.take (s - a) := ⟨_, rfl⟩
        obtain ⟨A2, hA2⟩ : ∃ l, l = A.drop (s - a) := ⟨_, rfl⟩
        obtain ⟨B1, hB1⟩ : ∃ l, l = B.take (en - m) := ⟨_, rfl⟩
        obtain ⟨B2, hB2⟩ : ∃ l, l = B.drop (en - m) := ⟨_, rfl⟩
        have HJ := Lib.hid (show (∀ x ∈ A2, ∀ y ∈ B1, keyI y < keyI x) ∧ (∀ x ∈ A1, ∀ y ∈ B2, keyI x ≤ keyI y) from by
          have h0 := HB0.out
          have h1 := HM.out
          have h2 := HG.out
          have h3 := HPn.out
          constructor
          · intro x hx y hy
            rw [hA2] at hx
            rw [hB1] at hy
            rcases HV.out with e | ⟨y0, z0, e1, e2, e3⟩
            · exfalso
              rcases h0.2.2.2.2.2.1 with e4 | e4
              · rw [show en - m = 0 by omega] at hy; simp at hy
              · rw [List.drop_of_length_le (by omega)] at hx; simp at hx
            · have k1 := ord_first HA.out e2 x hx
              have k2 := ord_last HB.out e1 y (by
                rcases Nat.eq_zero_or_pos (en - m) with e5 | e5
                · rw [e5] at hy; simp at hy
                · rw [show p - s - m + 1 = en - m by omega]; exact hy)
              omega
          · intro x hx y hy
            rw [hA1] at hx
            rw [hB2] at hy
            rcases HU.out with e | ⟨y0, z0, e1, e2, e3⟩
            · exfalso
              rcases h0.2.2.2.2.2.2.1 with e4 | e4
              · rw [show s - a = 0 by omega] at hx; simp at hx
              · rw [List.drop_of_length_le (by omega)] at hy; simp at hy
            · rcases Nat.eq_zero_or_pos (s - a) with e5 | e5
              · rw [e5] at hx; simp at hx
              · have k1 := ord_last HA.out e2 x (by rw [show s - 1 - a + 1 = s - a by omega]; exact hx)
                have k2 := ord_first HB.out e1 y (by rw [show p - (s - 1) - m = en - m by omega]; exact hy)
                omega)
        have hAe : A = A1 ++ A2 := by rw [hA1, hA2]; exact (List.take_append_drop _ _).symm
        have hBe : B = B1 ++ B2 := by rw [hB1, hB2]; exact (List.take_append_drop _ _).symm
        have HLen := Lib.hid (show A1.length = s - a ∧ A2.length = m - s ∧ B1.length = en - m ∧ B2.length = b - en from by
          have h1 := HM.out
          have h2 := HG.out
          rw [hA1, hA2, hB1, hB2, List.length_take, List.length_drop, List.length_take, List.length_drop]
          omega)
        have HOrd := Lib.hid (show Ord keyI A1 ∧ Ord keyI A2 ∧ Ord keyI B1 ∧ Ord keyI B2 from by
          rw [hA1, hA2, hB1, hB2]
          exact ⟨HA.out.take _, HA.out.drop _, HB.out.take _, HB.out.drop _⟩)
        have HEq := Lib.hid (And.intro hAe hBe)
        obtain ⟨WW, hWW⟩ : ∃ W, W = wr := ⟨_, rfl⟩
        rw [← hWW] at HS HR ⊢
        clear hWW hA1 hA2 hB1 hB2 hAe hBe hen HU HV hs0 hsr hr0 HB0
        obtain ⟨ka, hka⟩ : ∃ k : Bool, k = (decide (s < m) && decide (m < en)) := ⟨_, rfl⟩
        have HKa := Lib.hid hka
        go_upto_region 39 with fail
        go_cut [185] (fun bv wx => bv = .bool ka ∧ wx = WW)
        case first => as_aux_lemma =>
          clear HKa HEq HOrd HLen HJ HG HS HR HO HN HA HB HCell HC HM HIh HRot
          by_cases c1 : s < m
          · rw [decide_eq_true c1, Bool.true_and] at hka
            have c1z : (s : Int) < m := by omega
            by_cases c2 : m < en
            · rw [decide_eq_true c2] at hka
              have c2z : (m : Int) < en := by omega
              subst hka
              clear c1 c2
              go_wp2_with fail
              go_meet
              exact ⟨rfl, rfl⟩
            · rw [decide_eq_false c2] at hka
              have c2z : ¬ (m : Int) < en := by omega
              subst hka
              clear c1 c2
              go_wp2_with fail
              go_meet
              exact ⟨rfl, rfl⟩
          · rw [decide_eq_false c1, Bool.false_and] at hka
            have c1z : ¬ (s : Int) < m := by omega
            subst hka
            clear c1
            go_wp2_with fail
            go_meet
            exact ⟨rfl, rfl⟩
        case rest =>
          obtain ⟨rfl, hwc⟩ := hcut
          rw [hwc]
          clear hka hwc
          go_upto_if 185 with fail
          go_cut [20] (fun sv wx => sv = .int .i64 s ∧ Hid (SegI wx g pre (P ++ (A1 ++ (B1 ++ (A2 ++ (B2 ++ Q))))) post) ∧ Hid (Stay [g] w wx))
          case first => as_aux_lemma =>
            have hseg := HS.out
            rw [HEq.out.1, HEq.out.2] at hseg
            cases ka with
            | true =>
              have hk := HKa.out
              have hk2 : s < m ∧ m < en := by
                have := hk.symm
                simp only [Bool.and_eq_true, decide_eq_true_eq] at this
                exact this
              have h1 := HLen.out
              have h2 := HG.out
              have h3 := HM.out
              have h4 := HN.out
              have hseg2 : SegI WW g pre ((P ++ A1) ++ (A2 ++ (B1 ++ (B2 ++ Q)))) post := by
                have e : P ++ ((A1 ++ A2) ++ ((B1 ++ B2) ++ Q)) = (P ++ A1) ++ (A2 ++ (B1 ++ (B2 ++ Q))) := by simp
                rw [← e]; exact hseg
              have HCall := Lib.hid (HRot.out WW (P ++ A1) A2 B1 (B2 ++ Q) s m en hseg2 (by simp only [List.length_append]; omega) (by rw [List.length_append]; omega) (by rw [List.length_append]; omega) (by rw [List.length_append]; omega) (by omega) (by omega))
              unfold cmpFnI at HCall
              clear hk hk2 h1 h2 h3 h4 hseg hseg2
              go_wp2_with fail
              refine HCall.out.mono ?_
              rintro e w2 ⟨rfl, hs, hr⟩
              have HS2 := Lib.hid (show SegI w2 g pre (P ++ (A1 ++ (B1 ++ (A2 ++ (B2 ++ Q))))) post from by
                have e : (P ++ A1) ++ (B1 ++ (A2 ++ (B2 ++ Q))) = P ++ (A1 ++ (B1 ++ (A2 ++ (B2 ++ Q)))) := by simp
                rw [← e]; exact hs)
              have HR2 := Lib.hid (HR.out.trans hr)
              clear hs hr HCall
              go_wp2_with fail
              go_meet
              exact ⟨rfl, HS2, HR2⟩
            | false =>
              have HS2 := Lib.hid (show SegI WW g pre (P ++ (A1 ++ (B1 ++ (A2 ++ (B2 ++ Q))))) post from by
                have hk := HKa.out.symm
                have h1 := HLen.out
                have h2 := HG.out
                have h3 : A2 = [] ∨ B1 = [] := by
                  by_cases c1 : s < m
                  · right
                    apply List.eq_nil_of_length_eq_zero
                    have : ¬ m < en := fun c2 => by rw [decide_eq_true c1, decide_eq_true c2] at hk; cases hk
                    omega
                  · left
                    apply List.eq_nil_of_length_eq_zero
                    omega
                have e : P ++ ((A1 ++ A2) ++ ((B1 ++ B2) ++ Q)) = P ++ (A1 ++ (B1 ++ (A2 ++ (B2 ++ Q)))) := by
                  rcases h3 with h3 | h3 <;> rw [h3] <;> simp
                rw [← e]; exact hseg)
              clear hseg
              go_wp2_with fail
              go_meet
              exact ⟨rfl, HS2, HR⟩
          case rest =>
            obtain ⟨rfl, HS, HR⟩ := hcut
            clear HKa
            obtain ⟨WW, hWW⟩ : ∃ W, W = wc := ⟨_, rfl⟩
            rw [← hWW] at HS HR ⊢
            clear hWW
            obtain ⟨kb, hkb⟩ : ∃ k : Bool, k = (decide (a < s) && decide (s < mid)) := ⟨_, rfl⟩
            have HKb := Lib.hid hkb
            go_upto_region 41 with fail
            go_cut [199] (fun bv wx => bv = .bool kb ∧ wx = WW)
            case first => as_aux_lemma =>
              clear HKb HEq HOrd HLen HJ HG HS HR HO HN HA HB HCell HC HM HIh HRot
              by_cases c1 : a < s
              · rw [decide_eq_true c1, Bool.true_and] at hkb
                have c1z : (a : Int) < s := by omega
                by_cases c2 : s < mid
                · rw [decide_eq_true c2] at hkb
                  have c2z : (s : Int) < mid := by omega
                  subst hkb
                  clear c1 c2
                  go_wp2_with fail
                  go_meet
                  exact ⟨rfl, rfl⟩
                · rw [decide_eq_false c2] at hkb
                  have c2z : ¬ (s : Int) < mid := by omega
                  subst hkb
                  clear c1 c2
                  go_wp2_with fail
                  go_meet
                  exact ⟨rfl, rfl⟩
              · rw [decide_eq_false c1, Bool.false_and] at hkb
                have c1z : ¬ (a : Int) < s := by omega
                subst hkb
                clear c1
                go_wp2_with fail
                go_meet
                exact ⟨rfl, rfl⟩
            case rest =>
              obtain ⟨rfl, hwc⟩ := hcut
              rw [hwc]
              clear hkb hwc
              go_upto_if 199 with fail
              go_cut [20] (fun sv wx => ∃ C1, sv = .int .i64 s ∧ Hid (Stab keyI (A1 ++ B1) C1) ∧ Hid (SegI wx g pre (P ++ (C1 ++ (A2 ++ (B2 ++ Q)))) post) ∧ Hid (Stay [g] w wx))
              case first => as_aux_lemma =>
                cases kb with
                | true =>
                  have hk2 : a < s ∧ s < mid := by
                    have := HKb.out.symm
                    simp only [Bool.and_eq_true, decide_eq_true_eq] at this
                    exact this
                  have h1 := HLen.out
                  have h2 := HG.out
                  have h3 := HM.out
                  have h4 := HN.out
                  have h5 := HOrd.out
                  have HCall := Lib.hid (HIh.out A1 B1 (by omega) (by omega) (by omega) h5.1 h5.2.2.1 WW P (A2 ++ (B2 ++ Q)) a s mid HS.out (by simp only [List.length_append]; omega) h3.1 (by omega) (by omega) (HCell.out WW HR.out))
                  unfold cmpFnI at HCall
                  clear hk2 h1 h2 h3 h4 h5
                  go_wp2_with fail
                  refine HCall.out.mono ?_
                  rintro e w2 ⟨rfl, ⟨C1, hst, hs⟩, hr⟩
                  have HS2 := Lib.hid hs
                  have HSt := Lib.hid hst
                  have HR2 := Lib.hid (HR.out.trans hr)
                  clear hs hr hst HCall
                  go_wp2_with fail
                  go_meet
                  exact ⟨C1, rfl, HSt, HS2, HR2⟩
                | false =>
                  have HSt := Lib.hid (show Stab keyI (A1 ++ B1) (A1 ++ B1) from by
                    have hk := HKb.out.symm
                    have h1 := HLen.out
                    have h2 := HG.out
                    have h3 : A1 = [] ∨ B1 = [] := by
                      by_cases c1 : a < s
                      · right
                        apply List.eq_nil_of_length_eq_zero
                        have : ¬ s < mid := fun c2 => by rw [decide_eq_true c1, decide_eq_true c2] at hk; cases hk
                        omega
                      · left
                        apply List.eq_nil_of_length_eq_zero
                        omega
                    rcases h3 with h3 | h3 <;> rw [h3]
                    · exact Stab.of_ord (by simpa using HOrd.out.2.2.1)
                    · exact Stab.of_ord (by simpa using HOrd.out.1))
                  have HS2 := Lib.hid (show SegI WW g pre (P ++ ((A1 ++ B1) ++ (A2 ++ (B2 ++ Q)))) post from by
                    have e : P ++ (A1 ++ (B1 ++ (A2 ++ (B2 ++ Q)))) = P ++ ((A1 ++ B1) ++ (A2 ++ (B2 ++ Q))) := by simp
                    rw [← e]; exact HS.out)
                  go_wp2_with fail
                  go_meet
                  exact ⟨A1 ++ B1, rfl, HSt, HS2, HR⟩
              case rest =>
                obtain ⟨C1, rfl, HSt1, HS, HR⟩ := hcut
                clear HKb
                obtain ⟨WW, hWW⟩ : ∃ W, W = wc := ⟨_, rfl⟩
                rw [← hWW] at HS HR ⊢
                clear hWW
                obtain ⟨kc, hkc⟩ : ∃ k : Bool, k = (decide (mid < en) && decide (en < b)) := ⟨_, rfl⟩
                have HKc := Lib.hid hkc
                have HLC := Lib.hid (show C1.length = A1.length + B1.length from by rw [HSt1.out.perm.length_eq, List.length_append])
                go_upto_region 43 with fail
                go_cut [213] (fun bv wx => bv = .bool kc ∧ wx = WW)
                case first => as_aux_lemma =>
                  clear HKc HLC HSt1 HEq HOrd HLen HJ HG HS HR HO HN HA HB HCell HC HM HIh HRot
                  by_cases c1 : mid < en
                  · rw [decide_eq_true c1, Bool.true_and] at hkc
                    have c1z : (mid : Int) < en := by omega
                    by_cases c2 : en < b
                    · rw [decide_eq_true c2] at hkc
                      have c2z : (en : Int) < b := by omega
                      subst hkc
                      clear c1 c2
                      go_wp2_with fail
                      go_meet
                      exact ⟨rfl, rfl⟩
                    · rw [decide_eq_false c2] at hkc
                      have c2z : ¬ (en : Int) < b := by omega
                      subst hkc
                      clear c1 c2
                      go_wp2_with fail
                      go_meet
                      exact ⟨rfl, rfl⟩
                  · rw [decide_eq_false c1, Bool.false_and] at hkc
                    have c1z : ¬ (mid : Int) < en := by omega
                    subst hkc
                    clear c1
                    go_wp2_with fail
                    go_meet
                    exact ⟨rfl, rfl⟩
                case rest =>
                  obtain ⟨rfl, hwc⟩ := hcut
                  rw [hwc]
                  clear hkc hwc
                  have HJoin := Lib.hid (fun C2 (h : Stab keyI (A2 ++ B2) C2) => show Stab keyI (A ++ B) (C1 ++ C2) from by
                    rw [HEq.out.1, HEq.out.2]
                    have hA := HA.out
                    have hB := HB.out
                    rw [HEq.out.1] at hA
                    rw [HEq.out.2] at hB
                    exact stab_join hA hB HJ.out.1 HJ.out.2 HSt1.out h)
                  cases kc with
                  | true =>
                    have hk2 : mid < en ∧ en < b := by
                      have := HKc.out.symm
                      simp only [Bool.and_eq_true, decide_eq_true_eq] at this
                      exact this
                    have h1 := HLen.out
                    have h2 := HG.out
                    have h3 := HM.out
                    have h4 := HN.out
                    have h5 := HOrd.out
                    have h6 := HLC.out
                    have hseg2 : SegI WW g pre ((P ++ C1) ++ (A2 ++ (B2 ++ Q))) post := by
                      have e : P ++ (C1 ++ (A2 ++ (B2 ++ Q))) = (P ++ C1) ++ (A2 ++ (B2 ++ Q)) := by simp
                      rw [← e]; exact HS.out
                    have HCall := Lib.hid (HIh.out A2 B2 (by omega) (by omega) (by omega) h5.2.1 h5.2.2.2 WW (P ++ C1) Q mid en b hseg2 (by simp only [List.length_append]; omega) (by rw [List.length_append]; omega) (by rw [List.length_append]; omega) (by rw [List.length_append]; omega) (HCell.out WW HR.out))
                    unfold cmpFnI at HCall
                    clear hk2 h1 h2 h3 h4 h5 h6 hseg2
                    go_wp2_with fail
                    refine HCall.out.mono ?_
                    rintro e w2 ⟨rfl, ⟨C2, hst, hs⟩, hr⟩
                    have HS2 := Lib.hid (show SegI w2 g pre (P ++ ((C1 ++ C2) ++ Q)) post from by
                      have e : (P ++ C1) ++ (C2 ++ Q) = P ++ ((C1 ++ C2) ++ Q) := by simp
                      rw [← e]; exact hs)
                    have HSt := Lib.hid (HJoin.out C2 hst)
                    have HR2 := Lib.hid (HR.out.trans hr)
                    clear hs hr hst HCall
                    go_wp2_with fail
                    go_end0
                    exact ⟨rfl, ⟨C1 ++ C2, HSt.out, HS2.out⟩, HR2.out⟩
                  | false =>
                    have HSt := Lib.hid (show Stab keyI (A ++ B) (C1 ++ (A2 ++ B2)) from HJoin.out _ (by
                      have hk := HKc.out.symm
                      have h1 := HLen.out
                      have h2 := HG.out
                      have h3 : A2 = [] ∨ B2 = [] := by
                        by_cases c1 : mid < en
                        · right
                          apply List.eq_nil_of_length_eq_zero
                          have : ¬ en < b := fun c2 => by rw [decide_eq_true c1, decide_eq_true c2] at hk; cases hk
                          omega
                        · left
                          apply List.eq_nil_of_length_eq_zero
                          omega
                      rcases h3 with h3 | h3 <;> rw [h3]
                      · exact Stab.of_ord (by simpa using HOrd.out.2.2.2)
                      · exact Stab.of_ord (by simpa using HOrd.out.2.1)))
                    have HS2 := Lib.hid (show SegI WW g pre (P ++ ((C1 ++ (A2 ++ B2)) ++ Q)) post from by
                      have e : P ++ (C1 ++ (A2 ++ (B2 ++ Q))) = P ++ ((C1 ++ (A2 ++ B2)) ++ Q) := by simp
                      rw [← e]; exact HS.out)
                    clear HJoin
                    go_wp2_with fail
                    go_end0
                    exact ⟨rfl, ⟨_, HSt.out, HS2.out⟩, HR.out⟩
end Go.Proofs.YtlphmcodajookaaDoor
