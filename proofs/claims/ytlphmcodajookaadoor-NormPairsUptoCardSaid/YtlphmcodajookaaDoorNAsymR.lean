/- NAsymR: several texts, one behind another: NsymR1, NsymR2. -/
import Derived.Test.YtlphmcodajookaaDoorNAplain
import Derived.Test.YtlphmcodajookaaDoorNAseg
/- slices' stable sort at runes: symMerge: one element on the left: the walk. -/
namespace Go.Proofs.YtlphmcodajookaaDoor
open Go.RowKit
/-- the comparison as the sort meets it -/
def cmpFn (pb : Nat) : Value := .func (.func 110) #[] #[.pointer (some ⟨pb, 0, none⟩)]
theorem SegR.at_ {w : World} {g : Nat} {pre post : List Value} {P R : List Int} {x : Int} (h : SegR w g pre (P ++ x :: R) post) : w.cell? ⟨g, pre.length + P.length, none⟩ = some (.int .i32 x) := h.cell (by rw [List.getElem?_append_right (by omega), Nat.sub_self]; rfl)
set_option maxRecDepth 20000 in
set_option maxHeartbeats 16000000 in
theorem symR_left (w : World) (g o c pb : Nat) (pre post : List Value) (P B Q : List Int) (x : Int) (N a m b : Nat) (h : SegR w g pre (P ++ (x :: (B ++ Q))) post) (ho : o = pre.length) (hN : N = (P ++ (x :: (B ++ Q))).length)
    (ha : a = P.length) (hm : m = P.length + 1) (hb : b = P.length + 1 + B.length) (hL : N ≤ 2305843009213693952) (hp : w.cell? ⟨pb, 0, none⟩ = some (.func (.func 39) #[] #[])) (hne : pb ≠ g) (hB : Ord markN B) :
    Calls Tryd.prog 138 #[.slice (some ⟨g, o, none⟩) N c, .int .i64 a, .int .i64 m, .int .i64 b, cmpFn pb] w fun e w' => e = .returned (.tuple #[]) ∧ (∃ C, Stab markN (x :: B) C ∧ SegR w' g pre (P ++ (C ++ Q)) post) ∧ Stay [g] w w' := by
  have HS := Lib.hid h
  have HR := Lib.hid (Stay.refl [g] w)
  have HO := Lib.hid ho
  have HN := Lib.hid (show N = P.length + 1 + B.length + Q.length from by rw [hN]; simp only [List.length_append, List.length_cons]; omega)
  have HB := Lib.hid hB
  have HC := Lib.hid (show ∀ (u : World) (y z : Int), Stay [g] w u → Calls Tryd.prog 110 #[.int .i32 y, .int .i32 z, .pointer (some ⟨pb, 0, none⟩)] u fun e w' => e = .returned (.int .i64 (cmp8 (markN y) (markN z))) ∧ Stay [] u w' from fun u y z hu => cmpR_any y z pb u ((hu.cell_ (a := ⟨pb, 0, none⟩) (World.block_lt_of_cell? _ _ hp) (by simpa using hne)).trans hp))
  have HM := Lib.hid (And.intro ha (And.intro hm (And.intro hb hL)))
  have hma : (m : Int) - a = 1 := by omega
  have w0 : IntKind.i64.wrap ((m : Int) - a) = 1 := by rw [hma]; rfl
  unfold cmpFn
  clear h ho hN ha hm hb hL hp hne hB hma
  go_enter Tryd.func138, Tryd.ntmps138
  go_wp2_with fail
  go_loopw [10, 11] (fun iv jv wr => ∃ (i j u v : Nat), iv = .int .i64 i ∧ jv = .int .i64 j ∧ Hid (i = m + u ∧ j = m + v) ∧ u ≤ v ∧ v ≤ B.length ∧ Hid (u = 0 ∨ ∃ y, B[u - 1]? = some y ∧ markN y < markN x) ∧ Hid (v = B.length ∨ ∃ y, B[v]? = some y ∧ markN x ≤ markN y) ∧ Hid (SegR wr g pre (P ++ (x :: (B ++ Q))) post) ∧ Hid (Stay [g] w wr))
    (fun iv jv _ => (intOf jv).toNat - (intOf iv).toNat)
  case atStart => exact ⟨m, b, 0, B.length, rfl, rfl, ⟨rfl, by have := HM.out; omega⟩, by omega, by omega, .inl rfl, .inl rfl, HS, HR⟩
  case round =>
    clear HS HR
    obtain ⟨i, j, u, v, rfl, rfl, HIJ, huv, hv, HU, HV, HS, HR⟩ := hrel
    have hij := HIJ.out
    have hbN : m + B.length ≤ N := by have := HM.out; have := HN.out; omega
    have hNL := HM.out.2.2.2
    by_cases hlt : u < v
    · obtain ⟨h, hh⟩ : ∃ h : Nat, h = (i + j) / 2 := ⟨_, rfl⟩
      obtain ⟨t, ht⟩ : ∃ t : Nat, t = h - m := ⟨_, rfl⟩
      have hht : h = m + t ∧ u ≤ t ∧ t < v := by omega
      obtain ⟨y, hy⟩ : ∃ y, B[t]? = some y := ⟨_, List.getElem?_eq_getElem (by omega)⟩
      have hltz : (i : Int) < j := by omega
      have w1 : IntKind.i64.wrap ((i : Int) + j) = (i : Int) + j := by simp only [IntKind.wrap, IntKind.bits, IntKind.signed]; simp; omega
      have w2 : IntKind.u64.wrap ((i : Int) + j) = (i : Int) + j := by simp only [IntKind.wrap, IntKind.bits, IntKind.signed]; simp; omega
      have w3 : ((i : Int) + j) / 2 = h := by omega
      have w4 : IntKind.u64.wrap (h : Int) = h := by simp only [IntKind.wrap, IntKind.bits, IntKind.signed]; simp; omega
      have w5 : IntKind.i64.wrap (h : Int) = h := by simp only [IntKind.wrap, IntKind.bits, IntKind.signed]; simp; omega
      have w6 : IntKind.i64.wrap ((h : Int) + 1) = (h : Int) + 1 := by simp only [IntKind.wrap, IntKind.bits, IntKind.signed]; simp; omega
      have hgx := HS.out.at_
      have hgy := HS.out.cell (i := P.length + 1 + t) (x := y) (by
        rw [List.getElem?_append_right (by omega), show P.length + 1 + t - P.length = t + 1 by omega, List.getElem?_cons_succ, List.getElem?_append_left (List.getElem?_eq_some_iff.1 hy).1]
        exact hy)
      have px : wr.cell? ⟨g, o + a, none⟩ = some (.int .i32 x) := by rw [HO.out, HM.out.1]; exact hgx
      have py : wr.cell? ⟨g, o + h, none⟩ = some (.int .i32 y) := by
        rw [HO.out, show h = P.length + 1 + t by have := HM.out; omega]; exact hgy
      have hg := HS.out.lt
      have HP := Lib.hid (And.intro px (And.intro py hg))
      have HCr := Lib.hid (fun u hu => HC.out u y x (HR.out.trans hu))
      obtain ⟨r, hr⟩ : ∃ r, r = cmp8 (markN y) (markN x) := ⟨_, rfl⟩
      rw [← hr] at HCr
      have HRr := Lib.hid (show r < 0 ↔ markN y < markN x from by
        rw [hr]; unfold cmp8
        split
        · omega
        · split <;> omega)
      have ih0 : (0 : Int) ≤ h := by omega
      have iN : (h : Int) < N := by omega
      have ia0 : (0 : Int) ≤ a := by omega
      have iaN : (a : Int) < N := by have := HM.out; omega
      have iN2 : decide (N ≤ h) = false := decide_eq_false (by omega)
      have iaN2 : decide (N ≤ a) = false := decide_eq_false (by omega)
      have HT := Lib.hid (And.intro hht (And.intro hy (And.intro hij hbN)))
      clear hij hht hy ht hh hgx hgy hg hr hbN hNL hlt
      go_upto_region 5 with fail
      go_region_held3 (fun w' => w'.cell? ⟨g, o + a, none⟩ = some (.int .i32 x) ∧ w'.cell? ⟨g, o + h, none⟩ = some (.int .i32 y)) (first | exact hq | exact ⟨px, py⟩ | go_keep)
        (first
          | (go_at_call 110; ((with_reducible refine (HCr.out _ (by exact Stay.drew _)).mono ?_); rintro e w1 ⟨rfl, hs1⟩); have HS1 := Lib.hid (show Stay [] wr w1 from (Stay.drew _).trans hs1); have hq : w1.cell? ⟨g, o + a, none⟩ = some (.int .i32 x) ∧ w1.cell? ⟨g, o + h, none⟩ = some (.int .i32 y) := ⟨(HS1.out.cell_ (a := ⟨g, _, none⟩) HP.out.2.2 (by simp)).trans HP.out.1, (HS1.out.cell_ (a := ⟨g, _, none⟩) HP.out.2.2 (by simp)).trans HP.out.2.1⟩; clear hs1))
      have HS2 := Lib.hid (HS.out.stay HS1.out (by simp))
      have HR2 := Lib.hid (HR.out.trans (HS1.out.mono (by simp)))
      clear hq px py
      by_cases hrn : r < 0
      · have HU2 := Lib.hid (show t + 1 = 0 ∨ ∃ y, B[t + 1 - 1]? = some y ∧ markN y < markN x from .inr ⟨y, HT.out.2.1, HRr.out.1 hrn⟩)
        go_wp2_with fail
        go_roundw
        case rel => exact ⟨h + 1, j, t + 1, v, by go_num, rfl, ⟨by have := HT.out.1; omega, HIJ.out.2⟩, by have := HT.out.1; omega, hv, HU2, HV, HS2, HR2⟩
        case measure => have := HT.out; simp [intOf]; omega
      · have HV2 := Lib.hid (show t = B.length ∨ ∃ y, B[t]? = some y ∧ markN x ≤ markN y from .inr ⟨y, HT.out.2.1, by have := mt HRr.out.2 hrn; omega⟩)
        go_wp2_with fail
        go_roundw
        case rel => exact ⟨i, h, u, t, rfl, rfl, ⟨HIJ.out.1, HT.out.1.1⟩, HT.out.1.2.1, by have := HT.out.1; omega, HU, HV2, HS2, HR2⟩
        case measure => have := HT.out; simp [intOf]; omega
    · obtain rfl : u = v := by omega
      have hltz : ¬ (i : Int) < j := by omega
      have w1 : IntKind.i64.wrap ((i : Int) - 1) = ((a + u : Nat) : Int) := by
        have := HM.out
        simp only [IntKind.wrap, IntKind.bits, IntKind.signed]; simp; omega
      obtain ⟨e, he⟩ : ∃ e, e = a + u := ⟨_, rfl⟩
      rw [← he] at w1
      have HE := Lib.hid (And.intro he (And.intro hv hbN))
      have HFin := Lib.hid (show Stab markN (x :: B) (B.take u ++ x :: B.drop u) from by
        have e : B = B.take u ++ B.drop u := (List.take_append_drop _ _).symm
        have h1 : Ord markN (B.take u ++ B.drop u) := by rw [← e]; exact HB.out
        have h2 := stab_one_left (x := x) h1 (fun y hy => by
          rcases HU.out with h | ⟨z, hz, hl⟩
          · rw [h] at hy; simp at hy
          · have h3 := ord_last HB.out hz y (by
              rcases Nat.eq_zero_or_pos u with h0 | h0
              · rw [h0] at hy; simp at hy
              · rw [show u - 1 + 1 = u by omega]; exact hy)
            omega) (fun y hy => by
          rcases HV.out with h | ⟨z, hz, hl⟩
          · rw [h] at hy; simp at hy
          · have h3 := ord_first HB.out hz y hy
            omega)
        rw [← e] at h2
        exact h2)
      clear hij hlt he hv hbN HIJ HU HV huv
      go_wp2_with fail
      go_loopw [13] (fun kv wr => ∃ (k s : Nat), kv = .int .i64 k ∧ Hid (k = a + s) ∧ s ≤ u ∧ Hid (SegR wr g pre (P ++ (B.take s ++ (x :: (B.drop s ++ Q)))) post) ∧ Hid (Stay [g] w wr))
        (fun kv _ => e - (intOf kv).toNat)
      case atStart => exact ⟨a, 0, rfl, rfl, by omega, HS, HR⟩
      case round =>
        clear HS HR
        obtain ⟨k, s, rfl, HK, hs, HS, HR⟩ := hrel
        have hk := HK.out
        have he := HE.out
        have hm := HM.out
        have hnn := HN.out
        by_cases hsu : s < u
        · have hke : (k : Int) < e := by omega
          obtain ⟨y, hy⟩ : ∃ y, B[s]? = some y := ⟨_, List.getElem?_eq_getElem (by omega)⟩
          obtain ⟨k1, hk1⟩ : ∃ k1, k1 = k + 1 := ⟨_, rfl⟩
          have v1 : IntKind.i64.wrap ((k : Int) + 1) = (k1 : Int) := by simp only [IntKind.wrap, IntKind.bits, IntKind.signed]; simp; omega
          have hB2 : B.drop s = y :: B.drop (s + 1) := by
            obtain ⟨hl, e1⟩ := List.getElem?_eq_some_iff.1 hy
            rw [List.drop_eq_getElem_cons hl, e1]
          have hB3 : B.take (s + 1) = B.take s ++ [y] := by rw [List.take_add_one, hy]; rfl
          have hseg := HS.out
          rw [hB2] at hseg
          have e1 : P ++ (B.take s ++ (x :: ((y :: B.drop (s + 1)) ++ Q))) = (P ++ B.take s) ++ x :: y :: (B.drop (s + 1) ++ Q) := by simp
          rw [e1] at hseg
          have hpl : (P ++ B.take s).length = k := by rw [List.length_append, List.length_take]; omega
          have hx0 : ((P ++ B.take s) ++ x :: y :: (B.drop (s + 1) ++ Q))[k]? = some x := by rw [← hpl]; simp
          have hy0 : ((P ++ B.take s) ++ x :: y :: (B.drop (s + 1) ++ Q))[k1]? = some y := by
            rw [List.getElem?_append_right (by omega), show k1 - (P ++ B.take s).length = 1 by omega]; rfl
          have px : wr.cell? ⟨g, o + k, none⟩ = some (.int .i32 x) := by rw [HO.out]; exact hseg.cell hx0
          have py : wr.cell? ⟨g, o + k1, none⟩ = some (.int .i32 y) := by rw [HO.out]; exact hseg.cell hy0
          have fx : wr.frozen? ⟨g, o + k, none⟩ = false := hseg.free _
          have fy : wr.frozen? ⟨g, o + k1, none⟩ = false := hseg.free _
          have HSw := Lib.hid (show SegR ((wr.setCell ⟨g, o + k, none⟩ (.int .i32 y)).setCell ⟨g, o + k1, none⟩ (.int .i32 x)) g pre (P ++ (B.take (s + 1) ++ (x :: (B.drop (s + 1) ++ Q)))) post from by
            have h9 := hseg.swap hx0 hy0
            rw [HO.out]
            have e2 : swap2 ((P ++ B.take s) ++ x :: y :: (B.drop (s + 1) ++ Q)) k k1 = P ++ (B.take (s + 1) ++ (x :: (B.drop (s + 1) ++ Q))) := by
              have := swap2_next (P ++ B.take s) (B.drop (s + 1) ++ Q) x y
              rw [hpl, ← hk1] at this
              rw [this, hB3]; simp
            rw [← e2]
            exact h9)
          have i0 : (0 : Int) ≤ k := by omega
          have j0 : (0 : Int) ≤ k1 := by omega
          have iN : (k : Int) < N := by omega
          have jN : (k1 : Int) < N := by omega
          have iN2 : decide (N ≤ k) = false := decide_eq_false (by omega)
          have jN2 : decide (N ≤ k1) = false := decide_eq_false (by omega)
          have hne : o + k ≠ o + k1 := by omega
          have hne2 : o + k1 ≠ o + k := by omega
          have HK1 := Lib.hid (And.intro hk (And.intro hk1 he.1))
          clear hk he hm hnn hy hk1 hB2 hB3 hseg e1 hpl hx0 hy0 HS
          go_wp2_with fail
          go_region
          all_goals
            go_wp2_with fail
            go_roundw
            case rel => exact ⟨k1, s + 1, rfl, by have := HK1.out; show _ = _; omega, by omega, HSw.out.stay (F := []) (Stay.drew _) (by simp), ((HR.out.set' (.inl (by simp))).set' (.inl (by simp))).drew'⟩
            case measure => have := HK1.out; simp [intOf]; omega
        · obtain rfl : s = u := by omega
          have hke : ¬ (k : Int) < e := by omega
          clear hk he hm hnn hsu
          go_wp2_with fail
          exact bodyPost_ret (v := .tuple #[]) (by simp [results, Tryd.results138, go_sem]) rfl ⟨rfl, ⟨_, HFin.out, by have := HS.out; simpa using this⟩, HR.out⟩
end Go.Proofs.YtlphmcodajookaaDoor
/- slices' stable sort at runes: symMerge: one element on the right: the walk. -/
namespace Go.Proofs.YtlphmcodajookaaDoor
open Go.RowKit
set_option maxRecDepth 20000 in
set_option maxHeartbeats 16000000 in
theorem symR_right (w : World) (g o c pb : Nat) (pre post : List Value) (P A Q : List Int) (y : Int) (N a m b : Nat) (h : SegR w g pre (P ++ (A ++ (y :: Q))) post) (ho : o = pre.length) (hN : N = (P ++ (A ++ (y :: Q))).length)
    (ha : a = P.length) (hm : m = P.length + A.length) (hb : b = P.length + A.length + 1) (hA1 : A.length ≠ 1) (hL : N ≤ 2305843009213693952) (hp : w.cell? ⟨pb, 0, none⟩ = some (.func (.func 39) #[] #[])) (hne : pb ≠ g) (hA : Ord markN A) :
    Calls Tryd.prog 138 #[.slice (some ⟨g, o, none⟩) N c, .int .i64 a, .int .i64 m, .int .i64 b, cmpFn pb] w fun e w' => e = .returned (.tuple #[]) ∧ (∃ C, Stab markN (A ++ [y]) C ∧ SegR w' g pre (P ++ (C ++ Q)) post) ∧ Stay [g] w w' := by
  have HS := Lib.hid h
  have HR := Lib.hid (Stay.refl [g] w)
  have HO := Lib.hid ho
  have HN := Lib.hid (show N = P.length + A.length + 1 + Q.length from by rw [hN]; simp only [List.length_append, List.length_cons]; omega)
  have HA := Lib.hid hA
  have HC := Lib.hid (show ∀ (u : World) (y z : Int), Stay [g] w u → Calls Tryd.prog 110 #[.int .i32 y, .int .i32 z, .pointer (some ⟨pb, 0, none⟩)] u fun e w' => e = .returned (.int .i64 (cmp8 (markN y) (markN z))) ∧ Stay [] u w' from fun u y z hu => cmpR_any y z pb u ((hu.cell_ (a := ⟨pb, 0, none⟩) (World.block_lt_of_cell? _ _ hp) (by simpa using hne)).trans hp))
  have HM := Lib.hid (And.intro ha (And.intro hm (And.intro hb hL)))
  obtain ⟨d, hd⟩ : ∃ d : Int, d = (m : Int) - a := ⟨_, rfl⟩
  have hd1 : (d == 1) = false := by simp; omega
  have w0 : IntKind.i64.wrap ((m : Int) - a) = d := by rw [hd]; have := HN.out; simp only [IntKind.wrap, IntKind.bits, IntKind.signed]; simp; omega
  have w00 : IntKind.i64.wrap ((b : Int) - m) = 1 := by rw [show (b : Int) - m = 1 by omega]; rfl
  unfold cmpFn
  clear h ho hN ha hm hb hL hp hne hA hd hA1
  go_enter Tryd.func138, Tryd.ntmps138
  go_wp2_with fail
  go_loopw [14, 15] (fun iv jv wr => ∃ (i j u v : Nat), iv = .int .i64 i ∧ jv = .int .i64 j ∧ Hid (i = a + u ∧ j = a + v) ∧ u ≤ v ∧ v ≤ A.length ∧ Hid (u = 0 ∨ ∃ z, A[u - 1]? = some z ∧ markN z ≤ markN y) ∧ Hid (v = A.length ∨ ∃ z, A[v]? = some z ∧ markN y < markN z) ∧ Hid (SegR wr g pre (P ++ (A ++ (y :: Q))) post) ∧ Hid (Stay [g] w wr))
    (fun iv jv _ => (intOf jv).toNat - (intOf iv).toNat)
  case atStart => exact ⟨a, m, 0, A.length, rfl, rfl, ⟨rfl, by have := HM.out; omega⟩, by omega, by omega, .inl rfl, .inl rfl, HS, HR⟩
  case round =>
    clear HS HR
    obtain ⟨i, j, u, v, rfl, rfl, HIJ, huv, hv, HU, HV, HS, HR⟩ := hrel
    have hij := HIJ.out
    have hbN : a + A.length + 1 ≤ N := by have := HM.out; have := HN.out; omega
    have hNL := HM.out.2.2.2
    have hma : m = a + A.length := by have := HM.out; omega
    by_cases hlt : u < v
    · obtain ⟨h, hh⟩ : ∃ h : Nat, h = (i + j) / 2 := ⟨_, rfl⟩
      obtain ⟨t, ht⟩ : ∃ t : Nat, t = h - a := ⟨_, rfl⟩
      have hht : h = a + t ∧ u ≤ t ∧ t < v := by omega
      obtain ⟨z, hz⟩ : ∃ z, A[t]? = some z := ⟨_, List.getElem?_eq_getElem (by omega)⟩
      have hltz : (i : Int) < j := by omega
      have w1 : IntKind.i64.wrap ((i : Int) + j) = (i : Int) + j := by simp only [IntKind.wrap, IntKind.bits, IntKind.signed]; simp; omega
      have w2 : IntKind.u64.wrap ((i : Int) + j) = (i : Int) + j := by simp only [IntKind.wrap, IntKind.bits, IntKind.signed]; simp; omega
      have w3 : ((i : Int) + j) / 2 = h := by omega
      have w4 : IntKind.u64.wrap (h : Int) = h := by simp only [IntKind.wrap, IntKind.bits, IntKind.signed]; simp; omega
      have w5 : IntKind.i64.wrap (h : Int) = h := by simp only [IntKind.wrap, IntKind.bits, IntKind.signed]; simp; omega
      have w6 : IntKind.i64.wrap ((h : Int) + 1) = (h : Int) + 1 := by simp only [IntKind.wrap, IntKind.bits, IntKind.signed]; simp; omega
      have hgy := HS.out.cell (i := P.length + A.length) (x := y) (by rw [List.getElem?_append_right (by omega), show P.length + A.length - P.length = A.length by omega]; simp)
      have hgz := HS.out.cell (i := P.length + t) (x := z) (by
        rw [List.getElem?_append_right (by omega), show P.length + t - P.length = t by omega, List.getElem?_append_left (List.getElem?_eq_some_iff.1 hz).1]
        exact hz)
      have px : wr.cell? ⟨g, o + m, none⟩ = some (.int .i32 y) := by rw [HO.out, HM.out.2.1]; exact hgy
      have py : wr.cell? ⟨g, o + h, none⟩ = some (.int .i32 z) := by
        rw [HO.out, show h = P.length + t by have := HM.out; omega]; exact hgz
      have hg := HS.out.lt
      have HP := Lib.hid (And.intro px (And.intro py hg))
      have HCr := Lib.hid (fun u hu => HC.out u y z (HR.out.trans hu))
      obtain ⟨r, hr⟩ : ∃ r, r = cmp8 (markN y) (markN z) := ⟨_, rfl⟩
      rw [← hr] at HCr
      have HRr := Lib.hid (show r < 0 ↔ markN y < markN z from by
        rw [hr]; unfold cmp8
        split
        · omega
        · split <;> omega)
      have ih0 : (0 : Int) ≤ h := by omega
      have iN : (h : Int) < N := by omega
      have ia0 : (0 : Int) ≤ m := by omega
      have iaN : (m : Int) < N := by omega
      have iN2 : decide (N ≤ h) = false := decide_eq_false (by omega)
      have iaN2 : decide (N ≤ m) = false := decide_eq_false (by omega)
      have HT := Lib.hid (And.intro hht (And.intro hz (And.intro hij hbN)))
      clear hij hht hz ht hh hgy hgz hg hr hbN hNL hlt hma
      go_upto_region 17 with fail
      go_region_held3 (fun w' => w'.cell? ⟨g, o + m, none⟩ = some (.int .i32 y) ∧ w'.cell? ⟨g, o + h, none⟩ = some (.int .i32 z)) (first | exact hq | exact ⟨px, py⟩ | go_keep)
        (first
          | (go_at_call 110; ((with_reducible refine (HCr.out _ (by exact Stay.drew _)).mono ?_); rintro e w1 ⟨rfl, hs1⟩); have HS1 := Lib.hid (show Stay [] wr w1 from (Stay.drew _).trans hs1); have hq : w1.cell? ⟨g, o + m, none⟩ = some (.int .i32 y) ∧ w1.cell? ⟨g, o + h, none⟩ = some (.int .i32 z) := ⟨(HS1.out.cell_ (a := ⟨g, _, none⟩) HP.out.2.2 (by simp)).trans HP.out.1, (HS1.out.cell_ (a := ⟨g, _, none⟩) HP.out.2.2 (by simp)).trans HP.out.2.1⟩; clear hs1))
      have HS2 := Lib.hid (HS.out.stay HS1.out (by simp))
      have HR2 := Lib.hid (HR.out.trans (HS1.out.mono (by simp)))
      clear hq px py
      by_cases hrn : r < 0
      · have HV2 := Lib.hid (show t = A.length ∨ ∃ z, A[t]? = some z ∧ markN y < markN z from .inr ⟨z, HT.out.2.1, HRr.out.1 hrn⟩)
        have hb1 : decide (r < 0) = true := decide_eq_true hrn
        rw [hb1]
        clear hb1
        go_wp2_with fail
        go_roundw
        case rel => exact ⟨i, h, u, t, rfl, rfl, ⟨HIJ.out.1, HT.out.1.1⟩, HT.out.1.2.1, by have := HT.out.1; omega, HU, HV2, HS2, HR2⟩
        case measure => have := HT.out; simp [intOf]; omega
      · have HU2 := Lib.hid (show t + 1 = 0 ∨ ∃ z, A[t + 1 - 1]? = some z ∧ markN z ≤ markN y from .inr ⟨z, HT.out.2.1, by have := mt HRr.out.2 hrn; omega⟩)
        have hb1 : decide (r < 0) = false := decide_eq_false hrn
        rw [hb1]
        clear hb1
        go_wp2_with fail
        go_roundw
        case rel => exact ⟨h + 1, j, t + 1, v, by go_num, rfl, ⟨by have := HT.out.1; omega, HIJ.out.2⟩, by have := HT.out.1; omega, hv, HU2, HV, HS2, HR2⟩
        case measure => have := HT.out; simp [intOf]; omega
    · obtain rfl : u = v := by omega
      have hltz : ¬ (i : Int) < j := by omega
      have HE := Lib.hid (And.intro hij.1 (And.intro hv (And.intro hbN hma)))
      have HFin := Lib.hid (show Stab markN (A ++ [y]) (A.take u ++ y :: A.drop u) from by
        have e : A = A.take u ++ A.drop u := (List.take_append_drop _ _).symm
        have h1 : Ord markN (A.take u ++ A.drop u) := by rw [← e]; exact HA.out
        have h2 := stab_one_right (y := y) h1 (fun x hx => by
          rcases HU.out with h | ⟨z, hz, hl⟩
          · rw [h] at hx; simp at hx
          · have h3 := ord_last HA.out hz x (by
              rcases Nat.eq_zero_or_pos u with h0 | h0
              · rw [h0] at hx; simp at hx
              · rw [show u - 1 + 1 = u by omega]; exact hx)
            omega) (fun x hx => by
          rcases HV.out with h | ⟨z, hz, hl⟩
          · rw [h] at hx; simp at hx
          · have h3 := ord_first HA.out hz x hx
            omega)
        rw [← e] at h2
        exact h2)
      clear hij hlt hv hbN HIJ HU HV huv hma
      go_wp2_with fail
      go_loopw [17] (fun kv wr => ∃ (k s : Nat), kv = .int .i64 k ∧ Hid (k = a + s) ∧ u ≤ s ∧ s ≤ A.length ∧ Hid (SegR wr g pre (P ++ (A.take s ++ (y :: (A.drop s ++ Q)))) post) ∧ Hid (Stay [g] w wr))
        (fun kv _ => (intOf kv).toNat)
      case atStart => exact ⟨m, A.length, rfl, HE.out.2.2.2, HE.out.2.1, Nat.le_refl _, by
        rw [List.take_of_length_le (Nat.le_refl _), List.drop_of_length_le (Nat.le_refl _)]
        exact HS, HR⟩
      case round =>
        clear HS HR
        obtain ⟨k, s, rfl, HK, hus, hs, HS, HR⟩ := hrel
        have hk := HK.out
        have he := HE.out
        have hm := HM.out
        have hnn := HN.out
        by_cases hsu : u < s
        · have hke : (i : Int) < k := by omega
          obtain ⟨s', rfl⟩ : ∃ s', s = s' + 1 := ⟨s - 1, by omega⟩
          obtain ⟨z, hz⟩ : ∃ z, A[s']? = some z := ⟨_, List.getElem?_eq_getElem (by omega)⟩
          obtain ⟨k1, hk1⟩ : ∃ k1, k = k1 + 1 := ⟨k - 1, by omega⟩
          have v1 : IntKind.i64.wrap ((k : Int) - 1) = (k1 : Int) := by simp only [IntKind.wrap, IntKind.bits, IntKind.signed]; simp; omega
          have hB2 : A.drop s' = z :: A.drop (s' + 1) := by
            obtain ⟨hl, e1⟩ := List.getElem?_eq_some_iff.1 hz
            rw [List.drop_eq_getElem_cons hl, e1]
          have hB3 : A.take (s' + 1) = A.take s' ++ [z] := by rw [List.take_add_one, hz]; rfl
          have hseg := HS.out
          rw [hB3] at hseg
          have e1 : P ++ ((A.take s' ++ [z]) ++ (y :: (A.drop (s' + 1) ++ Q))) = (P ++ A.take s') ++ z :: y :: (A.drop (s' + 1) ++ Q) := by simp
          rw [e1] at hseg
          have hpl : (P ++ A.take s').length = k1 := by rw [List.length_append, List.length_take]; omega
          have hx0 : ((P ++ A.take s') ++ z :: y :: (A.drop (s' + 1) ++ Q))[k1]? = some z := by rw [← hpl]; simp
          have hy0 : ((P ++ A.take s') ++ z :: y :: (A.drop (s' + 1) ++ Q))[k]? = some y := by
            rw [List.getElem?_append_right (by omega), show k - (P ++ A.take s').length = 1 by omega]; rfl
          have px : wr.cell? ⟨g, o + k1, none⟩ = some (.int .i32 z) := by rw [HO.out]; exact hseg.cell hx0
          have py : wr.cell? ⟨g, o + k, none⟩ = some (.int .i32 y) := by rw [HO.out]; exact hseg.cell hy0
          have fx : wr.frozen? ⟨g, o + k1, none⟩ = false := hseg.free _
          have fy : wr.frozen? ⟨g, o + k, none⟩ = false := hseg.free _
          have HSw := Lib.hid (show SegR ((wr.setCell ⟨g, o + k, none⟩ (.int .i32 z)).setCell ⟨g, o + k1, none⟩ (.int .i32 y)) g pre (P ++ (A.take s' ++ (y :: (A.drop s' ++ Q)))) post from by
            have h9 := hseg.swap hy0 hx0
            rw [HO.out]
            have e2 : swap2 ((P ++ A.take s') ++ z :: y :: (A.drop (s' + 1) ++ Q)) k k1 = P ++ (A.take s' ++ (y :: (A.drop s' ++ Q))) := by
              have := swap2_prev (P ++ A.take s') (A.drop (s' + 1) ++ Q) z y
              rw [hpl, ← hk1] at this
              rw [this, hB2]; simp
            rw [← e2]
            exact h9)
          have i0 : (0 : Int) ≤ k := by omega
          have j0 : (0 : Int) ≤ k1 := by omega
          have iN : (k : Int) < N := by omega
          have jN : (k1 : Int) < N := by omega
          have iN2 : decide (N ≤ k) = false := decide_eq_false (by omega)
          have jN2 : decide (N ≤ k1) = false := decide_eq_false (by omega)
          have hne : o + k ≠ o + k1 := by omega
          have hne2 : o + k1 ≠ o + k := by omega
          have HK1 := Lib.hid (And.intro hk hk1)
          clear hk he hm hnn hz hk1 hB2 hB3 hseg e1 hpl hx0 hy0 HS
          go_wp2_with fail
          go_region
          all_goals
            go_wp2_with fail
            go_roundw
            case rel => exact ⟨k1, s', rfl, by have := HK1.out; show _ = _; omega, by omega, by omega, HSw.out.stay (F := []) (Stay.drew _) (by simp), ((HR.out.set' (.inl (by simp))).set' (.inl (by simp))).drew'⟩
            case measure => have := HK1.out; simp [intOf]; omega
        · obtain rfl : u = s := by omega
          have hke : ¬ (i : Int) < k := by omega
          clear hk he hm hnn hsu
          go_wp2_with fail
          exact bodyPost_ret (v := .tuple #[]) (by simp [results, Tryd.results138, go_sem]) rfl ⟨rfl, ⟨_, HFin.out, by have := HS.out; simpa using this⟩, HR.out⟩
end Go.Proofs.YtlphmcodajookaaDoor
