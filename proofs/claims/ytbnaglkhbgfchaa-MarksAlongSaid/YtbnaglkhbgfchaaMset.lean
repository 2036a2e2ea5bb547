/- shuttlelaw19: within (19) and set (20). -/
import Derived.Test.YtbnaglkhbgfchaaMwakes
import Derived.Test.YtbnaglkhbgfchaaMopen
import Derived.Test.YtbnaglkhbgfchaaMinMax2
namespace Go.Proofs.Ytbnaglkhbgfchaa
open Go.RowKit
def inI (n lo hi : Int) : Int := max lo (min hi n)
theorem inI_bounds {n lo hi : Int} (h : lo ≤ hi) : lo ≤ inI n lo hi ∧ inI n lo hi ≤ hi := by unfold inI; omega
theorem within_any (n lo hi : Int) (w : World) : Calls Try.prog 19 #[.int .i64 n, .int .i64 lo, .int .i64 hi] w fun e w' => e = .returned (.int .i64 (inI n lo hi)) ∧ Stay [] w w' := by
  obtain ⟨p, hp⟩ : ∃ p, p = min hi n := ⟨_, rfl⟩
  obtain ⟨q, hq⟩ : ∃ q, q = inI n lo hi := ⟨_, rfl⟩
  have hmn : ∀ ts t (w : World), (Builtin.min_ ts t #[.int .i64 hi, .int .i64 n]).run Try.prog w = .ok (.int .i64 p) w := fun ts t w => by rw [hp]; exact min_ints hi n ts t w
  have hmx : ∀ ts t (w : World), (Builtin.max_ ts t #[.int .i64 lo, .int .i64 p]).run Try.prog w = .ok (.int .i64 q) w := fun ts t w => by rw [hq, hp]; exact max_ints lo (min hi n) ts t w
  have HS := Lib.hid (Stay.refl [] w)
  rw [← hq]
  clear hp hq
  go_enter Try.func19, Try.ntmps19
  go_wp2_with fail
  go_ret
  exact ⟨rfl, HS.out⟩
/-- a mark brought into a text of n bytes -/
def stOf (n : Int) (m : MK) : St := ⟨inI m.a 0 n, inI m.a 0 n + inI m.n 0 (n - inI m.a 0 n), m.g, m.s⟩
def setL (n : Int) (L : List MK) : List EN := L.mapIdx fun j m => ⟨j + 1, stOf n m, j⟩
theorem setL_snoc (n : Int) (L : List MK) (m : MK) : setL n (L ++ [m]) = setL n L ++ [⟨(L.length : Int) + 1, stOf n m, L.length⟩] := by
  unfold setL
  rw [List.mapIdx_append]
  simp
theorem setL_length (n : Int) (L : List MK) : (setL n L).length = L.length := by simp [setL]
theorem stOf_bounds {n : Int} (m : MK) (hn : 0 ≤ n) : 0 ≤ (stOf n m).b ∧ (stOf n m).b ≤ (stOf n m).e ∧ (stOf n m).e ≤ n := by
  have h1 := inI_bounds (n := m.a) hn
  have h2 := inI_bounds (n := m.n) (lo := 0) (hi := n - inI m.a 0 n) (by omega)
  unfold stOf
  simp only
  omega
theorem marks_at {w : World} {B : Nat} {A : Option Addr} {L : List MK} (h : Sl w B A (L.flatMap MK.cells)) (k : Nat) (hk : k < L.length) : ∃ b o, A = some ⟨b, o, none⟩ ∧ b < B ∧ ∀ j u, L[k].cells[j]? = some u → w.cell? ⟨b, o + (k * 5 + j), none⟩ = some u := by
  have key : ∀ j u, L[k].cells[j]? = some u → (L.flatMap MK.cells)[k * 5 + j]? = some u := fun j u hj => by
    have hj3 : j < 5 := by
      have := (List.getElem?_eq_some_iff.1 hj).1
      rwa [MK.len] at this
    rw [flat_at MK.cells 5 MK.len L k hk j hj3]; exact hj
  obtain ⟨ad, ha, hb, hc⟩ := h _ _ (key 0 _ rfl)
  have hab : ∃ b o, ad = ⟨b, o, none⟩ := by
    obtain ⟨ad0, e0, hb0, hc0⟩ := h 0 ((L[0]'(by omega)).cells[0]'(by rw [MK.len]; omega)) (by
      have := flat_at MK.cells 5 MK.len L 0 (by omega) 0 (by omega)
      rw [Nat.zero_mul] at this
      rw [this, List.getElem?_eq_getElem])
    rw [ha] at e0
    injection e0 with e0
    subst e0
    have : ad.add 0 = ad := rfl
    rw [this] at hc0
    exact plain_addr hc0
  obtain ⟨b, o, rfl⟩ := hab
  refine ⟨b, o, ha, hb, fun j u hj => ?_⟩
  obtain ⟨ad1, e1, _, hc1⟩ := h _ _ (key j u hj)
  rw [ha] at e1
  injection e1 with e1
  subst e1
  rw [add_lit'] at hc1
  exact hc1
/-- what set hands back -/
def Seted (w : World) (n : Int) (L : List MK) (e : Ending) (w' : World) : Prop :=
  ∃ sb mb : Nat, e = .returned (.pointer (some ⟨sb, 0, none⟩)) ∧ SetAt w' sb mb (setL n (L.take 1000)) (L.take 1000).length (L.take 1000).length ∧ w.heap.size ≤ sb ∧ w.heap.size ≤ mb ∧ Stay [] w w'
set_option maxRecDepth 20000 in
set_option maxHeartbeats 16000000 in
theorem set_any (A : Option Addr) (c : Nat) (L : List MK) (n : Int) (w : World) (hsl : Sl w w.heap.size A (L.flatMap MK.cells)) (hlc : L.length ≤ maxLen) (hn : 0 ≤ n ∧ n ≤ 262144) :
    Calls Try.prog 20 #[.slice A L.length c, .int .i64 n] w (Seted w n L) := by
  have HC := Lib.hid (show ∀ u, Stay [] w u → ∀ k (hk : k < L.length), ∃ (b o : Nat), A = some ⟨b, o, none⟩ ∧ b < w.heap.size ∧ ∀ j x, L[k].cells[j]? = some x → u.cell? ⟨b, o + (k * 5 + j), none⟩ = some x from fun u hu k hk => by
    obtain ⟨b, o, rfl, hb, key⟩ := marks_at hsl k hk
    exact ⟨b, o, rfl, hb, fun j x hj => (hu.cell_ (a := ⟨b, _, none⟩) hb (by simp)).trans (key j x hj)⟩)
  have HL := Lib.hid hlc
  have HN := Lib.hid hn
  have H0 := Lib.hid (mnew_any w)
  obtain ⟨ln, hln⟩ : ∃ ln, ln = L.length := ⟨_, rfl⟩
  have HLn := Lib.hid hln
  rw [← hln]
  clear hsl hlc hn hln
  go_enter Try.func20, Try.ntmps20
  go_wp2_with fail
  refine H0.out.mono ?_
  rintro e w1 ⟨sb, mb, rfl, hsb, hmb, h1, hs1⟩
  have HB := Lib.hid (And.intro hsb hmb)
  have HS1 := Lib.hid hs1
  have H1 := Lib.hid (show SetAt w1 sb mb (setL n (L.take 0)) 0 ((0 : Nat) : Int) from h1)
  clear hsb hmb h1 hs1 H0
  go_wp2_with fail
  go_loopw [6] (fun iv wr => ∃ k : Nat, iv = .int .i64 k ∧ k ≤ ln ∧ k ≤ 1000 ∧ Hid (SetAt wr sb mb (setL n (L.take k)) k k) ∧ Hid (Stay [] w wr))
    (fun iv _ => ln - (intOf iv).toNat)
  case atStart => exact ⟨0, rfl, by omega, by omega, H1, HS1⟩
  case round =>
    clear H1 HS1
    obtain ⟨k, rfl, hk, hk2, HA, HS⟩ := hrel
    have HEnd := Lib.hid (show (ln ≤ k ∨ 1000 ≤ k) → Seted w n L (.returned (.pointer (some ⟨sb, 0, none⟩))) wr from fun hor => by
      have e1 := HLn.out
      have e2 : (L.take 1000).length = k := by rw [List.length_take]; omega
      have e3 : L.take 1000 = L.take k := by
        rcases hor with h | h
        · rw [List.take_of_length_le (by omega), List.take_of_length_le (by omega)]
        · rw [show k = 1000 by omega]
      refine ⟨sb, mb, rfl, ?_, HB.out.1, HB.out.2, HS.out⟩
      rw [e2, e3]
      exact HA.out)
    by_cases hc1 : k < ln
    · have hc1' : (k : Int) < ln := by omega
      by_cases hc2 : k < 1000
      · have hc2' : (k : Int) < 1000 := by omega
        have hkL : k < L.length := by rw [← HLn.out]; exact hc1
        obtain ⟨b, o, rfl, hb, key⟩ := HC.out wr HS.out k hkL
        have hget : L[k]? = some L[k] := List.getElem?_eq_getElem hkL
        obtain ⟨m, hm⟩ : ∃ m, m = L[k] := ⟨_, rfl⟩
        rw [← hm] at key hget
        clear hm
        have HM := Lib.hid hget
        obtain ⟨mi, ma, mn, mg, ms⟩ := m
        have p0 : wr.cell? ⟨b, o + (k * 5 + 0), none⟩ = some (.int .i64 mi) := key 0 _ rfl
        have p1 : wr.cell? ⟨b, o + (k * 5 + 1), none⟩ = some (.int .i64 ma) := key 1 _ rfl
        have p2 : wr.cell? ⟨b, o + (k * 5 + 2), none⟩ = some (.int .i64 mn) := key 2 _ rfl
        have p3 : wr.cell? ⟨b, o + (k * 5 + 3), none⟩ = some (.bool mg) := key 3 _ rfl
        have p4 : wr.cell? ⟨b, o + (k * 5 + 4), none⟩ = some (.int .u16 ms) := key 4 _ rfl
        clear key hget hkL HC
        simp only [Nat.add_zero, ← Nat.add_assoc] at p0 p1 p2 p3 p4
        have hk0 : (0 : Int) ≤ k := by omega
        obtain ⟨W1, hW1⟩ : ∃ W, W = wr.alloc (.cells #[.int .i64 mi, .int .i64 ma, .int .i64 mn, .bool mg, .int .u16 ms] 35) := ⟨_, rfl⟩
        have hs1 : Stay [] wr W1 := by rw [hW1]; exact Stay.alloc _ _
        have hb1 : Blk W1 wr.heap.size [.int .i64 mi, .int .i64 ma, .int .i64 mn, .bool mg, .int .u16 ms] 35 := by rw [hW1]; exact Blk.new wr _ _
        obtain ⟨bx, hbx⟩ : ∃ x, x = wr.heap.size := ⟨_, rfl⟩
        rw [← hbx] at hb1
        have HSA := Lib.hid (HA.out.stay0 hs1)
        have HW := Lib.hid (show Stay [] w W1 ∧ w.heap.size ≤ bx from ⟨HS.out.trans hs1, by rw [hbx]; exact HS.out.size⟩)
        have HB1 := Lib.hid hb1
        have b1 : W1.cell? ⟨bx, 1, none⟩ = some (.int .i64 ma) := hb1.cell 1
        have HW1 := Lib.hid hW1
        have HBx := Lib.hid hbx
        have H1 := Lib.hid (within_any ma 0 n W1)
        clear hs1 hb1 hW1 hbx HEnd HA HS
        go_upto_region 8 with fail
        rw [← HW1.out, ← HBx.out]
        go_wp2_with fail
        refine H1.out.mono ?_
        rintro e w2 ⟨rfl, hs2⟩
        obtain ⟨a, ha⟩ : ∃ a, a = inI ma 0 n := ⟨_, rfl⟩
        rw [← ha]
        have hab := inI_bounds (n := ma) HN.out.1
        rw [← ha] at hab
        have HAd := Lib.hid (And.intro ha hab)
        have hb2 := HB1.out.stay hs2 (by simp)
        have f2 := hb2.free 1
        have z2 : w2.cell? ⟨bx, 1, none⟩ = some (.int .i64 ma) := hb2.cell 1
        obtain ⟨W3, hW3⟩ : ∃ W, W = w2.setCell ⟨bx, 1, none⟩ (.int .i64 a) := ⟨_, rfl⟩
        have hs3 : Stay [bx] w2 W3 := by rw [hW3]; exact Stay.setCell _ _ _ (by simp)
        have hb3 : Blk W3 bx [.int .i64 mi, .int .i64 a, .int .i64 mn, .bool mg, .int .u16 ms] 35 := by rw [hW3]; exact hb2.set 1 _
        have hne : sb ≠ bx ∧ mb ≠ bx := ⟨(blk_ty (HSA.out.stay0 hs2).blk hb2 (by decide)), fun e => (HSA.out.stay0 hs2).m.noBlk hb2 e.symm⟩
        have HSA3 := Lib.hid ((HSA.out.stay0 hs2).stay hs3 (by simpa using hne.1) (by simpa using hne.2))
        have HW3s := Lib.hid (show Stay [] w W3 ∧ w.heap.size ≤ bx from ⟨((HW.out.1.trans hs2).trans' hs3 (fun g hg => .inr (by simp at hg; rw [hg]; exact HW.out.2))), HW.out.2⟩)
        have HB3 := Lib.hid hb3
        have c1 : W3.cell? ⟨bx, 1, none⟩ = some (.int .i64 a) := hb3.cell 1
        have c2 : W3.cell? ⟨bx, 2, none⟩ = some (.int .i64 mn) := hb3.cell 2
        have HW3 := Lib.hid hW3
        have HNe := Lib.hid hne
        have H3 := Lib.hid (within_any mn 0 (n - a) W3)
        clear hs2 hb2 hW3 hs3 hb3 hne H1 HB1 HSA ha hab HW
        go_upto_region 9 with fail
        rw [← HW3.out]
        clear f2 z2
        have hsub : IntKind.i64.wrap (n - a) = n - a := by
          have e1 := HAd.out.2
          have e2 := HN.out
          simp only [IntKind.wrap, IntKind.bits, IntKind.signed]; simp; omega
        go_wp2_with fail
        refine H3.out.mono ?_
        rintro e w4 ⟨rfl, hs4⟩
        obtain ⟨l, hl⟩ : ∃ l, l = inI mn 0 (n - a) := ⟨_, rfl⟩
        rw [← hl]
        have hlb := inI_bounds (n := mn) (lo := 0) (hi := n - a) (by have := HAd.out.2; omega)
        rw [← hl] at hlb
        have HLd := Lib.hid (And.intro hl hlb)
        have hb4 := HB3.out.stay hs4 (by simp)
        have f4 := hb4.free 2
        have z4 : w4.cell? ⟨bx, 2, none⟩ = some (.int .i64 mn) := hb4.cell 2
        obtain ⟨W5, hW5⟩ : ∃ W, W = w4.setCell ⟨bx, 2, none⟩ (.int .i64 l) := ⟨_, rfl⟩
        have hs5 : Stay [bx] w4 W5 := by rw [hW5]; exact Stay.setCell _ _ _ (by simp)
        have hb5 : Blk W5 bx [.int .i64 mi, .int .i64 a, .int .i64 l, .bool mg, .int .u16 ms] 35 := by rw [hW5]; exact hb4.set 2 _
        have hsa5 := (HSA3.out.stay0 hs4).stay hs5 (by simpa using HNe.out.1) (by simpa using HNe.out.2)
        have HW5s := Lib.hid (show Stay [] w W5 from (HW3s.out.1.trans hs4).trans' hs5 (fun g hg => .inr (by simp at hg; rw [hg]; exact HW3s.out.2)))
        have c0 : W5.cell? ⟨bx, 0, none⟩ = some (.int .i64 mi) := hb5.cell 0
        have c1 : W5.cell? ⟨bx, 1, none⟩ = some (.int .i64 a) := hb5.cell 1
        have c2 : W5.cell? ⟨bx, 2, none⟩ = some (.int .i64 l) := hb5.cell 2
        have c3 : W5.cell? ⟨bx, 3, none⟩ = some (.bool mg) := hb5.cell 3
        have c4 : W5.cell? ⟨bx, 4, none⟩ = some (.int .u16 ms) := hb5.cell 4
        have HW5 := Lib.hid hW5
        have H5 := Lib.hid (madd_ok hsa5 mi a l mg ms (by have := HAd.out.2; have := HN.out; omega) (by rw [setL_length, List.length_take]; omega) (by omega))
        clear hs4 hb4 hW5 hs5 hb5 hsa5 H3 HB3 HSA3 hl hlb hsub HW3 HW3s
        go_upto_region 10 with fail
        rw [← HW5.out]
        clear f4 z4
        go_wp2_with fail
        refine H5.out.mono ?_
        rintro e w6 ⟨rfl, hA6, hs6⟩
        have HA6 := Lib.hid (show SetAt w6 sb mb (setL n (L.take (k + 1))) (k + 1) ((k + 1 : Nat) : Int) from by
          have e1 : L.take (k + 1) = L.take k ++ [⟨mi, ma, mn, mg, ms⟩] := by rw [List.take_add_one, HM.out]; rfl
          have e2 : (L.take k).length = k := by rw [List.length_take]; have := HLn.out; omega
          rw [e1, setL_snoc, e2]
          have e3 : stOf n ⟨mi, ma, mn, mg, ms⟩ = ⟨a, a + l, mg, ms⟩ := by
            unfold stOf
            simp only
            rw [← HAd.out.1, ← HLd.out.1]
          rw [e3]
          exact hA6)
        have HS6 := Lib.hid (show Stay [] w w6 from HW5s.out.trans' hs6 (fun g hg => .inr (by simp at hg; rcases hg with rfl | rfl; exact HB.out.1; exact HB.out.2)))
        have hadd : IntKind.i64.wrap ((k : Int) + 1) = (k : Int) + 1 := by
          simp only [IntKind.wrap, IntKind.bits, IntKind.signed]; simp; omega
        clear hA6 hs6 H5 c0 c1 c2 c3 c4
        go_wp2_with fail
        go_roundw
        case rel => exact ⟨k + 1, by go_num, by omega, by omega, HA6, HS6⟩
        case measure => simp [intOf]; omega
      · have hc2' : ¬ (k : Int) < 1000 := by omega
        have HF := Lib.hid (HEnd.out (.inr (by omega)))
        clear HEnd
        go_wp2_with fail
        go_ret
        exact HF.out
    · have hc1' : ¬ (k : Int) < ln := by omega
      have HF := Lib.hid (HEnd.out (.inl (by omega)))
      clear HEnd
      go_wp2_with fail
      go_ret
      exact HF.out
end Go.Proofs.Ytbnaglkhbgfchaa
