/- NAseg: several texts, one behind another: NswapR, NcmpR, NsegI, NcmpI, NswapI, Ntogp. -/
import Derived.Test.YtlphmcodajookaaDoorNAplain
import Derived.Test.YtlphmcodajookaaDoorNAbase
import Derived.Test.YtlphmcodajookaaDoorProg
import Derived.Lib.Hide
import Derived.Deep.DeepCutAuto
import Derived.RegionTactic
import Derived.BigRegion
import Derived.Test.YtlphmcodajookaaDoorNAlow
import Derived.Deep.RegionHeld3
import Derived.Shelf.SlSortCmp.QuietGrown
/- slices' stable sort at runes: swapRange, rotate: the walk. -/
namespace Go.Proofs.YtlphmcodajookaaDoor
open Go.RowKit
/-- a row of numbers in the midst of a block -/
def SegR (w : World) (g : Nat) (pre : List Value) (L : List Int) (post : List Value) : Prop := Blk w g (pre ++ (ints .i32 L ++ post)) 21
section
variable {w w' : World} {g : Nat} {pre post : List Value} {L : List Int}
theorem SegR.stay {F : List Nat} (h : SegR w g pre L post) (hs : Stay F w w') (hF : g ∉ F) : SegR w' g pre L post := Blk.stay h hs hF
theorem SegR.cell (h : SegR w g pre L post) {i : Nat} {x : Int} (hi : L[i]? = some x) : w.cell? ⟨g, pre.length + i, none⟩ = some (.int .i32 x) := by
  have hl := (List.getElem?_eq_some_iff.1 hi).1
  rw [Blk.cell h, List.getElem?_append_right (by omega), List.getElem?_append_left (by simp [ints]; omega), show pre.length + i - pre.length = i by omega]
  simp [ints, hi]
theorem SegR.free (h : SegR w g pre L post) (k : Nat) : w.frozen? ⟨g, k, none⟩ = false := Blk.free h k
theorem SegR.set (h : SegR w g pre L post) {i : Nat} (hi : i < L.length) (x : Int) : SegR (w.setCell ⟨g, pre.length + i, none⟩ (.int .i32 x)) g pre (L.set i x) post := by
  have := Blk.set h (pre.length + i) (.int .i32 x)
  unfold SegR
  rw [List.set_append_right _ _ (by omega), List.set_append_left _ _ (by simp [ints]; omega), show pre.length + i - pre.length = i by omega] at this
  have e : (ints .i32 L).set i (.int .i32 x) = ints .i32 (L.set i x) := by simp [ints, List.map_set]
  rw [e] at this
  exact this
theorem SegR.swap (h : SegR w g pre L post) {i j : Nat} {x y : Int} (hi : L[i]? = some x) (hj : L[j]? = some y) : SegR ((w.setCell ⟨g, pre.length + i, none⟩ (.int .i32 y)).setCell ⟨g, pre.length + j, none⟩ (.int .i32 x)) g pre (swap2 L i j) post := by
  rw [swap2_eq hi hj]
  exact (h.set (List.getElem?_eq_some_iff.1 hi).1 y).set (by rw [List.length_set]; exact (List.getElem?_eq_some_iff.1 hj).1) x
theorem SegR.lt (h : SegR w g pre L post) : g < w.heap.size := Blk.lt h
end
set_option maxRecDepth 20000 in
set_option maxHeartbeats 4000000 in
theorem swapR_any (w : World) (g o c : Nat) (pre post : List Value) (L : List Int) (a b n : Nat) (fv : Value) (h : SegR w g pre L post) (ho : o = pre.length) (h1 : a + n ≤ b) (h2 : b + n ≤ L.length) (hL : L.length ≤ 2305843009213693952) :
    Calls Tryd.prog 145 #[.slice (some ⟨g, o, none⟩) L.length c, .int .i64 a, .int .i64 b, .int .i64 n, fv] w fun e w' => e = .returned (.tuple #[]) ∧ SegR w' g pre (swN a b n L) post ∧ Stay [g] w w' := by
  have HS := Lib.hid h
  have HR := Lib.hid (Stay.refl [g] w)
  have HO := Lib.hid ho
  obtain ⟨N, hN⟩ : ∃ N, N = L.length := ⟨_, rfl⟩
  have HN := Lib.hid hN
  rw [← hN] at h2 hL ⊢
  clear h ho hN
  go_enter Tryd.func145, Tryd.ntmps145
  go_wp2_with fail
  go_loopw [10] (fun iv wr => ∃ k : Nat, iv = .int .i64 k ∧ k ≤ n ∧ Hid (SegR wr g pre (swN a b k L) post) ∧ Hid (Stay [g] w wr)) (fun iv _ => n - (intOf iv).toNat)
  case atStart => exact ⟨0, rfl, by omega, HS, HR⟩
  case round =>
    clear HS HR
    obtain ⟨k, rfl, hk, HS, HR⟩ := hrel
    by_cases hkn : k < n
    · have hkn' : (k : Int) < n := by omega
      have hlen : (swN a b k L).length = N := by rw [swN_length, HN.out]
      obtain ⟨i, hi⟩ : ∃ i, i = a + k := ⟨_, rfl⟩
      obtain ⟨j, hj⟩ : ∃ j, j = b + k := ⟨_, rfl⟩
      have hiL : i < (swN a b k L).length := by omega
      have hjL : j < (swN a b k L).length := by omega
      obtain ⟨x, hx⟩ : ∃ x, (swN a b k L)[i]? = some x := ⟨_, List.getElem?_eq_getElem hiL⟩
      obtain ⟨y, hy⟩ : ∃ y, (swN a b k L)[j]? = some y := ⟨_, List.getElem?_eq_getElem hjL⟩
      have w1 : IntKind.i64.wrap ((a : Int) + k) = (i : Int) := by simp only [IntKind.wrap, IntKind.bits, IntKind.signed]; simp; omega
      have w2 : IntKind.i64.wrap ((b : Int) + k) = (j : Int) := by simp only [IntKind.wrap, IntKind.bits, IntKind.signed]; simp; omega
      have w3 : IntKind.i64.wrap ((k : Int) + 1) = (k : Int) + 1 := by simp only [IntKind.wrap, IntKind.bits, IntKind.signed]; simp; omega
      have px : wr.cell? ⟨g, o + i, none⟩ = some (.int .i32 x) := by rw [HO.out]; exact HS.out.cell hx
      have py : wr.cell? ⟨g, o + j, none⟩ = some (.int .i32 y) := by rw [HO.out]; exact HS.out.cell hy
      have fx : wr.frozen? ⟨g, o + i, none⟩ = false := HS.out.free _
      have fy : wr.frozen? ⟨g, o + j, none⟩ = false := HS.out.free _
      have i0 : (0 : Int) ≤ i := by omega
      have j0 : (0 : Int) ≤ j := by omega
      have iN : (i : Int) < N := by omega
      have jN : (j : Int) < N := by omega
      have iN2 : decide (N ≤ i) = false := decide_eq_false (by omega)
      have jN2 : decide (N ≤ j) = false := decide_eq_false (by omega)
      have hne : o + i ≠ o + j := by omega
      have hne2 : o + j ≠ o + i := by omega
      have HX := Lib.hid (And.intro hx (And.intro hy (And.intro hi hj)))
      clear hlen hi hj hiL hjL hx hy h1 h2
      go_wp2_with fail
      go_region
      all_goals
        go_wp2_with fail
        go_roundw
        case rel =>
          refine ⟨k + 1, by go_num, by omega, ?_, ((HR.out.set' (.inl (by simp))).set' (.inl (by simp))).drew'⟩
          obtain ⟨e1, e2, e3, e4⟩ := HX.out
          have h9 := HS.out.swap e1 e2
          rw [← HO.out] at h9
          show SegR _ g pre (swap2 (swN a b k L) (a + k) (b + k)) post
          rw [← e3, ← e4]
          exact h9.stay (F := []) (Stay.drew _) (by simp)
        case measure => simp [intOf]; omega
    · obtain rfl : k = n := by omega
      have hkn' : ¬ (k : Int) < k := by omega
      clear hkn
      go_wp2_with fail
      go_end0
      exact ⟨rfl, HS.out, HR.out⟩
set_option maxRecDepth 20000 in
set_option maxHeartbeats 4000000 in
theorem rotR_any (w : World) (g o c : Nat) (pre post : List Value) (P X Y Q : List Int) (N a m b : Nat) (fv : Value) (h : SegR w g pre (P ++ (X ++ (Y ++ Q))) post) (ho : o = pre.length) (hN : N = (P ++ (X ++ (Y ++ Q))).length)
    (ha : a = P.length) (hm : m = P.length + X.length) (hb : b = P.length + X.length + Y.length) (hX : 0 < X.length) (hY : 0 < Y.length) (hL : N ≤ 2305843009213693952) :
    Calls Tryd.prog 142 #[.slice (some ⟨g, o, none⟩) N c, .int .i64 a, .int .i64 m, .int .i64 b, fv] w fun e w' => e = .returned (.tuple #[]) ∧ SegR w' g pre (P ++ (Y ++ (X ++ Q))) post ∧ Stay [g] w w' := by
  obtain ⟨T, hT⟩ : ∃ T, T = P ++ (Y ++ (X ++ Q)) := ⟨_, rfl⟩
  rw [← hT]
  have HS := Lib.hid h
  have HR := Lib.hid (Stay.refl [g] w)
  have HO := Lib.hid ho
  have HT := Lib.hid hT
  have HN := Lib.hid hN
  have hn2 : P.length + X.length + Y.length ≤ N := by rw [hN]; simp only [List.length_append]; omega
  have HC := Lib.hid (fun (w : World) (L : List Int) (a b n : Nat) (h : SegR w g pre L post) (h1 : a + n ≤ b) (h2 : b + n ≤ L.length) (hL : L.length ≤ 2305843009213693952) => swapR_any w g o c pre post L a b n fv h ho h1 h2 hL)
  have w1 : IntKind.i64.wrap ((m : Int) - a) = (X.length : Int) := by simp only [IntKind.wrap, IntKind.bits, IntKind.signed]; simp; omega
  have w2 : IntKind.i64.wrap ((b : Int) - m) = (Y.length : Int) := by simp only [IntKind.wrap, IntKind.bits, IntKind.signed]; simp; omega
  have HM := Lib.hid (And.intro hm (And.intro hX (And.intro hY (And.intro hn2 hL))))
  clear h ho hT hN hm ha hb hX hY hL hn2
  go_enter Tryd.func142, Tryd.ntmps142
  go_wp2_with fail
  go_loopw [10, 11] (fun iv jv wr => ∃ (P' X' Y' Q' : List Int) (i j : Nat), iv = .int .i64 i ∧ jv = .int .i64 j ∧ i = X'.length ∧ j = Y'.length ∧ 0 < i ∧ 0 < j ∧ i + j ≤ N ∧ Hid (P'.length + X'.length = m ∧ P'.length + X'.length + Y'.length ≤ N ∧ (P' ++ (X' ++ (Y' ++ Q'))).length = N) ∧ Hid (T = P' ++ (Y' ++ (X' ++ Q'))) ∧ Hid (SegR wr g pre (P' ++ (X' ++ (Y' ++ Q'))) post) ∧ Hid (Stay [g] w wr))
    (fun iv jv _ => (intOf iv).toNat + (intOf jv).toNat)
  case atStart => exact ⟨P, X, Y, Q, _, _, rfl, rfl, rfl, rfl, HM.out.2.1, HM.out.2.2.1, by have := HM.out; omega, ⟨HM.out.1.symm, HM.out.2.2.2.1, HN.out.symm⟩, HT, HS, HR⟩
  case round =>
    clear HS HR HT
    obtain ⟨P', X', Y', Q', i, j, rfl, rfl, hi, hj, hi0, hj0, hij, HL, HT, HS, HR⟩ := hrel
    obtain ⟨k1, k2, k3⟩ := HL.out
    have hL := HM.out.2.2.2.2
    by_cases hlt : j < i
    · obtain ⟨X1, X2, hX12, hX1⟩ : ∃ X1 X2, X' = X1 ++ X2 ∧ X1.length = j := ⟨X'.take j, X'.drop j, (List.take_append_drop _ _).symm, by rw [List.length_take]; omega⟩
      subst hX12
      have hx2 : X2.length = i - j := by rw [List.length_append] at hi; omega
      have e0 : P' ++ ((X1 ++ X2) ++ (Y' ++ Q')) = P' ++ (X1 ++ (X2 ++ (Y' ++ Q'))) := by simp
      have hsw := swN_blocks P' X1 X2 Y' Q' (by omega)
      rw [← e0] at hsw
      have HCall := Lib.hid (HC.out wr (P' ++ ((X1 ++ X2) ++ (Y' ++ Q'))) P'.length (P'.length + X1.length + X2.length) X1.length HS.out (by omega) (by rw [k3]; rw [List.length_append] at k2; omega) (by omega))
      rw [hsw, k3] at HCall
      obtain ⟨q, hq⟩ : ∃ q, q = P'.length := ⟨_, rfl⟩
      have hm : P'.length + X1.length + X2.length = m := by rw [List.length_append] at k1; omega
      rw [hm, hX1, ← hq] at HCall
      have v1 : IntKind.i64.wrap ((m : Int) - i) = (q : Int) := by simp only [IntKind.wrap, IntKind.bits, IntKind.signed]; simp; omega
      have v2 : IntKind.i64.wrap ((i : Int) - j) = ((i - j : Nat) : Int) := by simp only [IntKind.wrap, IntKind.bits, IntKind.signed]; simp; omega
      obtain ⟨d, hd⟩ : ∃ d, d = i - j := ⟨_, rfl⟩
      rw [← hd] at v2 hx2
      have hlt1 : (j : Int) < i := by omega
      have hne : ¬ i = j := by omega
      have HF := Lib.hid (show (P' ++ Y').length + X2.length = m ∧ (P' ++ Y').length + X2.length + X1.length ≤ N ∧ ((P' ++ Y') ++ (X2 ++ (X1 ++ Q'))).length = N ∧ T = (P' ++ Y') ++ (X1 ++ (X2 ++ Q')) from by
        rw [HT.out]
        simp only [List.length_append] at k2 k3 ⊢
        refine ⟨by omega, by omega, by omega, by simp⟩)
      have HD := Lib.hid (show d = X2.length ∧ j = X1.length ∧ 0 < d ∧ d + j ≤ N ∧ d + j < i + j from by omega)
      clear hsw k1 k2 k3 hL hi hj hx2 hX1 hm hq hd HL HT HS
      go_wp2_with fail
      refine HCall.out.mono ?_
      rintro e w2 ⟨rfl, hs, hr⟩
      have HS2 := Lib.hid (show SegR w2 g pre ((P' ++ Y') ++ (X2 ++ (X1 ++ Q'))) post from by
        have e : P' ++ (Y' ++ (X2 ++ (X1 ++ Q'))) = (P' ++ Y') ++ (X2 ++ (X1 ++ Q')) := by simp
        rw [← e]; exact hs)
      have HR2 := Lib.hid (HR.out.trans hr)
      clear hs hr HCall HR
      go_wp2_with fail
      go_roundw
      case rel => exact ⟨P' ++ Y', X2, X1, Q', d, j, rfl, rfl, HD.out.1, HD.out.2.1, HD.out.2.2.1, hj0, HD.out.2.2.2.1, ⟨HF.out.1, HF.out.2.1, HF.out.2.2.1⟩, HF.out.2.2.2, HS2, HR2⟩
      case measure => have := HD.out; simp [intOf]; omega
    · by_cases heq : i = j
      · subst heq
        have hsw := swN_blocks P' X' [] Y' Q' (by omega)
        simp only [List.nil_append, List.length_nil, Nat.add_zero] at hsw
        have HCall := Lib.hid (HC.out wr (P' ++ (X' ++ (Y' ++ Q'))) P'.length (P'.length + X'.length) X'.length HS.out (by omega) (by rw [k3]; omega) (by omega))
        rw [hsw, k3, ← HT.out, k1, ← hi] at HCall
        obtain ⟨q, hq⟩ : ∃ q, q = P'.length := ⟨_, rfl⟩
        rw [← hq] at HCall
        have v1 : IntKind.i64.wrap ((m : Int) - i) = (q : Int) := by simp only [IntKind.wrap, IntKind.bits, IntKind.signed]; simp; omega
        clear hsw k1 k2 k3 hL hi hj hq HL HT HS hlt
        go_wp2_with fail
        refine HCall.out.mono ?_
        rintro e w2 ⟨rfl, hs, hr⟩
        have HS2 := Lib.hid hs
        have HR2 := Lib.hid (HR.out.trans hr)
        clear hs hr HCall HR
        go_wp2_with fail
        go_end0
        exact ⟨rfl, HS2.out, HR2.out⟩
      · obtain ⟨Y1, Y2, hY12, hY2⟩ : ∃ Y1 Y2, Y' = Y1 ++ Y2 ∧ Y2.length = i := ⟨Y'.take (j - i), Y'.drop (j - i), (List.take_append_drop _ _).symm, by rw [List.length_drop]; omega⟩
        subst hY12
        have hy1 : Y1.length = j - i := by rw [List.length_append] at hj; omega
        have e0 : P' ++ (X' ++ ((Y1 ++ Y2) ++ Q')) = P' ++ (X' ++ (Y1 ++ (Y2 ++ Q'))) := by simp
        have hsw := swN_blocks P' X' Y1 Y2 Q' (by omega)
        rw [← e0] at hsw
        have HCall := Lib.hid (HC.out wr (P' ++ (X' ++ ((Y1 ++ Y2) ++ Q'))) P'.length (P'.length + X'.length + Y1.length) X'.length HS.out (by omega) (by rw [k3]; rw [List.length_append] at k2; omega) (by omega))
        rw [hsw, k3] at HCall
        obtain ⟨q, hq⟩ : ∃ q, q = P'.length := ⟨_, rfl⟩
        obtain ⟨r, hr⟩ : ∃ r, r = m + (j - i) := ⟨_, rfl⟩
        have hm : P'.length + X'.length + Y1.length = r := by omega
        rw [hm, ← hi, ← hq] at HCall
        have hjN : j ≤ N := by omega
        have hmN : m ≤ N := by omega
        have v1 : IntKind.i64.wrap ((m : Int) - i) = (q : Int) := by simp only [IntKind.wrap, IntKind.bits, IntKind.signed]; simp; omega
        have v3 : IntKind.i64.wrap ((m : Int) + j) = (m : Int) + j := by simp only [IntKind.wrap, IntKind.bits, IntKind.signed]; simp; omega
        have v4 : IntKind.i64.wrap ((m : Int) + j - i) = (r : Int) := by simp only [IntKind.wrap, IntKind.bits, IntKind.signed]; simp; omega
        have v2 : IntKind.i64.wrap ((j : Int) - i) = ((j - i : Nat) : Int) := by simp only [IntKind.wrap, IntKind.bits, IntKind.signed]; simp; omega
        obtain ⟨d, hd⟩ : ∃ d, d = j - i := ⟨_, rfl⟩
        rw [← hd] at v2 hy1
        have hlt1 : ¬ (j : Int) < i := by omega
        have HF := Lib.hid (show P'.length + Y2.length = m ∧ P'.length + Y2.length + Y1.length ≤ N ∧ (P' ++ (Y2 ++ (Y1 ++ (X' ++ Q')))).length = N ∧ T = P' ++ (Y1 ++ (Y2 ++ (X' ++ Q'))) from by
          rw [HT.out]
          simp only [List.length_append] at k2 k3 ⊢
          refine ⟨by omega, by omega, by omega, by simp⟩)
        have HD := Lib.hid (show i = Y2.length ∧ d = Y1.length ∧ 0 < d ∧ i + d ≤ N ∧ i + d < i + j from by omega)
        clear hsw k1 k2 k3 hL hi hj hy1 hY2 hm hq hd hr hjN hmN HL HT HS hlt
        go_wp2_with fail
        refine HCall.out.mono ?_
        rintro e w2 ⟨rfl, hs, hr⟩
        have HS2 := Lib.hid hs
        have HR2 := Lib.hid (HR.out.trans hr)
        clear hs hr HCall HR
        go_wp2_with fail
        go_roundw
        case rel => exact ⟨P', Y2, Y1, X' ++ Q', i, d, rfl, rfl, HD.out.1, HD.out.2.1, hi0, HD.out.2.2.1, HD.out.2.2.2.1, ⟨HF.out.1, HF.out.2.1, HF.out.2.2.1⟩, HF.out.2.2.2, HS2, HR2⟩
        case measure => have := HD.out; simp [intOf]; omega
end Go.Proofs.YtlphmcodajookaaDoor
/- norm: Order's comparison. -/
namespace Go.Proofs.YtlphmcodajookaaDoor
open Go.RowKit Go.Sort
set_option maxRecDepth 20000 in
set_option maxHeartbeats 4000000 in
theorem cmpR_grow (x y : Int) (pb : Nat) (w : World) (h : w.cell? ⟨pb, 0, none⟩ = some (.func (.func 39) #[] #[])) :
    Calls Tryd.prog 110 #[.int .i32 x, .int .i32 y, .pointer (some ⟨pb, 0, none⟩)] w fun e w' => e = .returned (.int .i64 (cmp8 (markN x) (markN y))) ∧ ∃ q os, w' = grow (w.drewN q) os := by
  have HMk := Lib.hid (fun z w => mark_grow z w)
  have HC := Lib.hid (fun a b w => compare8_any a b w)
  have k0 : ∀ n os, (grow (w.drewN n) os).cell? ⟨pb, 0, none⟩ = some (.func (.func 39) #[] #[]) := fun n os => ((Stay.grow_ (F := []) w n os).cell_ (a := ⟨pb, 0, none⟩) (World.block_lt_of_cell? _ _ h) (by simp)).trans h
  have mixed : Tryd.prog.follows Departure.mixedOrders = true := by kernel_rfl
  go_enter Tryd.func110, Tryd.ntmps110
  go_upto_region 1 with fail
  go_quiet_grown (first | (go_at_call 39; exact Calls.grown_of (HMk.out _ _)) | (go_at_call 111; exact Calls.grown_of ((HC.out _ _ _).mono fun _ _ ⟨h1, h2⟩ => ⟨h1, 0, #[], by rw [h2, grow_empty]; rfl⟩)))
  go_wp2_with fail
  go_ret
  exact ⟨rfl, _, _, rfl⟩
theorem cmpR_any (x y : Int) (pb : Nat) (w : World) (h : w.cell? ⟨pb, 0, none⟩ = some (.func (.func 39) #[] #[])) :
    Calls Tryd.prog 110 #[.int .i32 x, .int .i32 y, .pointer (some ⟨pb, 0, none⟩)] w fun e w' => e = .returned (.int .i64 (cmp8 (markN x) (markN y))) ∧ Stay [] w w' :=
  (cmpR_grow x y pb w h).mono fun _ _ ⟨h1, q, os, h2⟩ => ⟨h1, by rw [h2]; exact Stay.grow_ w q os⟩
end Go.Proofs.YtlphmcodajookaaDoor
/- slices' stable sort at items: a row of items in the midst of a block. -/
namespace Go.Proofs.YtlphmcodajookaaDoor
open Go.RowKit
def itC (L : List It) : List Value := L.flatMap It.cells
theorem itC_nil : itC [] = [] := rfl
theorem itC_cons (x : It) (l : List It) : itC (x :: l) = .int .i32 x.r :: .int .u8 x.b.toNat :: .bool x.bad :: .int .u8 (keyI x) :: itC l := rfl
theorem itC_length : ∀ L : List It, (itC L).length = L.length * 4
  | [] => rfl
  | x :: l => by rw [itC_cons]; simp only [List.length_cons, itC_length l]; omega
theorem itC_app (a b : List It) : itC (a ++ b) = itC a ++ itC b := by simp [itC]
theorem itC_at : ∀ (L : List It) (i : Nat) (x : It), L[i]? = some x → (itC L)[i * 4]? = some (.int .i32 x.r) ∧ (itC L)[i * 4 + 1]? = some (.int .u8 x.b.toNat) ∧ (itC L)[i * 4 + 2]? = some (.bool x.bad) ∧ (itC L)[i * 4 + 3]? = some (.int .u8 (keyI x))
  | [], _, _, h => by simp at h
  | y :: l, 0, x, h => by
    obtain rfl : y = x := by simpa using h
    rw [itC_cons]; simp
  | y :: l, i + 1, x, h => by
    have ih := itC_at l i x (by simpa using h)
    rw [itC_cons, show (i + 1) * 4 = i * 4 + 4 by omega]
    exact ih
def putI (l : List Value) (p : Nat) (x : It) : List Value := (((l.set p (.int .i32 x.r)).set (p + 1) (.int .u8 x.b.toNat)).set (p + 2) (.bool x.bad)).set (p + 3) (.int .u8 (keyI x))
theorem itC_put : ∀ (L : List It) (i : Nat) (x : It), i < L.length → putI (itC L) (i * 4) x = itC (L.set i x)
  | [], _, _, h => by simp at h
  | y :: l, 0, x, h => by rw [itC_cons, List.set_cons_zero, itC_cons]; rfl
  | y :: l, i + 1, x, h => by
    have ih := itC_put l i x (by simpa using h)
    rw [itC_cons, List.set_cons_succ, itC_cons, ← ih, show (i + 1) * 4 = i * 4 + 4 by omega]
    rfl
theorem putI_app (pre l post : List Value) (p : Nat) (x : It) (h : p + 4 ≤ l.length) : putI (pre ++ (l ++ post)) (pre.length + p) x = pre ++ (putI l p x ++ post) := by
  unfold putI
  have s : ∀ (m : List Value) (q : Nat) (v : Value), q < m.length → (pre ++ (m ++ post)).set (pre.length + q) v = pre ++ (m.set q v ++ post) := fun m q v hq => by
    rw [List.set_append_right _ _ (by omega), Nat.add_sub_cancel_left, List.set_append_left _ _ hq]
  simp only [Nat.add_assoc]
  rw [s _ _ _ (by omega), s _ _ _ (by rw [List.length_set]; omega), s _ _ _ (by simp only [List.length_set]; omega), s _ _ _ (by simp only [List.length_set]; omega)]
def SegI (w : World) (g : Nat) (pre : List Value) (L : List It) (post : List Value) : Prop := Blk w g (pre ++ (itC L ++ post)) 67
/-- an item's store -/
def putW (w : World) (g p : Nat) (x : It) : World := (((w.setCell ⟨g, p, none⟩ (.int .i32 x.r)).setCell ⟨g, p + 1, none⟩ (.int .u8 x.b.toNat)).setCell ⟨g, p + 2, none⟩ (.bool x.bad)).setCell ⟨g, p + 3, none⟩ (.int .u8 (keyI x))
section
variable {w w' : World} {g : Nat} {pre post : List Value} {L : List It}
theorem SegI.stay {F : List Nat} (h : SegI w g pre L post) (hs : Stay F w w') (hF : g ∉ F) : SegI w' g pre L post := Blk.stay h hs hF
theorem SegI.free (h : SegI w g pre L post) (k : Nat) : w.frozen? ⟨g, k, none⟩ = false := Blk.free h k
theorem SegI.lt (h : SegI w g pre L post) : g < w.heap.size := Blk.lt h
theorem SegI.cell (h : SegI w g pre L post) {i : Nat} {x : It} (hi : L[i]? = some x) :
    w.cell? ⟨g, pre.length + i * 4, none⟩ = some (.int .i32 x.r) ∧ w.cell? ⟨g, pre.length + i * 4 + 1, none⟩ = some (.int .u8 x.b.toNat) ∧ w.cell? ⟨g, pre.length + i * 4 + 2, none⟩ = some (.bool x.bad) ∧ w.cell? ⟨g, pre.length + i * 4 + 3, none⟩ = some (.int .u8 (keyI x)) := by
  have hl := (List.getElem?_eq_some_iff.1 hi).1
  have k : ∀ q v, q < L.length * 4 → (itC L)[q]? = some v → w.cell? ⟨g, pre.length + q, none⟩ = some v := fun q v hq hv => by
    rw [Blk.cell h, List.getElem?_append_right (by omega), Nat.add_sub_cancel_left, List.getElem?_append_left (by rw [itC_length]; exact hq), hv]
  obtain ⟨e0, e1, e2, e3⟩ := itC_at L i x hi
  exact ⟨k _ _ (by omega) e0, by rw [Nat.add_assoc]; exact k _ _ (by omega) e1, by rw [Nat.add_assoc]; exact k _ _ (by omega) e2, by rw [Nat.add_assoc]; exact k _ _ (by omega) e3⟩
theorem SegI.put (h : SegI w g pre L post) {i : Nat} (hi : i < L.length) (x : It) : SegI (putW w g (pre.length + i * 4) x) g pre (L.set i x) post := by
  have h4 := (((Blk.set h (pre.length + i * 4) (.int .i32 x.r)).set (pre.length + i * 4 + 1) (.int .u8 x.b.toNat)).set (pre.length + i * 4 + 2) (.bool x.bad)).set (pre.length + i * 4 + 3) (.int .u8 (keyI x))
  have e : putI (pre ++ (itC L ++ post)) (pre.length + i * 4) x = pre ++ (itC (L.set i x) ++ post) := by
    rw [putI_app _ _ _ _ _ (by rw [itC_length]; omega), itC_put L i x hi]
  show Blk _ _ _ _
  rw [← e]
  exact h4
theorem Stay.putW {F : List Nat} {a : World} (h : Stay F a w) (p : Nat) (hg : g ∈ F) (x : It) : Stay F a (putW w g p x) := (((h.set' (.inl hg)).set' (.inl hg)).set' (.inl hg)).set' (.inl hg)
theorem SegI.swap (h : SegI w g pre L post) {i j : Nat} {x y : It} (hi : L[i]? = some x) (hj : L[j]? = some y) : SegI (putW (putW w g (pre.length + i * 4) y) g (pre.length + j * 4) x) g pre (swap2 L i j) post := by
  rw [swap2_eq hi hj]
  exact (h.put (List.getElem?_eq_some_iff.1 hi).1 y).put (by rw [List.length_set]; exact (List.getElem?_eq_some_iff.1 hj).1) x
theorem SegI.mid {P M R : List It} (h : SegI w g pre (P ++ (M ++ R)) post) : SegI w g (pre ++ itC P) M (itC R ++ post) := by
  have e : (pre ++ itC P) ++ (itC M ++ (itC R ++ post)) = pre ++ (itC (P ++ (M ++ R)) ++ post) := by simp [itC_app]
  show Blk _ _ _ _
  rw [e]; exact h
theorem SegI.out {P M R : List It} (h : SegI w g (pre ++ itC P) M (itC R ++ post)) : SegI w g pre (P ++ (M ++ R)) post := by
  have e : (pre ++ itC P) ++ (itC M ++ (itC R ++ post)) = pre ++ (itC (P ++ (M ++ R)) ++ post) := by simp [itC_app]
  show Blk _ _ _ _
  rw [← e]; exact h
end
end Go.Proofs.YtlphmcodajookaaDoor
/- norm: Order's comparison at items. -/
namespace Go.Proofs.YtlphmcodajookaaDoor
open Go.RowKit Go.Sort
/-- an item's value -/
def It.val (x : It) : Value := .agg #[.int .i32 x.r, .int .u8 x.b.toNat, .bool x.bad, .int .u8 (keyI x)]
theorem number_grow (r b m : Int) (bad : Bool) (w : World) : Calls Tryd.prog 116 #[.agg #[.int .i32 r, .int .u8 b, .bool bad, .int .u8 m]] w fun e w' => e = .returned (.int .u8 m) ∧ ∃ q os, w' = grow (w.drewN q) os := by
  have HS := Lib.hid (alloc_eq_grow w (.cells #[.int .i32 r, .int .u8 b, .bool bad, .int .u8 m] 67))
  go_enter Tryd.func116, Tryd.ntmps116
  go_wp2_with fail
  go_ret
  exact ⟨rfl, 0, _, HS.out⟩
set_option maxRecDepth 20000 in
set_option maxHeartbeats 4000000 in
theorem cmpI_any (x y : It) (pb : Nat) (w : World) (h : w.cell? ⟨pb, 0, none⟩ = some (.func (.func 116) #[] #[])) :
    Calls Tryd.prog 131 #[x.val, y.val, .pointer (some ⟨pb, 0, none⟩)] w fun e w' => e = .returned (.int .i64 (cmp8 (keyI x) (keyI y))) ∧ ∃ q os, w' = grow (w.drewN q) os := by
  unfold It.val
  generalize keyI x = kx
  generalize keyI y = ky
  generalize (x.b.toNat : Int) = bx
  generalize (y.b.toNat : Int) = bY
  generalize x.bad = dx
  generalize y.bad = dy
  generalize x.r = rx
  generalize y.r = ry
  have HMk := Lib.hid (fun r b m bad w => number_grow r b m bad w)
  have HC := Lib.hid (fun a b w => compare8_any a b w)
  obtain ⟨W, hW⟩ : ∃ W, W = (w.alloc (.cells #[.int .i32 rx, .int .u8 bx, .bool dx, .int .u8 kx] 67)).alloc (.cells #[.int .i32 ry, .int .u8 bY, .bool dy, .int .u8 ky] 67) := ⟨_, rfl⟩
  have hs1 : Stay [] w W := by rw [hW]; exact (Stay.alloc _ _).alloc'
  have hw3 : ∀ j u, [Value.int .i32 rx, .int .u8 bx, .bool dx, .int .u8 kx][j]? = some u → W.cell? ((⟨w.heap.size, 0, none⟩ : Addr).add j) = some u := fun j u hu => by
    rw [hW]
    have h1 := cells_new w [Value.int .i32 rx, .int .u8 bx, .bool dx, .int .u8 kx] 67 w.heap.size rfl j u hu
    rw [add_lit'] at h1 ⊢
    exact ((Stay.alloc (F := []) _ _).cell_ (World.block_lt_of_cell? _ _ h1) (by simp)).trans h1
  have hw4 : ∀ j u, [Value.int .i32 ry, .int .u8 bY, .bool dy, .int .u8 ky][j]? = some u → W.cell? ((⟨w.heap.size + 1, 0, none⟩ : Addr).add j) = some u := fun j u hu => by
    rw [hW]
    exact cells_new _ [Value.int .i32 ry, .int .u8 bY, .bool dy, .int .u8 ky] 67 (w.heap.size + 1) (by rw [size_alloc']) j u hu
  have hsz : w.heap.size + 2 ≤ W.heap.size := by rw [hW]; simp
  have hpc : W.cell? ⟨pb, 0, none⟩ = some (.func (.func 116) #[] #[]) := (hs1.cell_ (a := ⟨pb, 0, none⟩) (World.block_lt_of_cell? _ _ h) (by simp)).trans h
  have G : ∀ (a : Addr) (v : Value), W.cell? a = some v → ∀ n os, (grow (W.drewN n) os).cell? a = some v := fun a v hv n os => ((Stay.grow_ (F := []) W n os).cell_ (World.block_lt_of_cell? _ _ hv) (by simp)).trans hv
  have g0 := G _ _ hpc
  have x0 := G _ _ (hw3 0 _ rfl)
  have x1 := G _ _ (hw3 1 _ rfl)
  have x2 := G _ _ (hw3 2 _ rfl)
  have x3 := G _ _ (hw3 3 _ rfl)
  have y0 := G _ _ (hw4 0 _ rfl)
  have y1 := G _ _ (hw4 1 _ rfl)
  have y2 := G _ _ (hw4 2 _ rfl)
  have y3 := G _ _ (hw4 3 _ rfl)
  simp only [add_lit', Nat.zero_add] at x0 x1 x2 x3 y0 y1 y2 y3
  have HG := Lib.hid (show ∀ q os, ∃ q' os', grow (W.drewN q) os = grow (w.drewN q') os' from fun q os => ⟨q, (#[.cells #[.int .i32 rx, .int .u8 bx, .bool dx, .int .u8 kx] 67] ++ #[.cells #[.int .i32 ry, .int .u8 bY, .bool dy, .int .u8 ky] 67]) ++ os, by
    rw [hW, alloc_eq_grow, alloc_eq_grow, grow_grow, ← grow_grow (w.drewN q)]
    rfl⟩)
  have mixed : Tryd.prog.follows Departure.mixedOrders = true := by kernel_rfl
  have HWe := Lib.hid hW
  clear hs1 hw3 hw4 hsz hpc G h
  go_enter Tryd.func131, Tryd.ntmps131
  go_upto_region 1 with fail
  rw [← hW]
  clear hW
  go_quiet_grown (first | (go_at_call 116; exact Calls.grown_of (HMk.out _ _ _ _ _)) | (go_at_call 111; exact Calls.grown_of ((HC.out _ _ _).mono fun _ _ ⟨h1, h2⟩ => ⟨h1, 0, #[], by rw [h2, grow_empty]; rfl⟩)))
  go_wp2_with fail
  go_ret
  exact ⟨rfl, HG.out _ _⟩
end Go.Proofs.YtlphmcodajookaaDoor
/- slices' stable sort at items: swapRange: the walk. -/
namespace Go.Proofs.YtlphmcodajookaaDoor
open Go.RowKit
set_option maxRecDepth 20000 in
set_option maxHeartbeats 4000000 in
theorem swapI_any (w : World) (g o c : Nat) (pre post : List Value) (L : List It) (a b n : Nat) (fv : Value) (h : SegI w g pre L post) (ho : o = pre.length) (h1 : a + n ≤ b) (h2 : b + n ≤ L.length) (hL : L.length ≤ 2305843009213693952) :
    Calls Tryd.prog 147 #[.slice (some ⟨g, o, none⟩) L.length c, .int .i64 a, .int .i64 b, .int .i64 n, fv] w fun e w' => e = .returned (.tuple #[]) ∧ SegI w' g pre (swN a b n L) post ∧ Stay [g] w w' := by
  have HS := Lib.hid h
  have HR := Lib.hid (Stay.refl [g] w)
  have HO := Lib.hid ho
  obtain ⟨N, hN⟩ : ∃ N, N = L.length := ⟨_, rfl⟩
  have HN := Lib.hid hN
  rw [← hN] at h2 hL ⊢
  clear h ho hN
  go_enter Tryd.func147, Tryd.ntmps147
  go_wp2_with fail
  go_loopw [10] (fun iv wr => ∃ k : Nat, iv = .int .i64 k ∧ k ≤ n ∧ Hid (SegI wr g pre (swN a b k L) post) ∧ Hid (Stay [g] w wr)) (fun iv _ => n - (intOf iv).toNat)
  case atStart => exact ⟨0, rfl, by omega, HS, HR⟩
  case round =>
    clear HS HR
    obtain ⟨k, rfl, hk, HS, HR⟩ := hrel
    by_cases hkn : k < n
    · have hkn' : (k : Int) < n := by omega
      have hlen : (swN a b k L).length = N := by rw [swN_length, HN.out]
      obtain ⟨i, hi⟩ : ∃ i, i = a + k := ⟨_, rfl⟩
      obtain ⟨j, hj⟩ : ∃ j, j = b + k := ⟨_, rfl⟩
      have hiL : i < (swN a b k L).length := by omega
      have hjL : j < (swN a b k L).length := by omega
      obtain ⟨x, hx⟩ : ∃ x, (swN a b k L)[i]? = some x := ⟨_, List.getElem?_eq_getElem hiL⟩
      obtain ⟨y, hy⟩ : ∃ y, (swN a b k L)[j]? = some y := ⟨_, List.getElem?_eq_getElem hjL⟩
      have w1 : IntKind.i64.wrap ((a : Int) + k) = (i : Int) := by simp only [IntKind.wrap, IntKind.bits, IntKind.signed]; simp; omega
      have w2 : IntKind.i64.wrap ((b : Int) + k) = (j : Int) := by simp only [IntKind.wrap, IntKind.bits, IntKind.signed]; simp; omega
      have w3 : IntKind.i64.wrap ((k : Int) + 1) = (k : Int) + 1 := by simp only [IntKind.wrap, IntKind.bits, IntKind.signed]; simp; omega
      obtain ⟨px0, px1, px2, px3⟩ := HS.out.cell hx
      obtain ⟨py0, py1, py2, py3⟩ := HS.out.cell hy
      rw [← HO.out] at px0 px1 px2 px3 py0 py1 py2 py3
      have fx0 : wr.frozen? ⟨g, o + i * 4, none⟩ = false := HS.out.free _
      have fx1 : wr.frozen? ⟨g, o + i * 4 + 1, none⟩ = false := HS.out.free _
      have fx2 : wr.frozen? ⟨g, o + i * 4 + 2, none⟩ = false := HS.out.free _
      have fx3 : wr.frozen? ⟨g, o + i * 4 + 3, none⟩ = false := HS.out.free _
      have fy0 : wr.frozen? ⟨g, o + j * 4, none⟩ = false := HS.out.free _
      have fy1 : wr.frozen? ⟨g, o + j * 4 + 1, none⟩ = false := HS.out.free _
      have fy2 : wr.frozen? ⟨g, o + j * 4 + 2, none⟩ = false := HS.out.free _
      have fy3 : wr.frozen? ⟨g, o + j * 4 + 3, none⟩ = false := HS.out.free _
      have i0 : (0 : Int) ≤ i := by omega
      have j0 : (0 : Int) ≤ j := by omega
      have iN : (i : Int) < N := by omega
      have jN : (j : Int) < N := by omega
      have iN2 : decide (N ≤ i) = false := decide_eq_false (by omega)
      have jN2 : decide (N ≤ j) = false := decide_eq_false (by omega)
      have hij : i + n ≤ j + k := by omega
      have hij2 : i < j := by omega
      clear hij
      have n00 : o + i * 4 ≠ o + j * 4 := by omega
      have m00 : o + j * 4 ≠ o + i * 4 := by omega
      have n01 : o + i * 4 ≠ o + j * 4 + 1 := by omega
      have m01 : o + j * 4 + 1 ≠ o + i * 4 := by omega
      have n02 : o + i * 4 ≠ o + j * 4 + 2 := by omega
      have m02 : o + j * 4 + 2 ≠ o + i * 4 := by omega
      have n03 : o + i * 4 ≠ o + j * 4 + 3 := by omega
      have m03 : o + j * 4 + 3 ≠ o + i * 4 := by omega
      have n10 : o + i * 4 + 1 ≠ o + j * 4 := by omega
      have m10 : o + j * 4 ≠ o + i * 4 + 1 := by omega
      have n11 : o + i * 4 + 1 ≠ o + j * 4 + 1 := by omega
      have m11 : o + j * 4 + 1 ≠ o + i * 4 + 1 := by omega
      have n12 : o + i * 4 + 1 ≠ o + j * 4 + 2 := by omega
      have m12 : o + j * 4 + 2 ≠ o + i * 4 + 1 := by omega
      have n13 : o + i * 4 + 1 ≠ o + j * 4 + 3 := by omega
      have m13 : o + j * 4 + 3 ≠ o + i * 4 + 1 := by omega
      have n20 : o + i * 4 + 2 ≠ o + j * 4 := by omega
      have m20 : o + j * 4 ≠ o + i * 4 + 2 := by omega
      have n21 : o + i * 4 + 2 ≠ o + j * 4 + 1 := by omega
      have m21 : o + j * 4 + 1 ≠ o + i * 4 + 2 := by omega
      have n22 : o + i * 4 + 2 ≠ o + j * 4 + 2 := by omega
      have m22 : o + j * 4 + 2 ≠ o + i * 4 + 2 := by omega
      have n23 : o + i * 4 + 2 ≠ o + j * 4 + 3 := by omega
      have m23 : o + j * 4 + 3 ≠ o + i * 4 + 2 := by omega
      have n30 : o + i * 4 + 3 ≠ o + j * 4 := by omega
      have m30 : o + j * 4 ≠ o + i * 4 + 3 := by omega
      have n31 : o + i * 4 + 3 ≠ o + j * 4 + 1 := by omega
      have m31 : o + j * 4 + 1 ≠ o + i * 4 + 3 := by omega
      have n32 : o + i * 4 + 3 ≠ o + j * 4 + 2 := by omega
      have m32 : o + j * 4 + 2 ≠ o + i * 4 + 3 := by omega
      have n33 : o + i * 4 + 3 ≠ o + j * 4 + 3 := by omega
      have m33 : o + j * 4 + 3 ≠ o + i * 4 + 3 := by omega
      clear hij2
      have HX := Lib.hid (And.intro hx (And.intro hy (And.intro hi hj)))
      clear hlen hi hj hiL hjL hx hy h1 h2
      go_wp2_with fail
      go_region
      all_goals
        go_wp2_with fail
        go_roundw
        case rel =>
          refine ⟨k + 1, by go_num, by omega, ?_, ((HR.out.putW (o + i * 4) (by simp) y).putW (o + j * 4) (by simp) x).drew'⟩
          obtain ⟨e1, e2, e3, e4⟩ := HX.out
          have h9 := HS.out.swap e1 e2
          rw [← HO.out] at h9
          show SegI _ g pre (swap2 (swN a b k L) (a + k) (b + k)) post
          rw [← e3, ← e4]
          exact h9.stay (F := []) (Stay.drew _) (by simp)
        case measure => simp [intOf]; omega
    · obtain rfl : k = n := by omega
      have hkn' : ¬ (k : Int) < k := by omega
      clear hkn
      go_wp2_with fail
      go_end0
      exact ⟨rfl, HS.out, HR.out⟩
set_option maxRecDepth 20000 in
set_option maxHeartbeats 4000000 in
theorem rotI_any (w : World) (g o c : Nat) (pre post : List Value) (P X Y Q : List It) (N a m b : Nat) (fv : Value) (h : SegI w g pre (P ++ (X ++ (Y ++ Q))) post) (ho : o = pre.length) (hN : N = (P ++ (X ++ (Y ++ Q))).length)
    (ha : a = P.length) (hm : m = P.length + X.length) (hb : b = P.length + X.length + Y.length) (hX : 0 < X.length) (hY : 0 < Y.length) (hL : N ≤ 2305843009213693952) :
    Calls Tryd.prog 146 #[.slice (some ⟨g, o, none⟩) N c, .int .i64 a, .int .i64 m, .int .i64 b, fv] w fun e w' => e = .returned (.tuple #[]) ∧ SegI w' g pre (P ++ (Y ++ (X ++ Q))) post ∧ Stay [g] w w' := by
  obtain ⟨T, hT⟩ : ∃ T, T = P ++ (Y ++ (X ++ Q)) := ⟨_, rfl⟩
  rw [← hT]
  have HS := Lib.hid h
  have HR := Lib.hid (Stay.refl [g] w)
  have HO := Lib.hid ho
  have HT := Lib.hid hT
  have HN := Lib.hid hN
  have hn2 : P.length + X.length + Y.length ≤ N := by rw [hN]; simp only [List.length_append]; omega
  have HC := Lib.hid (fun (w : World) (L : List It) (a b n : Nat) (h : SegI w g pre L post) (h1 : a + n ≤ b) (h2 : b + n ≤ L.length) (hL : L.length ≤ 2305843009213693952) => swapI_any w g o c pre post L a b n fv h ho h1 h2 hL)
  have w1 : IntKind.i64.wrap ((m : Int) - a) = (X.length : Int) := by simp only [IntKind.wrap, IntKind.bits, IntKind.signed]; simp; omega
  have w2 : IntKind.i64.wrap ((b : Int) - m) = (Y.length : Int) := by simp only [IntKind.wrap, IntKind.bits, IntKind.signed]; simp; omega
  have HM := Lib.hid (And.intro hm (And.intro hX (And.intro hY (And.intro hn2 hL))))
  clear h ho hT hN hm ha hb hX hY hL hn2
  go_enter Tryd.func146, Tryd.ntmps146
  go_wp2_with fail
  go_loopw [10, 11] (fun iv jv wr => ∃ (P' X' Y' Q' : List It) (i j : Nat), iv = .int .i64 i ∧ jv = .int .i64 j ∧ i = X'.length ∧ j = Y'.length ∧ 0 < i ∧ 0 < j ∧ i + j ≤ N ∧ Hid (P'.length + X'.length = m ∧ P'.length + X'.length + Y'.length ≤ N ∧ (P' ++ (X' ++ (Y' ++ Q'))).length = N) ∧ Hid (T = P' ++ (Y' ++ (X' ++ Q'))) ∧ Hid (SegI wr g pre (P' ++ (X' ++ (Y' ++ Q'))) post) ∧ Hid (Stay [g] w wr))
    (fun iv jv _ => (intOf iv).toNat + (intOf jv).toNat)
  case atStart => exact ⟨P, X, Y, Q, _, _, rfl, rfl, rfl, rfl, HM.out.2.1, HM.out.2.2.1, by have := HM.out; omega, ⟨HM.out.1.symm, HM.out.2.2.2.1, HN.out.symm⟩, HT, HS, HR⟩
  case round =>
    clear HS HR HT
    obtain ⟨P', X', Y', Q', i, j, rfl, rfl, hi, hj, hi0, hj0, hij, HL, HT, HS, HR⟩ := hrel
    obtain ⟨k1, k2, k3⟩ := HL.out
    have hL := HM.out.2.2.2.2
    by_cases hlt : j < i
    · obtain ⟨X1, X2, hX12, hX1⟩ : ∃ X1 X2, X' = X1 ++ X2 ∧ X1.length = j := ⟨X'.take j, X'.drop j, (List.take_append_drop _ _).symm, by rw [List.length_take]; omega⟩
      subst hX12
      have hx2 : X2.length = i - j := by rw [List.length_append] at hi; omega
      have e0 : P' ++ ((X1 ++ X2) ++ (Y' ++ Q')) = P' ++ (X1 ++ (X2 ++ (Y' ++ Q'))) := by simp
      have hsw := swN_blocks P' X1 X2 Y' Q' (by omega)
      rw [← e0] at hsw
      have HCall := Lib.hid (HC.out wr (P' ++ ((X1 ++ X2) ++ (Y' ++ Q'))) P'.length (P'.length + X1.length + X2.length) X1.length HS.out (by omega) (by rw [k3]; rw [List.length_append] at k2; omega) (by omega))
      rw [hsw, k3] at HCall
      obtain ⟨q, hq⟩ : ∃ q, q = P'.length := ⟨_, rfl⟩
      have hm : P'.length + X1.length + X2.length = m := by rw [List.length_append] at k1; omega
      rw [hm, hX1, ← hq] at HCall
      have v1 : IntKind.i64.wrap ((m : Int) - i) = (q : Int) := by simp only [IntKind.wrap, IntKind.bits, IntKind.signed]; simp; omega
      have v2 : IntKind.i64.wrap ((i : Int) - j) = ((i - j : Nat) : Int) := by simp only [IntKind.wrap, IntKind.bits, IntKind.signed]; simp; omega
      obtain ⟨d, hd⟩ : ∃ d, d = i - j := ⟨_, rfl⟩
      rw [← hd] at v2 hx2
      have hlt1 : (j : Int) < i := by omega
      have hne : ¬ i = j := by omega
      have HF := Lib.hid (show (P' ++ Y').length + X2.length = m ∧ (P' ++ Y').length + X2.length + X1.length ≤ N ∧ ((P' ++ Y') ++ (X2 ++ (X1 ++ Q'))).length = N ∧ T = (P' ++ Y') ++ (X1 ++ (X2 ++ Q')) from by
        rw [HT.out]
        simp only [List.length_append] at k2 k3 ⊢
        refine ⟨by omega, by omega, by omega, by simp⟩)
      have HD := Lib.hid (show d = X2.length ∧ j = X1.length ∧ 0 < d ∧ d + j ≤ N ∧ d + j < i + j from by omega)
      clear hsw k1 k2 k3 hL hi hj hx2 hX1 hm hq hd HL HT HS
      go_wp2_with fail
      refine HCall.out.mono ?_
      rintro e w2 ⟨rfl, hs, hr⟩
      have HS2 := Lib.hid (show SegI w2 g pre ((P' ++ Y') ++ (X2 ++ (X1 ++ Q'))) post from by
        have e : P' ++ (Y' ++ (X2 ++ (X1 ++ Q'))) = (P' ++ Y') ++ (X2 ++ (X1 ++ Q')) := by simp
        rw [← e]; exact hs)
      have HR2 := Lib.hid (HR.out.trans hr)
      clear hs hr HCall HR
      go_wp2_with fail
      go_roundw
      case rel => exact ⟨P' ++ Y', X2, X1, Q', d, j, rfl, rfl, HD.out.1, HD.out.2.1, HD.out.2.2.1, hj0, HD.out.2.2.2.1, ⟨HF.out.1, HF.out.2.1, HF.out.2.2.1⟩, HF.out.2.2.2, HS2, HR2⟩
      case measure => have := HD.out; simp [intOf]; omega
    · by_cases heq : i = j
      · subst heq
        have hsw := swN_blocks P' X' [] Y' Q' (by omega)
        simp only [List.nil_append, List.length_nil, Nat.add_zero] at hsw
        have HCall := Lib.hid (HC.out wr (P' ++ (X' ++ (Y' ++ Q'))) P'.length (P'.length + X'.length) X'.length HS.out (by omega) (by rw [k3]; omega) (by omega))
        rw [hsw, k3, ← HT.out, k1, ← hi] at HCall
        obtain ⟨q, hq⟩ : ∃ q, q = P'.length := ⟨_, rfl⟩
        rw [← hq] at HCall
        have v1 : IntKind.i64.wrap ((m : Int) - i) = (q : Int) := by simp only [IntKind.wrap, IntKind.bits, IntKind.signed]; simp; omega
        clear hsw k1 k2 k3 hL hi hj hq HL HT HS hlt
        go_wp2_with fail
        refine HCall.out.mono ?_
        rintro e w2 ⟨rfl, hs, hr⟩
        have HS2 := Lib.hid hs
        have HR2 := Lib.hid (HR.out.trans hr)
        clear hs hr HCall HR
        go_wp2_with fail
        go_end0
        exact ⟨rfl, HS2.out, HR2.out⟩
      · obtain ⟨Y1, Y2, hY12, hY2⟩ : ∃ Y1 Y2, Y' = Y1 ++ Y2 ∧ Y2.length = i := ⟨Y'.take (j - i), Y'.drop (j - i), (List.take_append_drop _ _).symm, by rw [List.length_drop]; omega⟩
        subst hY12
        have hy1 : Y1.length = j - i := by rw [List.length_append] at hj; omega
        have e0 : P' ++ (X' ++ ((Y1 ++ Y2) ++ Q')) = P' ++ (X' ++ (Y1 ++ (Y2 ++ Q'))) := by simp
        have hsw := swN_blocks P' X' Y1 Y2 Q' (by omega)
        rw [← e0] at hsw
        have HCall := Lib.hid (HC.out wr (P' ++ (X' ++ ((Y1 ++ Y2) ++ Q'))) P'.length (P'.length + X'.length + Y1.length) X'.length HS.out (by omega) (by rw [k3]; rw [List.length_append] at k2; omega) (by omega))
        rw [hsw, k3] at HCall
        obtain ⟨q, hq⟩ : ∃ q, q = P'.length := ⟨_, rfl⟩
        obtain ⟨r, hr⟩ : ∃ r, r = m + (j - i) := ⟨_, rfl⟩
        have hm : P'.length + X'.length + Y1.length = r := by omega
        rw [hm, ← hi, ← hq] at HCall
        have hjN : j ≤ N := by omega
        have hmN : m ≤ N := by omega
        have v1 : IntKind.i64.wrap ((m : Int) - i) = (q : Int) := by simp only [IntKind.wrap, IntKind.bits, IntKind.signed]; simp; omega
        have v3 : IntKind.i64.wrap ((m : Int) + j) = (m : Int) + j := by simp only [IntKind.wrap, IntKind.bits, IntKind.signed]; simp; omega
        have v4 : IntKind.i64.wrap ((m : Int) + j - i) = (r : Int) := by simp only [IntKind.wrap, IntKind.bits, IntKind.signed]; simp; omega
        have v2 : IntKind.i64.wrap ((j : Int) - i) = ((j - i : Nat) : Int) := by simp only [IntKind.wrap, IntKind.bits, IntKind.signed]; simp; omega
        obtain ⟨d, hd⟩ : ∃ d, d = j - i := ⟨_, rfl⟩
        rw [← hd] at v2 hy1
        have hlt1 : ¬ (j : Int) < i := by omega
        have HF := Lib.hid (show P'.length + Y2.length = m ∧ P'.length + Y2.length + Y1.length ≤ N ∧ (P' ++ (Y2 ++ (Y1 ++ (X' ++ Q')))).length = N ∧ T = P' ++ (Y1 ++ (Y2 ++ (X' ++ Q'))) from by
          rw [HT.out]
          simp only [List.length_append] at k2 k3 ⊢
          refine ⟨by omega, by omega, by omega, by simp⟩)
        have HD := Lib.hid (show i = Y2.length ∧ d = Y1.length ∧ 0 < d ∧ i + d ≤ N ∧ i + d < i + j from by omega)
        clear hsw k1 k2 k3 hL hi hj hy1 hY2 hm hq hd hr hjN hmN HL HT HS hlt
        go_wp2_with fail
        refine HCall.out.mono ?_
        rintro e w2 ⟨rfl, hs, hr⟩
        have HS2 := Lib.hid hs
        have HR2 := Lib.hid (HR.out.trans hr)
        clear hs hr HCall HR
        go_wp2_with fail
        go_roundw
        case rel => exact ⟨P', Y2, Y1, X' ++ Q', i, d, rfl, rfl, HD.out.1, HD.out.2.1, hi0, HD.out.2.2.1, HD.out.2.2.2.1, ⟨HF.out.1, HF.out.2.1, HF.out.2.2.1⟩, HF.out.2.2.2, HS2, HR2⟩
        case measure => have := HD.out; simp [intOf]; omega
end Go.Proofs.YtlphmcodajookaaDoor
/- norm: plain: what one item does to what is together, as the program keeps it. -/
namespace Go.Proofs.YtlphmcodajookaaDoor
def stI (T : TS) : Int := match T.st with
  | none => -1
  | some _ => T.pre.length
theorem stI_none {T : TS} (h : T.st = none) : stI T = -1 := by unfold stI; rw [h]
theorem stI_some {T : TS} {S : It} (h : T.st = some S) : stI T = T.pre.length := by unfold stI; rw [h]
theorem out_some {T : TS} {S : It} (h : T.st = some S) : T.out = T.pre ++ S :: T.mid := by unfold TS.out; rw [h]; rfl
theorem out_at {T : TS} {S : It} (h : T.st = some S) : T.out[T.pre.length]? = some S := by rw [out_some h]; simp
theorem out_len {T : TS} {S : It} (h : T.st = some S) : T.out.length = T.pre.length + 1 + T.mid.length := by rw [out_some h]; simp; omega
/-- the last item -/
theorem out_last {T : TS} {S : It} (h : T.st = some S) : (T.mid = [] ∧ T.out.length = T.pre.length + 1) ∨ ∃ y, T.mid.getLast? = some y ∧ T.out[T.out.length - 1]? = some y ∧ T.pre.length + 1 < T.out.length := by
  have hl := out_len h
  by_cases hm : T.mid = []
  · rw [hm] at hl; exact .inl ⟨hm, by simpa using hl⟩
  · obtain ⟨y, hy⟩ : ∃ y, T.mid.getLast? = some y := ⟨_, List.getLast?_eq_some_getLast hm⟩
    have hp := List.length_pos_iff.2 hm
    refine .inr ⟨y, hy, ?_, by omega⟩
    rw [List.getLast?_eq_getElem?] at hy
    rw [hl, out_some h, List.getElem?_append_right (by omega), show T.pre.length + 1 + T.mid.length - 1 - T.pre.length = (T.mid.length - 1) + 1 by omega, List.getElem?_cons_succ, hy]
theorem step_no {T : TS} {x : It} (h : ∀ S, T.st = some S → ¬ (x.bad = false ∧ S.bad = false ∧ nearT T.mid x = true ∧ pairN S.r x.r ≠ 0)) :
    (stepT T x).out = T.out ++ [x] ∧ stI (stepT T x) = if keyI x = 0 then (T.out.length : Int) else stI T := by
  unfold stepT
  cases hS : T.st with
  | none =>
    simp only
    split
    · rename_i h0
      exact ⟨by simp [TS.out, hS], by unfold stI; simp [TS.out, hS]⟩
    · rename_i h0
      exact ⟨by simp [TS.out, hS], by unfold stI; simp [hS]⟩
  | some S =>
    simp only
    rw [if_neg (h S hS)]
    split
    · rename_i h0
      exact ⟨by simp [TS.out, hS], by unfold stI; simp [TS.out, hS]⟩
    · rename_i h0
      exact ⟨by simp [TS.out, hS], by unfold stI; simp [hS]⟩
theorem step_yes {T : TS} {x S : It} (hS : T.st = some S) (h : x.bad = false ∧ S.bad = false ∧ nearT T.mid x = true ∧ pairN S.r x.r ≠ 0) :
    (stepT T x).out = T.out.set T.pre.length (chr (pairN S.r x.r)) ∧ stI (stepT T x) = T.pre.length := by
  unfold stepT
  rw [hS]
  simp only
  rw [if_pos h]
  exact ⟨by rw [out_some hS]; simp [TS.out], by unfold stI; simp⟩
theorem ti_take {l : List It} (h : Parted l) : ∀ k, k ≤ l.length → TI l ((l.take k).foldl stepT ⟨[], none, []⟩) (l.drop k)
  | 0, _ => TI.start h
  | k + 1, hk => by
    have ih := ti_take h k (by omega)
    obtain ⟨x, hx⟩ : ∃ x, l[k]? = some x := ⟨_, List.getElem?_eq_getElem (by omega)⟩
    have e : l.drop k = x :: l.drop (k + 1) := by
      rw [List.drop_eq_getElem_cons (by omega)]
      congr 1
      rw [List.getElem?_eq_getElem (by omega)] at hx
      exact Option.some.inj hx
    rw [List.take_add_one, hx, Option.toList_some, List.foldl_append]
    rw [e] at ih
    exact ih.step
theorem tt_succ {l : List It} {k : Nat} {x : It} (hx : l[k]? = some x) : (l.take (k + 1)).foldl stepT ⟨[], none, []⟩ = stepT ((l.take k).foldl stepT ⟨[], none, []⟩) x := by
  rw [List.take_add_one, hx, Option.toList_some, List.foldl_append]; rfl
theorem step_len (T : TS) (x : It) : (stepT T x).out.length ≤ T.out.length + 1 := by
  by_cases h : ∃ S, T.st = some S ∧ (x.bad = false ∧ S.bad = false ∧ nearT T.mid x = true ∧ pairN S.r x.r ≠ 0)
  · obtain ⟨S, hS, h⟩ := h
    rw [(step_yes hS h).1, List.length_set]; omega
  · rw [(step_no fun S hS hh => h ⟨S, hS, hh⟩).1]; simp
theorem tt_len (l : List It) : ∀ k, k ≤ l.length → ((l.take k).foldl stepT ⟨[], none, []⟩).out.length ≤ k
  | 0, _ => by simp [TS.out]
  | k + 1, hk => by
    have ih := tt_len l k (by omega)
    obtain ⟨x, hx⟩ : ∃ x, l[k]? = some x := ⟨_, List.getElem?_eq_getElem (by omega)⟩
    rw [tt_succ hx]
    have := step_len ((l.take k).foldl stepT ⟨[], none, []⟩) x
    omega
/-- a character's number is turned -/
theorem itC_turn : ∀ (L : List It) (i : Nat) (x : It) (p : Int), L[i]? = some x → x.bad = false → x.b = 0 → keyI x = 0 → markN p = 0 → (itC L).set (i * 4) (.int .i32 p) = itC (L.set i (chr p))
  | [], _, _, _, h, _, _, _, _ => by simp at h
  | y :: l, 0, x, p, h, h1, h2, h3, h4 => by
    obtain rfl : y = x := by simpa using h
    rw [List.set_cons_zero, itC_cons, itC_cons, keyI_chr, h4, h3, h1, h2]; rfl
  | y :: l, i + 1, x, p, h, h1, h2, h3, h4 => by
    have ih := itC_turn l i x p (by simpa using h) h1 h2 h3 h4
    rw [itC_cons, List.set_cons_succ, itC_cons, ← ih, show (i + 1) * 4 = i * 4 + 4 by omega]
    rfl
end Go.Proofs.YtlphmcodajookaaDoor
