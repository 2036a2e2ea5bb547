/- package rope: slice of a pair. -/
import Derived.Test.YtjoeebjmjnddoaaRslice
namespace Go.Proofs.Ytjoeebjmjnddoaa
open Go.RowKit
/-- what is known of slice at smaller trees -/
def SliceOk (t : Rp) : Prop := ∀ (v : Value) (w : World) (fr to_ : Nat), Node w v t → fr ≤ to_ → to_ ≤ t.len → t.len ≤ 4398046511104 → Calls Try.prog 54 #[v, .int .i64 fr, .int .i64 to_] w (Made w (cutL t.text fr to_))
set_option maxRecDepth 20000 in
set_option maxHeartbeats 8000000 in
theorem slice_pair (v : Value) (a b : Rp) (w : World) (fr to_ : Nat) (hnode : Node w v (.pair a b)) (h1 : fr ≤ to_) (h2 : to_ ≤ (Rp.pair a b).len) (hn : ¬ (fr = 0 ∧ to_ = (Rp.pair a b).len)) (hm : (Rp.pair a b).len ≤ 4398046511104) (iha : SliceOk a) (ihb : SliceOk b) :
    Calls Try.prog 54 #[v, .int .i64 fr, .int .i64 to_] w (Made w (cutL (a.text ++ b.text) fr to_)) := by
  have hnode' := hnode
  obtain ⟨g, va, vb, rfl, hg, ha, hb, na, nb⟩ := hnode'
  have c0 : w.cell? ⟨g, 0, none⟩ = some va := by rw [cell_of_row w g 0 _ 111 (0, 0) hg]; rfl
  have c1 : w.cell? ⟨g, 1, none⟩ = some vb := by rw [cell_of_row w g 1 _ 111 (0, 0) hg]; rfl
  obtain ⟨T, p, fb, ff, D⟩ := node_dyn ha
  have hmb := D.mb
  have hcb := D.cb
  have hv := D.val
  subst hv
  have HB := Lib.hid (fun u (hs : Stay [] w u) => D.bytes u (ha.stay hs (NoPair.nil w)))
  have HP := Lib.hid (fun u (hs : Stay [] w u) => bytes_pair g _ _ _ _ _ u ((hs.block g (Array.getElem?_eq_some_iff.1 hg).1 (by simp)).trans hg))
  have HSa := Lib.hid (fun u fr to_ (hs : Stay [] w u) h1 h2 => iha _ u fr to_ (ha.stay hs (NoPair.nil w)) h1 h2 (by rw [Rp.len_pair] at hm; omega))
  have HSb := Lib.hid (fun u fr to_ (hs : Stay [] w u) h1 h2 => ihb _ u fr to_ (hb.stay hs (NoPair.nil w)) h1 h2 (by rw [Rp.len_pair] at hm; omega))
  have HKc := Lib.hid (show ∀ u, Stay [] w u → u.cell? ⟨g, 0, none⟩ = some (.iface T p) ∧ u.cell? ⟨g, 1, none⟩ = some vb from fun u hs => ⟨(hs.cell_ (a := ⟨g, 0, none⟩) (World.block_lt_of_cell? _ _ c0) (by simp)).trans c0, (hs.cell_ (a := ⟨g, 1, none⟩) (World.block_lt_of_cell? _ _ c1) (by simp)).trans c1⟩)
  have hmm1 := meth3
  have hc1 : ∀ args w, (callFunc 102 args).run Try.prog w = .ok (.enter 102 args) w := enters_of Try.func102 (by kernel_rfl) rfl
  have has1 := asrt4
  have has2 := asrt2
  obtain ⟨n, hne⟩ : ∃ n, n = (Rp.pair a b).len := ⟨_, rfl⟩
  obtain ⟨k, hk⟩ : ∃ k, k = a.len := ⟨_, rfl⟩
  obtain ⟨m, hme⟩ : ∃ m, m = b.len := ⟨_, rfl⟩
  have hnk : n = k + m := by rw [hne, hk, hme, Rp.len_pair]
  rw [← hne] at HP h2 hn hm
  rw [← hk] at HB HSa
  rw [← hme] at HSb
  have HL := Lib.hid (show a.text.length = k ∧ b.text.length = m from ⟨hk.symm, hme.symm⟩)
  have hc : (fr = 0 ∧ ¬ (n : Int) ≤ to_) ∨ ¬ (fr : Int) ≤ 0 := by omega
  have hf0 : (0 : Int) ≤ fr := by omega
  have hft : (fr : Int) ≤ to_ := by omega
  have hk0 : 0 < k := by rw [hk]; exact List.length_pos_iff.2 na
  have hn1 : (n : Int) ≤ 4398046511104 := by omega
  have hkn : (k : Int) ≤ n := by omega
  have htn : (to_ : Int) ≤ n := by omega
  have HN := Lib.hid hnk
  clear D ha hb hg hnode iha ihb na nb hne hk hme hn hm hnk
  by_cases hA : to_ ≤ k
  · have hA' : (to_ : Int) ≤ k := by omega
    have HT := Lib.hid (cutL_left a.text b.text fr to_ (by rw [HL.out.1]; exact hA))
    rw [HT.out]
    have HSa' := Lib.hid (fun u (hs : Stay [] w u) => HSa.out u fr to_ hs h1 hA)
    rcases hc with ⟨h0, h3⟩ | h3
    case' inl =>
      subst h0
      rw [Int.natCast_zero] at HSa' ⊢
      go_enter Try.func54, Try.ntmps54
      go_wp2_with fail
      refine (HP.out w (Stay.refl _ _)).mono ?_
      rintro e w' ⟨rfl, rfl⟩
    case' inr =>
      go_enter Try.func54, Try.ntmps54
    all_goals
      go_wp2_with fail
      refine (HB.out _ (Stay.refl _ _)).mono ?_
      rintro e w1 ⟨rfl, hs⟩
      have HS := Lib.hid hs
      clear hs c0 c1
      obtain ⟨c0, c1⟩ := HKc.out w1 HS.out
      go_wp2_with fail
      ((with_reducible refine (HSa'.out w1 HS.out).mono ?_); rintro e w2 ⟨v2, t2, rfl, n2, x2, b2⟩)
      have HN2 := Lib.hid n2
      have HX2 := Lib.hid x2
      have HB2 := Lib.hid (show Below w.heap.size w w2 from (HS.out.trans (Stay.below b2)).toBelow (Nat.le_refl _) (by simp))
      clear n2 x2 b2
      go_wp2_with fail
      go_ret
      exact ⟨v2, t2, rfl, HN2.out, HX2.out, HB2.out⟩
  · have hA' : ¬ (to_ : Int) ≤ k := by omega
    by_cases hBk : k ≤ fr
    · have hB' : (k : Int) ≤ fr := by omega
      have HT := Lib.hid (cutL_right a.text b.text fr to_ (by rw [HL.out.1]; exact hBk))
      rw [HT.out, HL.out.1]
      have h3 : ¬ (fr : Int) ≤ 0 := by omega
      clear hc
      have hd1 : ((fr : Int) - k) = ((fr - k : Nat) : Int) := by omega
      have hd2 : ((to_ : Int) - k) = ((to_ - k : Nat) : Int) := by omega
      have HSb' := Lib.hid (fun u (hs : Stay [] w u) => HSb.out u (fr - k) (to_ - k) hs (by omega) (by have := HN.out; omega))
      rw [← hd1, ← hd2] at HSb'
      clear hd1 hd2
      go_enter Try.func54, Try.ntmps54
      all_goals
        go_wp2_with fail
        refine (HB.out _ (Stay.refl _ _)).mono ?_
        rintro e w1 ⟨rfl, hs⟩
        have HS := Lib.hid hs
        clear hs c0 c1
        obtain ⟨c0, c1⟩ := HKc.out w1 HS.out
        go_wp2_with fail
        ((with_reducible refine (HSb'.out w1 HS.out).mono ?_); rintro e w2 ⟨v2, t2, rfl, n2, x2, b2⟩)
        have HN2 := Lib.hid n2
        have HX2 := Lib.hid x2
        have HB2 := Lib.hid (show Below w.heap.size w w2 from (HS.out.trans (Stay.below b2)).toBelow (Nat.le_refl _) (by simp))
        clear n2 x2 b2
        go_wp2_with fail
        go_ret
        exact ⟨v2, t2, rfl, HN2.out, HX2.out, HB2.out⟩
    · have hB' : ¬ (k : Int) ≤ fr := by omega
      have HT := Lib.hid (cutL_both a.text b.text fr to_ (by rw [HL.out.1]; omega) (by rw [HL.out.1]; omega))
      rw [HT.out, HL.out.1]
      have hd2 : IntKind.i64.wrap ((to_ : Int) - k) = ((to_ - k : Nat) : Int) := by simp only [IntKind.wrap, IntKind.bits, IntKind.signed]; simp; omega
      have HSb' := Lib.hid (fun u (hs : Stay [] w u) => HSb.out u 0 (to_ - k) hs (by omega) (by have := HN.out; omega))
      have HSa' := Lib.hid (fun u (hs : Stay [] w u) => HSa.out u fr k hs (by omega) (by omega))
      rw [Int.natCast_zero] at HSb'
      have HLl := Lib.hid (show (cutL a.text fr k).length + (cutL b.text 0 (to_ - k)).length ≤ 4398046511104 from by
        rw [cutL_length _ _ _ (by rw [HL.out.1]; omega), cutL_length _ _ _ (by rw [HL.out.2]; have := HN.out; omega)]
        omega)
      rcases hc with ⟨h0, h3⟩ | h3
      case' inl =>
        subst h0
        rw [Int.natCast_zero] at HSa' ⊢
        go_enter Try.func54, Try.ntmps54
        go_wp2_with fail
        refine (HP.out w (Stay.refl _ _)).mono ?_
        rintro e w' ⟨rfl, rfl⟩
      case' inr =>
        go_enter Try.func54, Try.ntmps54
      all_goals
        go_wp2_with fail
        refine (HB.out _ (Stay.refl _ _)).mono ?_
        rintro e w1 ⟨rfl, hs⟩
        have HS := Lib.hid hs
        clear hs c0 c1
        obtain ⟨c0, c1⟩ := HKc.out w1 HS.out
        have HSd := Lib.hid (HS.out.drew')
        go_wp2_with fail
        go_region_held3 (fun w' => w'.cell? ⟨g, 0, none⟩ = some (.iface T p) ∧ w'.cell? ⟨g, 1, none⟩ = some vb) (first | exact hq | exact ⟨c0, c1⟩ | go_keep)
          (first
            | (go_at_call 54; ((with_reducible refine (HSa'.out _ HSd.out).mono ?_); rintro e w2 ⟨v2, t2, rfl, n2, x2, b2⟩); clear HSa'; have HT2 := Lib.hid (HSd.out.trans (Stay.below b2)); have hq := HKc.out _ HT2.out; have HN2 := Lib.hid n2; have HX2 := Lib.hid x2; clear n2 x2 b2)
            | (go_at_call 54; ((with_reducible refine (HSb'.out _ HT2.out).mono ?_); rintro e w3 ⟨v3, t3, rfl, n3, x3, b3⟩); clear HSb'; have HT3 := Lib.hid (HT2.out.trans (Stay.below b3)); have hq := HKc.out _ HT3.out; have HN3 := Lib.hid n3; have HX3 := Lib.hid x3; have HN2' := Lib.hid (HN2.out.below b3); clear n3 x3 b3)
            | (go_at_call 53; refine (both_any _ _ t2 t3 _ HN2'.out HN3.out (by rw [Rp.len, Rp.len, HX2.out, HX3.out]; exact HLl.out)).mono ?_; rintro e w4 ⟨v4, t4, rfl, n4, x4, b4⟩; have HT4 := Lib.hid (HT3.out.trans (Stay.below b4)); have hq := HKc.out _ HT4.out; have HN4 := Lib.hid n4; have HX4 := Lib.hid (x4.trans (by rw [HX2.out, HX3.out])); clear n4 x4 b4))
        all_goals
          go_wp2_with fail
          go_ret
          exact ⟨v4, t4, rfl, HN4.out, HX4.out, HT4.out.toBelow (Nat.le_refl _) (by simp)⟩
theorem slice_any : ∀ (t : Rp), SliceOk t
  | .leaf l => fun v w fr to_ hn h1 h2 hm => by
    by_cases h : fr = 0 ∧ to_ = (Rp.leaf l).len
    · obtain ⟨rfl, rfl⟩ := h
      rw [show cutL (Rp.leaf l).text 0 (Rp.leaf l).len = (Rp.leaf l).text from cutL_whole _]
      exact slice_whole v _ w hn _ rfl hm
    · cases hn
      exact slice_leaf l w fr to_ h1 h2 h hm
  | .pair a b => fun v w fr to_ hn h1 h2 hm => by
    by_cases h : fr = 0 ∧ to_ = (Rp.pair a b).len
    · obtain ⟨rfl, rfl⟩ := h
      rw [show cutL (Rp.pair a b).text 0 (Rp.pair a b).len = (Rp.pair a b).text from cutL_whole _]
      exact slice_whole v _ w hn _ rfl hm
    · exact slice_pair v a b w fr to_ hn h1 h2 h hm (slice_any a) (slice_any b)
end Go.Proofs.Ytjoeebjmjnddoaa
