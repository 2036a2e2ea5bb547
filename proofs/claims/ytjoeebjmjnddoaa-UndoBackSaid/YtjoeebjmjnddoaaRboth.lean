/- package rope: both. -/
import Derived.Test.YtjoeebjmjnddoaaRnode
namespace Go.Proofs.Ytjoeebjmjnddoaa
open Go.RowKit
/-- a tree of a text, handed back -/
def Made (w : World) (tx : List UInt8) (e : Ending) (w' : World) : Prop := ∃ v t, e = .returned v ∧ Node w' v t ∧ t.text = tx ∧ Below w.heap.size w w'
theorem str_app (a b : List UInt8) : str a ++ str b = str (a ++ b) := by
  unfold str
  apply ByteArray.ext
  simp [ByteArray.data_append]
set_option maxRecDepth 20000 in
set_option maxHeartbeats 4000000 in
theorem both_first (va vb : Value) (a b : Rp) (w : World) (ha : Node w va a) (hb : Node w vb b) (h0 : a.len = 0) : Calls Try.prog 53 #[va, vb] w (Made w (a.text ++ b.text)) := by
  obtain ⟨T, p, fb, ff, D⟩ := node_dyn ha
  have HD := Lib.hid D
  have hmb := D.mb
  have hcb := D.cb
  have hv := D.val
  subst hv
  have HB := Lib.hid (D.bytes w ha)
  have HN := Lib.hid hb
  have ht : a.text = [] := List.eq_nil_of_length_eq_zero h0
  have HM := Lib.hid (show ∀ w', Stay [] w w' → Made w (a.text ++ b.text) (.returned vb) w' from fun w' hs => ⟨vb, b, rfl, hb.stay hs (NoPair.nil w), by rw [ht]; rfl, hs.toBelow (Nat.le_refl _) (by simp)⟩)
  rw [h0] at HB
  clear D ha hb h0 ht
  go_enter Try.func53, Try.ntmps53
  go_wp2_with fail
  refine HB.out.mono ?_
  rintro e w' ⟨rfl, hs⟩
  have HS := Lib.hid hs
  clear hs
  go_wp2_with fail
  go_ret
  exact HM.out _ HS.out
set_option maxRecDepth 20000 in
set_option maxHeartbeats 4000000 in
theorem both_second (va vb : Value) (a b : Rp) (w : World) (ha : Node w va a) (hb : Node w vb b) (h0 : ¬ a.len = 0) (h1 : b.len = 0) (hl : a.len ≤ 4398046511104) : Calls Try.prog 53 #[va, vb] w (Made w (a.text ++ b.text)) := by
  obtain ⟨T, p, fb, ff, D⟩ := node_dyn ha
  obtain ⟨T2, p2, fb2, ff2, D2⟩ := node_dyn hb
  have hmb := D.mb
  have hcb := D.cb
  have hv := D.val
  have hmb2 := D2.mb
  have hcb2 := D2.cb
  have hv2 := D2.val
  subst hv
  subst hv2
  have HB := Lib.hid (D.bytes w ha)
  have HB2 := Lib.hid (fun u (hs : Stay [] w u) => D2.bytes u (hb.stay hs (NoPair.nil w)))
  have ht : b.text = [] := List.eq_nil_of_length_eq_zero h1
  have HM := Lib.hid (show ∀ w', Stay [] w w' → Made w (a.text ++ b.text) (.returned (.iface T p)) w' from fun w' hs => ⟨_, a, rfl, ha.stay hs (NoPair.nil w), by rw [ht, List.append_nil], hs.toBelow (Nat.le_refl _) (by simp)⟩)
  rw [h1] at HB2
  obtain ⟨n, hn⟩ : ∃ n, n = a.len := ⟨_, rfl⟩
  rw [← hn] at HB h0 hl
  have hn0 : ¬ (n : Int) = 0 := by omega
  clear D D2 ha hb h0 h1 ht hn
  go_enter Try.func53, Try.ntmps53
  go_wp2_with fail
  refine HB.out.mono ?_
  rintro e w' ⟨rfl, hs⟩
  have HS := Lib.hid hs
  clear hs
  go_wp2_with fail
  refine (HB2.out w' HS.out).mono ?_
  rintro e w2 ⟨rfl, hs⟩
  have HS2 := Lib.hid (HS.out.trans hs)
  clear hs
  go_wp2_with fail
  go_ret
  exact HM.out _ HS2.out
set_option maxRecDepth 20000 in
set_option maxHeartbeats 4000000 in
theorem both_leaves (x y : List UInt8) (w : World) (h0 : ¬ x.length = 0) (h1 : ¬ y.length = 0) (hl : x.length + y.length ≤ 512) : Calls Try.prog 53 #[leafV x, leafV y] w (Made w (x ++ y)) := by
  have hmb := meth1
  have ha1 := asrt3
  obtain ⟨st, hst⟩ : ∃ st, st = str (x ++ y) := ⟨_, rfl⟩
  have HP := Lib.hid (fun u => part_any (x ++ y) u (by rw [List.length_append]; omega))
  have HM := Lib.hid (show ∀ w', Stay [] w w' → Made w (x ++ y) (.returned (leafV (x ++ y))) w' from fun w' hs => ⟨_, .leaf (x ++ y), rfl, rfl, rfl, hs.toBelow (Nat.le_refl _) (by simp)⟩)
  rw [← hst] at HP
  have HB := Lib.hid (fun u => bytes_leaf x u)
  have HB2 := Lib.hid (fun u => bytes_leaf y u)
  have hsx := str_size x
  have hsy := str_size y
  have HE := Lib.hid (str_app x y)
  rw [← hst] at HE
  clear hst
  unfold leafV
  obtain ⟨n, hn⟩ : ∃ n, n = x.length := ⟨_, rfl⟩
  obtain ⟨m, hm⟩ : ∃ m, m = y.length := ⟨_, rfl⟩
  obtain ⟨s, hs⟩ : ∃ s, s = str x := ⟨_, rfl⟩
  obtain ⟨t, ht⟩ : ∃ t, t = str y := ⟨_, rfl⟩
  obtain ⟨q, hq⟩ : ∃ q, q = nl x := ⟨_, rfl⟩
  obtain ⟨r, hr⟩ : ∃ r, r = nl y := ⟨_, rfl⟩
  rw [← hn] at HB h0 hl hsx
  rw [← hm] at HB2 h1 hl hsy
  rw [← hs] at HB HE hsx ⊢
  rw [← ht] at HB2 HE hsy ⊢
  rw [← hq] at HB ⊢
  rw [← hr] at HB2 ⊢
  have hn0 : ¬ (n : Int) = 0 := by omega
  have hm0 : ¬ (m : Int) = 0 := by omega
  have hle : (s.size : Int) + t.size ≤ 512 := by omega
  have hsz : s.size + t.size ≤ 512 := by omega
  clear hs ht hq hr hn hm hsx hsy h0 h1 hl
  go_enter Try.func53, Try.ntmps53
  go_wp2_with fail
  refine (HB.out w).mono ?_
  rintro e w' ⟨rfl, hs⟩
  have HS := Lib.hid hs
  clear hs
  go_wp2_with fail
  refine (HB2.out w').mono ?_
  rintro e w2 ⟨rfl, hs⟩
  have HS2 := Lib.hid (HS.out.trans hs)
  clear hs HS
  go_wp2_with fail
  rw [HE.out]
  refine (HP.out _).mono ?_
  rintro e w' ⟨rfl, rfl⟩
  go_wp2_with fail
  go_ret
  exact HM.out _ (HS2.out.alloc'.alloc')
theorem made_pair {w w' : World} {va vb : Value} {a b : Rp} (ha : Node w va a) (hb : Node w vb b) (na : a.text ≠ []) (nb : b.text ≠ []) (hs : Stay [] w w') (n f d : Int) (hn : n = a.len + b.len) (hf : f = a.nls + b.nls) (hd : d = 1 + max (a.deep : Int) b.deep) (o : Nat) (ho : o = w'.heap.size) :
    Made w (a.text ++ b.text) (.returned (.iface 109 (.pointer (some ⟨o, 0, none⟩)))) (w'.alloc (.cells #[va, vb, .int .i64 n, .int .i64 f, .int .i64 d] 111)) := by
  subst ho
  have h2 : Stay [] w (w'.alloc (.cells #[va, vb, .int .i64 n, .int .i64 f, .int .i64 d] 111)) := hs.alloc'
  refine ⟨_, .pair a b, rfl, ⟨w'.heap.size, va, vb, rfl, ?_, ha.stay h2 (NoPair.nil w), hb.stay h2 (NoPair.nil w), na, nb⟩, rfl, h2.toBelow (Nat.le_refl _) (by simp)⟩
  rw [heap_alloc_new, hn, hf, hd, Rp.len_pair, Rp.nls_pair]
  have e : ((Rp.pair a b).deep : Int) = 1 + max (a.deep : Int) b.deep := by
    show ((1 + max a.deep b.deep : Nat) : Int) = _
    omega
  rw [e]
  simp
set_option maxRecDepth 20000 in
set_option maxHeartbeats 8000000 in
theorem both_pair (va vb : Value) (a b : Rp) (w : World) (ha : Node w va a) (hb : Node w vb b) (h0 : ¬ a.len = 0) (h1 : ¬ b.len = 0) (hl : a.len + b.len ≤ 4398046511104) (hno : ∀ x y, a = .leaf x → b = .leaf y → 512 < x.length + y.length) : Calls Try.prog 53 #[va, vb] w (Made w (a.text ++ b.text)) := by
  obtain ⟨T, p, fb, ff, D⟩ := node_dyn ha
  obtain ⟨T2, p2, fb2, ff2, D2⟩ := node_dyn hb
  obtain ⟨s, q, lf, hA, hAl⟩ := node_leaf ha
  obtain ⟨s2, q2, lf2, hA2, hAl2⟩ := node_leaf hb
  have hcase : lf = false ∨ (lf = true ∧ lf2 = false) ∨ (lf = true ∧ lf2 = true ∧ ¬ (s.size : Int) + s2.size ≤ 512 ∧ (s.size : Int) + s2.size ≤ 4398046511104) := by
    cases lf with
    | false => exact .inl rfl
    | true =>
      cases lf2 with
      | false => exact .inr (.inl ⟨rfl, rfl⟩)
      | true =>
        obtain ⟨x, hx, hsx, _⟩ := hAl rfl
        obtain ⟨y, hy, hsy, _⟩ := hAl2 rfl
        have h := hno x y hx hy
        subst hx
        subst hy
        simp only [Rp.len, Rp.text] at hl
        rw [hsx, hsy, str_size, str_size]
        exact .inr (.inr ⟨rfl, rfl, by omega, by omega⟩)
  have hmb := D.mb
  have hcb := D.cb
  have hmf := D.mf
  have hcf := D.cf
  have hv := D.val
  have hmb2 := D2.mb
  have hcb2 := D2.cb
  have hmf2 := D2.mf
  have hcf2 := D2.cf
  have hv2 := D2.val
  subst hv
  subst hv2
  have HB := Lib.hid (fun u (hs : Stay [] w u) => D.bytes u (ha.stay hs (NoPair.nil w)))
  have HB2 := Lib.hid (fun u (hs : Stay [] w u) => D2.bytes u (hb.stay hs (NoPair.nil w)))
  have HF := Lib.hid (fun u (hs : Stay [] w u) => D.feeds u (ha.stay hs (NoPair.nil w)))
  have HF2 := Lib.hid (fun u (hs : Stay [] w u) => D2.feeds u (hb.stay hs (NoPair.nil w)))
  have HD := Lib.hid (fun u (hs : Stay [] w u) => deep_any (ha.stay hs (NoPair.nil w)))
  have HD2 := Lib.hid (fun u (hs : Stay [] w u) => deep_any (hb.stay hs (NoPair.nil w)))
  have hda := ha.deep_le
  have hdb := hb.deep_le
  have hfa : a.nls ≤ a.len := nl_le _
  have hfb : b.nls ≤ b.len := nl_le _
  have HM := Lib.hid (fun w' hs n f d h1' h2' h3' => made_pair (w' := w') ha hb (fun e => h0 (by rw [Rp.len, e]; rfl)) (fun e => h1 (by rw [Rp.len, e]; rfl)) hs n f d h1' h2' h3')
  obtain ⟨n, hn⟩ : ∃ n, n = a.len := ⟨_, rfl⟩
  obtain ⟨m, hm⟩ : ∃ n, n = b.len := ⟨_, rfl⟩
  obtain ⟨f1, hf1⟩ : ∃ n, n = a.nls := ⟨_, rfl⟩
  obtain ⟨f2, hf2⟩ : ∃ n, n = b.nls := ⟨_, rfl⟩
  obtain ⟨d1, hd1⟩ : ∃ n, n = a.deep := ⟨_, rfl⟩
  obtain ⟨d2, hd2⟩ : ∃ n, n = b.deep := ⟨_, rfl⟩
  rw [← hn] at HB HM h0 hl hda hfa
  rw [← hm] at HB2 HM h1 hl hdb hfb
  rw [← hf1] at HF HM hfa
  rw [← hf2] at HF2 HM hfb
  rw [← hd1] at HD HM hda
  rw [← hd2] at HD2 HM hdb
  obtain ⟨tx, htx⟩ : ∃ t, t = a.text ++ b.text := ⟨_, rfl⟩
  rw [← htx] at HM ⊢
  have hn0 : ¬ (n : Int) = 0 := by omega
  have hm0 : ¬ (m : Int) = 0 := by omega
  obtain ⟨mx, hmx⟩ : ∃ mx : Int, mx = max (d1 : Int) d2 := ⟨_, rfl⟩
  have hmb1 : 0 ≤ mx ∧ mx ≤ 4398046511104 := by omega
  have HMx := Lib.hid (show ∀ (ts : Array TypeId) (t : TypeId) (w : World), (Builtin.max_ ts t #[.int .i64 d1, .int .i64 d2]).run Try.prog w = .ok (.int .i64 mx) w from by rw [hmx]; exact max_ints d1 d2)
  rw [← hmx] at HM
  have hs1 : (n : Int) + m ≤ 4398046511104 := by omega
  have hs2 : (f1 : Int) + f2 ≤ 4398046511104 := by omega
  clear D D2 ha hb hno hAl hAl2 h0 h1 hn hm hf1 hf2 hd1 hd2 htx hmx
  rcases hcase with h1 | ⟨h1, h2⟩ | ⟨h1, h2, h3, h4⟩
  all_goals
    first | subst h2 | skip
    subst h1
    go_enter Try.func53, Try.ntmps53
    go_wp2_with fail
    refine (HB.out w (Stay.refl _ _)).mono ?_
    rintro e w' ⟨rfl, hs⟩
    have HS := Lib.hid hs
    clear hs
    go_wp2_with fail
    refine (HB2.out w' HS.out).mono ?_
    rintro e w2 ⟨rfl, hs⟩
    have HS2 := Lib.hid (HS.out.trans hs)
    clear hs HS
    go_wp2_with fail
    refine (HB.out _ (HS2.out.alloc'.alloc')).mono ?_
    rintro e w3 ⟨rfl, hs⟩
    have HS3 := Lib.hid (HS2.out.alloc'.alloc'.trans hs)
    clear hs HS2
    go_wp2_with fail
    refine (HB2.out _ HS3.out).mono ?_
    rintro e w4 ⟨rfl, hs⟩
    have HS4 := Lib.hid (HS3.out.trans hs)
    clear hs HS3
    go_wp2_with fail
    refine (HF.out _ HS4.out).mono ?_
    rintro e w5 ⟨rfl, hs⟩
    have HS5 := Lib.hid (HS4.out.trans hs)
    clear hs HS4
    go_wp2_with fail
    refine (HF2.out _ HS5.out).mono ?_
    rintro e w6 ⟨rfl, hs⟩
    have HS6 := Lib.hid (HS5.out.trans hs)
    clear hs HS5
    go_wp2_with fail
    refine (HD.out _ HS6.out).mono ?_
    rintro e w7 ⟨rfl, rfl⟩
    go_wp2_with fail
    refine (HD2.out _ HS6.out).mono ?_
    rintro e w8 ⟨rfl, rfl⟩
    go_wp2_with (refine wpList_max' rfl (.tmp 62) (.tmp 64) _ rfl (.int .i64 d1) (.int .i64 d2) (.int .i64 mx) rfl rfl HMx.out ?_)
    go_ret
    exact HM.out _ HS6.out _ _ _ (by simp) (by simp) (by simp) _ rfl
theorem both_any (va vb : Value) (a b : Rp) (w : World) (ha : Node w va a) (hb : Node w vb b) (hl : a.len + b.len ≤ 4398046511104) : Calls Try.prog 53 #[va, vb] w (Made w (a.text ++ b.text)) := by
  by_cases h0 : a.len = 0
  · exact both_first va vb a b w ha hb h0
  · by_cases h1 : b.len = 0
    · exact both_second va vb a b w ha hb h0 h1 (by omega)
    · by_cases hx : ∃ x y, a = .leaf x ∧ b = .leaf y ∧ x.length + y.length ≤ 512
      · obtain ⟨x, y, rfl, rfl, hxy⟩ := hx
        cases ha
        cases hb
        exact both_leaves x y w h0 h1 hxy
      · exact both_pair va vb a b w ha hb h0 h1 hl fun x y hxa hyb => by
          rcases Nat.lt_or_ge 512 (x.length + y.length) with h | h
          · exact h
          · exact absurd ⟨x, y, hxa, hyb, h⟩ hx
end Go.Proofs.Ytjoeebjmjnddoaa
