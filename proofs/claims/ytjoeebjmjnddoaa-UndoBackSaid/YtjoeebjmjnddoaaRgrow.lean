/- package rope: grow. -/
import Derived.Test.YtjoeebjmjnddoaaRboth
import Derived.Deep.RegionHeld3
namespace Go.Proofs.Ytjoeebjmjnddoaa
open Go.RowKit
set_option maxRecDepth 20000 in
set_option maxHeartbeats 4000000 in
theorem grow_small (l : List UInt8) (w : World) (hl : l.length ≤ 512) : Calls Try.prog 38 #[.string (str l)] w (Made w l) := by
  have HP := Lib.hid (fun u => part_any l u (by omega))
  have HM := Lib.hid (show Made w l (.returned (leafV l)) w from ⟨_, .leaf l, rfl, rfl, rfl, Below.refl _ _⟩)
  have hs := str_size l
  obtain ⟨s, hse⟩ : ∃ s, s = str l := ⟨_, rfl⟩
  rw [← hse] at HP hs ⊢
  have hsz : (s.size : Int) ≤ 512 := by omega
  clear hse hs
  go_enter Try.func38, Try.ntmps38
  go_wp2_with fail
  refine (HP.out _).mono ?_
  rintro e w' ⟨rfl, rfl⟩
  go_wp2_with fail
  go_ret
  exact HM.out
set_option maxRecDepth 20000 in
set_option maxHeartbeats 4000000 in
theorem grow_big (l : List UInt8) (w : World) (hl : 512 < l.length) (hm : l.length ≤ 4398046511104) (ih : ∀ m : List UInt8, m.length < l.length → ∀ u, Calls Try.prog 38 #[.string (str m)] u (Made u m)) : Calls Try.prog 38 #[.string (str l)] w (Made w l) := by
  obtain ⟨n, hn⟩ : ∃ n, n = l.length := ⟨_, rfl⟩
  obtain ⟨h, hh⟩ : ∃ h, h = n / 2 := ⟨_, rfl⟩
  have H1 := Lib.hid (fun u => ih (l.take h) (by rw [List.length_take]; omega) u)
  have H2 := Lib.hid (fun u => ih (l.drop h) (by rw [List.length_drop]; omega) u)
  have hx1 := str_ext l 0 h
  rw [List.drop_zero, Nat.sub_zero] at hx1
  have hx2 := str_ext' l h (str l).size (str_size l)
  rw [← hx1] at H1
  rw [← hx2] at H2
  have hs := str_size l
  have e1 : str (l.take h) = ⟨(l.take h).toArray⟩ := rfl
  have HD := Lib.hid (List.take_append_drop h l)
  have hlen1 : (l.take h).length = h := by rw [List.length_take]; omega
  have hlen2 : (l.drop h).length = n - h := by rw [List.length_drop]; omega
  have HL := Lib.hid (And.intro hlen1 hlen2)
  obtain ⟨s, hse⟩ : ∃ s, s = str l := ⟨_, rfl⟩
  rw [← hse] at hs H1 H2 ⊢
  have HSe := Lib.hid hse
  have hsz : (s.size : Int) = n := by omega
  have hdiv : (s.size : Int).tdiv 2 = h := by rw [Int.tdiv_eq_ediv_of_nonneg (by omega), hsz, hh]; omega
  have hdiv2 : (s.size : Int) / 2 = h := by rw [hsz, hh]; omega
  have hdiv3 : s.size / 2 = h := by omega
  have hwr : IntKind.i64.wrap (h : Int) = h := by simp only [IntKind.wrap, IntKind.bits, IntKind.signed]; simp; omega
  have hh0 : (0 : Int) ≤ h := by omega
  have hh1 : (h : Int) ≤ s.size := by omega
  have hh2 : h ≤ s.size := by omega
  have hbig : ¬ (s.size : Int) ≤ 512 := by omega
  have hnm : n ≤ 4398046511104 ∧ h ≤ n := by omega
  clear hx1 hx2 hse hn hh hs e1 hlen1 hlen2 hsz ih hl
  go_enter Try.func38, Try.ntmps38
  go_wp2_with fail
  go_region_held3 (fun w' => True) (trivial)
    (first
      | (go_at_call 38; ((with_reducible refine (H1.out _).mono ?_); rintro e w1 ⟨v1, t1, rfl, n1, x1, b1⟩); clear H1; have HN1 := Lib.hid n1; have HX1 := Lib.hid x1; have HB1 := Lib.hid (show Below w.heap.size w w1 from ((Stay.drew (F := []) w).trans (Stay.below b1)).toBelow (Nat.le_refl _) (by simp)); clear n1 x1 b1)
      | (go_at_call 38; ((with_reducible refine (H2.out _).mono ?_); rintro e w2 ⟨v2, t2, rfl, n2, x2, b2⟩); clear H2; have HN2 := Lib.hid n2; have HX2 := Lib.hid x2; have HN3 := Lib.hid (HN1.out.below b2); have HB2 := Lib.hid (HB1.out.trans (b2.mono HB1.out.size)); clear n2 x2 b2)
      | (go_at_call 53; refine (both_any _ _ t1 t2 _ HN3.out HN2.out (by rw [Rp.len, Rp.len, HX1.out, HX2.out, HL.out.1, HL.out.2]; omega)).mono ?_; rintro e w3 ⟨v3, t3, rfl, n3, x3, b3⟩; have HN4 := Lib.hid n3; have HX3 := Lib.hid (show t3.text = l from by rw [x3, HX1.out, HX2.out, HD.out]); have HB3 := Lib.hid (HB2.out.trans (b3.mono HB2.out.size)); clear n3 x3 b3))
  all_goals
    go_wp2_with fail
    go_ret
    exact ⟨v3, t3, rfl, HN4.out, HX3.out, HB3.out⟩
theorem grow_any (n : Nat) : ∀ (l : List UInt8) (w : World), l.length ≤ n → l.length ≤ 4398046511104 → Calls Try.prog 38 #[.string (str l)] w (Made w l) := by
  induction n with
  | zero => exact fun l w h _ => grow_small l w (by omega)
  | succ n ih =>
    intro l w h hm
    by_cases hs : l.length ≤ 512
    · exact grow_small l w hs
    · exact grow_big l w (by omega) hm fun m hmm u => ih m u (by omega) (by omega)
theorem grow_all (l : List UInt8) (w : World) (hm : l.length ≤ 4398046511104) : Calls Try.prog 38 #[.string (str l)] w (Made w l) := grow_any _ l w (Nat.le_refl _) hm
end Go.Proofs.Ytjoeebjmjnddoaa
