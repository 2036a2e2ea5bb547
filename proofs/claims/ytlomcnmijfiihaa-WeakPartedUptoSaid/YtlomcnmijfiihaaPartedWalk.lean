/- WeakParted: the walk. -/
import Derived.Test.YtlomcnmijfiihaaWorks
import Derived.Test.YtlomcnmijfiihaaRefA
import Derived.Test.YtlomcnmijfiihaaHelp
import Derived.Test.YtlomcnmijfiihaaAppend2
import Derived.Test.YtlomcnmijfiihaaParted
namespace Go.Proofs.Ytlomcnmijfiihaa
open Go.RowKit
def strongOf (s : Int) : Int := if s = 1 then 1 else if s = 2 then 2 else 0
theorem strongOf_is (s : Int) : strongOf s = 0 ∨ strongOf s = 1 ∨ strongOf s = 2 := by
  unfold strongOf
  by_cases h1 : s = 1
  · rw [if_pos h1]; exact .inr (.inl rfl)
  · rw [if_neg h1]
    by_cases h2 : s = 2
    · rw [if_pos h2]; exact .inr (.inr rfl)
    · rw [if_neg h2]; exact .inl rfl
theorem appended_nil {w w' : World} {v' : Value} {e : TypeId} {B : Nat} {u : Value} {xs : List Value} (h : Appended w w' (.slice none 0 0) v') (ho : Own w e B u xs) : Own w' e B u xs ∧ ∀ g, u.ownBlock = some g → v'.ownBlock ≠ some g :=
  appended_other h ho (fun g _ => by simp [Value.ownBlock])
theorem appended_nil_below {w w' : World} {v' : Value} {B : Nat} (h : Appended w w' (.slice none 0 0) v') (hB : B ≤ w.heap.size) : Below B w w' := appended_below h hB (by simp [Value.ownBlock])
set_option maxRecDepth 100000 in
set_option maxHeartbeats 8000000 in
theorem partedWalk (st : Int) (fs ss : List Int) (A A0 : Option Addr) (c c0 : Nat) (strong s more : Int) (w : World) (hst : strongOf strong = st) (hl : fs.length < 1048576) (hl0 : ss.length < 1048576) (h : Sl w w.heap.size A (i8s fs)) (h0 : Sl w w.heap.size A0 (i8s ss)) :
    Calls Try.prog 7 #[.slice A fs.length c, .slice A0 ss.length c0, .int .i8 strong, .int .i8 s, .int .i8 more] w fun e w' => e = .returned (.bool true) ∧ Below w.heap.size w w' := by
  obtain ⟨i0, hi0, hz0, hz1, hz2⟩ := info_parts info23
  have hst' : Hid (st = 0 ∨ st = 1 ∨ st = 2) := by rw [← hst]; exact strongOf_is strong
  have hcase : (strong = 1 ∧ st = 1) ∨ ((strong == 1) = false ∧ strong = 2 ∧ st = 2) ∨ ((strong != 1) = true ∧ (strong != 2) = true ∧ st = 0) := by
    rw [← hst]; unfold strongOf
    by_cases h1 : strong = 1
    · left; simp [h1]
    · by_cases h2 : strong = 2
      · right; left; simp [h2]
      · right; right; simp [h1, h2]
  clear hst
  rcases hcase with ⟨rfl, rfl⟩ | ⟨b1, rfl, rfl⟩ | ⟨b1, b2, rfl⟩
  all_goals
    go_enter Try.func7, Try.ntmps7
    go_wp2_with fail
    refine (works_any w).mono ?_
    rintro e w1 ⟨rfl, hb⟩
    have S1 := Lib.hid (show Sl w1 w1.heap.size A (i8s fs) ∧ Sl w1 w1.heap.size A0 (i8s ss) ∧ Below w.heap.size w w1 from ⟨(h.below hb).more hb.size, (h0.below hb).more hb.size, hb⟩)
    have z1 := hb.size
    clear hb h h0
    go_wp2_with (first
      | (at_builtin; refine wpList_append_sl2 _ rfl (.tmp 22) (.tmp 24) 22 rfl w1.heap.size 23 i0 _ 1 Try.underlying22 hi0 hz0 hz1 hz2 rfl (.slice none 0 0) 0 [] rfl rfl (Own.nil_ _ _ _) _ _ _ 1 [.int .i8 _] rfl rfl (sl_one _ _ _) (one_int _ _) (by unfold maxLen; omega) (by omega) (by simp) ?_; intro R1 cr1 w2 hr1 ha1; rw [Nat.zero_add] at *; have b12 := Lib.hid (((Below.refl w1.heap.size w1).alloc (Nat.le_refl _) _).trans (appended_nil_below ha1 (by simp))); have H1 := Lib.hid hr1; clear hr1 ha1; have z2 := b12.out.size)
      | (at_builtin; refine wpList_append_sl2 _ rfl (.tmp 26) (.tmp 27) 22 rfl w1.heap.size 23 i0 _ 1 Try.underlying22 hi0 hz0 hz1 hz2 rfl (.slice R1 1 cr1) 1 _ rfl rfl H1.out w1.heap.size A0 c0 ss.length (i8s ss) (by simp) rfl (S1.out.2.1.below b12.out) (ints_one _) (by unfold maxLen; omega) (by omega) z2 ?_; intro R2 cr2 w3 hr2 ha2; have b13 := Lib.hid (b12.out.trans (appended_below ha2 z2 fun g hg => (H1.out.lt g hg).1)); have H2 := Lib.hid hr2; clear hr2 ha2; have z3 := b13.out.size)
      | (at_builtin; refine wpList_append_sl2 _ rfl (.tmp 29) (.tmp 30) 22 rfl w1.heap.size 23 i0 _ 1 Try.underlying22 hi0 hz0 hz1 hz2 rfl (.slice none 0 0) 0 [] rfl rfl (Own.nil_ _ _ _) w1.heap.size A c fs.length (i8s fs) (by simp) rfl (S1.out.1.below b13.out) (ints_one _) (by unfold maxLen; omega) (by omega) z3 ?_; intro V1 cv1 w4 hv1 ha3; rw [Nat.zero_add] at *; have b14 := Lib.hid (b13.out.trans (appended_nil_below ha3 z3)); have H3 := Lib.hid hv1; have H2' := Lib.hid (appended_nil ha3 H2.out); clear hv1 ha3; have z4 := b14.out.size)
      | (at_builtin; refine wpList_append_sl2 _ rfl (.tmp 32) (.tmp 33) 22 rfl w1.heap.size 23 i0 _ 1 Try.underlying22 hi0 hz0 hz1 hz2 rfl (.slice V1 fs.length cv1) fs.length _ (by simp) rfl H3.out _ _ _ (1 + ss.length) _ (by simp; omega) rfl H2'.out.1.sl (by rw [← List.singleton_append] ; exact ints_one (_ :: ss)) (by unfold maxLen; omega) (by omega) z4 ?_; intro V2 cv2 w5 hv2 ha4; have b15 := Lib.hid (b14.out.trans (appended_below ha4 z4 fun g hg => (H3.out.lt g hg).1)); have H4 := Lib.hid hv2; have H2'' := Lib.hid (appended_other ha4 H2'.out.1 H2'.out.2); clear hv2 ha4; have z5 := b15.out.size))
    have hst2 := hst'
    clear hst'
    rw [List.nil_append] at *
    have O3 := Lib.hid (show Own w5 23 w1.heap.size (.slice R2 (1 + ss.length) cr2) (i8s (_ :: ss)) ∧ Own w5 23 w1.heap.size (.slice V2 (fs.length + (1 + ss.length)) cv2) (i8s (fs ++ _ :: ss)) from ⟨H2''.out.1, by rw [i8s_app]; exact H4.out⟩)
    have F5 := Lib.hid (show Sl w5 w5.heap.size A (i8s fs) from (S1.out.1.below b15.out).more z5)
    clear H1 H2 H3 H4 H2' H2'' b12 b13 b14 z2 z3 z4
    have C1 := Lib.hid (resolve_any fs A c s w5 (by omega) F5.out)
    go_wp2_with fail
    refine C1.out.mono ?_
    rintro e w6 ⟨Ra, ca, rfl, hoa, hb⟩
    have b16 := Lib.hid (b15.out.trans (hb.mono z5))
    have O4 := Lib.hid (show _ ∧ _ from ⟨O3.out.1.below_ hb, O3.out.2.below_ hb⟩)
    have OA := Lib.hid hoa
    have z6 := b16.out.size
    clear hb hoa C1 O3
    go_wp2_with (first
      | (at_builtin; refine wpList_append_sl2 _ rfl (.tmp 35) (.tmp 38) 22 rfl w1.heap.size 23 i0 _ 1 Try.underlying22 hi0 hz0 hz1 hz2 rfl (.slice none 0 0) 0 [] rfl rfl (Own.nil_ _ _ _) _ Ra ca fs.length _ (by simp) rfl OA.out.sl (ints_one _) (by unfold maxLen; omega) (by omega) z6 ?_; intro U1 cu1 w7 hu1 ha5; rw [Nat.zero_add, List.nil_append] at *; have b17 := Lib.hid (b16.out.trans (appended_nil_below ha5 z6)); have H5 := Lib.hid hu1; have O5 := Lib.hid (show _ ∧ _ from ⟨(appended_nil ha5 O4.out.1).1, appended_nil ha5 O4.out.2⟩); clear hu1 ha5; have z7 := b17.out.size))
    have C2 := resolve_any (_ :: ss) R2 cr2 more w7 (by simp; omega) O5.out.1.sl
    rw [show (_ :: ss).length = 1 + ss.length from by simp; omega] at C2
    have HC2 := Lib.hid C2
    clear C2
    go_wp2_with fail
    refine HC2.out.mono ?_
    rintro e w8 ⟨Rb, cb, rfl, hob, hb⟩
    have b18 := Lib.hid (b17.out.trans (hb.mono z7))
    have H6 := Lib.hid (H5.out.below_ hb)
    have O6 := Lib.hid (show _ ∧ _ from ⟨O5.out.2.1.below_ hb, O5.out.2.2⟩)
    have OB := Lib.hid hob
    have z8 := b18.out.size
    clear hb hob HC2
    go_wp2_with (first
      | (at_builtin; refine wpList_append_sl2 _ rfl (.tmp 40) (.tmp 43) 22 rfl w1.heap.size 23 i0 _ 1 Try.underlying22 hi0 hz0 hz1 hz2 rfl (.slice U1 fs.length cu1) fs.length _ (by simp) rfl H6.out _ Rb cb (1 + ss.length) _ (by simp; omega) rfl OB.out.sl (ints_one _) (by unfold maxLen; omega) (by omega) z8 ?_; intro U2 cu2 w9 hu2 ha6; have b19 := Lib.hid (b18.out.trans (appended_below ha6 z8 fun g hg => (H6.out.lt g hg).1)); have H7 := Lib.hid hu2; have O7 := Lib.hid (appended_other ha6 O6.out.1 O6.out.2); clear hu2 ha6; have z9 := b19.out.size))
    have C3 := resolve_any (fs ++ _ :: ss) V2 cv2 s w9 (by simp; omega) O7.out.1.sl
    rw [show (fs ++ _ :: ss).length = fs.length + (1 + ss.length) from by simp; omega] at C3
    have HC3 := Lib.hid C3
    clear C3
    go_wp2_with fail
    refine HC3.out.mono ?_
    rintro e w10 ⟨Rc, cc, rfl, hoc, hb⟩
    have b20 := Lib.hid (b19.out.trans (hb.mono z9))
    have H8 := H7.out.below_ hb
    rw [← i8s_app] at H8
    first
      | rw [← resolveL_parted fs ss 1 s more (by decide)] at H8
      | rw [← resolveL_parted fs ss 2 s more (by decide)] at H8
      | rw [← resolveL_parted fs ss 0 s more (by decide)] at H8
    have z10 := b20.out.size
    have C4 := same_any (resolveL (fs ++ _ :: ss) s) (resolveL (fs ++ _ :: ss) s) Rc U2 cc cu2 w10 (by simp; omega) (by simp; omega) hoc.sl H8.sl
    simp only [decide_true, resolveL_length] at C4
    rw [show (fs ++ _ :: ss).length = fs.length + (1 + ss.length) from by simp; omega] at C4
    have HC4 := Lib.hid C4
    clear C4 hb hoc HC3 H8
    go_wp2_with fail
    refine HC4.out.mono ?_
    rintro e w11 ⟨rfl, hb⟩
    have b21 := Lib.hid (b20.out.trans (hb.mono z10))
    clear hb
    go_wp2_with fail
    go_ret
    exact ⟨rfl, S1.out.2.2.trans (b21.out.mono z1)⟩
end Go.Proofs.Ytlomcnmijfiihaa
