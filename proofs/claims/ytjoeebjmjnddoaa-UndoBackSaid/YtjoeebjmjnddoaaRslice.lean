/- package rope: slice. -/
import Derived.Test.YtjoeebjmjnddoaaRgrow
namespace Go.Proofs.Ytjoeebjmjnddoaa
open Go.RowKit
def cutL (l : List UInt8) (a b : Nat) : List UInt8 := (l.drop a).take (b - a)
theorem cutL_length (l : List UInt8) (a b : Nat) (h : b ≤ l.length) : (cutL l a b).length = b - a := by
  unfold cutL
  rw [List.length_take, List.length_drop]
  omega
theorem cutL_whole (l : List UInt8) : cutL l 0 l.length = l := by
  unfold cutL
  rw [List.drop_zero, Nat.sub_zero, List.take_length]
theorem cutL_left (a b : List UInt8) (x y : Nat) (h : y ≤ a.length) : cutL (a ++ b) x y = cutL a x y := by
  unfold cutL
  by_cases hx : x ≤ y
  · rw [List.drop_append_of_le_length (by omega), List.take_append_of_le_length (by rw [List.length_drop]; omega)]
  · rw [show y - x = 0 by omega, List.take_zero, List.take_zero]
theorem cutL_right (a b : List UInt8) (x y : Nat) (h : a.length ≤ x) : cutL (a ++ b) x y = cutL b (x - a.length) (y - a.length) := by
  unfold cutL
  rw [List.drop_append, List.drop_of_length_le h, List.nil_append]
  congr 1
  omega
theorem cutL_both (a b : List UInt8) (x y : Nat) (h1 : x ≤ a.length) (h2 : a.length ≤ y) : cutL (a ++ b) x y = cutL a x a.length ++ cutL b 0 (y - a.length) := by
  unfold cutL
  rw [List.drop_append_of_le_length h1, List.take_append, List.length_drop, List.drop_zero, Nat.sub_zero]
  rw [List.take_of_length_le (by rw [List.length_drop]; omega), List.take_of_length_le (l := List.drop x a) (i := a.length - x) (by rw [List.length_drop]; omega)]
  congr 2
  omega
set_option maxRecDepth 20000 in
set_option maxHeartbeats 4000000 in
theorem slice_whole (v : Value) (t : Rp) (w : World) (hn : Node w v t) (n : Nat) (hl : n = t.len) (hm : n ≤ 4398046511104) : Calls Try.prog 54 #[v, .int .i64 0, .int .i64 n] w (Made w t.text) := by
  obtain ⟨T, p, fb, ff, D⟩ := node_dyn hn
  have hmb := D.mb
  have hcb := D.cb
  have hv := D.val
  subst hv
  have HB := Lib.hid (D.bytes w hn)
  have HM := Lib.hid (show ∀ w', Stay [] w w' → Made w t.text (.returned (.iface T p)) w' from fun w' hs => ⟨_, t, rfl, hn.stay hs (NoPair.nil w), rfl, hs.toBelow (Nat.le_refl _) (by simp)⟩)
  rw [← hl] at HB
  clear D hn hl
  go_enter Try.func54, Try.ntmps54
  go_wp2_with fail
  refine HB.out.mono ?_
  rintro e w' ⟨rfl, hs⟩
  have HS := Lib.hid hs
  clear hs
  go_wp2_with fail
  go_ret
  exact HM.out _ HS.out
set_option maxRecDepth 20000 in
set_option maxHeartbeats 4000000 in
theorem slice_leaf (l : List UInt8) (w : World) (fr to_ : Nat) (h1 : fr ≤ to_) (h2 : to_ ≤ l.length) (hn : ¬ (fr = 0 ∧ to_ = l.length)) (hm : l.length ≤ 4398046511104) : Calls Try.prog 54 #[leafV l, .int .i64 fr, .int .i64 to_] w (Made w (cutL l fr to_)) := by
  have hmb := meth1
  have ha1 := asrt3
  have HB := Lib.hid (fun u => bytes_leaf l u)
  have hs := str_size l
  have HP := Lib.hid (fun u => part_any (cutL l fr to_) u (by rw [cutL_length _ _ _ h2]; omega))
  rw [cutL, ← str_ext] at HP
  have HM := Lib.hid (show ∀ w', Stay [] w w' → Made w (cutL l fr to_) (.returned (leafV (cutL l fr to_))) w' from fun w' hs => ⟨_, .leaf _, rfl, rfl, rfl, hs.toBelow (Nat.le_refl _) (by simp)⟩)
  rw [cutL] at HM
  unfold leafV
  obtain ⟨s, hse⟩ : ∃ s, s = str l := ⟨_, rfl⟩
  rw [← hse] at HB hs HP ⊢
  obtain ⟨q, hq⟩ : ∃ q, q = nl l := ⟨_, rfl⟩
  rw [← hq] at HB ⊢
  rw [← hs] at HB h2 hn hm
  have HM1 := Lib.hid (show ∀ (ts : Array TypeId) (t : TypeId) (w : World), (Builtin.max_ ts t #[.int .i64 fr, .int .i64 0]).run Try.prog w = .ok (.int .i64 fr) w from fun ts t w => by
    have h := max_ints (P := Try.prog) fr 0 ts t w
    rw [show max (fr : Int) 0 = fr by omega] at h
    exact h)
  have HM2 := Lib.hid (show ∀ (ts : Array TypeId) (t : TypeId) (w : World), (Builtin.min_ ts t #[.int .i64 to_, .int .i64 s.size]).run Try.prog w = .ok (.int .i64 to_) w from fun ts t w => by
    have h := min_ints (P := Try.prog) to_ s.size ts t w
    rw [show min (to_ : Int) s.size = to_ by omega] at h
    exact h)
  have hc : (fr = 0 ∧ ¬ (s.size : Int) ≤ to_) ∨ ¬ (fr : Int) ≤ 0 := by omega
  have hf0 : (0 : Int) ≤ fr := by omega
  have hft : (fr : Int) ≤ to_ := by omega
  have hts : (to_ : Int) ≤ s.size := by omega
  clear hse hs hq hn
  rcases hc with ⟨h0, h3⟩ | h3
  case' inl =>
    subst h0
    go_enter Try.func54, Try.ntmps54
    go_wp2_with fail
    refine (HB.out w).mono ?_
    rintro e w' ⟨rfl, hs⟩
    have HS := Lib.hid hs
    clear hs
  case' inr =>
    have HS := Lib.hid (Stay.refl [] w)
    go_enter Try.func54, Try.ntmps54
  all_goals
    go_wp2_with (first
      | (refine wpList_max' rfl (.tmp 25) (.const (.int .i64 0)) _ rfl _ (.int .i64 0) _ rfl rfl HM1.out ?_)
      | (refine wpList_min' rfl (.tmp 27) (.tmp 30) _ rfl (.int .i64 to_) (.int .i64 s.size) (.int .i64 to_) rfl rfl HM2.out ?_))
    refine (HP.out _).mono ?_
    rintro e w2 ⟨rfl, rfl⟩
    go_wp2_with fail
    go_ret
    exact HM.out _ HS.out.alloc'
end Go.Proofs.Ytjoeebjmjnddoaa
