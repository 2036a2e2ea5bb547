/- package rope: Len, Lines, Stamp, stretch, Pieces. -/
import Derived.Test.YtjoeebjmjnddoaaRwalk
namespace Go.Proofs.Ytjoeebjmjnddoaa
open Go.RowKit Go.Shelf
/-- a rope in memory, its root's value -/
def RopeV (w : World) (rb : Nat) (v : Value) (t : Rp) (st : Int) : Prop := w.heap[rb]? = some (.cells #[v, .int .u64 st] 77) ∧ Node w v t ∧ t.len ≤ 1048576
/-- a rope in memory -/
def RopeAt (w : World) (rb : Nat) (t : Rp) (st : Int) : Prop := ∃ v, RopeV w rb v t st
theorem RopeAt.lt {w : World} {rb : Nat} {t : Rp} {st : Int} (h : RopeAt w rb t st) : rb < w.heap.size := by
  obtain ⟨v, h1, _⟩ := h
  exact (Array.getElem?_eq_some_iff.1 h1).1
theorem RopeAt.stay {w w' : World} {rb : Nat} {t : Rp} {st : Int} {F : List Nat} (h : RopeAt w rb t st) (hs : Stay F w w') (hF : NoPair w F) (hr : rb ∉ F) : RopeAt w' rb t st := by
  obtain ⟨v, h1, h2, h3⟩ := h
  exact ⟨v, (hs.block rb (Array.getElem?_eq_some_iff.1 h1).1 hr).trans h1, h2.stay hs hF, h3⟩
theorem RopeAt.stay0 {w w' : World} {rb : Nat} {t : Rp} {st : Int} (h : RopeAt w rb t st) (hs : Stay [] w w') : RopeAt w' rb t st := h.stay hs (NoPair.nil w) (by simp)
theorem RopeAt.below {w w' : World} {rb : Nat} {t : Rp} {st : Int} (h : RopeAt w rb t st) (hb : Below w.heap.size w w') : RopeAt w' rb t st := h.stay0 (Stay.below hb)
theorem RopeAt.noPair {w : World} {rb : Nat} {t : Rp} {st : Int} (h : RopeAt w rb t st) : NoPair w [rb] := fun f hf cs hc => by
  obtain ⟨v, h1, _⟩ := h
  rw [List.mem_singleton] at hf
  subst hf
  rw [h1] at hc
  cases hc
set_option maxRecDepth 20000 in
set_option maxHeartbeats 4000000 in
theorem len_any (rb : Nat) (t : Rp) (st : Int) (w : World) (h : RopeAt w rb t st) : Calls Try.prog 23 #[.pointer (some ⟨rb, 0, none⟩)] w fun e w' => e = .returned (.int .i64 t.len) ∧ Stay [] w w' := by
  obtain ⟨v, hr, hn, hl⟩ := h
  have c0 : w.cell? ⟨rb, 0, none⟩ = some v := by rw [cell_of_row w rb 0 _ 77 (0, 0) hr]; rfl
  obtain ⟨T, p, fb, ff, D⟩ := node_dyn hn
  have hmb := D.mb
  have hcb := D.cb
  have hv := D.val
  subst hv
  have HB := Lib.hid (D.bytes w hn)
  clear D hn hr hl
  go_enter Try.func23, Try.ntmps23
  go_wp2_with fail
  refine HB.out.mono ?_
  rintro e w' ⟨rfl, hs⟩
  go_wp2_with fail
  go_ret
  exact ⟨rfl, hs⟩
set_option maxRecDepth 20000 in
set_option maxHeartbeats 4000000 in
theorem lines_any (rb : Nat) (t : Rp) (st : Int) (w : World) (h : RopeAt w rb t st) : Calls Try.prog 22 #[.pointer (some ⟨rb, 0, none⟩)] w fun e w' => e = .returned (.int .i64 ((t.nls : Int) + 1)) ∧ Stay [] w w' := by
  obtain ⟨v, hr, hn, hl⟩ := h
  have c0 : w.cell? ⟨rb, 0, none⟩ = some v := by rw [cell_of_row w rb 0 _ 77 (0, 0) hr]; rfl
  obtain ⟨T, p, fb, ff, D⟩ := node_dyn hn
  have hmb := D.mf
  have hcb := D.cf
  have hv := D.val
  subst hv
  have HB := Lib.hid (D.feeds w hn)
  have hnl : (t.nls : Int) ≤ 1048576 := by have : t.nls ≤ t.len := nl_le _; omega
  clear D hn hr hl
  go_enter Try.func22, Try.ntmps22
  go_wp2_with fail
  refine HB.out.mono ?_
  rintro e w' ⟨rfl, hs⟩
  have HS := Lib.hid hs
  clear hs
  go_wp2_with fail
  go_ret
  exact ⟨by simp, HS.out⟩
set_option maxRecDepth 20000 in
set_option maxHeartbeats 4000000 in
theorem stamp_any (rb : Nat) (t : Rp) (st : Int) (w : World) (h : RopeAt w rb t st) : Calls Try.prog 20 #[.pointer (some ⟨rb, 0, none⟩)] w fun e w' => e = .returned (.int .u64 st) ∧ w = w' := by
  obtain ⟨v, hr, hn, hl⟩ := h
  have c1 : w.cell? ⟨rb, 1, none⟩ = some (.int .u64 st) := by rw [cell_of_row w rb 1 _ 77 (0, 0) hr]; rfl
  clear hn hr hl
  go_enter Try.func20, Try.ntmps20
  go_wp2_with fail
  go_ret
  exact ⟨rfl, rfl⟩
/-- a stretch brought into the text -/
def frL (at_ : Int) (len : Nat) : Nat := (min (max at_ 0) len).toNat
def toL (at_ n : Int) (len : Nat) : Nat := if n ≤ 0 then frL at_ len else if at_ < 0 then (min (max (at_ + n) (frL at_ len)) len).toNat else (frL at_ len + min n ((len : Int) - frL at_ len)).toNat
theorem frL_le (at_ : Int) (len : Nat) : frL at_ len ≤ len := by unfold frL; omega
theorem toL_bd (at_ n : Int) (len : Nat) : frL at_ len ≤ toL at_ n len ∧ toL at_ n len ≤ len := by
  have := frL_le at_ len
  unfold toL
  split
  · omega
  · split <;> omega
set_option maxRecDepth 20000 in
set_option maxHeartbeats 4000000 in
theorem stretch_any (rb : Nat) (t : Rp) (st at_ n : Int) (w : World) (h : RopeAt w rb t st) (ha : -9223372036854775808 ≤ at_ ∧ at_ ≤ 9223372036854775807) (hn : -9223372036854775808 ≤ n ∧ n ≤ 9223372036854775807) :
    Calls Try.prog 40 #[.pointer (some ⟨rb, 0, none⟩), .int .i64 at_, .int .i64 n] w fun e w' => e = .returned (.tuple #[.int .i64 (frL at_ t.len), .int .i64 (toL at_ n t.len)]) ∧ Stay [] w w' := by
  have HL := Lib.hid (len_any rb t st w h)
  have hl : t.len ≤ 1048576 := by obtain ⟨v, _, _, h3⟩ := h; exact h3
  obtain ⟨L, hL⟩ : ∃ L, L = t.len := ⟨_, rfl⟩
  rw [← hL] at HL hl ⊢
  have hL1 : (L : Int) ≤ 1048576 := by omega
  have hm1 : ∀ (ts : Array TypeId) (t : TypeId) (w : World), (Builtin.max_ ts t #[.int .i64 at_, .int .i64 0]).run Try.prog w = .ok (.int .i64 (max at_ 0)) w := fun ts t w => max_ints at_ 0 ts t w
  have hm2 : ∀ (ts : Array TypeId) (t : TypeId) (w : World), (Builtin.min_ ts t #[.int .i64 (max at_ 0), .int .i64 L]).run Try.prog w = .ok (.int .i64 (frL at_ L)) w := fun ts t w => by
    rw [min_ints]; congr 2; unfold frL; omega
  have hfl := frL_le at_ L
  have HT := Lib.hid (show toL at_ n L = if n ≤ 0 then frL at_ L else if at_ < 0 then (min (max (at_ + n) (frL at_ L)) L).toNat else (frL at_ L + min n ((L : Int) - frL at_ L)).toNat from rfl)
  obtain ⟨f, hf⟩ : ∃ f, f = frL at_ L := ⟨_, rfl⟩
  rw [← hf] at hm2 hfl HT ⊢
  obtain ⟨r, hr⟩ : ∃ r, r = toL at_ n L := ⟨_, rfl⟩
  rw [← hr] at HT ⊢
  have hf0 : (0 : Int) ≤ f := by omega
  have hfL : (f : Int) ≤ L := by omega
  clear hL h hf hr
  have hcase : n ≤ 0 ∨ (0 < n ∧ at_ < 0) ∨ (0 < n ∧ ¬ at_ < 0) := by omega
  rcases hcase with h1 | ⟨h1, h2⟩ | ⟨h1, h2⟩
  · have HR := Lib.hid (HT.out.trans (if_pos h1))
    have h1' : ¬ 0 < n := by omega
    have hm3 : ∀ (ts : Array TypeId) (t : TypeId) (w : World), (Builtin.max_ ts t #[.int .i64 f, .int .i64 f]).run Try.prog w = .ok (.int .i64 f) w := fun ts t w => by rw [max_ints]; congr 2; omega
    have hm4 : ∀ (ts : Array TypeId) (t : TypeId) (w : World), (Builtin.min_ ts t #[.int .i64 f, .int .i64 L]).run Try.prog w = .ok (.int .i64 f) w := fun ts t w => by rw [min_ints]; congr 2; omega
    go_enter Try.func40, Try.ntmps40
    go_wp2_with fail
    refine HL.out.mono ?_
    rintro e w' ⟨rfl, hs⟩
    have HS := Lib.hid hs
    clear hs
    go_wp2_with fail
    go_ret2
    exact ⟨by rw [HR.out]; rfl, HS.out⟩
  · have h3 : ¬ n ≤ 0 := by omega
    have HR := Lib.hid (HT.out.trans ((if_neg h3).trans (if_pos h2)))
    have hsum : at_ + n ≤ 9223372036854775807 := by omega
    have hm3 : ∀ (ts : Array TypeId) (t : TypeId) (w : World), (Builtin.max_ ts t #[.int .i64 f, .int .i64 (at_ + n)]).run Try.prog w = .ok (.int .i64 (max (at_ + n) f)) w := fun ts t w => by rw [max_ints]; congr 2; omega
    have hm3' : ∀ (ts : Array TypeId) (t : TypeId) (w : World), (Builtin.max_ ts t #[.int .i64 (at_ + n), .int .i64 f]).run Try.prog w = .ok (.int .i64 (max (at_ + n) f)) w := fun ts t w => by rw [max_ints]
    have hm4 : ∀ (ts : Array TypeId) (t : TypeId) (w : World), (Builtin.min_ ts t #[.int .i64 (max (at_ + n) f), .int .i64 L]).run Try.prog w = .ok (.int .i64 r) w := fun ts t w => by rw [min_ints, HR.out]; congr 2; omega
    clear h3 HR HT
    go_enter Try.func40, Try.ntmps40
    go_wp2_with fail
    refine HL.out.mono ?_
    rintro e w' ⟨rfl, hs⟩
    have HS := Lib.hid hs
    clear hs
    go_wp2_with fail
    go_ret2
    exact ⟨rfl, HS.out⟩
  · have h3 : ¬ n ≤ 0 := by omega
    have HR := Lib.hid (HT.out.trans ((if_neg h3).trans (if_neg h2)))
    obtain ⟨m, hm⟩ : ∃ m, m = min n ((L : Int) - f) := ⟨_, rfl⟩
    have hm3 : ∀ (ts : Array TypeId) (t : TypeId) (w : World), (Builtin.min_ ts t #[.int .i64 n, .int .i64 ((L : Int) - f)]).run Try.prog w = .ok (.int .i64 m) w := fun ts t w => by rw [min_ints, hm]
    have hmb : 0 ≤ m ∧ m ≤ (L : Int) - f := by omega
    obtain ⟨hmb1, hmb2⟩ := hmb
    rw [← hm] at HR
    have hm4 : ∀ (ts : Array TypeId) (t : TypeId) (w : World), (Builtin.max_ ts t #[.int .i64 ((f : Int) + m), .int .i64 f]).run Try.prog w = .ok (.int .i64 ((f : Int) + m)) w := fun ts t w => by rw [max_ints]; congr 2; omega
    have hm5 : ∀ (ts : Array TypeId) (t : TypeId) (w : World), (Builtin.min_ ts t #[.int .i64 ((f : Int) + m), .int .i64 L]).run Try.prog w = .ok (.int .i64 r) w := fun ts t w => by rw [min_ints, HR.out]; congr 2; omega
    clear h3 HR HT hm
    go_enter Try.func40, Try.ntmps40
    go_wp2_with fail
    refine HL.out.mono ?_
    rintro e w' ⟨rfl, hs⟩
    have HS := Lib.hid hs
    clear hs
    go_wp2_with fail
    go_ret2
    exact ⟨rfl, HS.out⟩
end Go.Proofs.Ytjoeebjmjnddoaa
