/- package rope: Text, New, Twin, Line, LineAt. -/
import Derived.Test.YtjoeebjmjnddoaaRslicer
namespace Go.Proofs.Ytjoeebjmjnddoaa
open Go.RowKit Go.Shelf
theorem frL_zero (L : Nat) : frL 0 L = 0 := by unfold frL; omega
theorem toL_zero (L : Nat) : toL 0 L L = L := by
  unfold toL
  rw [frL_zero, if_neg (show ¬ (0 : Int) < 0 by omega)]
  split <;> omega
theorem RopeAt.len {w : World} {rb : Nat} {t : Rp} {st : Int} (h : RopeAt w rb t st) : t.len ≤ 1048576 := by
  obtain ⟨v, _, _, h3⟩ := h
  exact h3
set_option maxRecDepth 20000 in
set_option maxHeartbeats 4000000 in
theorem text_any (rb : Nat) (t : Rp) (st : Int) (w : World) (h : RopeAt w rb t st) : Calls Try.prog 19 #[.pointer (some ⟨rb, 0, none⟩)] w fun e w' => e = .returned (.string (str t.text)) ∧ Below w.heap.size w w' := by
  have HL := Lib.hid (len_any rb t st w h)
  have hl := h.len
  have HS := Lib.hid (fun u (hs : Stay [] w u) => slicer_any rb t st 0 t.len u (h.stay0 hs) (by omega) (by omega))
  rw [frL_zero, toL_zero, show cutL t.text 0 t.len = t.text from cutL_whole _] at HS
  obtain ⟨L, hL⟩ : ∃ L, L = t.len := ⟨_, rfl⟩
  rw [← hL] at HL HS
  clear hL h hl
  go_enter Try.func19, Try.ntmps19
  go_wp2_with fail
  refine HL.out.mono ?_
  rintro e w1 ⟨rfl, hs⟩
  have HS1 := Lib.hid hs
  clear hs
  go_wp2_with fail
  refine (HS.out _ HS1.out).mono ?_
  rintro e w2 ⟨rfl, hb⟩
  have HB := Lib.hid ((HS1.out.trans (Stay.below hb)).toBelow (Nat.le_refl _) (by simp))
  clear hb
  go_wp2_with fail
  go_ret
  exact ⟨rfl, HB.out⟩
set_option maxRecDepth 20000 in
set_option maxHeartbeats 4000000 in
theorem new_long (l : List UInt8) (w : World) (h : 1048576 < l.length) (hm : l.length ≤ 9223372036854775807) : Calls Try.prog 12 #[.string (str l)] w fun e w' => e = .returned (.tuple #[.pointer none, .int .i64 3]) ∧ w = w' := by
  have hs := str_size l
  obtain ⟨s, hse⟩ : ∃ s, s = str l := ⟨_, rfl⟩
  rw [← hse] at hs ⊢
  have h1 : 1048576 < (s.size : Int) := by omega
  clear hse hs h
  go_enter Try.func12, Try.ntmps12
  go_wp2_with fail
  go_ret2
  exact ⟨rfl, rfl⟩
/-- a new rope -/
def Newed (w : World) (l : List UInt8) (e : Ending) (w' : World) : Prop := ∃ rb t, e = .returned (.tuple #[.pointer (some ⟨rb, 0, none⟩), .int .i64 0]) ∧ w.heap.size ≤ rb ∧ RopeAt w' rb t 0 ∧ t.text = l ∧ Below w.heap.size w w'
theorem rope_new {w : World} {v : Value} {t : Rp} {st : Int} (h : Node w v t) (hl : t.len ≤ 1048576) : RopeAt (w.alloc (.cells #[v, .int .u64 st] 77)) w.heap.size t st :=
  ⟨v, heap_alloc_new w _, h.stay (Stay.alloc (F := []) w _) (NoPair.nil w), hl⟩
set_option maxRecDepth 20000 in
set_option maxHeartbeats 4000000 in
theorem new_any (l : List UInt8) (w : World) (h : l.length ≤ 1048576) : Calls Try.prog 12 #[.string (str l)] w (Newed w l) := by
  have hs := str_size l
  have HG := Lib.hid (grow_all l w (by omega))
  obtain ⟨s, hse⟩ : ∃ s, s = str l := ⟨_, rfl⟩
  rw [← hse] at hs HG ⊢
  have h1 : (s.size : Int) ≤ 1048576 := by omega
  have HM := Lib.hid (show ∀ (w1 : World) (v : Value) (t : Rp), Node w1 v t → t.text = l → Below w.heap.size w w1 → Newed w l (.returned (.tuple #[.pointer (some ⟨w1.heap.size, 0, none⟩), .int .i64 0])) (w1.alloc (.cells #[v, .int .u64 0] 77)) from fun w1 v t hn ht hb =>
    ⟨w1.heap.size, t, rfl, hb.size, rope_new hn (by rw [Rp.len, ht]; exact h), ht, hb.alloc hb.size _⟩)
  clear hse hs h
  go_enter Try.func12, Try.ntmps12
  go_wp2_with fail
  refine HG.out.mono ?_
  rintro e w1 ⟨v, t, rfl, hn, ht, hb⟩
  obtain ⟨T, p, fb, ff, D⟩ := node_dyn hn
  have hv := D.val
  subst hv
  have HN := Lib.hid (HM.out w1 _ t hn ht hb)
  clear hn ht hb D
  go_wp2_with fail
  go_ret2
  exact HN.out
set_option maxRecDepth 20000 in
set_option maxHeartbeats 4000000 in
theorem twin_any (rb : Nat) (t : Rp) (st : Int) (w : World) (h : RopeAt w rb t st) : Calls Try.prog 16 #[.pointer (some ⟨rb, 0, none⟩)] w fun e w' => ∃ b, e = .returned (.pointer (some ⟨b, 0, none⟩)) ∧ w.heap.size ≤ b ∧ RopeAt w' b t st ∧ Below w.heap.size w w' := by
  obtain ⟨v, hr, hn, hl⟩ := h
  have c0 : w.cell? ⟨rb, 0, none⟩ = some v := by rw [cell_of_row w rb 0 _ 77 (0, 0) hr]; rfl
  have c1 : w.cell? ⟨rb, 1, none⟩ = some (.int .u64 st) := by rw [cell_of_row w rb 1 _ 77 (0, 0) hr]; rfl
  have HN := Lib.hid hn
  have HL := Lib.hid hl
  obtain ⟨T, p, fb, ff, D⟩ := node_dyn hn
  have hv := D.val
  subst hv
  clear hn hr hl D
  go_enter Try.func16, Try.ntmps16
  go_wp2_with fail
  go_region_held3 (fun w' => w'.cell? ⟨rb, 0, none⟩ = some (.iface T p) ∧ w'.cell? ⟨rb, 1, none⟩ = some (.int .u64 st)) (first | exact ⟨c0, c1⟩ | go_keep) (first | fail)
  all_goals
    go_wp2_with fail
    go_ret
    exact ⟨w.heap.size, by simp, Nat.le_refl _, rope_new (w := w.drew) (HN.out.stay (Stay.drew (F := []) w) (NoPair.nil w)) HL.out, ((Stay.drew (F := []) w).trans (Stay.alloc _ _)).toBelow (Nat.le_refl _) (by simp)⟩
end Go.Proofs.Ytjoeebjmjnddoaa
