/- the law's own helpers: works. -/
import Derived.Test.YtlomcnmijfiihaaSame
namespace Go.Proofs.Ytlomcnmijfiihaa
open Go.RowKit
theorem sl_new (w : World) (zs : List Int) (t : TypeId) : Sl (w.alloc (.cells (i8s zs).toArray t)) (w.heap.size + 1) (some ⟨w.heap.size, 0, none⟩) (i8s zs) := by
  intro j u hj
  refine ⟨_, rfl, by simp, ?_⟩
  rw [add_lit', Nat.zero_add, cell_of_row (w.alloc (.cells (i8s zs).toArray t)) w.heap.size j (i8s zs).toArray t (0, 0) (heap_alloc_new w _)]
  simpa using hj
theorem own_sl {w : World} {B n c : Nat} {A : Option Addr} {zs : List Int} (h : Own w 23 B (.slice A n c) (i8s zs)) : Sl w w.heap.size A (i8s zs) := h.sl
theorem size_alloc' (w : World) (o : Obj) : (w.alloc o).heap.size = w.heap.size + 1 := by simp
/-- a list is made, and resolved -/
theorem resolve_lit (zs out : List Int) (s : Int) (n : Nat) (w : World) (t : TypeId) (hn : n = zs.length) (hl : zs.length ≤ 100) (ho : resolveL zs s = out) :
    Calls Try.prog 11 #[.slice (some ⟨w.heap.size, 0, none⟩) n n, .int .i8 s] (w.alloc (.cells (i8s zs).toArray t)) fun e w' => ∃ A' c', e = .returned (.slice A' out.length c') ∧ Own w' 23 (w.heap.size + 1) (.slice A' out.length c') (i8s out) ∧ Below w.heap.size w w' := by
  subst hn
  subst ho
  refine (resolve_any zs _ _ s _ (by omega) (by rw [size_alloc']; exact sl_new w zs t)).mono ?_
  rintro e w' ⟨A', c', rfl, h1, h2⟩
  rw [size_alloc'] at h1 h2
  refine ⟨A', c', by simp, by simpa using h1, ?_⟩
  exact ((Below.refl _ _).alloc (Nat.le_refl _) _).trans (h2.mono (by omega))
theorem step_lit (k : Int) (zs out : List Int) (s : Int) (n : Nat) (w : World) (t : TypeId) (hn : n = zs.length) (hl : zs.length ≤ 100) (ho : stepL k zs s = out) :
    Calls Try.prog 17 #[.int .i64 k, .slice (some ⟨w.heap.size, 0, none⟩) n n, .int .i8 s] (w.alloc (.cells (i8s zs).toArray t)) fun e w' => ∃ A' c', e = .returned (.slice A' out.length c') ∧ Own w' 23 (w.heap.size + 1) (.slice A' out.length c') (i8s out) ∧ Below w.heap.size w w' := by
  subst hn
  subst ho
  refine (step_any k zs _ _ s _ (by omega) (by rw [size_alloc']; exact sl_new w zs t)).mono ?_
  rintro e w' ⟨A', c', rfl, h1, h2⟩
  rw [size_alloc'] at h1 h2
  refine ⟨A', c', by simp, by simpa using h1, ?_⟩
  exact ((Below.refl _ _).alloc (Nat.le_refl _) _).trans (h2.mono (by omega))
/-- a list is held against one that is made -/
theorem same_lit (zs : List Int) (A : Option Addr) (n m c : Nat) (w : World) (t : TypeId) (hn : n = zs.length) (hm : m = zs.length) (hl : zs.length ≤ 100) (h : Sl w w.heap.size A (i8s zs)) :
    Calls Try.prog 12 #[.slice A n c, .slice (some ⟨w.heap.size, 0, none⟩) m m] (w.alloc (.cells (i8s zs).toArray t)) fun e w' => e = .returned (.bool true) ∧ Below w.heap.size w w' := by
  subst hn
  subst hm
  refine (same_any zs zs A _ c _ _ (by omega) (by omega) (by rw [size_alloc']; exact (h.alloc (Nat.le_refl _) _).more (by omega)) (by rw [size_alloc']; exact sl_new w zs t)).mono ?_
  rintro e w' ⟨rfl, h1⟩
  rw [size_alloc'] at h1
  exact ⟨by simp, ((Below.refl _ _).alloc (Nat.le_refl _) _).trans (h1.mono (by omega))⟩
set_option maxHeartbeats 2000000 in
theorem works_any (w : World) : Calls Try.prog 15 #[] w fun e w' => e = .returned (.bool true) ∧ Below w.heap.size w w' := by
  go_enter Try.func15, Try.ntmps15
  go_wp2_with fail
  refine (resolve_lit [2, 8, 3] [1, 1, 6] 0 3 w 23 rfl (by decide) (by decide)).mono ?_
  rintro e w1 ⟨A1, c1, rfl, ho1, hb1⟩
  go_wp2_with fail
  refine (resolve_lit [3, 7, 3, 5] [3, 3, 3, 3] 1 4 w1 23 rfl (by decide) (by decide)).mono ?_
  rintro e w2 ⟨A2, c2, rfl, ho2, hb2⟩
  go_wp2_with fail
  refine (resolve_lit [3] [0] 0 1 w2 23 rfl (by decide) (by decide)).mono ?_
  rintro e w3 ⟨A3, c3, rfl, ho3, hb3⟩
  go_wp2_with fail
  refine (step_lit 4 [3, 7, 3] [3, 3, 3] 0 3 w3 23 rfl (by decide) (by decide)).mono ?_
  rintro e w4 ⟨A4, c4, rfl, ho4, hb4⟩
  have h1 := ((ho1.below_ hb2).below_ hb3).below_ hb4
  have h2 := (ho2.below_ hb3).below_ hb4
  have h3 := ho3.below_ hb4
  have b4 : Below w.heap.size w w4 := ((hb1.trans (hb2.mono hb1.size)).trans (hb3.mono (Nat.le_trans hb1.size hb2.size))).trans (hb4.mono (Nat.le_trans (Nat.le_trans hb1.size hb2.size) hb3.size))
  clear ho1 hb1 ho2 hb2 ho3 hb3 hb4
  go_wp2_with fail
  refine (same_lit [1, 1, 6] A1 _ 3 c1 w4 23 rfl rfl (by decide) h1.sl).mono ?_
  rintro e w5 ⟨rfl, hb5⟩
  go_wp2_with fail
  refine (same_lit [3, 3, 3, 3] A2 _ 4 c2 w5 23 rfl rfl (by decide) (h2.below_ hb5).sl).mono ?_
  rintro e w6 ⟨rfl, hb6⟩
  go_wp2_with fail
  refine (same_lit [0] A3 _ 1 c3 w6 23 rfl rfl (by decide) ((h3.below_ hb5).below_ hb6).sl).mono ?_
  rintro e w7 ⟨rfl, hb7⟩
  go_wp2_with fail
  refine (same_lit [3, 3, 3] A4 _ 3 c4 w7 23 rfl rfl (by decide) (((ho4.below_ hb5).below_ hb6).below_ hb7).sl).mono ?_
  rintro e w8 ⟨rfl, hb8⟩
  go_wp2_with fail
  go_ret
  refine ⟨rfl, ?_⟩
  have s4 := b4.size
  have s5 := hb5.size
  have s6 := hb6.size
  have s7 := hb7.size
  exact (((b4.trans (hb5.mono (by omega))).trans (hb6.mono (by omega))).trans (hb7.mono (by omega))).trans (hb8.mono (by omega))
end Go.Proofs.Ytlomcnmijfiihaa
