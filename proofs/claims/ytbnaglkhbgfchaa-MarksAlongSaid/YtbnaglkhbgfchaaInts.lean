/- words for slices of integers, over any program. -/
import Derived.Test.YtbnaglkhbgfchaaAppend2
import Derived.Deep.QuietTactic
import Derived.BigQuiet
namespace Go.Proofs.Ytbnaglkhbgfchaa
open Go.RowKit
/-- numbers as cells -/
def ints (k : IntKind) (zs : List Int) : List Value := zs.map (Value.int k)
@[simp] theorem ints_length (k : IntKind) (zs : List Int) : (ints k zs).length = zs.length := by simp [ints]
theorem ints_app (k : IntKind) (a b : List Int) : ints k (a ++ b) = ints k a ++ ints k b := by simp [ints]
theorem ints_snoc (k : IntKind) (l : List Int) (x : Int) : ints k l ++ [.int k x] = ints k (l ++ [x]) := by simp [ints]
theorem ints_one (k : IntKind) (l : List Int) : ∀ u ∈ ints k l, u.oneCell' = true := by
  intro u hu
  simp only [ints, List.mem_map] at hu
  obtain ⟨n, _, rfl⟩ := hu
  rfl
theorem one_int (k : IntKind) (x : Int) : ∀ u ∈ [Value.int k x], u.oneCell' = true := by intro u hu; simp at hu; subst hu; rfl
theorem ret_int' {k : IntKind} {a b : Int} (h : b = a) : Ending.returned (.int k a) = .returned (.int k b) := by rw [h]
theorem ret_bool' {a b : Bool} (h : b = a) : Ending.returned (.bool a) = .returned (.bool b) := by rw [h]
theorem below_drewN' {B : Nat} {a w : World} (h : Below B a w) (n : Nat) : Below B a (w.drewN n) := ⟨h.os, h.tape, h.output, h.size, h.block⟩
theorem size_alloc' (w : World) (o : Obj) : (w.alloc o).heap.size = w.heap.size + 1 := by simp
theorem getD_app1 (a c : List Int) (i : Nat) (h : i < a.length) : (a ++ c).getD i 0 = a.getD i 0 := by simp [List.getElem?_append, h]
theorem getD_app2 (a c : List Int) (i : Nat) : (a ++ c).getD (a.length + i) 0 = c.getD i 0 := by
  simp only [List.getD_eq_getElem?_getD]
  rw [List.getElem?_append_right (by omega), Nat.add_sub_cancel_left]
theorem getD_set (ys : List Int) (i j : Nat) (x : Int) (h : i < ys.length) : (ys.set i x).getD j 0 = if j = i then x else ys.getD j 0 := by
  simp only [List.getD_eq_getElem?_getD]
  by_cases e : j = i
  · subst e; simp [h]
  · rw [if_neg e, List.getElem?_set_ne (by omega)]
theorem ext_getD {a b : List Int} (hl : a.length = b.length) (h : ∀ j, j < b.length → a.getD j 0 = b.getD j 0) : a = b := by
  apply List.ext_getElem hl
  intro j h1 h2
  have := h j h2
  simpa [h1, h2] using this
theorem drop_cons (zs : List Int) (i : Nat) (h : i < zs.length) : zs.drop i = zs.getD i 0 :: zs.drop (i + 1) := by
  rw [List.drop_eq_getElem_cons h]; simp [h]
theorem take_snoc' (zs : List Int) (k : Nat) (hk : k < zs.length) : zs.take k ++ [zs.getD k 0] = zs.take (k + 1) := by
  rw [List.take_succ_eq_append_getElem hk]; simp [hk]
section
variable {w w' : World} {B B' g n c : Nat} {A : Option Addr} {e : TypeId} {k : IntKind} {zs ys : List Int} {v : Value} {xs : List Value}
theorem sl_at (h : Sl w B A (ints k zs)) {i : Nat} (hi : i < zs.length) : ∃ ad, A = some ad ∧ ad.block < B ∧ w.cell? (ad.add i) = some (.int k (zs.getD i 0)) := by
  have := h i (.int k (zs.getD i 0)) (by simp [ints, hi])
  exact this
theorem own_at (h : Own w e B (.slice (some ⟨g, 0, none⟩) n c) (ints k ys)) {i : Nat} (hi : i < ys.length) : w.cell? ⟨g, i, none⟩ = some (.int k (ys.getD i 0)) := by
  rw [h.cell i (by simpa using hi)]
  simp [ints, hi]
theorem own_put (h : Own w e B (.slice (some ⟨g, 0, none⟩) n c) (ints k ys)) (i : Nat) (x : Int) : Own (w.setCell ⟨g, i, none⟩ (.int k x)) e B (.slice (some ⟨g, 0, none⟩) n c) (ints k (ys.set i x)) := by
  have := h.stored i (.int k x)
  simpa [ints, List.map_set] using this
theorem own_is (h : Own w e B (.slice A n c) (ints k ys)) (hn : 0 < ys.length) : ∃ g, A = some ⟨g, 0, none⟩ ∧ B ≤ g ∧ g < w.heap.size := by
  obtain ⟨-, g, h1, h2, h3⟩ := h.form (by simpa using hn)
  exact ⟨g, h1, h2, h3⟩
theorem own_len (h : Own w e B (.slice A n c) (ints k ys)) : n = ys.length := by have := h.len; simpa using this
theorem Own.below_ (h : Own w e B v xs) (hb : Below w.heap.size w w') : Own w' e B v xs :=
  h.kept (row := none) (grown_of_below hb none) (by cases hv : v.ownBlock <;> simp)
theorem own_below_at (h : Own w e B v xs) (hb : Below B' w w') (hg : ∀ g, v.ownBlock = some g → g < B') : Own w' e B v xs := by
  refine ⟨h.1, ?_⟩
  rcases h.2 with hn | ⟨g, cap, cur, rfl, hb', hh, rest⟩
  · exact .inl hn
  · exact .inr ⟨g, cap, cur, rfl, hb', (hb.block g (hg g rfl)).trans hh, rest⟩
theorem Own.set_other (h : Own w e B v xs) {p : Addr} (hp : p.block < B) (u : Value) : Own (w.setCell p u) e B v xs := ownsRow_setCell_below h hp u
theorem Own.set_far (h : Own w e B v xs) {p : Addr} (hp : v.ownBlock ≠ some p.block) (u : Value) : Own (w.setCell p u) e B v xs :=
  h.kept (row := some p.block) (grown_setCell (World.grownBy.refl _ _) rfl _) (.inr hp)
theorem own_addr (h : Own w e B (.slice A n c) xs) : ∀ ad, A = some ad → ∃ g, ad = ⟨g, 0, none⟩ := by
  rintro ad rfl
  rcases h.2 with ⟨h', _⟩ | ⟨g, cap, cur, h', _⟩
  · cases h'
  · simp only [Value.slice.injEq, Option.some.injEq] at h'
    exact ⟨g, h'.1⟩
theorem sl_prefix {ys : List Value} (h : Sl w B A (xs ++ ys)) : Sl w B A xs := by
  intro j u hj
  have hjl := (List.getElem?_eq_some_iff.1 hj).1
  exact h j u (by rw [List.getElem?_append_left hjl]; exact hj)
theorem sl_take (h : Sl w B A xs) (m : Nat) : Sl w B A (xs.take m) := by
  rw [← List.take_append_drop m xs] at h
  exact sl_prefix h
theorem sl_new (w : World) (k : IntKind) (zs : List Int) (t : TypeId) : Sl (w.alloc (.cells (ints k zs).toArray t)) (w.heap.size + 1) (some ⟨w.heap.size, 0, none⟩) (ints k zs) := by
  intro j u hj
  refine ⟨_, rfl, by simp, ?_⟩
  rw [add_lit', Nat.zero_add, cell_of_row (w.alloc (.cells (ints k zs).toArray t)) w.heap.size j (ints k zs).toArray t (0, 0) (heap_alloc_new w _)]
  simpa using hj
/-- a cut 's[i:]', as the model gives its address -/
theorem sl_cut (h : Sl w B A xs) {i : Nat} (hi : i ≤ xs.length) (hc : xs.length ≤ c) : Sl w B (if c = i then A else A.map (·.add i)) (xs.drop i) := by
  intro j u hj
  have hj' : xs[i + j]? = some u := by rw [← hj, List.getElem?_drop]
  have hl := (List.getElem?_eq_some_iff.1 hj').1
  obtain ⟨ad, rfl, hb, hcell⟩ := h _ u hj'
  rw [if_neg (by omega)]
  exact ⟨ad.add i, rfl, by rw [add_block]; exact hb, by rw [add_add']; exact hcell⟩
end
theorem appended_nil {w w' : World} {v' : Value} {e : TypeId} {B : Nat} {u : Value} {xs : List Value} (h : Appended w w' (.slice none 0 0) v') (ho : Own w e B u xs) : Own w' e B u xs ∧ ∀ g, u.ownBlock = some g → v'.ownBlock ≠ some g :=
  appended_other h ho (fun g _ => by simp [Value.ownBlock])
theorem appended_nil_below {w w' : World} {v' : Value} {B : Nat} (h : Appended w w' (.slice none 0 0) v') (hB : B ≤ w.heap.size) : Below B w w' := appended_below h hB (by simp [Value.ownBlock])
theorem below_alloc_trans {w w' : World} {o : Obj} (h : Below (w.alloc o).heap.size (w.alloc o) w') : Below w.heap.size w w' :=
  ((Below.refl _ _).alloc (Nat.le_refl _) o).trans (h.mono (by simp))
end Go.Proofs.Ytbnaglkhbgfchaa
