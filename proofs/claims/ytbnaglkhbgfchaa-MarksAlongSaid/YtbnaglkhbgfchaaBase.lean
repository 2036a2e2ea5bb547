/- Own words for memory, over any program: a slice that holds given cells; a slice that the call owns; what a call may have written. -/
import Derived.WalkKit
import Derived.WalkLawsBesides
import Derived.WalkSpells
import Derived.Lib.Hide
import Derived.Deep.AppendLies
import Derived.Deep.Draws
import Derived.Deep.LoopGhost
import Derived.Maps.AppendAt
namespace Go.Proofs.Ytbnaglkhbgfchaa
open Go.RowKit

theorem add_block (a : Addr) (n : Nat) : (a.add n).block = a.block := by unfold Addr.add; split <;> rfl
theorem add_add' (a : Addr) (i j : Nat) : (a.add i).add j = a.add (i + j) := by
  unfold Addr.add
  by_cases hi : i = 0 <;> by_cases hj : j = 0 <;> simp [hi, hj, Nat.add_assoc]
theorem add_lit' (b o j : Nat) : (⟨b, o, none⟩ : Addr).add j = ⟨b, o + j, none⟩ := by
  unfold Addr.add
  by_cases hj : j = 0 <;> simp [hj]

/-- A slice at A that holds the one-cell elements xs; all of it lies below block B. -/
def Sl (w : World) (B : Nat) (A : Option Addr) (xs : List Value) : Prop :=
  ∀ j u, xs[j]? = some u → ∃ ad, A = some ad ∧ ad.block < B ∧ w.cell? (ad.add j) = some u

section
variable {w w' : World} {B B' : Nat} {A : Option Addr} {xs : List Value}
theorem Sl.nil_ (w : World) (B : Nat) (A : Option Addr) : Sl w B A [] := fun j u h => by simp at h
theorem Sl.keep (h : Sl w B A xs) (hk : ∀ p : Addr, p.block < B → w'.cell? p = w.cell? p) : Sl w' B A xs := by
  intro j u hj
  obtain ⟨ad, e, hb, hc⟩ := h j u hj
  exact ⟨ad, e, hb, (hk _ (by rw [add_block]; exact hb)).trans hc⟩
theorem Sl.below (h : Sl w B A xs) (hb : Below B w w') : Sl w' B A xs := h.keep fun _ hp => hb.cell hp
theorem Sl.more (h : Sl w B A xs) (hB : B ≤ B') : Sl w B' A xs := by
  intro j u hj
  obtain ⟨ad, e, hb, hc⟩ := h j u hj
  exact ⟨ad, e, by omega, hc⟩
theorem Sl.alloc (h : Sl w B A xs) (hB : B ≤ w.heap.size) (o : Obj) : Sl (w.alloc o) B A xs := h.keep fun p hp => World.cell?_alloc_lt w o p (by omega)
theorem Sl.setCell (h : Sl w B A xs) {p : Addr} (hB : B ≤ p.block) (u : Value) : Sl (w.setCell p u) B A xs :=
  h.keep fun q hq => World.cell?_setCell_other w p q u (fun e => by subst e; omega)
theorem Sl.grown (h : Sl w B A xs) {row : Option Nat} (hg : w.grownBy w' row) (hB : B ≤ w.heap.size) (hr : ∀ g, row = some g → B ≤ g) : Sl w' B A xs :=
  h.keep fun p hp => World.cell?_of_block (hg.block p.block (by omega) (fun e => by have := hr _ e.symm; omega))
end

/-- The call owns the slice v: its elements (of type e, one cell each) are xs; its block is B or a later one. -/
def Own (w : World) (e : TypeId) (B : Nat) (v : Value) (xs : List Value) : Prop := w.ownsRow B e 1 v xs.length xs

section
variable {w w' : World} {B : Nat} {e : TypeId} {v : Value} {xs : List Value} {g c n : Nat} {A : Option Addr}
theorem Own.kept {row : Option Nat} (h : Own w e B v xs) (hg : w.grownBy w' row) (hne : v.ownBlock = none ∨ v.ownBlock ≠ row) : Own w' e B v xs := World.ownsRow.kept h hg hne
theorem Own.alloc (h : Own w e B v xs) (o : Obj) : Own (w.alloc o) e B v xs := World.ownsRow.alloc h o
theorem Own.nil_ (w : World) (e : TypeId) (B : Nat) : Own w e B (.slice none 0 0) [] := World.ownsRow_nil w B e 1
theorem Own.form (h : Own w e B (.slice A n c) xs) (hn : 0 < xs.length) : n = xs.length ∧ ∃ g, A = some ⟨g, 0, none⟩ ∧ B ≤ g ∧ g < w.heap.size := by
  rcases h.2 with ⟨h', h0⟩ | ⟨g, cap, cur, h', hb, hg, _⟩
  · omega
  · simp only [Value.slice.injEq] at h'
    obtain ⟨rfl, rfl, rfl⟩ := h'
    exact ⟨rfl, g, rfl, hb, (Array.getElem?_eq_some_iff.1 hg).1⟩
theorem Own.len (h : Own w e B (.slice A n c) xs) : n = xs.length := by
  rcases h.2 with ⟨h', h0⟩ | ⟨g, cap, cur, h', hb, hg, _⟩
  · simp only [Value.slice.injEq] at h'; omega
  · simp only [Value.slice.injEq] at h'; omega
theorem Own.cap (h : Own w e B (.slice A n c) xs) : xs.length ≤ c ∧ c ≤ maxLen := by
  rcases h.2 with ⟨h', h0⟩ | ⟨g, cap, cur, h', hb, hg, h1, h2, _⟩
  · simp only [Value.slice.injEq] at h'; omega
  · simp only [Value.slice.injEq] at h'; omega
theorem Own.slice (h : Own w e B v xs) : ∃ A c, v = .slice A xs.length c := by
  rcases h.2 with ⟨h', h0⟩ | ⟨g, cap, cur, h', _⟩
  · exact ⟨none, 0, by rw [h', h0]⟩
  · exact ⟨_, _, h'⟩
theorem Own.cell (h : Own w e B (.slice (some ⟨g, 0, none⟩) n c) xs) (k : Nat) (hk : k < xs.length) : w.cell? ⟨g, k, none⟩ = some xs[k] := by
  obtain rfl := h.len
  have := World.ownsRow.cellAt h k (by omega)
  rw [this]; simp [hk]
theorem Own.free (h : Own w e B (.slice (some ⟨g, 0, none⟩) n c) xs) (k : Nat) : w.frozen? ⟨g, k, none⟩ = false := by
  obtain rfl := h.len
  exact World.ownsRow.frozenAt h k
theorem Own.stored (h : Own w e B (.slice (some ⟨g, 0, none⟩) n c) xs) (k : Nat) (u : Value) :
    Own (w.setCell ⟨g, k, none⟩ u) e B (.slice (some ⟨g, 0, none⟩) n c) (xs.set k u) := by
  obtain rfl := h.len
  unfold Own at h ⊢
  simpa using (World.ownsRow.stored h k u).1
theorem Own.lt (h : Own w e B v xs) : ∀ k, v.ownBlock = some k → B ≤ k ∧ k < w.heap.size := World.ownsRow.lt h
/-- What is owned can be read as a slice. -/
theorem Own.sl (h : Own w e B (.slice A n c) xs) : Sl w w.heap.size A xs := by
  intro j u hj
  have hjl : j < xs.length := (List.getElem?_eq_some_iff.1 hj).1
  obtain ⟨rfl, g, rfl, hb, hg⟩ := h.form (by omega)
  refine ⟨_, rfl, hg, ?_⟩
  rw [add_lit', Nat.zero_add, h.cell j hjl, ← hj]; simp [hjl]
end

section
variable {a b w : World} {row : Option Nat} {g : Nat}
theorem grown_trans' {c : World} (h : a.grownBy b row) (k : b.grownBy c row) : a.grownBy c row :=
  ⟨k.os.trans h.os, k.tape.trans h.tape, k.output.trans h.output, Nat.le_trans h.size k.size,
    fun i hi hne => (k.block i (Nat.lt_of_lt_of_le hi h.size) hne).trans (h.block i hi hne)⟩
theorem grown_setCell (h : a.grownBy w (some g)) {p : Addr} (hp : p.block = g) (u : Value) : a.grownBy (w.setCell p u) (some g) :=
  grown_trans' h ⟨rfl, rfl, rfl, by simp [World.setCell], fun i _ hne => Below.heap_setCell w p u i (by rintro rfl; exact hne (by rw [hp]))⟩
/-- Writing in one's own new block is nothing below. -/
theorem below_of_grown {B : Nat} (h : a.grownBy w row) (hB : B ≤ a.heap.size) (hr : ∀ k, row = some k → B ≤ k) : Below B a w :=
  (Below.refl B a).grown h hB hr
theorem grown_of_below (h : Below a.heap.size a w) (row : Option Nat) : a.grownBy w row := ⟨h.os, h.tape, h.output, h.size, fun i hi _ => h.block i hi⟩
end

/-! Lists that are written from the front to the end. -/
/-- A pass from the front: what each element becomes, and what is carried on. -/
def scan (f : Int → Int → Int × Int) : Int → List Int → List Int × Int
  | s, [] => ([], s)
  | s, z :: zs => ((f s z).1 :: (scan f (f s z).2 zs).1, (scan f (f s z).2 zs).2)
theorem scan_append (f : Int → Int → Int × Int) (a b : List Int) : ∀ s, scan f s (a ++ b) = ((scan f s a).1 ++ (scan f (scan f s a).2 b).1, (scan f (scan f s a).2 b).2) := by
  induction a with
  | nil => intro s; simp [scan]
  | cons z zs ih => intro s; simp [scan, ih]
theorem scan_length (f : Int → Int → Int × Int) (a : List Int) : ∀ s, (scan f s a).1.length = a.length := by
  induction a with
  | nil => intro s; simp [scan]
  | cons z zs ih => intro s; simp [scan, ih]
theorem scan_snoc (f : Int → Int → Int × Int) (zs : List Int) (s : Int) (k : Nat) (hk : k < zs.length) :
    scan f s (zs.take (k + 1)) = ((scan f s (zs.take k)).1 ++ [(f (scan f s (zs.take k)).2 zs[k]).1], (f (scan f s (zs.take k)).2 zs[k]).2) := by
  rw [List.take_succ_eq_append_getElem hk, scan_append]; simp [scan]
theorem set_mid (A : List Int) (zs : List Int) (k : Nat) (x : Int) (hA : A.length = k) (hk : k < zs.length) : (A ++ zs.drop k).set k x = (A ++ [x]) ++ zs.drop (k + 1) := by
  rw [List.set_append_right _ _ (by omega), hA, Nat.sub_self, List.drop_eq_getElem_cons hk]
  simp only [List.set_cons_zero, List.append_assoc, List.singleton_append]
/-- Behind k rounds of a pass in place. -/
def Mid (f : Int → Int → Int × Int) (s : Int) (zs ys : List Int) (k : Nat) (st : Int) : Prop :=
  ys = (scan f s (zs.take k)).1 ++ zs.drop k ∧ st = (scan f s (zs.take k)).2
section
variable {f : Int → Int → Int × Int} {s st st' o : Int} {zs ys : List Int} {k : Nat}
theorem Mid.start (f : Int → Int → Int × Int) (s : Int) (zs : List Int) : Mid f s zs zs 0 s := by simp [Mid, scan]
theorem Mid.len (h : Mid f s zs ys k st) (hk : k ≤ zs.length) : ys.length = zs.length := by
  rw [h.1]; simp [scan_length]; omega
theorem Mid.at_ (h : Mid f s zs ys k st) (hk : k < zs.length) : ys[k]? = some zs[k] := by
  rw [h.1, List.getElem?_append_right (by simp [scan_length]; omega)]
  simp [scan_length, hk, Nat.min_eq_left (Nat.le_of_lt hk)]
theorem Mid.store (h : Mid f s zs ys k st) (hk : k < zs.length) (hf : f st zs[k] = (o, st')) : Mid f s zs (ys.set k o) (k + 1) st' := by
  obtain ⟨rfl, rfl⟩ := h
  unfold Mid
  rw [scan_snoc f zs s k hk, hf, set_mid _ _ _ _ (by simp [scan_length]; omega) hk]
  exact ⟨rfl, rfl⟩
theorem Mid.skip (h : Mid f s zs ys k st) (hk : k < zs.length) (hf : f st zs[k] = (zs[k], st')) : Mid f s zs ys (k + 1) st' := by
  have h2 := h.store hk hf
  have h3 : ys.set k zs[k] = ys := by
    have h4 := h.at_ hk
    obtain ⟨h5, h6⟩ := List.getElem?_eq_some_iff.1 h4
    rw [← h6]; simp
  rwa [h3] at h2
theorem Mid.done (h : Mid f s zs ys zs.length st) : ys = (scan f s zs).1 ∧ st = (scan f s zs).2 := by
  obtain ⟨rfl, rfl⟩ := h
  simp
end
end Go.Proofs.Ytbnaglkhbgfchaa
