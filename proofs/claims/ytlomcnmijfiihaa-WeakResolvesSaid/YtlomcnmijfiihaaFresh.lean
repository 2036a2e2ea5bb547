/- the law's own helpers: fresh. -/
import Derived.Test.YtlomcnmijfiihaaHelp
namespace Go.Proofs.Ytlomcnmijfiihaa
open Go.RowKit
def rep (n : Nat) (v : Int) : List Int := List.replicate n v
@[simp] theorem rep_length (n : Nat) (v : Int) : (rep n v).length = n := by simp [rep]
theorem rep_succ (n : Nat) (v : Int) : rep n v ++ [v] = rep (n + 1) v := by simp [rep, List.replicate_succ']
theorem rep_getD (n j : Nat) (v : Int) (h : j < n) : (rep n v).getD j 0 = v := by simp [rep, h]
theorem appended_cell {w w' : World} {v v' : Value} (h : Appended w w' v v') {p : Addr} (hp : p.block < w.heap.size) (hne : v.ownBlock ≠ some p.block) : w'.cell? p = w.cell? p := by
  rcases h with ⟨_, h⟩ | ⟨g, _, _, h⟩
  · exact World.cell?_of_block (h.block p.block hp (fun e => hne e.symm))
  · exact World.cell?_of_block (h.block p.block hp (by simp))
/-- a reading that an append leaves alone -/
theorem keep_other {w w' : World} {v v' : Value} {A : Option Addr} {xs : List Value} (h : Appended w w' v v') (hs : Sl w w.heap.size A xs) (hne : ∀ ad, A = some ad → v.ownBlock ≠ some ad.block) : Sl w' w'.heap.size A xs := by
  intro j u hj
  obtain ⟨ad, e, hb, hc⟩ := hs j u hj
  exact ⟨ad, e, Nat.lt_of_lt_of_le hb (appended_size h), (appended_cell h (by rw [add_block]; exact hb) (by rw [add_block]; exact hne ad e)).trans hc⟩
/-- a reading of like elements in the very row that grows -/
theorem keep_self {w w' : World} {v v' : Value} {A : Option Addr} {n p : Nat} {B : Nat} {x : Int} (h : Appended w w' v v') (hs : Sl w w.heap.size A (i8s (rep n x))) (hA : ∀ ad, A = some ad → ∃ g, ad = ⟨g, 0, none⟩)
    (ho : Own w' 23 B v' (i8s (rep p x))) (hnp : n ≤ p) : Sl w' w'.heap.size A (i8s (rep n x)) := by
  intro j u hj
  obtain ⟨ad, e, hb, hc⟩ := hs j u hj
  refine ⟨ad, e, Nat.lt_of_lt_of_le hb (appended_size h), ?_⟩
  have hjn : j < n := by have := (List.getElem?_eq_some_iff.1 hj).1; simpa using this
  by_cases hv : v.ownBlock = some ad.block
  · rcases h with ⟨h1, _⟩ | ⟨g, h1, h2, h3⟩
    · obtain ⟨g, rfl⟩ := hA ad e
      obtain ⟨A', c', rfl⟩ := ho.slice
      obtain ⟨-, g', rfl, -⟩ := ho.form (by simp; omega)
      rw [hv] at h1
      have : g' = g := by simpa [Value.ownBlock] using h1
      subst this
      rw [add_lit', Nat.zero_add, ho.cell j (by simp; omega)]
      simp [i8s, rep, hjn] at hj ⊢
      exact hj
    · exact (World.cell?_of_block (h3.block _ (by rw [add_block]; exact hb) (by simp))).trans hc
  · exact (appended_cell h (by rw [add_block]; exact hb) (by rw [add_block]; exact hv)).trans hc
/-- what holds while both grow -/
structure Fr (n : Nat) (A A2 : Option Addr) (B : Nat) (w : World) (p q : Nat) (x y : Value) (wr : World) : Prop where
  ox : Own wr 23 B x (i8s (rep p 101))
  oy : Own wr 23 B y (i8s (rep q 102))
  hp : n ≤ p
  hq : n ≤ q
  dxy : ∀ g, x.ownBlock = some g → y.ownBlock ≠ some g
  ra : Sl wr wr.heap.size A (i8s (rep n 101))
  rb : Sl wr wr.heap.size A2 (i8s (rep n 102))
  fa : ∀ ad, A = some ad → ∃ g, ad = ⟨g, 0, none⟩
  fb : ∀ ad, A2 = some ad → ∃ g, ad = ⟨g, 0, none⟩
  la : ∀ ad, A = some ad → ad.block < wr.heap.size
  lb : ∀ ad, A2 = some ad → ad.block < wr.heap.size
  dxb : ∀ ad, A2 = some ad → x.ownBlock ≠ some ad.block
  dya : ∀ ad, A = some ad → y.ownBlock ≠ some ad.block
  bel : Below B w wr
  hB : B ≤ wr.heap.size
section
variable {n : Nat} {A A2 : Option Addr} {B : Nat} {w wr : World} {p q : Nat} {x y : Value}
theorem Fr.alloc (h : Fr n A A2 B w p q x y wr) (o : Obj) : Fr n A A2 B w p q x y (wr.alloc o) :=
  ⟨h.ox.alloc o, h.oy.alloc o, h.hp, h.hq, h.dxy, (h.ra.alloc (Nat.le_refl _) o).more (by simp), (h.rb.alloc (Nat.le_refl _) o).more (by simp), h.fa, h.fb,
    fun ad e => by have := h.la ad e; simp; omega, fun ad e => by have := h.lb ad e; simp; omega, h.dxb, h.dya, h.bel.alloc h.hB o, by have := h.hB; simp; omega⟩
theorem new_ne {w' : World} {v v' : Value} (h : Appended wr w' v v') {b : Nat} (hb : b < wr.heap.size) (hne : v.ownBlock ≠ some b) : v'.ownBlock ≠ some b := by
  rcases h with ⟨h1, _⟩ | ⟨g, h1, h2, _⟩
  · rw [h1]; exact hne
  · rw [h1]; intro e; injection e with e; omega
theorem Fr.growx {w' : World} {x' : Value} (h : Fr n A A2 B w p q x y wr) (ho : Own w' 23 B x' (i8s (rep p 101) ++ [.int .i8 101])) (ha : Appended wr w' x x') : Fr n A A2 B w (p + 1) q x' y w' := by
  rw [i8s_snoc, rep_succ] at ho
  have hs := appended_size ha
  have oth := appended_other ha h.oy (fun g hg => fun e => h.dxy g e hg)
  refine ⟨ho, oth.1, by have := h.hp; omega, h.hq, fun g hg hy => oth.2 g hy hg, keep_self ha h.ra h.fa ho (by have := h.hp; omega), keep_other ha h.rb h.dxb, h.fa, h.fb,
    fun ad e => Nat.lt_of_lt_of_le (h.la ad e) hs, fun ad e => Nat.lt_of_lt_of_le (h.lb ad e) hs, fun ad e => new_ne ha (h.lb ad e) (h.dxb ad e), h.dya, ?_, Nat.le_trans h.hB hs⟩
  exact h.bel.trans (appended_below ha h.hB fun g hg => (h.ox.lt g hg).1)
theorem Fr.growy {w' : World} {y' : Value} (h : Fr n A A2 B w p q x y wr) (ho : Own w' 23 B y' (i8s (rep q 102) ++ [.int .i8 102])) (ha : Appended wr w' y y') : Fr n A A2 B w p (q + 1) x y' w' := by
  rw [i8s_snoc, rep_succ] at ho
  have hs := appended_size ha
  have oth := appended_other ha h.ox (fun g hg => h.dxy g hg)
  refine ⟨oth.1, ho, h.hp, by have := h.hq; omega, fun g hg => oth.2 g hg, keep_other ha h.ra h.dya, keep_self ha h.rb h.fb ho (by have := h.hq; omega), h.fa, h.fb,
    fun ad e => Nat.lt_of_lt_of_le (h.la ad e) hs, fun ad e => Nat.lt_of_lt_of_le (h.lb ad e) hs, h.dxb, fun ad e => new_ne ha (h.la ad e) (h.dya ad e), ?_, Nat.le_trans h.hB hs⟩
  exact h.bel.trans (appended_below ha h.hB fun g hg => (h.oy.lt g hg).1)
end
/-- filled as far as place k -/
def Filled (n : Nat) (v : Int) (ys : List Int) (k : Nat) : Prop := ys.length = n ∧ ∀ j, j < k → ys.getD j 0 = v
theorem Filled.step {n k : Nat} {v : Int} {ys : List Int} (h : Filled n v ys k) (hk : k < n) : Filled n v (ys.set k v) (k + 1) := by
  refine ⟨by simpa using h.1, fun j hj => ?_⟩
  rw [getD_set _ _ _ _ (by rw [h.1]; exact hk)]
  split
  · rfl
  · exact h.2 j (by omega)
theorem Filled.done {n : Nat} {v : Int} {ys : List Int} (h : Filled n v ys n) : ys = rep n v := ext_getD (by rw [h.1]; simp) fun j hj => by
  rw [rep_length] at hj
  rw [h.2 j hj, rep_getD n j v hj]
theorem own_addr {w : World} {e : TypeId} {B n c : Nat} {A : Option Addr} {xs : List Value} (h : Own w e B (.slice A n c) xs) : ∀ ad, A = some ad → ∃ g, ad = ⟨g, 0, none⟩ := by
  rintro ad rfl
  rcases h.2 with ⟨h', _⟩ | ⟨g, cap, cur, h', _⟩
  · cases h'
  · simp only [Value.slice.injEq, Option.some.injEq] at h'
    exact ⟨g, h'.1⟩
end Go.Proofs.Ytlomcnmijfiihaa
