/- NAbase: several texts, one behind another: Base, Append, Append2, Ints, Stay, Vals, AnyN, Win. -/
import Derived.WalkKit
import Derived.WalkLawsBesides
import Derived.WalkSpells
import Derived.Lib.Hide
import Derived.Deep.AppendLies
import Derived.Deep.Draws
import Derived.Deep.LoopGhost
import Derived.Maps.AppendAt
import Derived.RegionTactic
import Derived.ArgAppend
import Derived.Deep.QuietTactic
import Derived.BigQuiet
import Derived.Laws.Tables
import Derived.Deep.WholeRow
import Derived.KernelRfl
import Derived.OrdersHeld
/- Own words for memory, over any program: a slice that holds given cells; a slice that the call owns; what a call may have written. -/
namespace Go.Proofs.YtlphmcodajookaaDoor
open Go.RowKit

theorem add_block (a : Addr) (n : Nat) : (a.add n).block = a.block := by unfold Addr.add; split <;> rfl
theorem add_add' (a : Addr) (i j : Nat) : (a.add i).add j = a.add (i + j) := by
  unfold Addr.add
  by_cases hi : i = 0 <;> by_cases hj : j = 0 <;> simp [hi, hj, Nat.add_assoc]
theorem add_lit' (b o j : Nat) : (⟨b, o, none⟩ : Addr).add j = ⟨b, o + j, none⟩ := by
  unfold Addr.add
  by_cases hj : j = 0 <;> simp [hj]

/-- A slice at A that holds the one-cell elements xs; all of it lies below block B. -/
def Sl (w : World) (B : Nat) (A : Option Addr) (xs : List Value) : Prop :=
  ∀ j u, xs[j]? = some u → ∃ ad, A = some ad ∧ ad.block < B ∧ w.cell? (ad.add j) = some u

section
variable {w w' : World} {B B' : Nat} {A : Option Addr} {xs : List Value}
theorem Sl.nil_ (w : World) (B : Nat) (A : Option Addr) : Sl w B A [] := fun j u h => by simp at h
theorem Sl.keep (h : Sl w B A xs) (hk : ∀ p : Addr, p.block < B → w'.cell? p = w.cell? p) : Sl w' B A xs := by
  intro j u hj
  obtain ⟨ad, e, hb, hc⟩ := h j u hj
  exact ⟨ad, e, hb, (hk _ (by rw [add_block]; exact hb)).trans hc⟩
theorem Sl.below (h : Sl w B A xs) (hb : Below B w w') : Sl w' B A xs := h.keep fun _ hp => hb.cell hp
theorem Sl.more (h : Sl w B A xs) (hB : B ≤ B') : Sl w B' A xs := by
  intro j u hj
  obtain ⟨ad, e, hb, hc⟩ := h j u hj
  exact ⟨ad, e, by omega, hc⟩
theorem Sl.alloc (h : Sl w B A xs) (hB : B ≤ w.heap.size) (o : Obj) : Sl (w.alloc o) B A xs := h.keep fun p hp => World.cell?_alloc_lt w o p (by omega)
theorem Sl.setCell (h : Sl w B A xs) {p : Addr} (hB : B ≤ p.block) (u : Value) : Sl (w.setCell p u) B A xs :=
  h.keep fun q hq => World.cell?_setCell_other w p q u (fun e => by subst e; omega)
theorem Sl.grown (h : Sl w B A xs) {row : Option Nat} (hg : w.grownBy w' row) (hB : B ≤ w.heap.size) (hr : ∀ g, row = some g → B ≤ g) : Sl w' B A xs :=
  h.keep fun p hp => World.cell?_of_block (hg.block p.block (by omega) (fun e => by have := hr _ e.symm; omega))
end

/-- The call owns the slice v: its elements (of type e, one cell each) are xs; its block is B or a later one. -/
def Own (w : World) (e : TypeId) (B : Nat) (v : Value) (xs : List Value) : Prop := w.ownsRow B e 1 v xs.length xs

section
variable {w w' : World} {B : Nat} {e : TypeId} {v : Value} {xs : List Value} {g c n : Nat} {A : Option Addr}
theorem Own.kept {row : Option Nat} (h : Own w e B v xs) (hg : w.grownBy w' row) (hne : v.ownBlock = none ∨ v.ownBlock ≠ row) : Own w' e B v xs := World.ownsRow.kept h hg hne
theorem Own.alloc (h : Own w e B v xs) (o : Obj) : Own (w.alloc o) e B v xs := World.ownsRow.alloc h o
theorem Own.nil_ (w : World) (e : TypeId) (B : Nat) : Own w e B (.slice none 0 0) [] := World.ownsRow_nil w B e 1
theorem Own.form (h : Own w e B (.slice A n c) xs) (hn : 0 < xs.length) : n = xs.length ∧ ∃ g, A = some ⟨g, 0, none⟩ ∧ B ≤ g ∧ g < w.heap.size := by
  rcases h.2 with ⟨h', h0⟩ | ⟨g, cap, cur, h', hb, hg, _⟩
  · omega
  · simp only [Value.slice.injEq] at h'
    obtain ⟨rfl, rfl, rfl⟩ := h'
    exact ⟨rfl, g, rfl, hb, (Array.getElem?_eq_some_iff.1 hg).1⟩
theorem Own.len (h : Own w e B (.slice A n c) xs) : n = xs.length := by
  rcases h.2 with ⟨h', h0⟩ | ⟨g, cap, cur, h', hb, hg, _⟩
  · simp only [Value.slice.injEq] at h'; omega
  · simp only [Value.slice.injEq] at h'; omega
theorem Own.cap (h : Own w e B (.slice A n c) xs) : xs.length ≤ c ∧ c ≤ maxLen := by
  rcases h.2 with ⟨h', h0⟩ | ⟨g, cap, cur, h', hb, hg, h1, h2, _⟩
  · simp only [Value.slice.injEq] at h'; omega
  · simp only [Value.slice.injEq] at h'; omega
theorem Own.slice (h : Own w e B v xs) : ∃ A c, v = .slice A xs.length c := by
  rcases h.2 with ⟨h', h0⟩ | ⟨g, cap, cur, h', _⟩
  · exact ⟨none, 0, by rw [h', h0]⟩
  · exact ⟨_, _, h'⟩
theorem Own.cell (h : Own w e B (.slice (some ⟨g, 0, none⟩) n c) xs) (k : Nat) (hk : k < xs.length) : w.cell? ⟨g, k, none⟩ = some xs[k] := by
  obtain rfl := h.len
  have := World.ownsRow.cellAt h k (by omega)
  rw [this]; simp [hk]
theorem Own.free (h : Own w e B (.slice (some ⟨g, 0, none⟩) n c) xs) (k : Nat) : w.frozen? ⟨g, k, none⟩ = false := by
  obtain rfl := h.len
  exact World.ownsRow.frozenAt h k
theorem Own.stored (h : Own w e B (.slice (some ⟨g, 0, none⟩) n c) xs) (k : Nat) (u : Value) :
    Own (w.setCell ⟨g, k, none⟩ u) e B (.slice (some ⟨g, 0, none⟩) n c) (xs.set k u) := by
  obtain rfl := h.len
  unfold Own at h ⊢
  simpa using (World.ownsRow.stored h k u).1
theorem Own.lt (h : Own w e B v xs) : ∀ k, v.ownBlock = some k → B ≤ k ∧ k < w.heap.size := World.ownsRow.lt h
/-- What is owned can be read as a slice. -/
theorem Own.sl (h : Own w e B (.slice A n c) xs) : Sl w w.heap.size A xs := by
  intro j u hj
  have hjl : j < xs.length := (List.getElem?_eq_some_iff.1 hj).1
  obtain ⟨rfl, g, rfl, hb, hg⟩ := h.form (by omega)
  refine ⟨_, rfl, hg, ?_⟩
  rw [add_lit', Nat.zero_add, h.cell j hjl, ← hj]; simp [hjl]
end

section
variable {a b w : World} {row : Option Nat} {g : Nat}
theorem grown_trans' {c : World} (h : a.grownBy b row) (k : b.grownBy c row) : a.grownBy c row :=
  ⟨k.os.trans h.os, k.tape.trans h.tape, k.output.trans h.output, Nat.le_trans h.size k.size,
    fun i hi hne => (k.block i (Nat.lt_of_lt_of_le hi h.size) hne).trans (h.block i hi hne)⟩
theorem grown_setCell (h : a.grownBy w (some g)) {p : Addr} (hp : p.block = g) (u : Value) : a.grownBy (w.setCell p u) (some g) :=
  grown_trans' h ⟨rfl, rfl, rfl, by simp [World.setCell], fun i _ hne => Below.heap_setCell w p u i (by rintro rfl; exact hne (by rw [hp]))⟩
/-- Writing in one's own new block is nothing below. -/
theorem below_of_grown {B : Nat} (h : a.grownBy w row) (hB : B ≤ a.heap.size) (hr : ∀ k, row = some k → B ≤ k) : Below B a w :=
  (Below.refl B a).grown h hB hr
theorem grown_of_below (h : Below a.heap.size a w) (row : Option Nat) : a.grownBy w row := ⟨h.os, h.tape, h.output, h.size, fun i hi _ => h.block i hi⟩
end

/-! Lists that are written from the front to the end. -/
/-- A pass from the front: what each element becomes, and what is carried on. -/
def scan (f : Int → Int → Int × Int) : Int → List Int → List Int × Int
  | s, [] => ([], s)
  | s, z :: zs => ((f s z).1 :: (scan f (f s z).2 zs).1, (scan f (f s z).2 zs).2)
theorem scan_append (f : Int → Int → Int × Int) (a b : List Int) : ∀ s, scan f s (a ++ b) = ((scan f s a).1 ++ (scan f (scan f s a).2 b).1, (scan f (scan f s a).2 b).2) := by
  induction a with
  | nil => intro s; simp [scan]
  | cons z zs ih => intro s; simp [scan, ih]
theorem scan_length (f : Int → Int → Int × Int) (a : List Int) : ∀ s, (scan f s a).1.length = a.length := by
  induction a with
  | nil => intro s; simp [scan]
  | cons z zs ih => intro s; simp [scan, ih]
theorem scan_snoc (f : Int → Int → Int × Int) (zs : List Int) (s : Int) (k : Nat) (hk : k < zs.length) :
    scan f s (zs.take (k + 1)) = ((scan f s (zs.take k)).1 ++ [(f (scan f s (zs.take k)).2 zs[k]).1], (f (scan f s (zs.take k)).2 zs[k]).2) := by
  rw [List.take_succ_eq_append_getElem hk, scan_append]; simp [scan]
theorem set_mid (A : List Int) (zs : List Int) (k : Nat) (x : Int) (hA : A.length = k) (hk : k < zs.length) : (A ++ zs.drop k).set k x = (A ++ [x]) ++ zs.drop (k + 1) := by
  rw [List.set_append_right _ _ (by omega), hA, Nat.sub_self, List.drop_eq_getElem_cons hk]
  simp only [List.set_cons_zero, List.append_assoc, List.singleton_append]
/-- Behind k rounds of a pass in place. -/
def Mid (f : Int → Int → Int × Int) (s : Int) (zs ys : List Int) (k : Nat) (st : Int) : Prop :=
  ys = (scan f s (zs.take k)).1 ++ zs.drop k ∧ st = (scan f s (zs.take k)).2
section
variable {f : Int → Int → Int × Int} {s st st' o : Int} {zs ys : List Int} {k : Nat}
theorem Mid.start (f : Int → Int → Int × Int) (s : Int) (zs : List Int) : Mid f s zs zs 0 s := by simp [Mid, scan]
theorem Mid.len (h : Mid f s zs ys k st) (hk : k ≤ zs.length) : ys.length = zs.length := by
  rw [h.1]; simp [scan_length]; omega
theorem Mid.at_ (h : Mid f s zs ys k st) (hk : k < zs.length) : ys[k]? = some zs[k] := by
  rw [h.1, List.getElem?_append_right (by simp [scan_length]; omega)]
  simp [scan_length, hk, Nat.min_eq_left (Nat.le_of_lt hk)]
theorem Mid.store (h : Mid f s zs ys k st) (hk : k < zs.length) (hf : f st zs[k] = (o, st')) : Mid f s zs (ys.set k o) (k + 1) st' := by
  obtain ⟨rfl, rfl⟩ := h
  unfold Mid
  rw [scan_snoc f zs s k hk, hf, set_mid _ _ _ _ (by simp [scan_length]; omega) hk]
  exact ⟨rfl, rfl⟩
theorem Mid.skip (h : Mid f s zs ys k st) (hk : k < zs.length) (hf : f st zs[k] = (zs[k], st')) : Mid f s zs ys (k + 1) st' := by
  have h2 := h.store hk hf
  have h3 : ys.set k zs[k] = ys := by
    have h4 := h.at_ hk
    obtain ⟨h5, h6⟩ := List.getElem?_eq_some_iff.1 h4
    rw [← h6]; simp
  rwa [h3] at h2
theorem Mid.done (h : Mid f s zs ys zs.length st) : ys = (scan f s zs).1 ∧ st = (scan f s zs).2 := by
  obtain ⟨rfl, rfl⟩ := h
  simp
end
end Go.Proofs.YtlphmcodajookaaDoor
/- append onto a slice of the call's own, whatever is appended: nil, empty or not; where the new row lies. -/
namespace Go.Proofs.YtlphmcodajookaaDoor
open Go.RowKit
section
variable {P : Program} (w : World)
theorem run_append_nothing (base : Nat) (t ty e : TypeId) (i : TypeInfo) (ht : P.underlying t = some (.slice e)) (hi : P.info? e = some i)
    (v : Value) (n size : Nat) (xs : List Value) (hown : w.ownsRow base e size v n xs) (c : Nat) : (Builtin.append_ #[t, t] ty #[v, .slice none 0 c]).run P w = .ok v w := by
  rcases hown.2 with ⟨rfl, rfl⟩ | ⟨g, cap, cur, rfl, _, _, hnc, _⟩
  · simp [Builtin.append_, run_underlying ht, sizeOf, typeInfo, hi, Builtin.lenOf, Builtin.firstCells]
  · simp [Builtin.append_, run_underlying ht, sizeOf, typeInfo, hi, Builtin.lenOf, Builtin.firstCells, hnc, storeCells]
theorem run_append_sl (base : Nat) (t ty e : TypeId) (i : TypeInfo) (z : Value) (bytes : Nat) (ht : P.underlying t = some (.slice e)) (hi : P.info? e = some i) (hz : i.zero = some z)
    (hsize : i.size = 1) (hby : i.bytes = bytes) (hzs : z.cells.size = 1) (v : Value) (xs : List Value) (hown : Own w e base v xs)
    (B : Nat) (A : Option Addr) (c : Nat) (news : List Value) (hr : Sl w B A news) (h1 : ∀ u ∈ news, u.oneCell' = true)
    (h63 : xs.length + news.length ≤ maxLen) (hbytes : (xs.length + news.length) * bytes ≤ 140737488355328) (hbase : base ≤ w.heap.size) :
    ∃ v' w', (Builtin.append_ #[t, t] ty #[v, .slice A news.length c]).run P w = .ok v' w' ∧ Own w' e base v' (xs ++ news) ∧ w.grownBy w' v.ownBlock ∧
      (v'.ownBlock = v.ownBlock ∨ v'.ownBlock = some w.heap.size) := by
  rcases A with _ | ad
  · have hn : news = [] := by
      cases news with
      | nil => rfl
      | cons u r =>
        obtain ⟨ad, h, _⟩ := hr 0 u rfl
        cases h
    subst hn
    exact ⟨v, w, run_append_nothing w base t ty e i ht hi v _ 1 xs hown c, by simpa [Own] using hown, World.grownBy.refl w _, .inl rfl⟩
  · have hcells : ∀ j u, news[j]? = some u → w.cell? (ad.add j) = some u := by
      intro j u hu
      obtain ⟨ad', h, _, hc⟩ := hr j u hu
      injection h with h
      subst h
      exact hc
    obtain ⟨v', w', hrun, h2, h3, _, h5⟩ := run_append_own_at (P := P) w base t ty e i z 1 bytes ht hi hz hsize hby hzs (by omega) v xs.length xs hown ad news.length c news (by omega) hcells h1 h63 hbytes hbase
    exact ⟨v', w', hrun, by simpa [Own] using h2, h3, h5⟩
theorem wp_append_sl {o : Oper} {a : Act} {K : Act → World → Prop} {Q : Exit → Act → World → Prop} (s x : Operand) (t : TypeId)
    (ho : o.op = .call { callee := .builtin .append, args := #[s, x], argTypes := #[t, t] })
    (base : Nat) (e : TypeId) (i : TypeInfo) (z : Value) (bytes : Nat) (ht : P.underlying t = some (.slice e)) (hi : P.info? e = some i) (hz : i.zero = some z)
    (hsize : i.size = 1) (hby : i.bytes = bytes) (hzs : z.cells.size = 1) (v : Value) (n : Nat) (xs : List Value) (hn : xs.length = n) (hs : a.eval s = v) (hown : Own w e base v xs)
    (B : Nat) (A : Option Addr) (c m : Nat) (news : List Value) (hm : news.length = m) (hx : a.eval x = .slice A m c) (hr : Sl w B A news) (h1 : ∀ u ∈ news, u.oneCell' = true)
    (h63 : n + m ≤ maxLen) (hbytes : (n + m) * bytes ≤ 140737488355328) (hbase : base ≤ w.heap.size)
    (h : ∀ A' c' w', Own w' e base (.slice A' (n + m) c') (xs ++ news) → w.grownBy w' v.ownBlock → ((Value.slice A' (n + m) c').ownBlock = v.ownBlock ∨ (Value.slice A' (n + m) c').ownBlock = some w.heap.size) → K (a.put o.dst (.slice A' (n + m) c')) w') : o.wp P a w K Q := by
  subst hm
  subst hn
  obtain ⟨v', w', hrun, h2, h3, h4⟩ := run_append_sl (P := P) w base t o.type e i z bytes ht hi hz hsize hby hzs v xs hown B A c news hr h1 h63 hbytes hbase
  obtain ⟨A', c', rfl⟩ := h2.slice
  rw [List.length_append] at *
  unfold Oper.wp execOp
  simp only [ho, resolve, invoke, builtin, Sem.run_bind, Sem.run_pure, Result.andThen_ok, List.map_toArray, List.map_cons, List.map_nil, hs, hx, hrun]
  exact h A' c' w' h2 h3 h4
theorem wpList_append_sl {ops : Array Oper} {rest : List Oper} {o : Oper} {a : Act} {Q : Exit → Act → World → Prop} (hgd : o.guard = none) (s x : Operand) (t : TypeId)
    (ho : o.op = .call { callee := .builtin .append, args := #[s, x], argTypes := #[t, t] })
    (base : Nat) (e : TypeId) (i : TypeInfo) (z : Value) (bytes : Nat) (ht : P.underlying t = some (.slice e)) (hi : P.info? e = some i) (hz : i.zero = some z)
    (hsize : i.size = 1) (hby : i.bytes = bytes) (hzs : z.cells.size = 1) (v : Value) (n : Nat) (xs : List Value) (hn : xs.length = n) (hs : a.eval s = v) (hown : Own w e base v xs)
    (B : Nat) (A : Option Addr) (c m : Nat) (news : List Value) (hm : news.length = m) (hx : a.eval x = .slice A m c) (hr : Sl w B A news) (h1 : ∀ u ∈ news, u.oneCell' = true)
    (h63 : n + m ≤ maxLen) (hbytes : (n + m) * bytes ≤ 140737488355328) (hbase : base ≤ w.heap.size)
    (h : ∀ A' c' w', Own w' e base (.slice A' (n + m) c') (xs ++ news) → w.grownBy w' v.ownBlock → ((Value.slice A' (n + m) c').ownBlock = v.ownBlock ∨ (Value.slice A' (n + m) c').ownBlock = some w.heap.size) → wpList P ops Q rest (a.put o.dst (.slice A' (n + m) c')) w') : wpList P ops Q (o :: rest) a w :=
  wpList_plain hgd fun _ hK => wp_append_sl w s x t ho base e i z bytes ht hi hz hsize hby hzs v n xs hn hs hown B A c m news hm hx hr h1 h63 hbytes hbase fun A' c' w' h2 h3 h4 => hK _ _ (h A' c' w' h2 h3 h4)
end
theorem app_below {w wr w2 : World} {B : Nat} {e : TypeId} {v : Value} {xs : List Value} {o : Obj} (hb : Below B w wr) (hB : B ≤ wr.heap.size) (ho : Own wr e B v xs) (hg : (wr.alloc o).grownBy w2 v.ownBlock) : Below B w w2 :=
  (hb.alloc hB o).grown hg (by simp; omega) fun k hk => (ho.lt k hk).1
theorem app_below0 {w wr w2 : World} {B : Nat} {e : TypeId} {v : Value} {xs : List Value} (hb : Below B w wr) (hB : B ≤ wr.heap.size) (ho : Own wr e B v xs) (hg : wr.grownBy w2 v.ownBlock) : Below B w w2 :=
  hb.grown hg hB fun k hk => (ho.lt k hk).1
theorem sl_one (w : World) (u : Value) (t : TypeId) : Sl (w.alloc (.cells #[u] t)) (w.heap.size + 1) (some ⟨w.heap.size, 0, none⟩) [u] := by
  intro j v hj
  refine ⟨_, rfl, by simp, ?_⟩
  rw [add_lit', Nat.zero_add, cell_of_row (w.alloc (.cells #[u] t)) w.heap.size j #[u] t (0, 0) (heap_alloc_new w _)]
  simpa using hj
end Go.Proofs.YtlphmcodajookaaDoor
/- append, told exactly: within the block, or in a new one; within the capacity the value is known. -/
namespace Go.Proofs.YtlphmcodajookaaDoor
open Go.RowKit
theorem own_mono {w : World} {e : TypeId} {B B' : Nat} {v : Value} {xs : List Value} (h : Own w e B v xs) (hB : B' ≤ B) : Own w e B' v xs := by
  refine ⟨h.1, ?_⟩
  rcases h.2 with hn | ⟨g, cap, cur, hv, hb, rest⟩
  · exact .inl hn
  · exact .inr ⟨g, cap, cur, hv, by omega, rest⟩
/-- what an append may have done -/
def Appended (w w' : World) (v v' : Value) : Prop :=
  (v'.ownBlock = v.ownBlock ∧ w.grownBy w' v.ownBlock) ∨ (∃ g, v'.ownBlock = some g ∧ w.heap.size ≤ g ∧ w.grownBy w' none)
section
variable {P : Program} (w : World)
theorem run_append_sl2 (base : Nat) (t ty e : TypeId) (i : TypeInfo) (z : Value) (bytes : Nat) (ht : P.underlying t = some (.slice e)) (hi : P.info? e = some i) (hz : i.zero = some z)
    (hsize : i.size = 1) (hby : i.bytes = bytes) (hzs : z.cells.size = 1) (v : Value) (xs : List Value) (hown : Own w e base v xs)
    (B : Nat) (A : Option Addr) (c : Nat) (news : List Value) (hr : Sl w B A news) (h1 : ∀ u ∈ news, u.oneCell' = true)
    (h63 : xs.length + news.length ≤ maxLen) (hbytes : (xs.length + news.length) * bytes ≤ 140737488355328) (hbase : base ≤ w.heap.size) :
    ∃ v' w', (Builtin.append_ #[t, t] ty #[v, .slice A news.length c]).run P w = .ok v' w' ∧ Own w' e base v' (xs ++ news) ∧ Appended w w' v v' := by
  rcases A with _ | ad
  · obtain ⟨v', w', h, h2, h3, h4⟩ := run_append_sl (P := P) w base t ty e i z bytes ht hi hz hsize hby hzs v xs hown B none c news hr h1 h63 hbytes hbase
    have hn : news = [] := by
      cases news with
      | nil => rfl
      | cons u r =>
        obtain ⟨ad, h, _⟩ := hr 0 u rfl
        cases h
    subst hn
    exact ⟨v, w, run_append_nothing w base t ty e i ht hi v _ 1 xs hown c, by simpa [Own] using hown, .inl ⟨rfl, World.grownBy.refl w _⟩⟩
  · have hcells : ∀ j u, news[j]? = some u → w.cell? (ad.add j) = some u := by
      intro j u hu
      obtain ⟨ad', h, _, hc⟩ := hr j u hu
      injection h with h
      subst h
      exact hc
    rcases hown.2 with ⟨rfl, h0⟩ | ⟨g, cap, cur, rfl, hb, hg, hnc, hcm, hcs, htake⟩
    · obtain ⟨v', w', hrun, h2, h3, _, h5⟩ := run_append_own_at (P := P) w base t ty e i z 1 bytes ht hi hz hsize hby hzs (by omega) _ xs.length xs hown ad news.length c news (by omega) hcells h1 h63 hbytes hbase
      refine ⟨v', w', hrun, by simpa [Own] using h2, ?_⟩
      rcases h5 with h5 | h5
      · exact .inl ⟨h5, h3⟩
      · exact .inr ⟨_, h5, Nat.le_refl _, h3⟩
    · by_cases hroom : xs.length + news.length ≤ cap
      · obtain ⟨w', hrun, h2, h3⟩ := run_append_fits (P := P) w base t ty e i 1 ht hi hsize g xs.length cap xs hown ad news.length c news (by omega) hcells h1 hroom
        exact ⟨_, w', hrun, by simpa [Own] using h2, .inl ⟨rfl, h3⟩⟩
      · obtain ⟨v', w', hrun, h2, h3⟩ := run_append_arg_grows (P := P) w t ty e i z 1 bytes ht hi hz hsize hby hzs (by omega) ⟨g, 0, none⟩ xs.length cap xs (by omega) (hown.cells (g := g) rfl) ad news.length c news (by omega) hcells (by omega) h63 hbytes
        have h2' : Own w' e w.heap.size v' (xs ++ news) := by simpa [Own] using h2
        refine ⟨v', w', hrun, own_mono h2' hbase, ?_⟩
        rcases h2.2 with ⟨rfl, hn0⟩ | ⟨g', cap', cur', rfl, hb', _⟩
        · exact absurd hn0 (by omega)
        · exact .inr ⟨g', rfl, hb', h3⟩
theorem wp_append_sl2 {o : Oper} {a : Act} {K : Act → World → Prop} {Q : Exit → Act → World → Prop} (s x : Operand) (t : TypeId)
    (ho : o.op = .call { callee := .builtin .append, args := #[s, x], argTypes := #[t, t] })
    (base : Nat) (e : TypeId) (i : TypeInfo) (z : Value) (bytes : Nat) (ht : P.underlying t = some (.slice e)) (hi : P.info? e = some i) (hz : i.zero = some z)
    (hsize : i.size = 1) (hby : i.bytes = bytes) (hzs : z.cells.size = 1) (v : Value) (n : Nat) (xs : List Value) (hn : xs.length = n) (hs : a.eval s = v) (hown : Own w e base v xs)
    (B : Nat) (A : Option Addr) (c m : Nat) (news : List Value) (hm : news.length = m) (hx : a.eval x = .slice A m c) (hr : Sl w B A news) (h1 : ∀ u ∈ news, u.oneCell' = true)
    (h63 : n + m ≤ maxLen) (hbytes : (n + m) * bytes ≤ 140737488355328) (hbase : base ≤ w.heap.size)
    (h : ∀ A' c' w', Own w' e base (.slice A' (n + m) c') (xs ++ news) → Appended w w' v (.slice A' (n + m) c') → K (a.put o.dst (.slice A' (n + m) c')) w') : o.wp P a w K Q := by
  subst hm
  subst hn
  obtain ⟨v', w', hrun, h2, h3⟩ := run_append_sl2 (P := P) w base t o.type e i z bytes ht hi hz hsize hby hzs v xs hown B A c news hr h1 h63 hbytes hbase
  obtain ⟨A', c', rfl⟩ := h2.slice
  rw [List.length_append] at *
  unfold Oper.wp execOp
  simp only [ho, resolve, invoke, builtin, Sem.run_bind, Sem.run_pure, Result.andThen_ok, List.map_toArray, List.map_cons, List.map_nil, hs, hx, hrun]
  exact h A' c' w' h2 h3
theorem wpList_append_sl2 {ops : Array Oper} {rest : List Oper} {o : Oper} {a : Act} {Q : Exit → Act → World → Prop} (hgd : o.guard = none) (s x : Operand) (t : TypeId)
    (ho : o.op = .call { callee := .builtin .append, args := #[s, x], argTypes := #[t, t] })
    (base : Nat) (e : TypeId) (i : TypeInfo) (z : Value) (bytes : Nat) (ht : P.underlying t = some (.slice e)) (hi : P.info? e = some i) (hz : i.zero = some z)
    (hsize : i.size = 1) (hby : i.bytes = bytes) (hzs : z.cells.size = 1) (v : Value) (n : Nat) (xs : List Value) (hn : xs.length = n) (hs : a.eval s = v) (hown : Own w e base v xs)
    (B : Nat) (A : Option Addr) (c m : Nat) (news : List Value) (hm : news.length = m) (hx : a.eval x = .slice A m c) (hr : Sl w B A news) (h1 : ∀ u ∈ news, u.oneCell' = true)
    (h63 : n + m ≤ maxLen) (hbytes : (n + m) * bytes ≤ 140737488355328) (hbase : base ≤ w.heap.size)
    (h : ∀ A' c' w', Own w' e base (.slice A' (n + m) c') (xs ++ news) → Appended w w' v (.slice A' (n + m) c') → wpList P ops Q rest (a.put o.dst (.slice A' (n + m) c')) w') : wpList P ops Q (o :: rest) a w :=
  wpList_plain hgd fun _ hK => wp_append_sl2 w s x t ho base e i z bytes ht hi hz hsize hby hzs v n xs hn hs hown B A c m news hm hx hr h1 h63 hbytes hbase fun A' c' w' h2 h3 => hK _ _ (h A' c' w' h2 h3)
/-- within the capacity -/
theorem wpList_append_fits_sl {ops : Array Oper} {rest : List Oper} {o : Oper} {a : Act} {Q : Exit → Act → World → Prop} (hgd : o.guard = none) (s x : Operand) (t : TypeId)
    (ho : o.op = .call { callee := .builtin .append, args := #[s, x], argTypes := #[t, t] })
    (base : Nat) (e : TypeId) (i : TypeInfo) (ht : P.underlying t = some (.slice e)) (hi : P.info? e = some i) (hsize : i.size = 1)
    (g n cap : Nat) (xs : List Value) (hn : xs.length = n) (hs : a.eval s = .slice (some ⟨g, 0, none⟩) n cap) (hown : Own w e base (.slice (some ⟨g, 0, none⟩) n cap) xs)
    (B : Nat) (A : Option Addr) (c m : Nat) (news : List Value) (hm : news.length = m) (hx : a.eval x = .slice A m c) (hr : Sl w B A news) (h1 : ∀ u ∈ news, u.oneCell' = true) (hroom : n + m ≤ cap)
    (h : ∀ w', Own w' e base (.slice (some ⟨g, 0, none⟩) (n + m) cap) (xs ++ news) → w.grownBy w' (some g) → wpList P ops Q rest (a.put o.dst (.slice (some ⟨g, 0, none⟩) (n + m) cap)) w') : wpList P ops Q (o :: rest) a w := by
  subst hm
  subst hn
  have hrun : ∃ w', (Builtin.append_ #[t, t] o.type #[.slice (some ⟨g, 0, none⟩) xs.length cap, .slice A news.length c]).run P w = .ok (.slice (some ⟨g, 0, none⟩) (xs.length + news.length) cap) w' ∧ Own w' e base (.slice (some ⟨g, 0, none⟩) (xs.length + news.length) cap) (xs ++ news) ∧ w.grownBy w' (some g) := by
    rcases A with _ | ad
    · have hn : news = [] := by
        cases news with
        | nil => rfl
        | cons u r =>
          obtain ⟨ad, h, _⟩ := hr 0 u rfl
          cases h
      subst hn
      refine ⟨w, ?_, by simpa [Own] using hown, World.grownBy.refl w _⟩
      simpa using run_append_nothing (P := P) w base t o.type e i ht hi _ _ 1 xs hown c
    · have hcells : ∀ j u, news[j]? = some u → w.cell? (ad.add j) = some u := by
        intro j u hu
        obtain ⟨ad', h, _, hc⟩ := hr j u hu
        injection h with h
        subst h
        exact hc
      obtain ⟨w', hrun, h2, h3⟩ := run_append_fits (P := P) w base t o.type e i 1 ht hi hsize g xs.length cap xs hown ad news.length c news (by omega) hcells h1 hroom
      exact ⟨w', hrun, by simpa [Own] using h2, h3⟩
  obtain ⟨w', hrun, h2, h3⟩ := hrun
  refine wpList_plain hgd fun _ hK => ?_
  unfold Oper.wp execOp
  simp only [ho, resolve, invoke, builtin, Sem.run_bind, Sem.run_pure, Result.andThen_ok, List.map_toArray, List.map_cons, List.map_nil, hs, hx, hrun]
  exact hK _ _ (h w' h2 h3)
end
theorem appended_below {w w' : World} {v v' : Value} {B : Nat} (h : Appended w w' v v') (hB : B ≤ w.heap.size) (hv : ∀ g, v.ownBlock = some g → B ≤ g) : Below B w w' := by
  rcases h with ⟨_, h⟩ | ⟨g, _, _, h⟩
  · exact (Below.refl _ _).grown h hB hv
  · exact (Below.refl _ _).grown h hB (by simp)
theorem appended_size {w w' : World} {v v' : Value} (h : Appended w w' v v') : w.heap.size ≤ w'.heap.size := by
  rcases h with ⟨_, h⟩ | ⟨g, _, _, h⟩ <;> exact h.size
/-- another owned slice is left alone -/
theorem appended_other {w w' : World} {v v' : Value} {e : TypeId} {B : Nat} {u : Value} {xs : List Value} (h : Appended w w' v v') (ho : Own w e B u xs) (hne : ∀ g, u.ownBlock = some g → v.ownBlock ≠ some g) : Own w' e B u xs ∧ ∀ g, u.ownBlock = some g → v'.ownBlock ≠ some g := by
  rcases h with ⟨h1, h⟩ | ⟨g, h1, h2, h⟩
  · refine ⟨ho.kept h ?_, fun g hg => by rw [h1]; exact hne g hg⟩
    cases hu : u.ownBlock with
    | none => exact .inl rfl
    | some k => exact .inr fun e => hne k hu e.symm
  · refine ⟨ho.kept h ?_, fun k hk => ?_⟩
    · cases hu : u.ownBlock <;> simp
    · have := (ho.lt k hk).2
      rw [h1]; intro e; injection e with e; omega
end Go.Proofs.YtlphmcodajookaaDoor
/- words for slices of integers, over any program. -/
namespace Go.Proofs.YtlphmcodajookaaDoor
open Go.RowKit
/-- numbers as cells -/
def ints (k : IntKind) (zs : List Int) : List Value := zs.map (Value.int k)
@[simp] theorem ints_length (k : IntKind) (zs : List Int) : (ints k zs).length = zs.length := by simp [ints]
theorem ints_app (k : IntKind) (a b : List Int) : ints k (a ++ b) = ints k a ++ ints k b := by simp [ints]
theorem ints_snoc (k : IntKind) (l : List Int) (x : Int) : ints k l ++ [.int k x] = ints k (l ++ [x]) := by simp [ints]
theorem ints_one (k : IntKind) (l : List Int) : ∀ u ∈ ints k l, u.oneCell' = true := by
  intro u hu
  simp only [ints, List.mem_map] at hu
  obtain ⟨n, _, rfl⟩ := hu
  rfl
theorem one_int (k : IntKind) (x : Int) : ∀ u ∈ [Value.int k x], u.oneCell' = true := by intro u hu; simp at hu; subst hu; rfl
theorem ret_int' {k : IntKind} {a b : Int} (h : b = a) : Ending.returned (.int k a) = .returned (.int k b) := by rw [h]
theorem ret_bool' {a b : Bool} (h : b = a) : Ending.returned (.bool a) = .returned (.bool b) := by rw [h]
theorem below_drewN' {B : Nat} {a w : World} (h : Below B a w) (n : Nat) : Below B a (w.drewN n) := ⟨h.os, h.tape, h.output, h.size, h.block⟩
theorem size_alloc' (w : World) (o : Obj) : (w.alloc o).heap.size = w.heap.size + 1 := by simp
theorem getD_app1 (a c : List Int) (i : Nat) (h : i < a.length) : (a ++ c).getD i 0 = a.getD i 0 := by simp [List.getElem?_append, h]
theorem getD_app2 (a c : List Int) (i : Nat) : (a ++ c).getD (a.length + i) 0 = c.getD i 0 := by
  simp only [List.getD_eq_getElem?_getD]
  rw [List.getElem?_append_right (by omega), Nat.add_sub_cancel_left]
theorem getD_set (ys : List Int) (i j : Nat) (x : Int) (h : i < ys.length) : (ys.set i x).getD j 0 = if j = i then x else ys.getD j 0 := by
  simp only [List.getD_eq_getElem?_getD]
  by_cases e : j = i
  · subst e; simp [h]
  · rw [if_neg e, List.getElem?_set_ne (by omega)]
theorem ext_getD {a b : List Int} (hl : a.length = b.length) (h : ∀ j, j < b.length → a.getD j 0 = b.getD j 0) : a = b := by
  apply List.ext_getElem hl
  intro j h1 h2
  have := h j h2
  simpa [h1, h2] using this
theorem drop_cons (zs : List Int) (i : Nat) (h : i < zs.length) : zs.drop i = zs.getD i 0 :: zs.drop (i + 1) := by
  rw [List.drop_eq_getElem_cons h]; simp [h]
theorem take_snoc' (zs : List Int) (k : Nat) (hk : k < zs.length) : zs.take k ++ [zs.getD k 0] = zs.take (k + 1) := by
  rw [List.take_succ_eq_append_getElem hk]; simp [hk]
section
variable {w w' : World} {B B' g n c : Nat} {A : Option Addr} {e : TypeId} {k : IntKind} {zs ys : List Int} {v : Value} {xs : List Value}
theorem sl_at (h : Sl w B A (ints k zs)) {i : Nat} (hi : i < zs.length) : ∃ ad, A = some ad ∧ ad.block < B ∧ w.cell? (ad.add i) = some (.int k (zs.getD i 0)) := by
  have := h i (.int k (zs.getD i 0)) (by simp [ints, hi])
  exact this
theorem own_at (h : Own w e B (.slice (some ⟨g, 0, none⟩) n c) (ints k ys)) {i : Nat} (hi : i < ys.length) : w.cell? ⟨g, i, none⟩ = some (.int k (ys.getD i 0)) := by
  rw [h.cell i (by simpa using hi)]
  simp [ints, hi]
theorem own_put (h : Own w e B (.slice (some ⟨g, 0, none⟩) n c) (ints k ys)) (i : Nat) (x : Int) : Own (w.setCell ⟨g, i, none⟩ (.int k x)) e B (.slice (some ⟨g, 0, none⟩) n c) (ints k (ys.set i x)) := by
  have := h.stored i (.int k x)
  simpa [ints, List.map_set] using this
theorem own_is (h : Own w e B (.slice A n c) (ints k ys)) (hn : 0 < ys.length) : ∃ g, A = some ⟨g, 0, none⟩ ∧ B ≤ g ∧ g < w.heap.size := by
  obtain ⟨-, g, h1, h2, h3⟩ := h.form (by simpa using hn)
  exact ⟨g, h1, h2, h3⟩
theorem own_len (h : Own w e B (.slice A n c) (ints k ys)) : n = ys.length := by have := h.len; simpa using this
theorem Own.below_ (h : Own w e B v xs) (hb : Below w.heap.size w w') : Own w' e B v xs :=
  h.kept (row := none) (grown_of_below hb none) (by cases hv : v.ownBlock <;> simp)
theorem own_below_at (h : Own w e B v xs) (hb : Below B' w w') (hg : ∀ g, v.ownBlock = some g → g < B') : Own w' e B v xs := by
  refine ⟨h.1, ?_⟩
  rcases h.2 with hn | ⟨g, cap, cur, rfl, hb', hh, rest⟩
  · exact .inl hn
  · exact .inr ⟨g, cap, cur, rfl, hb', (hb.block g (hg g rfl)).trans hh, rest⟩
theorem Own.set_other (h : Own w e B v xs) {p : Addr} (hp : p.block < B) (u : Value) : Own (w.setCell p u) e B v xs := ownsRow_setCell_below h hp u
theorem Own.set_far (h : Own w e B v xs) {p : Addr} (hp : v.ownBlock ≠ some p.block) (u : Value) : Own (w.setCell p u) e B v xs :=
  h.kept (row := some p.block) (grown_setCell (World.grownBy.refl _ _) rfl _) (.inr hp)
theorem own_addr (h : Own w e B (.slice A n c) xs) : ∀ ad, A = some ad → ∃ g, ad = ⟨g, 0, none⟩ := by
  rintro ad rfl
  rcases h.2 with ⟨h', _⟩ | ⟨g, cap, cur, h', _⟩
  · cases h'
  · simp only [Value.slice.injEq, Option.some.injEq] at h'
    exact ⟨g, h'.1⟩
theorem sl_prefix {ys : List Value} (h : Sl w B A (xs ++ ys)) : Sl w B A xs := by
  intro j u hj
  have hjl := (List.getElem?_eq_some_iff.1 hj).1
  exact h j u (by rw [List.getElem?_append_left hjl]; exact hj)
theorem sl_take (h : Sl w B A xs) (m : Nat) : Sl w B A (xs.take m) := by
  rw [← List.take_append_drop m xs] at h
  exact sl_prefix h
theorem sl_new (w : World) (k : IntKind) (zs : List Int) (t : TypeId) : Sl (w.alloc (.cells (ints k zs).toArray t)) (w.heap.size + 1) (some ⟨w.heap.size, 0, none⟩) (ints k zs) := by
  intro j u hj
  refine ⟨_, rfl, by simp, ?_⟩
  rw [add_lit', Nat.zero_add, cell_of_row (w.alloc (.cells (ints k zs).toArray t)) w.heap.size j (ints k zs).toArray t (0, 0) (heap_alloc_new w _)]
  simpa using hj
/-- a cut 's[i:]', as the model gives its address -/
theorem sl_cut (h : Sl w B A xs) {i : Nat} (hi : i ≤ xs.length) (hc : xs.length ≤ c) : Sl w B (if c = i then A else A.map (·.add i)) (xs.drop i) := by
  intro j u hj
  have hj' : xs[i + j]? = some u := by rw [← hj, List.getElem?_drop]
  have hl := (List.getElem?_eq_some_iff.1 hj').1
  obtain ⟨ad, rfl, hb, hcell⟩ := h _ u hj'
  rw [if_neg (by omega)]
  exact ⟨ad.add i, rfl, by rw [add_block]; exact hb, by rw [add_add']; exact hcell⟩
end
theorem appended_nil {w w' : World} {v' : Value} {e : TypeId} {B : Nat} {u : Value} {xs : List Value} (h : Appended w w' (.slice none 0 0) v') (ho : Own w e B u xs) : Own w' e B u xs ∧ ∀ g, u.ownBlock = some g → v'.ownBlock ≠ some g :=
  appended_other h ho (fun g _ => by simp [Value.ownBlock])
theorem appended_nil_below {w w' : World} {v' : Value} {B : Nat} (h : Appended w w' (.slice none 0 0) v') (hB : B ≤ w.heap.size) : Below B w w' := appended_below h hB (by simp [Value.ownBlock])
theorem below_alloc_trans {w w' : World} {o : Obj} (h : Below (w.alloc o).heap.size (w.alloc o) w') : Below w.heap.size w w' :=
  ((Below.refl _ _).alloc (Nat.le_refl _) o).trans (h.mono (by simp))
end Go.Proofs.YtlphmcodajookaaDoor
/- Blocks that stay, whole blocks, rows of elements of more than one cell (taken out of XLpile for other seats). -/
namespace Go.Proofs.YtlphmcodajookaaDoor
open Go.RowKit
/-- blocks outside of a list stay as they are -/
structure Stay (F : List Nat) (w w' : World) : Prop where
  os : w'.os = w.os
  tape : w'.tape = w.tape
  output : w'.output = w.output
  size : w.heap.size ≤ w'.heap.size
  block : ∀ i, i < w.heap.size → i ∉ F → w'.heap[i]? = w.heap[i]?
theorem Stay.refl (F : List Nat) (w : World) : Stay F w w := ⟨rfl, rfl, rfl, Nat.le_refl _, fun _ _ _ => rfl⟩
theorem Stay.trans {F : List Nat} {a b c : World} (h : Stay F a b) (k : Stay F b c) : Stay F a c :=
  ⟨k.os.trans h.os, k.tape.trans h.tape, k.output.trans h.output, Nat.le_trans h.size k.size, fun i hi hn => (k.block i (by have := h.size; omega) hn).trans (h.block i hi hn)⟩
/-- the second one may also touch what is new since the first world -/
theorem Stay.trans' {F G : List Nat} {a b c : World} (h : Stay F a b) (k : Stay G b c) (hG : ∀ g ∈ G, g ∈ F ∨ a.heap.size ≤ g) : Stay F a c :=
  ⟨k.os.trans h.os, k.tape.trans h.tape, k.output.trans h.output, Nat.le_trans h.size k.size, fun i hi hn => (k.block i (by have := h.size; omega) (fun hg => by
    rcases hG i hg with h1 | h1
    · exact hn h1
    · omega)).trans (h.block i hi hn)⟩
theorem Stay.mono {F G : List Nat} {a b : World} (h : Stay F a b) (hG : ∀ g ∈ F, g ∈ G) : Stay G a b := ⟨h.os, h.tape, h.output, h.size, fun i hi hn => h.block i hi fun hf => hn (hG i hf)⟩
theorem Stay.grown {F : List Nat} {a b : World} {row : Option Nat} (h : a.grownBy b row) (hr : ∀ g, row = some g → g ∈ F) : Stay F a b :=
  ⟨h.os, h.tape, h.output, h.size, fun i hi hn => h.block i hi fun e => hn (hr i e.symm)⟩
theorem Stay.below {F : List Nat} {a b : World} (h : Below a.heap.size a b) : Stay F a b := ⟨h.os, h.tape, h.output, h.size, fun i hi _ => h.block i hi⟩
theorem Stay.toBelow {F : List Nat} {a b : World} {B : Nat} (h : Stay F a b) (hB : B ≤ a.heap.size) (hF : ∀ g ∈ F, B ≤ g) : Below B a b :=
  ⟨h.os, h.tape, h.output, h.size, fun i hi => h.block i (by omega) fun hf => by have := hF i hf; omega⟩
theorem Stay.alloc {F : List Nat} (w : World) (o : Obj) : Stay F w (w.alloc o) := ⟨rfl, rfl, rfl, by simp, fun i hi _ => heap_alloc_old w o hi⟩
theorem Stay.drewN {F : List Nat} (w : World) (n : Nat) : Stay F w (w.drewN n) := ⟨rfl, rfl, rfl, Nat.le_refl _, fun _ _ _ => rfl⟩
theorem Stay.drew {F : List Nat} (w : World) : Stay F w w.drew := ⟨rfl, rfl, rfl, Nat.le_refl _, fun _ _ _ => rfl⟩
theorem Stay.cell_ {F : List Nat} {w w' : World} (h : Stay F w w') {a : Addr} (ha : a.block < w.heap.size) (hn : a.block ∉ F) : w'.cell? a = w.cell? a := World.cell?_of_block (h.block a.block ha hn)
theorem Stay.setCell {F : List Nat} (w : World) (p : Addr) (u : Value) (hp : p.block ∈ F) : Stay F w (w.setCell p u) :=
  Stay.grown (grown_setCell (World.grownBy.refl w (some p.block)) rfl u) fun g hg => by injection hg with hg; subst hg; exact hp
theorem Stay.set' {F : List Nat} {a b : World} {p : Addr} {u : Value} (h : Stay F a b) (hp : p.block ∈ F ∨ a.heap.size ≤ p.block) : Stay F a (b.setCell p u) :=
  h.trans' (Stay.setCell (F := [p.block]) b p u (by simp)) (fun g hg => by simp at hg; subst hg; exact hp)
theorem Stay.alloc' {F : List Nat} {a b : World} {o : Obj} (h : Stay F a b) : Stay F a (b.alloc o) := h.trans (Stay.alloc _ _)
theorem Stay.drew' {F : List Nat} {a b : World} (h : Stay F a b) : Stay F a b.drew := h.trans (Stay.drew _)
theorem Stay.drewN' {F : List Nat} {a b : World} {n : Nat} (h : Stay F a b) : Stay F a (b.drewN n) := h.trans (Stay.drewN _ _)
theorem Stay.own {F : List Nat} {w w' : World} {e : TypeId} {B : Nat} {size n : Nat} {v : Value} {xs : List Value} (h : Stay F w w') (ho : w.ownsRow B e size v n xs) (hv : ∀ g, v.ownBlock = some g → g ∉ F) : w'.ownsRow B e size v n xs := by
  refine ⟨ho.1, ?_⟩
  rcases ho.2 with hn | ⟨g, cap, cur, rfl, hb, hg, rest⟩
  · exact .inl hn
  · exact .inr ⟨g, cap, cur, rfl, hb, (h.block g (Array.getElem?_eq_some_iff.1 hg).1 (hv g rfl)).trans hg, rest⟩
/-- a block whole -/
def Blk (w : World) (b : Nat) (l : List Value) (t : TypeId) : Prop := w.heap[b]? = some (.cells l.toArray t)
theorem Blk.cell {w : World} {b : Nat} {l : List Value} {t : TypeId} (h : Blk w b l t) (k : Nat) : w.cell? ⟨b, k, none⟩ = l[k]? := by
  rw [cell_of_row w b k l.toArray t (0, 0) h]; simp
theorem Blk.free {w : World} {b : Nat} {l : List Value} {t : TypeId} (h : Blk w b l t) (k : Nat) : w.frozen? ⟨b, k, none⟩ = false := by
  unfold Blk at h; unfold World.frozen?; simp [h]
theorem Blk.lt {w : World} {b : Nat} {l : List Value} {t : TypeId} (h : Blk w b l t) : b < w.heap.size := (Array.getElem?_eq_some_iff.1 h).1
theorem Blk.new (w : World) (l : List Value) (t : TypeId) : Blk (w.alloc (.cells l.toArray t)) w.heap.size l t := heap_alloc_new w _
theorem Blk.stay {w w' : World} {b : Nat} {l : List Value} {t : TypeId} {F : List Nat} (h : Blk w b l t) (hs : Stay F w w') (hb : b ∉ F) : Blk w' b l t := (hs.block b h.lt hb).trans h
theorem Blk.set {w : World} {b : Nat} {l : List Value} {t : TypeId} (h : Blk w b l t) (k : Nat) (u : Value) : Blk (w.setCell ⟨b, k, none⟩ u) b (l.set k u) t := by
  unfold Blk at *
  have hlt := (Array.getElem?_eq_some_iff.1 h).1
  have hg := (Array.getElem?_eq_some_iff.1 h).2
  simp only [World.setCell, Array.getElem?_modify, h]
  simp
/-- a row of elements of some cells each; the block may be greater than the capacity says -/
def Row (w : World) (B : Nat) (e : TypeId) (sz g n c : Nat) (xs : List Value) : Prop :=
  xs.length = n * sz ∧ n ≤ c ∧ c ≤ maxLen ∧ B ≤ g ∧ ∃ cur, w.heap[g]? = some (.cells cur e) ∧ c * sz ≤ cur.size ∧ cur.toList.take (n * sz) = xs
section
variable {w w' : World} {B g n c sz : Nat} {e : TypeId} {xs : List Value}
theorem Row.lt (h : Row w B e sz g n c xs) : g < w.heap.size := by
  obtain ⟨_, _, _, _, cur, hg, _⟩ := h
  exact (Array.getElem?_eq_some_iff.1 hg).1
theorem Row.cell (h : Row w B e sz g n c xs) (k : Nat) (hk : k < n * sz) : w.cell? ⟨g, k, none⟩ = xs[k]? := by
  obtain ⟨hl, _, _, _, cur, hg, hs, ht⟩ := h
  rw [cell_of_row w g k cur e (0, 0) hg, ← ht, List.getElem?_take_of_lt hk]
  simp
theorem Row.free (h : Row w B e sz g n c xs) (k : Nat) : w.frozen? ⟨g, k, none⟩ = false := by
  obtain ⟨_, _, _, _, cur, hg, _⟩ := h
  unfold World.frozen?; simp [hg]
theorem Row.stay {F : List Nat} (h : Row w B e sz g n c xs) (hs : Stay F w w') (hg : g ∉ F) : Row w' B e sz g n c xs := by
  have := h.lt
  obtain ⟨h1, h2, h3, h4, cur, h5, h6⟩ := h
  exact ⟨h1, h2, h3, h4, cur, (hs.block g this hg).trans h5, h6⟩
theorem Row.cut (h : Row w B e sz g n c xs) (m c' : Nat) (hm : m ≤ n) (hc : m ≤ c') (hcc : c' ≤ c) : Row w B e sz g m c' (xs.take (m * sz)) := by
  obtain ⟨h1, h2, h3, h4, cur, h5, h6, h7⟩ := h
  have hms : m * sz ≤ n * sz := Nat.mul_le_mul_right _ hm
  refine ⟨by rw [List.length_take]; omega, hc, by omega, h4, cur, h5, Nat.le_trans (Nat.mul_le_mul_right _ hcc) h6, ?_⟩
  rw [← h7, List.take_take, Nat.min_eq_left hms]
theorem Row.new (w : World) (B : Nat) (e : TypeId) (sz n : Nat) (xs : List Value) (hl : xs.length = n * sz) (hn : n ≤ maxLen) (hB : B ≤ w.heap.size) : Row (w.alloc (.cells xs.toArray e)) B e sz w.heap.size n n xs :=
  ⟨hl, Nat.le_refl _, hn, hB, xs.toArray, heap_alloc_new w _, by simp [hl], by simp [← hl]⟩
theorem run_append_row {P : Program} (t ty : TypeId) (i : TypeInfo) (z : Value) (bytes : Nat) (ht : P.underlying t = some (.slice e)) (hi : P.info? e = some i) (hz : i.zero = some z)
    (hsize : i.size = sz) (hby : i.bytes = bytes) (hzs : z.cells.size = sz) (hrow : Row w B e sz g n c xs)
    (a : Addr) (m ca : Nat) (news : List Value) (hl : news.length = m * sz) (hnews : ∀ j u, news[j]? = some u → w.cell? (a.add j) = some u) (h1 : ∀ u ∈ news, u.oneCell' = true)
    (h63 : n + m ≤ maxLen) (hbytes : (n + m) * bytes ≤ 140737488355328) (hB : B ≤ w.heap.size) :
    ∃ g' c' w', (Builtin.append_ #[t, t] ty #[.slice (some ⟨g, 0, none⟩) n c, .slice (some a) m ca]).run P w = .ok (.slice (some ⟨g', 0, none⟩) (n + m) c') w' ∧ Row w' B e sz g' (n + m) c' (xs ++ news) ∧ Stay [g] w w' ∧ (g' = g ∨ g' = w.heap.size) := by
  subst hsize
  subst hby
  have hrl := hrow
  obtain ⟨hlx, hnc, hcm, hBg, cur, hg, hcs, htake⟩ := hrow
  by_cases hroom : n + m ≤ c
  · have hfit : n * i.size + news.length ≤ cur.size := by rw [hl, ← Nat.add_mul]; exact Nat.le_trans (Nat.mul_le_mul_right _ hroom) hcs
    have hr := run_append_room (P := P) w t ty e i ht hi g n c cur hg a m ca news hl hnews h1 hroom hfit
    refine ⟨g, c, _, hr, ⟨by rw [List.length_append, hlx, hl, Nat.add_mul], hroom, hcm, hBg, _, setRow_heap w g cur _ e _ hg, ?_, ?_⟩, ⟨rfl, rfl, rfl, by simp, fun k _ hk => setRow_other w g k _ (fun e => hk (by simp [e]))⟩, .inl rfl⟩
    · simp only [List.size_toArray, List.length_append, List.length_take, List.length_drop, Array.length_toList]
      omega
    · rw [htake]
      have : (n + m) * i.size = (xs ++ news).length := by rw [List.length_append, hlx, hl, Nat.add_mul]
      rw [this]
      exact List.take_left
  · have holds : ∀ j u, xs[j]? = some u → w.cell? ((⟨g, 0, none⟩ : Addr).add j) = some u := by
      intro j u hj
      have hjl := (List.getElem?_eq_some_iff.1 hj).1
      rw [add_lit', Nat.zero_add, hrl.cell j (by omega)]
      exact hj
    have hr := run_append_grow (P := P) w t ty e i z ht hi hz ⟨g, 0, none⟩ n c xs hlx holds a m ca news hl hnews (by omega) (by simp only [maxLen] at h63; omega) (growslice_fits (by omega) hbytes)
    have hge := grownCap_ge w (n + m) c e
    refine ⟨_, _, _, hr, ⟨by rw [List.length_append, hlx, hl, Nat.add_mul], hge, grownCap_le_maxLen w (n + m) c e h63, hB, _, heap_alloc_new w.drew _, ?_, ?_⟩, ((Stay.refl _ _).drew').alloc', .inr rfl⟩
    · simp only [Array.size_append, List.size_toArray, size_zeroCells, hzs, hlx, hl, ← Nat.add_mul]
      have : n + m + (grownCap w (n + m) c e - (n + m)) = grownCap w (n + m) c e := by omega
      rw [this]
      exact Nat.le_refl _
    · simp only [Array.toList_append, List.append_assoc]
      have : (n + m) * i.size = (xs ++ news).length := by rw [List.length_append, hlx, hl, Nat.add_mul]
      rw [← List.append_assoc, this]
      exact List.take_left
theorem wpList_append_row {P : Program} {ops : Array Oper} {rest : List Oper} {o : Oper} {ac : Act} {Q : Exit → Act → World → Prop} (hgd : o.guard = none) (s x : Operand) (t : TypeId)
    (ho : o.op = .call { callee := .builtin .append, args := #[s, x], argTypes := #[t, t] })
    (i : TypeInfo) (z : Value) (bytes : Nat) (ht : P.underlying t = some (.slice e)) (hi : P.info? e = some i) (hz : i.zero = some z)
    (hsize : i.size = sz) (hby : i.bytes = bytes) (hzs : z.cells.size = sz) (hs : ac.eval s = .slice (some ⟨g, 0, none⟩) n c) (hrow : Row w B e sz g n c xs)
    (a : Addr) (m ca : Nat) (news : List Value) (hx : ac.eval x = .slice (some a) m ca) (hl : news.length = m * sz) (hnews : ∀ j u, news[j]? = some u → w.cell? (a.add j) = some u) (h1 : ∀ u ∈ news, u.oneCell' = true)
    (h63 : n + m ≤ maxLen) (hbytes : (n + m) * bytes ≤ 140737488355328) (hB : B ≤ w.heap.size)
    (h : ∀ g' c' w', Row w' B e sz g' (n + m) c' (xs ++ news) → Stay [g] w w' → (g' = g ∨ g' = w.heap.size) → wpList P ops Q rest (ac.put o.dst (.slice (some ⟨g', 0, none⟩) (n + m) c')) w') : wpList P ops Q (o :: rest) ac w := by
  refine wpList_plain hgd fun K hK => ?_
  obtain ⟨g', c', w', hr, h2, h3, h4⟩ := run_append_row (P := P) t o.type i z bytes ht hi hz hsize hby hzs hrow a m ca news hl hnews h1 h63 hbytes hB
  unfold Oper.wp execOp
  simp only [ho, resolve, invoke, builtin, Sem.run_bind, Sem.run_pure, Result.andThen_ok, List.map_toArray, List.map_cons, List.map_nil, hs, hx, hr]
  exact hK _ _ (h g' c' w' h2 h3 h4)
theorem cells_new (w : World) (l : List Value) (t : TypeId) (b : Nat) (hb : b = w.heap.size) : ∀ j u, l[j]? = some u → (w.alloc (.cells l.toArray t)).cell? ((⟨b, 0, none⟩ : Addr).add j) = some u := by
  intro j u hj
  subst hb
  rw [add_lit', Nat.zero_add, cell_of_row (w.alloc (.cells l.toArray t)) w.heap.size j l.toArray t (0, 0) (heap_alloc_new w _)]
  simpa using hj
end
end Go.Proofs.YtlphmcodajookaaDoor
/- rows of operations that only make values (a table's literals), done at once: their values are reckoned by the kernel. -/
namespace Go.Proofs.YtlphmcodajookaaDoor
open Go
/-- the value that an operation makes -/
def stepV (P : Program) (o : Oper) (a : Act) : Option Value :=
  match o.guard, o.op with
  | none, .build t parts => (P.built t (parts.map fun (i, x) => (i, a.eval x)).toList).map .agg
  | none, .assign x => some (a.eval x)
  | none, .move x => some (a.eval x)
  | _, _ => none
def stepsV (P : Program) : List Oper → Act → Option Act
  | [], a => some a
  | o :: l, a => match stepV P o a with
    | some v => stepsV P l (a.put o.dst v)
    | none => none
theorem stepV_guard {P : Program} {o : Oper} {a : Act} {v : Value} (h : stepV P o a = some v) : o.guard = none := by
  unfold stepV at h
  cases hg : o.guard with
  | none => rfl
  | some g => rw [hg] at h; simp at h
theorem stepV_wp {P : Program} {o : Oper} {a : Act} {w : World} {v : Value} {K : Act → World → Prop} {Q : Exit → Act → World → Prop} (h : stepV P o a = some v) (k : K (a.put o.dst v) w) : o.wp P a w K Q := by
  have hg := stepV_guard h
  unfold stepV at h
  rw [hg] at h
  cases ho : o.op with
  | build t parts =>
    rw [ho] at h
    simp only at h
    cases hb : P.built t (parts.map fun (i, x) => (i, a.eval x)).toList with
    | none => rw [hb] at h; cases h
    | some cells =>
      rw [hb] at h
      simp only [Option.map_some, Option.some.injEq] at h
      subst h
      exact wp_build t parts ho (by rw [hb]; rfl) (by rw [hb]; exact k)
  | assign x =>
    rw [ho] at h
    simp only [Option.some.injEq] at h
    subst h
    unfold Oper.wp execOp
    simp only [ho, Sem.run_pure]
    exact k
  | move x =>
    rw [ho] at h
    simp only [Option.some.injEq] at h
    subst h
    unfold Oper.wp execOp
    simp only [ho, Sem.run_pure]
    exact k
  | _ => rw [ho] at h; simp at h
theorem wpList_vals {P : Program} {ops : Array Oper} {Q : Exit → Act → World → Prop} {w : World} {rest : List Oper} : ∀ (l : List Oper) (a a' : Act), stepsV P l a = some a' → wpList P ops Q rest a' w → wpList P ops Q (l ++ rest) a w
  | [], a, a', h, k => by
    injection h with h
    subst h
    exact k
  | o :: l, a, a', h, k => by
    unfold stepsV at h
    cases hv : stepV P o a with
    | none => rw [hv] at h; cases h
    | some v =>
      rw [hv] at h
      exact wpList_plain (stepV_guard hv) fun K hK => stepV_wp hv (hK _ _ (wpList_vals l _ a' h k))
theorem wpList_valsN {P : Program} {ops : Array Oper} {Q : Exit → Act → World → Prop} {w : World} (n : Nat) (l : List Oper) (a a' : Act) (h : stepsV P (l.take n) a = some a') (k : wpList P ops Q (l.drop n) a' w) : wpList P ops Q l a w := by
  have := wpList_vals (ops := ops) (Q := Q) (rest := l.drop n) (l.take n) a a' h k
  rwa [List.take_append_drop] at this
/-- a table of a function: laid, and written at once -/
theorem wpList_table {P : Program} {ops : Array Oper} {Q : Exit → Act → World → Prop} {w : World} {o1 o2 : Oper} {a : Act} (t : TypeId) (z c' : Array Value) (x y : Operand) (hg1 : o1.guard = none) (hg2 : o2.guard = none)
    (h1 : (execOp a.eval o1).run P w = .ok (.value (.pointer (some ⟨w.heap.size, 0, none⟩))) (w.alloc (.cells z t)))
    (ho2 : o2.op = .store t x y) (hx : (a.put o1.dst (.pointer (some ⟨w.heap.size, 0, none⟩))).eval x = .pointer (some ⟨w.heap.size, 0, none⟩))
    (hy : (a.put o1.dst (.pointer (some ⟨w.heap.size, 0, none⟩))).eval y = .agg c') (hi : (P.info? t).map (·.size) = some c'.size) (hz : z.size = c'.size) (hc : c'.all (·.oneCell') = true)
    (h : Q .normal ((a.put o1.dst (.pointer (some ⟨w.heap.size, 0, none⟩))).put o2.dst undef) (w.alloc (.cells c' t))) : wpList P ops Q [o1, o2] a w := by
  refine wpList_plain hg1 fun K hK => ?_
  unfold Oper.wp
  rw [h1, Oper.upon_value]
  refine hK _ _ (wpList_plain hg2 fun K2 hK2 => ?_)
  refine wp_store_row t x y ho2 w.heap.size c' hx hy t z (heap_alloc_last w _) hi hz hc ?_
  rw [World.setRow_alloc_new]
  exact hK2 _ _ h
end Go.Proofs.YtlphmcodajookaaDoor
/- A region that draws its order and whose last operations store into cells that the region loads: the loads may be taken first, since the stores wait for them. The condition on the world is asked behind every operation but those (N). -/
namespace Go.Proofs.YtlphmcodajookaaDoor
open Go
section
variable {P : Program} {ops : Array Oper} {Q : Exit → Act → World → Prop} {md : Region.Mode} {S : World → Prop} {N : List Nat}
/-- whatever order is picked: S holds behind each operation, number n left out -/
def AnyN (P : Program) (md : Region.Mode) (ops : Array Oper) (Q : Exit → Act → World → Prop) (S : World → Prop) (N : List Nat) : Nat → Array Bool → Act → World → Prop
  | 0, l, a, w => Region.ready md ops l = [] ∧ Q .normal a w
  | f + 1, l, a, w => (Region.ready md ops l = [] → Q .normal a w) ∧
      ∀ i ∈ Region.ready md ops l, wpOp P ops Q i (fun a' w' => (i ∈ N ∨ S w') ∧ AnyN P md ops Q S N f (l.setIfInBounds i true) a' w') a w
theorem AnyN.any : ∀ (f : Nat) (l : Array Bool) (a : Act) (w : World), AnyN P md ops Q S N f l a w → wpAny P md ops Q f l a w
  | 0, _, _, _, h => h
  | f + 1, _, _, _, h => ⟨h.1, fun i hi => wpOp_mono (fun a' w' k => AnyN.any f _ a' w' k.2) (h.2 i hi)⟩
/-- each waits for the one ahead of it -/
def chainB (md : Region.Mode) (ops : Array Oper) : Nat → List Nat → Bool
  | _, [] => true
  | i, j :: c => ((ops[j]?).map fun o => o.after.any fun e => Region.binds md e && e.on == i).getD false && chainB md ops j c
theorem chain_waits {l : Array Bool} : ∀ (c : List Nat) (i : Nat), chainB md ops i c = true → l.getD i false = false → (∀ k ∈ c, l.getD k true = false) → ∀ k ∈ c, k ∉ Region.ready md ops l
  | [], _, _, _, _, k, hk => by cases hk
  | j :: c, i, hb, hi, hc, k, hk => by
    simp only [chainB, Bool.and_eq_true] at hb
    rcases List.mem_cons.1 hk with rfl | hk
    · intro hr
      obtain ⟨_, o, ho, ha⟩ := mem_ready.1 hr
      have h1 := hb.1
      rw [ho] at h1
      simp only [Option.map_some, Option.getD_some] at h1
      rw [← Array.any_toList, List.any_eq_true] at h1
      obtain ⟨e, he0, h2⟩ := h1
      have he : e ∈ o.after := by simpa using he0
      simp only [Bool.and_eq_true, beq_iff_eq] at h2
      have := ha e he h2.1
      rw [h2.2, hi] at this
      cases this
    · refine chain_waits c j hb.2 ?_ (fun k hk => hc k (List.mem_cons_of_mem _ hk)) k hk
      have := hc j (List.mem_cons_self ..)
      rcases Nat.lt_or_ge j l.size with h | h
      · simpa [h] using this
      · simp [Array.getElem?_eq_none h] at this
theorem AnyN.first {i : Nat} {oi : Oper} {v : Value} {c : List Nat} (hi : ops[i]? = some oi) (hsel : ∀ (j : Nat) (o : Oper) cs b, ops[j]? = some o → o.op ≠ .select cs b)
    (hQ : ∀ c a w, Q (.panic c) (a.put oi.dst v) w → Q (.panic c) a w) (hch : chainB md ops i c = true) (hn : ∀ k ∈ N, k ∈ c) :
    ∀ (f : Nat) (l : Array Bool) (a : Act) (w : World), (∀ j oj, ops[j]? = some oj → j ≠ i → l.getD j true = false → (∀ e ∈ oj.after, Region.binds md e = true → e.on ≠ i) → oi.apart ops oj = true) →
      i ∈ Region.ready md ops l → (∀ k ∈ c, l.getD k true = false) → YieldsIf P ops S oi v a → S w → AnyN P md ops Q S N f (l.setIfInBounds i true) (a.put oi.dst v) w → AnyN P md ops Q S N (f + 1) l a w := by
  intro f
  induction f with
  | zero =>
    intro l a w _ hr _ hy hS H
    refine ⟨fun h => (by rw [h] at hr; cases hr), fun j hj => ?_⟩
    by_cases e : j = i
    · subst e; exact hy.wpOp hi hS ⟨.inr hS, H⟩
    · have := ready_mono hj e
      rw [H.1] at this
      cases this
  | succ f ih =>
    intro l a w hfree hr hc hy hS H
    refine ⟨fun h => (by rw [h] at hr; cases hr), fun j hj => ?_⟩
    by_cases e : j = i
    · subst e; exact hy.wpOp hi hS ⟨.inr hS, H⟩
    · have hun : l.getD i false = false := by
        have := (mem_ready.1 hr).1
        rcases Nat.lt_or_ge i l.size with h | h
        · simpa [h] using this
        · simp [Array.getElem?_eq_none h] at this
      have hjc : j ∉ c := fun hk => chain_waits c i hch hun hc j hk hj
      have h1 := H.2 j (ready_mono hj e)
      obtain ⟨hjl, oj, hoj, hall⟩ := mem_ready.1 hj
      have hnot : ∀ x ∈ oj.after, Region.binds md x = true → x.on ≠ i := fun x hx hb he => by
        have := hall x hx hb
        rw [he, hun] at this
        cases this
      have h2 := wpOp_putIf hoj (hfree j oj hoj e hjl hnot) (fun cs b => hsel i oi cs b hi) (fun cs b => hsel j oj cs b hoj) hQ hy h1
      refine wpOp_mono (fun a' w' h3 => ?_) h2
      have hS' : S w' := h3.2.1.resolve_left fun en => hjc (hn _ en)
      refine ⟨.inr hS', ih _ a' w' (fun k ok hk hki hkl hno => hfree k ok hk hki ?_ hno) (ready_mono hr (Ne.symm e)) (fun k hk => ?_) h3.1 hS' ?_⟩
      · by_cases ek : j = k
        · subst ek; exact hjl
        · rw [getD_set_ne true ek] at hkl; exact hkl
      · rw [getD_set_ne true (show j ≠ k from fun ek => hjc (by rw [ek]; exact hk))]; exact hc k hk
      · rw [Array.setIfInBounds_comm _ _ e]; exact h3.2.2
/-- take number i first -/
theorem AnyN.take {i : Nat} {oi : Oper} {v : Value} {f : Nat} {l : Array Bool} {a : Act} {w : World} (c : List Nat) (hi : ops[i]? = some oi)
    (hs : Region.noSelect ops = true) (hf : Region.free md ops l i = true) (hr : (Region.ready md ops l).contains i = true) (hch : (chainB md ops i c && N.all (c.contains ·) && c.all fun k => !l.getD k true) = true)
    (hQ : ∀ c a w, Q (.panic c) (a.put oi.dst v) w → Q (.panic c) a w) (hy : YieldsIf P ops S oi v a) (hS : S w)
    (h : AnyN P md ops Q S N f (l.setIfInBounds i true) (a.put oi.dst v) w) : AnyN P md ops Q S N (f + 1) l a w := by
  simp only [Bool.and_eq_true, List.all_eq_true, Bool.not_eq_true'] at hch
  exact AnyN.first hi (Region.noSelect_spec hs) hQ hch.1.1 (fun k hk => by simpa using hch.1.2 k hk) f l a w (Region.free_spec hi hf) (by simpa using hr) hch.2 hy hS h
/-- only number i may come up -/
theorem AnyN.next {i : Nat} {f : Nat} {l : Array Bool} {a : Act} {w : World} (hr : Region.ready md ops l = [i])
    (h : wpOp P ops Q i (fun a' w' => (i ∈ N ∨ S w') ∧ AnyN P md ops Q S N f (l.setIfInBounds i true) a' w') a w) : AnyN P md ops Q S N (f + 1) l a w :=
  ⟨fun h0 => by rw [h0] at hr; (cases hr), fun j hj => by rw [hr, List.mem_singleton] at hj; (subst hj; exact h)⟩
theorem AnyN.done {l : Array Bool} {a : Act} {w : World} (hr : Region.ready md ops l = []) (h : Q .normal a w) : ∀ f, AnyN P md ops Q S N f l a w
  | 0 => ⟨hr, h⟩
  | _ + 1 => ⟨fun _ => h, by rw [hr]; simp⟩
/-- the beginning -/
theorem AnyN.begin_ {id : Nat} {a : Act} {w : World} (hm : P.follows .mixedOrders = true)
    (h : AnyN P .any ops Q S N ops.size (Array.replicate ops.size false) a w.drew) : (Code.region id ops true).wp P Q a w :=
  wp_region_any hm (AnyN.any _ _ _ _ h)
/-- the condition holds behind every operation: no chain is asked -/
theorem AnyN.firstS {i : Nat} {oi : Oper} {v : Value} (hi : ops[i]? = some oi) (hsel : ∀ (j : Nat) (o : Oper) cs b, ops[j]? = some o → o.op ≠ .select cs b)
    (hQ : ∀ c a w, Q (.panic c) (a.put oi.dst v) w → Q (.panic c) a w) (hn : N = []) :
    ∀ (f : Nat) (l : Array Bool) (a : Act) (w : World), (∀ j oj, ops[j]? = some oj → j ≠ i → l.getD j true = false → (∀ e ∈ oj.after, Region.binds md e = true → e.on ≠ i) → oi.apart ops oj = true) →
      i ∈ Region.ready md ops l → YieldsIf P ops S oi v a → S w → AnyN P md ops Q S N f (l.setIfInBounds i true) (a.put oi.dst v) w → AnyN P md ops Q S N (f + 1) l a w := by
  intro f
  induction f with
  | zero =>
    intro l a w _ hr hy hS H
    refine ⟨fun h => (by rw [h] at hr; cases hr), fun j hj => ?_⟩
    by_cases e : j = i
    · subst e; exact hy.wpOp hi hS ⟨.inr hS, H⟩
    · have := ready_mono hj e
      rw [H.1] at this
      cases this
  | succ f ih =>
    intro l a w hfree hr hy hS H
    refine ⟨fun h => (by rw [h] at hr; cases hr), fun j hj => ?_⟩
    by_cases e : j = i
    · subst e; exact hy.wpOp hi hS ⟨.inr hS, H⟩
    · have hun : l.getD i false = false := by
        have := (mem_ready.1 hr).1
        rcases Nat.lt_or_ge i l.size with h | h
        · simpa [h] using this
        · simp [Array.getElem?_eq_none h] at this
      have h1 := H.2 j (ready_mono hj e)
      obtain ⟨hjl, oj, hoj, hall⟩ := mem_ready.1 hj
      have hnot : ∀ x ∈ oj.after, Region.binds md x = true → x.on ≠ i := fun x hx hb he => by
        have := hall x hx hb
        rw [he, hun] at this
        cases this
      have h2 := wpOp_putIf hoj (hfree j oj hoj e hjl hnot) (fun cs b => hsel i oi cs b hi) (fun cs b => hsel j oj cs b hoj) hQ hy h1
      refine wpOp_mono (fun a' w' h3 => ?_) h2
      have hS' : S w' := h3.2.1.resolve_left fun en => by rw [hn] at en; cases en
      refine ⟨.inr hS', ih _ a' w' (fun k ok hk hki hkl hno => hfree k ok hk hki ?_ hno) (ready_mono hr (Ne.symm e)) h3.1 hS' ?_⟩
      · by_cases ek : j = k
        · subst ek; exact hjl
        · rw [getD_set_ne true ek] at hkl; exact hkl
      · rw [Array.setIfInBounds_comm _ _ e]; exact h3.2.2
theorem AnyN.takeS {i : Nat} {oi : Oper} {v : Value} {f : Nat} {l : Array Bool} {a : Act} {w : World} (hi : ops[i]? = some oi)
    (hs : Region.noSelect ops = true) (hf : Region.free md ops l i = true) (hr : (Region.ready md ops l).contains i = true) (hn : N = [])
    (hQ : ∀ c a w, Q (.panic c) (a.put oi.dst v) w → Q (.panic c) a w) (hy : YieldsIf P ops S oi v a) (hS : S w)
    (h : AnyN P md ops Q S N f (l.setIfInBounds i true) (a.put oi.dst v) w) : AnyN P md ops Q S N (f + 1) l a w :=
  AnyN.firstS hi (Region.noSelect_spec hs) hQ hn f l a w (Region.free_spec hi hf) (by simpa using hr) hy hS h
end
end Go.Proofs.YtlphmcodajookaaDoor
/- a slice as a window of a block: address with offset, cuts, append (taken out of undo for other seats). -/
namespace Go.Proofs.YtlphmcodajookaaDoor
open Go.RowKit
/-- the blocks that an address names -/
def Ab : Option Addr → List Nat
  | none => []
  | some a => [a.block]
/-- n elements of sz cells each, room for c, in a block of the element's type -/
def Win (w : World) (B : Nat) (e : TypeId) (sz : Nat) (A : Option Addr) (n c : Nat) (xs : List Value) : Prop :=
  xs.length = n * sz ∧ n ≤ c ∧ c ≤ maxLen ∧ ((A = none ∧ c = 0) ∨ ∃ g o L, A = some ⟨g, o, none⟩ ∧ B ≤ g ∧ Blk w g L e ∧ o + c * sz ≤ L.length ∧ (L.drop o).take (n * sz) = xs)
section
variable {w w' : World} {B : Nat} {e : TypeId} {sz : Nat} {A : Option Addr} {n c : Nat} {xs : List Value} {g o : Nat}
theorem Win.nil (w : World) (B : Nat) (e : TypeId) (sz : Nat) : Win w B e sz none 0 0 [] := ⟨by simp, Nat.le_refl _, Nat.zero_le _, .inl ⟨rfl, rfl⟩⟩
theorem Win.some_ (h : Win w B e sz (some ⟨g, o, none⟩) n c xs) : ∃ L, B ≤ g ∧ Blk w g L e ∧ o + c * sz ≤ L.length ∧ (L.drop o).take (n * sz) = xs := by
  rcases h.2.2.2 with ⟨h, _⟩ | ⟨g', o', L, h1, h2, h3, h4, h5⟩
  · cases h
  · injection h1 with h1
    injection h1 with h1 h6
    subst h1 h6
    exact ⟨L, h2, h3, h4, h5⟩
theorem Win.addr (h : Win w B e sz A n c xs) (hn : 0 < n) : ∃ g o, A = some ⟨g, o, none⟩ := by
  rcases h.2.2.2 with ⟨_, h0⟩ | ⟨g, o, L, h1, _⟩
  · have := h.2.1; omega
  · exact ⟨g, o, h1⟩
theorem Win.lt (h : Win w B e sz (some ⟨g, o, none⟩) n c xs) : B ≤ g ∧ g < w.heap.size := by
  obtain ⟨L, h1, h2, _⟩ := h.some_
  exact ⟨h1, h2.lt⟩
theorem Win.ab (h : Win w B e sz A n c xs) : ∀ f ∈ Ab A, B ≤ f ∧ f < w.heap.size ∧ ∃ L, Blk w f L e := fun f hf => by
  rcases h.2.2.2 with ⟨rfl, _⟩ | ⟨g, o, L, rfl, h1, h2, _⟩
  · cases hf
  · obtain rfl : f = g := by simpa [Ab] using hf
    exact ⟨h1, h2.lt, L, h2⟩
theorem Win.cell (h : Win w B e sz (some ⟨g, o, none⟩) n c xs) (k : Nat) (u : Value) (hk : xs[k]? = some u) : w.cell? ⟨g, o + k, none⟩ = some u := by
  obtain ⟨L, _, h2, h3, h4⟩ := h.some_
  have hkl := (List.getElem?_eq_some_iff.1 hk).1
  rw [h2.cell, ← hk, ← h4, List.getElem?_take_of_lt (by rw [h.1] at hkl; exact hkl), List.getElem?_drop]
theorem Win.free (h : Win w B e sz (some ⟨g, o, none⟩) n c xs) (k : Nat) : w.frozen? ⟨g, k, none⟩ = false := by
  obtain ⟨L, _, h2, _⟩ := h.some_
  exact h2.free k
theorem Win.stay {F : List Nat} (h : Win w B e sz A n c xs) (hs : Stay F w w') (hF : ∀ g ∈ Ab A, g ∉ F) : Win w' B e sz A n c xs := by
  obtain ⟨h1, h2, h3, h4⟩ := h
  refine ⟨h1, h2, h3, ?_⟩
  rcases h4 with h | ⟨g, o, L, rfl, h5, h6, h7⟩
  · exact .inl h
  · exact .inr ⟨g, o, L, rfl, h5, h6.stay hs (hF g (by simp [Ab])), h7⟩
theorem Win.stay0 (h : Win w B e sz A n c xs) (hs : Stay [] w w') : Win w' B e sz A n c xs := h.stay hs (by simp)
theorem Win.mono {B' : Nat} (h : Win w B e sz A n c xs) (hB : B' ≤ B) : Win w B' e sz A n c xs := by
  obtain ⟨h1, h2, h3, h4⟩ := h
  refine ⟨h1, h2, h3, ?_⟩
  rcases h4 with h | ⟨g, o, L, rfl, h5, h6, h7⟩
  · exact .inl h
  · exact .inr ⟨g, o, L, rfl, by omega, h6, h7⟩
/-- l[:m:m] -/
theorem Win.front (h : Win w B e sz A n c xs) (m : Nat) (hm : m ≤ n) : Win w B e sz A m m (xs.take (m * sz)) := by
  obtain ⟨h1, h2, h3, h4⟩ := h
  have hms : m * sz ≤ n * sz := Nat.mul_le_mul_right _ hm
  refine ⟨by rw [List.length_take]; omega, Nat.le_refl _, by omega, ?_⟩
  rcases h4 with ⟨h, h0⟩ | ⟨g, o, L, rfl, h5, h6, h7, h8⟩
  · exact .inl ⟨h, by omega⟩
  · have : m * sz ≤ c * sz := Nat.mul_le_mul_right _ (by omega)
    exact .inr ⟨g, o, L, rfl, h5, h6, by omega, by rw [← h8, List.take_take, Nat.min_eq_left hms]⟩
/-- l[1:] -/
theorem Win.tail (h : Win w B e sz (some ⟨g, o, none⟩) n c xs) (hn : 1 ≤ n) : Win w B e sz (some ⟨g, o + sz, none⟩) (n - 1) (c - 1) (xs.drop sz) := by
  obtain ⟨L, h5, h6, h7, h8⟩ := h.some_
  obtain ⟨h1, h2, h3, h4⟩ := h
  have e1 : n * sz = sz + (n - 1) * sz := by obtain ⟨m, rfl⟩ : ∃ m, n = m + 1 := ⟨n - 1, by omega⟩; rw [Nat.add_mul, Nat.add_sub_cancel]; omega
  have e2 : c * sz = sz + (c - 1) * sz := by obtain ⟨m, rfl⟩ : ∃ m, c = m + 1 := ⟨c - 1, by omega⟩; rw [Nat.add_mul, Nat.add_sub_cancel]; omega
  refine ⟨by rw [List.length_drop]; omega, by omega, by omega, .inr ⟨g, o + sz, L, rfl, h5, h6, by omega, ?_⟩⟩
  rw [← h8, e1, List.drop_take, List.drop_drop]
  congr 1
  omega
/-- a cell is written -/
theorem Win.set (h : Win w B e sz (some ⟨g, o, none⟩) n c xs) (k : Nat) (u : Value) (_ : k < n * sz) : Win (w.setCell ⟨g, o + k, none⟩ u) B e sz (some ⟨g, o, none⟩) n c (xs.set k u) := by
  obtain ⟨L, h5, h6, h7, h8⟩ := h.some_
  obtain ⟨h1, h2, h3, h4⟩ := h
  have hcs : n * sz ≤ c * sz := Nat.mul_le_mul_right _ h2
  refine ⟨by rw [List.length_set]; exact h1, h2, h3, .inr ⟨g, o, L.set (o + k) u, rfl, h5, h6.set _ _, by rw [List.length_set]; exact h7, ?_⟩⟩
  rw [List.drop_set, if_neg (by omega), show o + k - o = k by omega, List.take_set, h8]
theorem Blk.sets {b : Nat} {t : TypeId} : ∀ (vs : List Value) (k : Nat) (w : World) (L : List Value), Blk w b L t → k + vs.length ≤ L.length → Blk (w.setCells b k vs) b (L.take k ++ vs ++ L.drop (k + vs.length)) t
  | [], k, w, L, h, _ => by
    simp only [World.setCells, List.append_nil, List.length_nil, Nat.add_zero, List.take_append_drop]
    exact h
  | v :: r, k, w, L, h, hk => by
    simp only [List.length_cons] at hk
    rw [World.setCells]
    have h2 := Blk.sets r (k + 1) _ _ (h.set k v) (by rw [List.length_set]; omega)
    have e : (L.set k v).take (k + 1) ++ r ++ (L.set k v).drop (k + 1 + r.length) = L.take k ++ v :: r ++ L.drop (k + (v :: r).length) := by
      rw [List.drop_set_of_lt (by omega), List.take_succ_eq_append_getElem (by rw [List.length_set]; omega), List.getElem_set_self, List.take_set_of_le (Nat.le_refl _)]
      simp only [List.length_cons, List.append_assoc, List.singleton_append]
      congr 3
      omega
    rw [e] at h2
    exact h2
theorem Stay.sets {b : Nat} {F : List Nat} (hb : b ∈ F) : ∀ (vs : List Value) (k : Nat) (w : World), Stay F w (w.setCells b k vs)
  | [], _, _ => Stay.refl _ _
  | v :: r, k, w => by rw [World.setCells]; exact (Stay.setCell _ _ _ hb).trans (Stay.sets hb r _ _)
end
/-- append, whatever room there is -/
theorem run_append_win' {P : Program} {w : World} {B : Nat} {e : TypeId} {sz : Nat} {A : Option Addr} {n c : Nat} {xs : List Value} (t ty : TypeId) (i : TypeInfo) (z : Value) (bytes : Nat) (ht : P.underlying t = some (.slice e)) (hi : P.info? e = some i) (hz : i.zero = some z)
    (hsize : i.size = sz) (hby : i.bytes = bytes) (hzs : z.cells.size = sz) (hsz : 0 < sz) (hw : Win w B e sz A n c xs)
    (a : Addr) (m ca : Nat) (news : List Value) (hl : news.length = m * sz) (hm : 0 < m) (hnews : ∀ j u, news[j]? = some u → w.cell? (a.add j) = some u) (h1 : ∀ u ∈ news, u.oneCell' = true)
    (h63 : n + m ≤ maxLen) (hbytes : (n + m) * bytes ≤ 140737488355328) (hB : B ≤ w.heap.size) :
    ∃ A' c' w', (Builtin.append_ #[t, t] ty #[.slice A n c, .slice (some a) m ca]).run P w = .ok (.slice A' (n + m) c') w' ∧ Win w' B e sz A' (n + m) c' (xs ++ news) ∧ Stay (Ab A) w w' ∧ (Ab A' = Ab A ∨ ∃ g, Ab A' = [g] ∧ w.heap.size ≤ g) ∧ (c < n + m → Stay [] w w') := by
  subst hsize
  subst hby
  obtain ⟨hxl, hnc, hcm, hA⟩ := hw
  have hlen : (xs ++ news).length = (n + m) * i.size := by rw [List.length_append, hxl, hl, Nat.add_mul]
  rcases hA with ⟨rfl, hc0⟩ | ⟨g, o, L, rfl, hBg, hblk, hroom, hread⟩
  · obtain rfl : n = 0 := by omega
    subst hc0
    obtain rfl : xs = [] := by simpa using hxl
    obtain ⟨v', w', hrun, h2, h3, _, h5⟩ := run_append_own_at (P := P) w B t ty e i z i.size i.bytes ht hi hz rfl rfl hzs hsz (.slice none 0 0) 0 [] (World.ownsRow_nil _ _ _ _) a m ca news hl hnews h1 h63 hbytes hB
    rcases h2.2 with ⟨_, h0⟩ | ⟨g, cap, cur, rfl, hb, hg, hnc', hcm', hcs, htake⟩
    · omega
    · refine ⟨_, _, w', hrun, ⟨hlen, hnc', hcm', .inr ⟨g, 0, cur.toList, rfl, hb, by unfold Blk; rw [hg], by rw [Array.length_toList]; omega, by rw [List.drop_zero]; exact htake⟩⟩, Stay.grown h3 (by simp [Value.ownBlock]), ?_, fun _ => Stay.grown h3 (by simp [Value.ownBlock])⟩
      rcases h5 with h5 | h5
      · cases h5
      · injection h5 with h5
        exact .inr ⟨g, rfl, by simp only at h5; omega⟩
  · have holds : ∀ j u, xs[j]? = some u → w.cell? ((⟨g, o, none⟩ : Addr).add j) = some u := fun j u hj => by
      rw [add_lit']
      exact Win.cell ⟨hxl, hnc, hcm, .inr ⟨g, o, L, rfl, hBg, hblk, hroom, hread⟩⟩ j u hj
    by_cases hr : n + m ≤ c
    · have hcs : (n + m) * i.size ≤ c * i.size := Nat.mul_le_mul_right _ hr
      rw [Nat.add_mul] at hcs
      have hrun := run_append_room_cells (P := P) w t ty e i ht hi g o n c a m ca news hl hnews h1 hr (fun j hj => by
        rw [hblk.cell, List.getElem?_eq_getElem (by omega)]; rfl) (fun j _ => hblk.free _)
      refine ⟨_, _, _, hrun, ⟨hlen, hr, hcm, .inr ⟨g, o, _, rfl, hBg, Blk.sets news (o + n * i.size) w L hblk (by omega), ?_, ?_⟩⟩, Stay.sets (by simp [Ab]) _ _ _, .inl rfl, fun hh => absurd hr (by omega)⟩
      · simp only [List.length_append, List.length_take, List.length_drop]
        omega
      · have e1 : (L.take (o + n * i.size)).drop o = xs := by rw [List.drop_take, Nat.add_sub_cancel_left]; exact hread
        have e2 : (L.take (o + n * i.size)).length = o + n * i.size := by rw [List.length_take]; omega
        rw [List.append_assoc, List.drop_append, e1, e2, show o - (o + n * i.size) = 0 by omega, List.drop_zero, ← List.append_assoc, ← hlen, List.take_left]
    · obtain ⟨v', w', hrun, h2, h3⟩ := run_append_arg_grows (P := P) w t ty e i z i.size i.bytes ht hi hz rfl rfl hzs hsz ⟨g, o, none⟩ n c xs hxl holds a m ca news hl hnews (by omega) h63 hbytes
      rcases h2.2 with ⟨_, h0⟩ | ⟨g', cap, cur, rfl, hb, hg, hnc', hcm', hcs, htake⟩
      · omega
      · exact ⟨_, _, w', hrun, ⟨hlen, hnc', hcm', .inr ⟨g', 0, cur.toList, rfl, by omega, by unfold Blk; rw [hg], by rw [Array.length_toList]; omega, by rw [List.drop_zero]; exact htake⟩⟩, Stay.grown h3 (by simp), .inr ⟨g', rfl, hb⟩, fun _ => Stay.grown h3 (by simp)⟩
theorem run_append_win {P : Program} {w : World} {B : Nat} {e : TypeId} {sz : Nat} {A : Option Addr} {n c : Nat} {xs : List Value} (t ty : TypeId) (i : TypeInfo) (z : Value) (bytes : Nat) (ht : P.underlying t = some (.slice e)) (hi : P.info? e = some i) (hz : i.zero = some z)
    (hsize : i.size = sz) (hby : i.bytes = bytes) (hzs : z.cells.size = sz) (hsz : 0 < sz) (hw : Win w B e sz A n c xs)
    (a : Addr) (m ca : Nat) (news : List Value) (hl : news.length = m * sz) (hm : 0 < m) (hnews : ∀ j u, news[j]? = some u → w.cell? (a.add j) = some u) (h1 : ∀ u ∈ news, u.oneCell' = true)
    (h63 : n + m ≤ maxLen) (hbytes : (n + m) * bytes ≤ 140737488355328) (hB : B ≤ w.heap.size) :
    ∃ A' c' w', (Builtin.append_ #[t, t] ty #[.slice A n c, .slice (some a) m ca]).run P w = .ok (.slice A' (n + m) c') w' ∧ Win w' B e sz A' (n + m) c' (xs ++ news) ∧ Stay (Ab A) w w' ∧ (Ab A' = Ab A ∨ ∃ g, Ab A' = [g] ∧ w.heap.size ≤ g) := by
  obtain ⟨A', c', w', h1, h2, h3, h4, _⟩ := run_append_win' t ty i z bytes ht hi hz hsize hby hzs hsz hw a m ca news hl hm hnews h1 h63 hbytes hB
  exact ⟨A', c', w', h1, h2, h3, h4⟩
theorem wp_append_win {P : Program} {w : World} {o : Oper} {ac : Act} {K : Act → World → Prop} {Q : Exit → Act → World → Prop} (s x : Operand) (t : TypeId)
    (ho : o.op = .call { callee := .builtin .append, args := #[s, x], argTypes := #[t, t] })
    (B : Nat) (e : TypeId) (sz : Nat) (i : TypeInfo) (z : Value) (bytes : Nat) (ht : P.underlying t = some (.slice e)) (hi : P.info? e = some i) (hz : i.zero = some z)
    (hsize : i.size = sz) (hby : i.bytes = bytes) (hzs : z.cells.size = sz) (hsz : 0 < sz) (A : Option Addr) (n c : Nat) (xs : List Value) (hs : ac.eval s = .slice A n c) (hw : Win w B e sz A n c xs)
    (a : Addr) (m ca : Nat) (hx : ac.eval x = .slice (some a) m ca) (news : List Value) (hl : news.length = m * sz) (hm : 0 < m) (hnews : ∀ j u, news[j]? = some u → w.cell? (a.add j) = some u) (h1 : ∀ u ∈ news, u.oneCell' = true)
    (h63 : n + m ≤ maxLen) (hbytes : (n + m) * bytes ≤ 140737488355328) (hB : B ≤ w.heap.size)
    (h : ∀ A' c' w', Win w' B e sz A' (n + m) c' (xs ++ news) → Stay (Ab A) w w' → (Ab A' = Ab A ∨ ∃ g, Ab A' = [g] ∧ w.heap.size ≤ g) → K (ac.put o.dst (.slice A' (n + m) c')) w') : o.wp P ac w K Q := by
  obtain ⟨A', c', w', hr, h2, h3, h5⟩ := run_append_win (P := P) t o.type i z bytes ht hi hz hsize hby hzs hsz hw a m ca news hl hm hnews h1 h63 hbytes hB
  unfold Oper.wp execOp
  simp only [ho, resolve, invoke, builtin, Sem.run_bind, Sem.run_pure, Result.andThen_ok, List.map_toArray, List.map_cons, List.map_nil, hs, hx, hr]
  exact h A' c' w' h2 h3 h5
/-- no room: the block stays -/
theorem wp_append_full {P : Program} {w : World} {o : Oper} {ac : Act} {K : Act → World → Prop} {Q : Exit → Act → World → Prop} (s x : Operand) (t : TypeId)
    (ho : o.op = .call { callee := .builtin .append, args := #[s, x], argTypes := #[t, t] })
    (B : Nat) (e : TypeId) (sz : Nat) (i : TypeInfo) (z : Value) (bytes : Nat) (ht : P.underlying t = some (.slice e)) (hi : P.info? e = some i) (hz : i.zero = some z)
    (hsize : i.size = sz) (hby : i.bytes = bytes) (hzs : z.cells.size = sz) (hsz : 0 < sz) (A : Option Addr) (n c : Nat) (xs : List Value) (hs : ac.eval s = .slice A n c) (hw : Win w B e sz A n c xs)
    (a : Addr) (m ca : Nat) (hx : ac.eval x = .slice (some a) m ca) (news : List Value) (hl : news.length = m * sz) (hm : 0 < m) (hnews : ∀ j u, news[j]? = some u → w.cell? (a.add j) = some u) (h1 : ∀ u ∈ news, u.oneCell' = true)
    (h63 : n + m ≤ maxLen) (hbytes : (n + m) * bytes ≤ 140737488355328) (hB : B ≤ w.heap.size) (hfull : c < n + m)
    (h : ∀ A' c' w', Win w' B e sz A' (n + m) c' (xs ++ news) → Stay [] w w' → (Ab A' = Ab A ∨ ∃ g, Ab A' = [g] ∧ w.heap.size ≤ g) → K (ac.put o.dst (.slice A' (n + m) c')) w') : o.wp P ac w K Q := by
  obtain ⟨A', c', w', hr, h2, _, h5, h3⟩ := run_append_win' (P := P) t o.type i z bytes ht hi hz hsize hby hzs hsz hw a m ca news hl hm hnews h1 h63 hbytes hB
  unfold Oper.wp execOp
  simp only [ho, resolve, invoke, builtin, Sem.run_bind, Sem.run_pure, Result.andThen_ok, List.map_toArray, List.map_cons, List.map_nil, hs, hx, hr]
  exact h A' c' w' h2 (h3 hfull) h5
theorem wpList_append_win {P : Program} {w : World} {ops : Array Oper} {rest : List Oper} {o : Oper} {ac : Act} {Q : Exit → Act → World → Prop} (hgd : o.guard = none) (s x : Operand) (t : TypeId)
    (ho : o.op = .call { callee := .builtin .append, args := #[s, x], argTypes := #[t, t] })
    (B : Nat) (e : TypeId) (sz : Nat) (i : TypeInfo) (z : Value) (bytes : Nat) (ht : P.underlying t = some (.slice e)) (hi : P.info? e = some i) (hz : i.zero = some z)
    (hsize : i.size = sz) (hby : i.bytes = bytes) (hzs : z.cells.size = sz) (hsz : 0 < sz) (A : Option Addr) (n c : Nat) (xs : List Value) (hs : ac.eval s = .slice A n c) (hw : Win w B e sz A n c xs)
    (a : Addr) (m ca : Nat) (hx : ac.eval x = .slice (some a) m ca) (news : List Value) (hl : news.length = m * sz) (hm : 0 < m) (hnews : ∀ j u, news[j]? = some u → w.cell? (a.add j) = some u) (h1 : ∀ u ∈ news, u.oneCell' = true)
    (h63 : n + m ≤ maxLen) (hbytes : (n + m) * bytes ≤ 140737488355328) (hB : B ≤ w.heap.size)
    (h : ∀ A' c' w', Win w' B e sz A' (n + m) c' (xs ++ news) → Stay (Ab A) w w' → (Ab A' = Ab A ∨ ∃ g, Ab A' = [g] ∧ w.heap.size ≤ g) → wpList P ops Q rest (ac.put o.dst (.slice A' (n + m) c')) w') : wpList P ops Q (o :: rest) ac w := by
  refine wpList_plain hgd fun K hK => ?_
  obtain ⟨A', c', w', hr, h2, h3, h5⟩ := run_append_win (P := P) t o.type i z bytes ht hi hz hsize hby hzs hsz hw a m ca news hl hm hnews h1 h63 hbytes hB
  unfold Oper.wp execOp
  simp only [ho, resolve, invoke, builtin, Sem.run_bind, Sem.run_pure, Result.andThen_ok, List.map_toArray, List.map_cons, List.map_nil, hs, hx, hr]
  exact hK _ _ (h A' c' w' h2 h3 h5)
/-- at a step of a region that draws its order -/
theorem step_append_win {P : Program} {w : World} {ops : Array Oper} {o : Oper} {ac : Act} {K : Act → World → Prop} {Q : Exit → Act → World → Prop} {E : Prop} (hgd : o.guard = none) (s x : Operand) (t : TypeId)
    (ho : o.op = .call { callee := .builtin .append, args := #[s, x], argTypes := #[t, t] })
    (B : Nat) (e : TypeId) (sz : Nat) (i : TypeInfo) (z : Value) (bytes : Nat) (ht : P.underlying t = some (.slice e)) (hi : P.info? e = some i) (hz : i.zero = some z)
    (hsize : i.size = sz) (hby : i.bytes = bytes) (hzs : z.cells.size = sz) (hsz : 0 < sz) (A : Option Addr) (n c : Nat) (xs : List Value) (hs : ac.eval s = .slice A n c) (hw : Win w B e sz A n c xs)
    (a : Addr) (m ca : Nat) (hx : ac.eval x = .slice (some a) m ca) (news : List Value) (hl : news.length = m * sz) (hm : 0 < m) (hnews : ∀ j u, news[j]? = some u → w.cell? (a.add j) = some u) (h1 : ∀ u ∈ news, u.oneCell' = true)
    (h63 : n + m ≤ maxLen) (hbytes : (n + m) * bytes ≤ 140737488355328) (hB : B ≤ w.heap.size)
    (h : ∀ A' c' w', Win w' B e sz A' (n + m) c' (xs ++ news) → Stay (Ab A) w w' → (Ab A' = Ab A ∨ ∃ g, Ab A' = [g] ∧ w.heap.size ≤ g) → K (ac.put o.dst (.slice A' (n + m) c')) w') :
    if Region.wanted o (yielded ops ac.tmps) = true then Oper.wp P o ac w K Q else E := by
  have hw2 : Region.wanted o (yielded ops ac.tmps) = true := by simp [Region.wanted, hgd]
  rw [if_pos hw2]
  exact wp_append_win s x t ho B e sz i z bytes ht hi hz hsize hby hzs hsz A n c xs hs hw a m ca hx news hl hm hnews h1 h63 hbytes hB h
end Go.Proofs.YtlphmcodajookaaDoor
