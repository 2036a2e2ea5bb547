/- Blocks that stay, whole blocks, rows of elements of more than one cell (taken out of XLpile for other seats). -/
import Derived.Test.YtbnaglkhbgfchaaInts
import Derived.Test.YtbnaglkhbgfchaaAppend2
namespace Go.Proofs.Ytbnaglkhbgfchaa
open Go.RowKit
/-- blocks outside of a list stay as they are -/
structure Stay (F : List Nat) (w w' : World) : Prop where
  os : w'.os = w.os
  tape : w'.tape = w.tape
  output : w'.output = w.output
  size : w.heap.size ≤ w'.heap.size
  block : ∀ i, i < w.heap.size → i ∉ F → w'.heap[i]? = w.heap[i]?
theorem Stay.refl (F : List Nat) (w : World) : Stay F w w := ⟨rfl, rfl, rfl, Nat.le_refl _, fun _ _ _ => rfl⟩
theorem Stay.trans {F : List Nat} {a b c : World} (h : Stay F a b) (k : Stay F b c) : Stay F a c :=
  ⟨k.os.trans h.os, k.tape.trans h.tape, k.output.trans h.output, Nat.le_trans h.size k.size, fun i hi hn => (k.block i (by have := h.size; omega) hn).trans (h.block i hi hn)⟩
/-- the second one may also touch what is new since the first world -/
theorem Stay.trans' {F G : List Nat} {a b c : World} (h : Stay F a b) (k : Stay G b c) (hG : ∀ g ∈ G, g ∈ F ∨ a.heap.size ≤ g) : Stay F a c :=
  ⟨k.os.trans h.os, k.tape.trans h.tape, k.output.trans h.output, Nat.le_trans h.size k.size, fun i hi hn => (k.block i (by have := h.size; omega) (fun hg => by
    rcases hG i hg with h1 | h1
    · exact hn h1
    · omega)).trans (h.block i hi hn)⟩
theorem Stay.mono {F G : List Nat} {a b : World} (h : Stay F a b) (hG : ∀ g ∈ F, g ∈ G) : Stay G a b := ⟨h.os, h.tape, h.output, h.size, fun i hi hn => h.block i hi fun hf => hn (hG i hf)⟩
theorem Stay.grown {F : List Nat} {a b : World} {row : Option Nat} (h : a.grownBy b row) (hr : ∀ g, row = some g → g ∈ F) : Stay F a b :=
  ⟨h.os, h.tape, h.output, h.size, fun i hi hn => h.block i hi fun e => hn (hr i e.symm)⟩
theorem Stay.below {F : List Nat} {a b : World} (h : Below a.heap.size a b) : Stay F a b := ⟨h.os, h.tape, h.output, h.size, fun i hi _ => h.block i hi⟩
theorem Stay.toBelow {F : List Nat} {a b : World} {B : Nat} (h : Stay F a b) (hB : B ≤ a.heap.size) (hF : ∀ g ∈ F, B ≤ g) : Below B a b :=
  ⟨h.os, h.tape, h.output, h.size, fun i hi => h.block i (by omega) fun hf => by have := hF i hf; omega⟩
theorem Stay.alloc {F : List Nat} (w : World) (o : Obj) : Stay F w (w.alloc o) := ⟨rfl, rfl, rfl, by simp, fun i hi _ => heap_alloc_old w o hi⟩
theorem Stay.drewN {F : List Nat} (w : World) (n : Nat) : Stay F w (w.drewN n) := ⟨rfl, rfl, rfl, Nat.le_refl _, fun _ _ _ => rfl⟩
theorem Stay.drew {F : List Nat} (w : World) : Stay F w w.drew := ⟨rfl, rfl, rfl, Nat.le_refl _, fun _ _ _ => rfl⟩
theorem Stay.cell_ {F : List Nat} {w w' : World} (h : Stay F w w') {a : Addr} (ha : a.block < w.heap.size) (hn : a.block ∉ F) : w'.cell? a = w.cell? a := World.cell?_of_block (h.block a.block ha hn)
theorem Stay.setCell {F : List Nat} (w : World) (p : Addr) (u : Value) (hp : p.block ∈ F) : Stay F w (w.setCell p u) :=
  Stay.grown (grown_setCell (World.grownBy.refl w (some p.block)) rfl u) fun g hg => by injection hg with hg; subst hg; exact hp
theorem Stay.set' {F : List Nat} {a b : World} {p : Addr} {u : Value} (h : Stay F a b) (hp : p.block ∈ F ∨ a.heap.size ≤ p.block) : Stay F a (b.setCell p u) :=
  h.trans' (Stay.setCell (F := [p.block]) b p u (by simp)) (fun g hg => by simp at hg; subst hg; exact hp)
theorem Stay.alloc' {F : List Nat} {a b : World} {o : Obj} (h : Stay F a b) : Stay F a (b.alloc o) := h.trans (Stay.alloc _ _)
theorem Stay.drew' {F : List Nat} {a b : World} (h : Stay F a b) : Stay F a b.drew := h.trans (Stay.drew _)
theorem Stay.drewN' {F : List Nat} {a b : World} {n : Nat} (h : Stay F a b) : Stay F a (b.drewN n) := h.trans (Stay.drewN _ _)
theorem Stay.own {F : List Nat} {w w' : World} {e : TypeId} {B : Nat} {size n : Nat} {v : Value} {xs : List Value} (h : Stay F w w') (ho : w.ownsRow B e size v n xs) (hv : ∀ g, v.ownBlock = some g → g ∉ F) : w'.ownsRow B e size v n xs := by
  refine ⟨ho.1, ?_⟩
  rcases ho.2 with hn | ⟨g, cap, cur, rfl, hb, hg, rest⟩
  · exact .inl hn
  · exact .inr ⟨g, cap, cur, rfl, hb, (h.block g (Array.getElem?_eq_some_iff.1 hg).1 (hv g rfl)).trans hg, rest⟩
/-- a block whole -/
def Blk (w : World) (b : Nat) (l : List Value) (t : TypeId) : Prop := w.heap[b]? = some (.cells l.toArray t)
theorem Blk.cell {w : World} {b : Nat} {l : List Value} {t : TypeId} (h : Blk w b l t) (k : Nat) : w.cell? ⟨b, k, none⟩ = l[k]? := by
  rw [cell_of_row w b k l.toArray t (0, 0) h]; simp
theorem Blk.free {w : World} {b : Nat} {l : List Value} {t : TypeId} (h : Blk w b l t) (k : Nat) : w.frozen? ⟨b, k, none⟩ = false := by
  unfold Blk at h; unfold World.frozen?; simp [h]
theorem Blk.lt {w : World} {b : Nat} {l : List Value} {t : TypeId} (h : Blk w b l t) : b < w.heap.size := (Array.getElem?_eq_some_iff.1 h).1
theorem Blk.new (w : World) (l : List Value) (t : TypeId) : Blk (w.alloc (.cells l.toArray t)) w.heap.size l t := heap_alloc_new w _
theorem Blk.stay {w w' : World} {b : Nat} {l : List Value} {t : TypeId} {F : List Nat} (h : Blk w b l t) (hs : Stay F w w') (hb : b ∉ F) : Blk w' b l t := (hs.block b h.lt hb).trans h
theorem Blk.set {w : World} {b : Nat} {l : List Value} {t : TypeId} (h : Blk w b l t) (k : Nat) (u : Value) : Blk (w.setCell ⟨b, k, none⟩ u) b (l.set k u) t := by
  unfold Blk at *
  have hlt := (Array.getElem?_eq_some_iff.1 h).1
  have hg := (Array.getElem?_eq_some_iff.1 h).2
  simp only [World.setCell, Array.getElem?_modify, h]
  simp
/-- a row of elements of some cells each; the block may be greater than the capacity says -/
def Row (w : World) (B : Nat) (e : TypeId) (sz g n c : Nat) (xs : List Value) : Prop :=
  xs.length = n * sz ∧ n ≤ c ∧ c ≤ maxLen ∧ B ≤ g ∧ ∃ cur, w.heap[g]? = some (.cells cur e) ∧ c * sz ≤ cur.size ∧ cur.toList.take (n * sz) = xs
section
variable {w w' : World} {B g n c sz : Nat} {e : TypeId} {xs : List Value}
theorem Row.lt (h : Row w B e sz g n c xs) : g < w.heap.size := by
  obtain ⟨_, _, _, _, cur, hg, _⟩ := h
  exact (Array.getElem?_eq_some_iff.1 hg).1
theorem Row.cell (h : Row w B e sz g n c xs) (k : Nat) (hk : k < n * sz) : w.cell? ⟨g, k, none⟩ = xs[k]? := by
  obtain ⟨hl, _, _, _, cur, hg, hs, ht⟩ := h
  rw [cell_of_row w g k cur e (0, 0) hg, ← ht, List.getElem?_take_of_lt hk]
  simp
theorem Row.free (h : Row w B e sz g n c xs) (k : Nat) : w.frozen? ⟨g, k, none⟩ = false := by
  obtain ⟨_, _, _, _, cur, hg, _⟩ := h
  unfold World.frozen?; simp [hg]
theorem Row.stay {F : List Nat} (h : Row w B e sz g n c xs) (hs : Stay F w w') (hg : g ∉ F) : Row w' B e sz g n c xs := by
  have := h.lt
  obtain ⟨h1, h2, h3, h4, cur, h5, h6⟩ := h
  exact ⟨h1, h2, h3, h4, cur, (hs.block g this hg).trans h5, h6⟩
theorem Row.cut (h : Row w B e sz g n c xs) (m c' : Nat) (hm : m ≤ n) (hc : m ≤ c') (hcc : c' ≤ c) : Row w B e sz g m c' (xs.take (m * sz)) := by
  obtain ⟨h1, h2, h3, h4, cur, h5, h6, h7⟩ := h
  have hms : m * sz ≤ n * sz := Nat.mul_le_mul_right _ hm
  refine ⟨by rw [List.length_take]; omega, hc, by omega, h4, cur, h5, Nat.le_trans (Nat.mul_le_mul_right _ hcc) h6, ?_⟩
  rw [← h7, List.take_take, Nat.min_eq_left hms]
theorem Row.new (w : World) (B : Nat) (e : TypeId) (sz n : Nat) (xs : List Value) (hl : xs.length = n * sz) (hn : n ≤ maxLen) (hB : B ≤ w.heap.size) : Row (w.alloc (.cells xs.toArray e)) B e sz w.heap.size n n xs :=
  ⟨hl, Nat.le_refl _, hn, hB, xs.toArray, heap_alloc_new w _, by simp [hl], by simp [← hl]⟩
theorem run_append_row {P : Program} (t ty : TypeId) (i : TypeInfo) (z : Value) (bytes : Nat) (ht : P.underlying t = some (.slice e)) (hi : P.info? e = some i) (hz : i.zero = some z)
    (hsize : i.size = sz) (hby : i.bytes = bytes) (hzs : z.cells.size = sz) (hrow : Row w B e sz g n c xs)
    (a : Addr) (m ca : Nat) (news : List Value) (hl : news.length = m * sz) (hnews : ∀ j u, news[j]? = some u → w.cell? (a.add j) = some u) (h1 : ∀ u ∈ news, u.oneCell' = true)
    (h63 : n + m ≤ maxLen) (hbytes : (n + m) * bytes ≤ 140737488355328) (hB : B ≤ w.heap.size) :
    ∃ g' c' w', (Builtin.append_ #[t, t] ty #[.slice (some ⟨g, 0, none⟩) n c, .slice (some a) m ca]).run P w = .ok (.slice (some ⟨g', 0, none⟩) (n + m) c') w' ∧ Row w' B e sz g' (n + m) c' (xs ++ news) ∧ Stay [g] w w' ∧ (g' = g ∨ g' = w.heap.size) := by
  subst hsize
  subst hby
  have hrl := hrow
  obtain ⟨hlx, hnc, hcm, hBg, cur, hg, hcs, htake⟩ := hrow
  by_cases hroom : n + m ≤ c
  · have hfit : n * i.size + news.length ≤ cur.size := by rw [hl, ← Nat.add_mul]; exact Nat.le_trans (Nat.mul_le_mul_right _ hroom) hcs
    have hr := run_append_room (P := P) w t ty e i ht hi g n c cur hg a m ca news hl hnews h1 hroom hfit
    refine ⟨g, c, _, hr, ⟨by rw [List.length_append, hlx, hl, Nat.add_mul], hroom, hcm, hBg, _, setRow_heap w g cur _ e _ hg, ?_, ?_⟩, ⟨rfl, rfl, rfl, by simp, fun k _ hk => setRow_other w g k _ (fun e => hk (by simp [e]))⟩, .inl rfl⟩
    · simp only [List.size_toArray, List.length_append, List.length_take, List.length_drop, Array.length_toList]
      omega
    · rw [htake]
      have : (n + m) * i.size = (xs ++ news).length := by rw [List.length_append, hlx, hl, Nat.add_mul]
      rw [this]
      exact List.take_left
  · have holds : ∀ j u, xs[j]? = some u → w.cell? ((⟨g, 0, none⟩ : Addr).add j) = some u := by
      intro j u hj
      have hjl := (List.getElem?_eq_some_iff.1 hj).1
      rw [add_lit', Nat.zero_add, hrl.cell j (by omega)]
      exact hj
    have hr := run_append_grow (P := P) w t ty e i z ht hi hz ⟨g, 0, none⟩ n c xs hlx holds a m ca news hl hnews (by omega) (by simp only [maxLen] at h63; omega) (growslice_fits (by omega) hbytes)
    have hge := grownCap_ge w (n + m) c e
    refine ⟨_, _, _, hr, ⟨by rw [List.length_append, hlx, hl, Nat.add_mul], hge, grownCap_le_maxLen w (n + m) c e h63, hB, _, heap_alloc_new w.drew _, ?_, ?_⟩, ((Stay.refl _ _).drew').alloc', .inr rfl⟩
    · simp only [Array.size_append, List.size_toArray, size_zeroCells, hzs, hlx, hl, ← Nat.add_mul]
      have : n + m + (grownCap w (n + m) c e - (n + m)) = grownCap w (n + m) c e := by omega
      rw [this]
      exact Nat.le_refl _
    · simp only [Array.toList_append, List.append_assoc]
      have : (n + m) * i.size = (xs ++ news).length := by rw [List.length_append, hlx, hl, Nat.add_mul]
      rw [← List.append_assoc, this]
      exact List.take_left
theorem wpList_append_row {P : Program} {ops : Array Oper} {rest : List Oper} {o : Oper} {ac : Act} {Q : Exit → Act → World → Prop} (hgd : o.guard = none) (s x : Operand) (t : TypeId)
    (ho : o.op = .call { callee := .builtin .append, args := #[s, x], argTypes := #[t, t] })
    (i : TypeInfo) (z : Value) (bytes : Nat) (ht : P.underlying t = some (.slice e)) (hi : P.info? e = some i) (hz : i.zero = some z)
    (hsize : i.size = sz) (hby : i.bytes = bytes) (hzs : z.cells.size = sz) (hs : ac.eval s = .slice (some ⟨g, 0, none⟩) n c) (hrow : Row w B e sz g n c xs)
    (a : Addr) (m ca : Nat) (news : List Value) (hx : ac.eval x = .slice (some a) m ca) (hl : news.length = m * sz) (hnews : ∀ j u, news[j]? = some u → w.cell? (a.add j) = some u) (h1 : ∀ u ∈ news, u.oneCell' = true)
    (h63 : n + m ≤ maxLen) (hbytes : (n + m) * bytes ≤ 140737488355328) (hB : B ≤ w.heap.size)
    (h : ∀ g' c' w', Row w' B e sz g' (n + m) c' (xs ++ news) → Stay [g] w w' → (g' = g ∨ g' = w.heap.size) → wpList P ops Q rest (ac.put o.dst (.slice (some ⟨g', 0, none⟩) (n + m) c')) w') : wpList P ops Q (o :: rest) ac w := by
  refine wpList_plain hgd fun K hK => ?_
  obtain ⟨g', c', w', hr, h2, h3, h4⟩ := run_append_row (P := P) t o.type i z bytes ht hi hz hsize hby hzs hrow a m ca news hl hnews h1 h63 hbytes hB
  unfold Oper.wp execOp
  simp only [ho, resolve, invoke, builtin, Sem.run_bind, Sem.run_pure, Result.andThen_ok, List.map_toArray, List.map_cons, List.map_nil, hs, hx, hr]
  exact hK _ _ (h g' c' w' h2 h3 h4)
theorem cells_new (w : World) (l : List Value) (t : TypeId) (b : Nat) (hb : b = w.heap.size) : ∀ j u, l[j]? = some u → (w.alloc (.cells l.toArray t)).cell? ((⟨b, 0, none⟩ : Addr).add j) = some u := by
  intro j u hj
  subst hb
  rw [add_lit', Nat.zero_add, cell_of_row (w.alloc (.cells l.toArray t)) w.heap.size j l.toArray t (0, 0) (heap_alloc_new w _)]
  simpa using hj
end
end Go.Proofs.Ytbnaglkhbgfchaa
