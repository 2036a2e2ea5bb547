/- clear, copy, make at elements of any number of cells, in a block that is held whole (for all seats). -/
import Derived.Test.YtjoeebjmjnddoaaStay
import Derived.Laws.CopyRow
import Derived.Laws.MakeOwn
namespace Go.Proofs.Ytjoeebjmjnddoaa
open Go.RowKit
theorem Blk.row_ {w : World} {b : Nat} {L : List Value} {t : TypeId} (h : Blk w b L t) (M : List Value) : Blk (w.setRow b M.toArray) b M t := setRow_heap w b _ _ t (0, 0) h
theorem Stay.row_ {F : List Nat} {w w' : World} (h : Stay F w w') (b : Nat) (cs : Array Value) (hb : b ∈ F ∨ w.heap.size ≤ b) : Stay F w (w'.setRow b cs) :=
  h.trans' (G := [b]) ⟨rfl, rfl, rfl, by simp [World.setRow], fun i _ hn => setRow_other w' b i cs (by simpa using hn)⟩ (fun g hg => by simp at hg; subst hg; exact hb)
theorem Stay.new_ {F : List Nat} {a b c : World} {row : Option Nat} (h : Stay F a b) (hg : b.grownBy c row) (hr : ∀ g, row = some g → g ∈ F ∨ a.heap.size ≤ g) : Stay F a c :=
  h.trans' (G := row.toList) (Stay.grown hg (by intro g hg; simp [hg])) (by intro g hg; simp at hg; exact hr g hg)
theorem Blk.grown {w w' : World} {b : Nat} {L : List Value} {t : TypeId} {row : Option Nat} (h : Blk w b L t) (hg : w.grownBy w' row) (hr : row ≠ some b) : Blk w' b L t :=
  (hg.block b h.lt (fun e => hr e.symm)).trans h
theorem ownsRow_mono {w : World} {base base' : Nat} {e : TypeId} {size : Nat} {v : Value} {n : Nat} {xs : List Value} (h : w.ownsRow base e size v n xs) (hb : base' ≤ base) : w.ownsRow base' e size v n xs := by
  refine ⟨h.1, ?_⟩
  rcases h.2 with hn | ⟨g, cap, cur, hv, hb', rest⟩
  · exact .inl hn
  · exact .inr ⟨g, cap, cur, hv, by omega, rest⟩
theorem zeroCells_list (z : Array Value) : ∀ n, (Builtin.zeroCells z n).toList = (List.replicate n z.toList).flatten
  | 0 => by simp [Builtin.zeroCells]
  | n + 1 => by
    have ih := zeroCells_list z n
    unfold Builtin.zeroCells at ih ⊢
    rw [List.replicate_succ', List.flatten_append, ← ih]
    have e : (n + 1) * z.size = n * z.size + z.size := Nat.succ_mul n z.size
    simp only [Array.toList_map, Array.toList_range, e, List.range_add, List.map_append, List.flatten_cons, List.flatten_nil, List.append_nil]
    congr 1
    apply List.ext_getElem
    · simp
    · intro i h1 h2
      have hi : i < z.size := by simpa using h1
      simp only [List.getElem_map, List.getElem_range]
      have : (n * z.size + i) % z.size = i := by rw [Nat.mul_comm, Nat.mul_add_mod, Nat.mod_eq_of_lt hi]
      rw [this]
      simp [hi]
theorem madeCells_eq (z : Array Value) (n : Nat) : madeCells z (n * z.size) = Builtin.zeroCells z n := rfl
theorem box_cell (w : World) (A : Array Value) (t : TypeId) (j : Nat) (u : Value) (h : A[j]? = some u) : (w.alloc (.cells A t)).cell? ⟨w.heap.size, j, none⟩ = some u := by
  rw [cell_of_row (w.alloc (.cells A t)) w.heap.size j A t (0, 0) (heap_alloc_new w _)]
  exact h
section
variable {P : Program}
theorem run_clear_blk (w : World) (t e ty : TypeId) (i : TypeInfo) (z : Value) (ht : P.underlying t = some (.slice e)) (hi : P.info? e = some i) (hz : i.zero = some z) (h1 : ∀ v ∈ z.cells.toList, v.oneCell' = true)
    (b o n c : Nat) (L : List Value) (t' : TypeId) (h : Blk w b L t') (hfit : o + n * z.cells.size ≤ L.length) :
    (Builtin.clear_ #[t] ty #[.slice (some ⟨b, o, none⟩) n c]).run P w = .ok (.tuple #[]) (w.setRow b (L.take o ++ (List.replicate n z.cells.toList).flatten ++ L.drop (o + n * z.cells.size)).toArray) := by
  cases n with
  | zero =>
    simp only [Nat.zero_mul, Nat.add_zero, List.replicate_zero, List.flatten_nil, List.append_nil, List.take_append_drop]
    rw [setRow_self w b L.toArray t' (0, 0) h]
    simp [Builtin.clear_, run_underlying ht]
  | succ m =>
    have hv : ∀ w, (zeroValue e).run P w = .ok z w := fun w => by simp [zeroValue, typeInfo, hi, hz]
    have hzl : ((Builtin.zeroCells z.cells (m + 1)).toList).length = (m + 1) * z.cells.size := by simp [Builtin.zeroCells]
    have hst := run_storeCells_at P b o t' (Builtin.zeroCells z.cells (m + 1)).toList 0 L.toArray w h (by rw [hzl]; simpa using hfit) (by
      intro v hv'
      rw [zeroCells_list] at hv'
      obtain ⟨l, hl, hvl⟩ := List.mem_flatten.1 hv'
      rw [List.eq_of_mem_replicate hl] at hvl
      exact h1 v hvl)
    rw [hzl, zeroCells_list] at hst
    simp only [Nat.add_zero] at hst
    simp [Builtin.clear_, run_underlying ht, hv, zeroCells_list, hst]
theorem wpList_clear_blk {w : World} {ops : Array Oper} {rest : List Oper} {o' : Oper} {ac : Act} {Q : Exit → Act → World → Prop} (hgd : o'.guard = none) (s : Operand) (t : TypeId)
    (ho : o'.op = .call { callee := .builtin .clear, args := #[s], argTypes := #[t] })
    (e : TypeId) (i : TypeInfo) (z : Value) (ht : P.underlying t = some (.slice e)) (hi : P.info? e = some i) (hz : i.zero = some z) (h1 : ∀ v ∈ z.cells.toList, v.oneCell' = true)
    (b o n c : Nat) (hs : ac.eval s = .slice (some ⟨b, o, none⟩) n c) (L : List Value) (t' : TypeId) (h : Blk w b L t') (hfit : o + n * z.cells.size ≤ L.length)
    (hn : ∀ w', Blk w' b (L.take o ++ (List.replicate n z.cells.toList).flatten ++ L.drop (o + n * z.cells.size)) t' → Stay [b] w w' → wpList P ops Q rest (ac.put o'.dst (.tuple #[])) w') : wpList P ops Q (o' :: rest) ac w := by
  refine wpList_plain hgd fun K hK => ?_
  have hr := run_clear_blk (P := P) w t e o'.type i z ht hi hz h1 b o n c L t' h hfit
  unfold Oper.wp execOp
  simp only [ho, resolve, invoke, builtin, Sem.run_bind, Sem.run_pure, Result.andThen_ok, List.map_toArray, List.map_cons, List.map_nil, hs, hr]
  exact hK _ _ (hn _ (h.row_ _) ((Stay.refl _ _).row_ b _ (.inl (by simp))))
theorem run_copy_blk (w : World) (dT sT ty elem : TypeId) (sz : Nat) (hu : P.underlying dT = some (.slice elem)) (hs : (P.info? elem).map (·.size) = some sz) (g o dLen dCap : Nat) (L : List Value) (t : TypeId) (h : Blk w g L t)
    (a : Addr) (sLen sCap : Nat) (cs : List Value) (hn : cs.length = Nat.min sLen dLen * sz) (hsrc : ∀ j v, cs[j]? = some v → w.cell? (a.add j) = some v) (hfit : o + cs.length ≤ L.length) (h1 : ∀ v ∈ cs, v.oneCell' = true) :
    (Builtin.copy_ #[dT, sT] ty #[.slice (some ⟨g, o, none⟩) dLen dCap, .slice (some a) sLen sCap]).run P w =
      .ok (goInt (Nat.min sLen dLen)) (w.setRow g (L.take o ++ cs ++ L.drop (o + cs.length)).toArray) := by
  have hl := run_loadCells_list (P := P) w a cs hsrc
  have hst := run_storeCells_at P g o t cs 0 L.toArray w h (by simpa using hfit) h1
  cases hq : P.info? elem with
  | none => simp [hq] at hs
  | some i =>
    have hi : i.size = sz := by simpa [hq] using hs
    simp [Builtin.copy_, run_underlying hu, Builtin.lenOf, Builtin.firstCells, sizeOf, typeInfo, hq, hi, ← hn, hl, hst]
theorem wpList_copy_blk {w : World} {ops : Array Oper} {rest : List Oper} {o' : Oper} {ac : Act} {Q : Exit → Act → World → Prop} (hgd : o'.guard = none) (s x : Operand) (dT sT : TypeId)
    (ho : o'.op = .call { callee := .builtin .copy, args := #[s, x], argTypes := #[dT, sT] })
    (elem : TypeId) (sz : Nat) (hu : P.underlying dT = some (.slice elem)) (hz : (P.info? elem).map (·.size) = some sz) (g o dLen dCap : Nat) (hs : ac.eval s = .slice (some ⟨g, o, none⟩) dLen dCap)
    (a : Addr) (sLen sCap : Nat) (hx : ac.eval x = .slice (some a) sLen sCap) (L : List Value) (t : TypeId) (h : Blk w g L t)
    (cs : List Value) (hn : cs.length = Nat.min sLen dLen * sz) (hsrc : ∀ j v, cs[j]? = some v → w.cell? (a.add j) = some v) (hfit : o + cs.length ≤ L.length) (h1 : ∀ v ∈ cs, v.oneCell' = true)
    (hk : ∀ w', Blk w' g (L.take o ++ cs ++ L.drop (o + cs.length)) t → Stay [g] w w' → wpList P ops Q rest (ac.put o'.dst (goInt (Nat.min sLen dLen))) w') : wpList P ops Q (o' :: rest) ac w := by
  refine wpList_plain hgd fun K hK => ?_
  have hr := run_copy_blk (P := P) w dT sT o'.type elem sz hu hz g o dLen dCap L t h a sLen sCap cs hn hsrc hfit h1
  unfold Oper.wp execOp
  simp only [ho, resolve, invoke, builtin, Sem.run_bind, Sem.run_pure, Result.andThen_ok, List.map_toArray, List.map_cons, List.map_nil, hs, hx, hr]
  exact hK _ _ (hk _ (h.row_ _) ((Stay.refl _ _).row_ g _ (.inl (by simp))))
theorem wpList_append_z {w : World} {ops : Array Oper} {rest : List Oper} {o : Oper} {ac : Act} {Q : Exit → Act → World → Prop} (hgd : o.guard = none) (s x : Operand) (t : TypeId)
    (ho : o.op = .call { callee := .builtin .append, args := #[s, x], argTypes := #[t, t] })
    (base : Nat) (e : TypeId) (i : TypeInfo) (z : Value) (size bytes : Nat) (ht : P.underlying t = some (.slice e)) (hi : P.info? e = some i) (hz : i.zero = some z)
    (hsize : i.size = size) (hby : i.bytes = bytes) (hzs : z.cells.size = size) (hsz : 0 < size) (v : Value) (n : Nat) (xs : List Value) (hs : ac.eval s = v) (hown : w.ownsRow base e size v n xs)
    (a : Addr) (m c : Nat) (hx : ac.eval x = .slice (some a) m c) (news : List Value) (hl : news.length = m * size) (hnews : ∀ j u, news[j]? = some u → w.cell? (a.add j) = some u) (h1 : ∀ u ∈ news, u.oneCell' = true)
    (h63 : n + m ≤ maxLen) (hbytes : (n + m) * bytes ≤ 140737488355328) (hbase : base ≤ w.heap.size)
    (h : ∀ A' c' w', w'.ownsRow base e size (.slice A' (n + m) c') (n + m) (xs ++ news) → w.grownBy w' v.ownBlock → ((Value.slice A' (n + m) c').ownBlock = v.ownBlock ∨ (Value.slice A' (n + m) c').ownBlock = some w.heap.size) → wpList P ops Q rest (ac.put o.dst (.slice A' (n + m) c')) w') : wpList P ops Q (o :: rest) ac w := by
  refine wpList_plain hgd fun K hK => ?_
  obtain ⟨v', w', hr, h2, h3, _, h5⟩ := run_append_own_at (P := P) w base t o.type e i z size bytes ht hi hz hsize hby hzs hsz v n xs hown a m c news hl hnews h1 h63 hbytes hbase
  obtain ⟨A', c', rfl⟩ : ∃ A' c', v' = .slice A' (n + m) c' := by
    rcases h2.2 with ⟨h, h0⟩ | ⟨g, cap, cur, h, _⟩
    · exact ⟨none, 0, by rw [h, h0]⟩
    · exact ⟨_, _, h⟩
  unfold Oper.wp execOp
  simp only [ho, resolve, invoke, builtin, Sem.run_bind, Sem.run_pure, Result.andThen_ok, List.map_toArray, List.map_cons, List.map_nil, hs, hx, hr]
  exact hK _ _ (h A' c' w' h2 h3 h5)
end
end Go.Proofs.Ytjoeebjmjnddoaa
