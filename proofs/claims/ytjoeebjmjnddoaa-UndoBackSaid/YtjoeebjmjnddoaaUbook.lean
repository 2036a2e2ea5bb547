/- package undo: windows, the book in memory, look, last, forget, the closures, what turn keeps, the book between two steps. -/
import Derived.Test.YtjoeebjmjnddoaaRback0
import Derived.ArgAppend
import Derived.Test.YtjoeebjmjnddoaaRlast
import Derived.Deep.DeepCutAuto
import Derived.Deep.CutBlock
namespace Go.Proofs.Ytjoeebjmjnddoaa
open Go.RowKit
/-- the blocks that an address names -/
def Ab : Option Addr → List Nat
  | none => []
  | some a => [a.block]
/-- n elements of sz cells each, room for c, in a block of the element's type -/
def Win (w : World) (B : Nat) (e : TypeId) (sz : Nat) (A : Option Addr) (n c : Nat) (xs : List Value) : Prop :=
  xs.length = n * sz ∧ n ≤ c ∧ c ≤ maxLen ∧ ((A = none ∧ c = 0) ∨ ∃ g o L, A = some ⟨g, o, none⟩ ∧ B ≤ g ∧ Blk w g L e ∧ o + c * sz ≤ L.length ∧ (L.drop o).take (n * sz) = xs)
section
variable {w w' : World} {B : Nat} {e : TypeId} {sz : Nat} {A : Option Addr} {n c : Nat} {xs : List Value} {g o : Nat}
theorem Win.nil (w : World) (B : Nat) (e : TypeId) (sz : Nat) : Win w B e sz none 0 0 [] := ⟨by simp, Nat.le_refl _, Nat.zero_le _, .inl ⟨rfl, rfl⟩⟩
theorem Win.some_ (h : Win w B e sz (some ⟨g, o, none⟩) n c xs) : ∃ L, B ≤ g ∧ Blk w g L e ∧ o + c * sz ≤ L.length ∧ (L.drop o).take (n * sz) = xs := by
  rcases h.2.2.2 with ⟨h, _⟩ | ⟨g', o', L, h1, h2, h3, h4, h5⟩
  · cases h
  · injection h1 with h1
    injection h1 with h1 h6
    subst h1 h6
    exact ⟨L, h2, h3, h4, h5⟩
theorem Win.addr (h : Win w B e sz A n c xs) (hn : 0 < n) : ∃ g o, A = some ⟨g, o, none⟩ := by
  rcases h.2.2.2 with ⟨_, h0⟩ | ⟨g, o, L, h1, _⟩
  · have := h.2.1; omega
  · exact ⟨g, o, h1⟩
theorem Win.lt (h : Win w B e sz (some ⟨g, o, none⟩) n c xs) : B ≤ g ∧ g < w.heap.size := by
  obtain ⟨L, h1, h2, _⟩ := h.some_
  exact ⟨h1, h2.lt⟩
theorem Win.ab (h : Win w B e sz A n c xs) : ∀ f ∈ Ab A, B ≤ f ∧ f < w.heap.size ∧ ∃ L, Blk w f L e := fun f hf => by
  rcases h.2.2.2 with ⟨rfl, _⟩ | ⟨g, o, L, rfl, h1, h2, _⟩
  · cases hf
  · obtain rfl : f = g := by simpa [Ab] using hf
    exact ⟨h1, h2.lt, L, h2⟩
theorem Win.cell (h : Win w B e sz (some ⟨g, o, none⟩) n c xs) (k : Nat) (u : Value) (hk : xs[k]? = some u) : w.cell? ⟨g, o + k, none⟩ = some u := by
  obtain ⟨L, _, h2, h3, h4⟩ := h.some_
  have hkl := (List.getElem?_eq_some_iff.1 hk).1
  rw [h2.cell, ← hk, ← h4, List.getElem?_take_of_lt (by rw [h.1] at hkl; exact hkl), List.getElem?_drop]
theorem Win.free (h : Win w B e sz (some ⟨g, o, none⟩) n c xs) (k : Nat) : w.frozen? ⟨g, k, none⟩ = false := by
  obtain ⟨L, _, h2, _⟩ := h.some_
  exact h2.free k
theorem Win.stay {F : List Nat} (h : Win w B e sz A n c xs) (hs : Stay F w w') (hF : ∀ g ∈ Ab A, g ∉ F) : Win w' B e sz A n c xs := by
  obtain ⟨h1, h2, h3, h4⟩ := h
  refine ⟨h1, h2, h3, ?_⟩
  rcases h4 with h | ⟨g, o, L, rfl, h5, h6, h7⟩
  · exact .inl h
  · exact .inr ⟨g, o, L, rfl, h5, h6.stay hs (hF g (by simp [Ab])), h7⟩
theorem Win.stay0 (h : Win w B e sz A n c xs) (hs : Stay [] w w') : Win w' B e sz A n c xs := h.stay hs (by simp)
theorem Win.mono {B' : Nat} (h : Win w B e sz A n c xs) (hB : B' ≤ B) : Win w B' e sz A n c xs := by
  obtain ⟨h1, h2, h3, h4⟩ := h
  refine ⟨h1, h2, h3, ?_⟩
  rcases h4 with h | ⟨g, o, L, rfl, h5, h6, h7⟩
  · exact .inl h
  · exact .inr ⟨g, o, L, rfl, by omega, h6, h7⟩
/-- l[:m:m] -/
theorem Win.front (h : Win w B e sz A n c xs) (m : Nat) (hm : m ≤ n) : Win w B e sz A m m (xs.take (m * sz)) := by
  obtain ⟨h1, h2, h3, h4⟩ := h
  have hms : m * sz ≤ n * sz := Nat.mul_le_mul_right _ hm
  refine ⟨by rw [List.length_take]; omega, Nat.le_refl _, by omega, ?_⟩
  rcases h4 with ⟨h, h0⟩ | ⟨g, o, L, rfl, h5, h6, h7, h8⟩
  · exact .inl ⟨h, by omega⟩
  · have : m * sz ≤ c * sz := Nat.mul_le_mul_right _ (by omega)
    exact .inr ⟨g, o, L, rfl, h5, h6, by omega, by rw [← h8, List.take_take, Nat.min_eq_left hms]⟩
/-- l[1:] -/
theorem Win.tail (h : Win w B e sz (some ⟨g, o, none⟩) n c xs) (hn : 1 ≤ n) : Win w B e sz (some ⟨g, o + sz, none⟩) (n - 1) (c - 1) (xs.drop sz) := by
  obtain ⟨L, h5, h6, h7, h8⟩ := h.some_
  obtain ⟨h1, h2, h3, h4⟩ := h
  have e1 : n * sz = sz + (n - 1) * sz := by obtain ⟨m, rfl⟩ : ∃ m, n = m + 1 := ⟨n - 1, by omega⟩; rw [Nat.add_mul, Nat.add_sub_cancel]; omega
  have e2 : c * sz = sz + (c - 1) * sz := by obtain ⟨m, rfl⟩ : ∃ m, c = m + 1 := ⟨c - 1, by omega⟩; rw [Nat.add_mul, Nat.add_sub_cancel]; omega
  refine ⟨by rw [List.length_drop]; omega, by omega, by omega, .inr ⟨g, o + sz, L, rfl, h5, h6, by omega, ?_⟩⟩
  rw [← h8, e1, List.drop_take, List.drop_drop]
  congr 1
  omega
/-- a cell is written -/
theorem Win.set (h : Win w B e sz (some ⟨g, o, none⟩) n c xs) (k : Nat) (u : Value) (hk : k < n * sz) : Win (w.setCell ⟨g, o + k, none⟩ u) B e sz (some ⟨g, o, none⟩) n c (xs.set k u) := by
  obtain ⟨L, h5, h6, h7, h8⟩ := h.some_
  obtain ⟨h1, h2, h3, h4⟩ := h
  have hcs : n * sz ≤ c * sz := Nat.mul_le_mul_right _ h2
  refine ⟨by rw [List.length_set]; exact h1, h2, h3, .inr ⟨g, o, L.set (o + k) u, rfl, h5, h6.set _ _, by rw [List.length_set]; exact h7, ?_⟩⟩
  rw [List.drop_set, if_neg (by omega), show o + k - o = k by omega, List.take_set, h8]
theorem Blk.sets {b : Nat} {t : TypeId} : ∀ (vs : List Value) (k : Nat) (w : World) (L : List Value), Blk w b L t → k + vs.length ≤ L.length → Blk (w.setCells b k vs) b (L.take k ++ vs ++ L.drop (k + vs.length)) t
  | [], k, w, L, h, _ => by
    simp only [World.setCells, List.append_nil, List.length_nil, Nat.add_zero, List.take_append_drop]
    exact h
  | v :: r, k, w, L, h, hk => by
    simp only [List.length_cons] at hk
    rw [World.setCells]
    have h2 := Blk.sets r (k + 1) _ _ (h.set k v) (by rw [List.length_set]; omega)
    have e : (L.set k v).take (k + 1) ++ r ++ (L.set k v).drop (k + 1 + r.length) = L.take k ++ v :: r ++ L.drop (k + (v :: r).length) := by
      rw [List.drop_set_of_lt (by omega), List.take_succ_eq_append_getElem (by rw [List.length_set]; omega), List.getElem_set_self, List.take_set_of_le (Nat.le_refl _)]
      simp only [List.length_cons, List.append_assoc, List.singleton_append]
      congr 3
      omega
    rw [e] at h2
    exact h2
theorem Stay.sets {b : Nat} {F : List Nat} (hb : b ∈ F) : ∀ (vs : List Value) (k : Nat) (w : World), Stay F w (w.setCells b k vs)
  | [], _, _ => Stay.refl _ _
  | v :: r, k, w => by rw [World.setCells]; exact (Stay.setCell _ _ _ hb).trans (Stay.sets hb r _ _)
end
/-- append, whatever room there is -/
theorem run_append_win' {P : Program} {w : World} {B : Nat} {e : TypeId} {sz : Nat} {A : Option Addr} {n c : Nat} {xs : List Value} (t ty : TypeId) (i : TypeInfo) (z : Value) (bytes : Nat) (ht : P.underlying t = some (.slice e)) (hi : P.info? e = some i) (hz : i.zero = some z)
    (hsize : i.size = sz) (hby : i.bytes = bytes) (hzs : z.cells.size = sz) (hsz : 0 < sz) (hw : Win w B e sz A n c xs)
    (a : Addr) (m ca : Nat) (news : List Value) (hl : news.length = m * sz) (hm : 0 < m) (hnews : ∀ j u, news[j]? = some u → w.cell? (a.add j) = some u) (h1 : ∀ u ∈ news, u.oneCell' = true)
    (h63 : n + m ≤ maxLen) (hbytes : (n + m) * bytes ≤ 140737488355328) (hB : B ≤ w.heap.size) :
    ∃ A' c' w', (Builtin.append_ #[t, t] ty #[.slice A n c, .slice (some a) m ca]).run P w = .ok (.slice A' (n + m) c') w' ∧ Win w' B e sz A' (n + m) c' (xs ++ news) ∧ Stay (Ab A) w w' ∧ (Ab A' = Ab A ∨ ∃ g, Ab A' = [g] ∧ w.heap.size ≤ g) ∧ (c < n + m → Stay [] w w') := by
  subst hsize
  subst hby
  obtain ⟨hxl, hnc, hcm, hA⟩ := hw
  have hlen : (xs ++ news).length = (n + m) * i.size := by rw [List.length_append, hxl, hl, Nat.add_mul]
  rcases hA with ⟨rfl, hc0⟩ | ⟨g, o, L, rfl, hBg, hblk, hroom, hread⟩
  · obtain rfl : n = 0 := by omega
    subst hc0
    obtain rfl : xs = [] := by simpa using hxl
    obtain ⟨v', w', hrun, h2, h3, _, h5⟩ := run_append_own_at (P := P) w B t ty e i z i.size i.bytes ht hi hz rfl rfl hzs hsz (.slice none 0 0) 0 [] (World.ownsRow_nil _ _ _ _) a m ca news hl hnews h1 h63 hbytes hB
    rcases h2.2 with ⟨_, h0⟩ | ⟨g, cap, cur, rfl, hb, hg, hnc', hcm', hcs, htake⟩
    · omega
    · refine ⟨_, _, w', hrun, ⟨hlen, hnc', hcm', .inr ⟨g, 0, cur.toList, rfl, hb, by unfold Blk; rw [hg], by rw [Array.length_toList]; omega, by rw [List.drop_zero]; exact htake⟩⟩, Stay.grown h3 (by simp [Value.ownBlock]), ?_, fun _ => Stay.grown h3 (by simp [Value.ownBlock])⟩
      rcases h5 with h5 | h5
      · cases h5
      · injection h5 with h5
        exact .inr ⟨g, rfl, by simp only at h5; omega⟩
  · have holds : ∀ j u, xs[j]? = some u → w.cell? ((⟨g, o, none⟩ : Addr).add j) = some u := fun j u hj => by
      rw [add_lit']
      exact Win.cell ⟨hxl, hnc, hcm, .inr ⟨g, o, L, rfl, hBg, hblk, hroom, hread⟩⟩ j u hj
    by_cases hr : n + m ≤ c
    · have hcs : (n + m) * i.size ≤ c * i.size := Nat.mul_le_mul_right _ hr
      rw [Nat.add_mul] at hcs
      have hrun := run_append_room_cells (P := P) w t ty e i ht hi g o n c a m ca news hl hnews h1 hr (fun j hj => by
        rw [hblk.cell, List.getElem?_eq_getElem (by omega)]; rfl) (fun j _ => hblk.free _)
      refine ⟨_, _, _, hrun, ⟨hlen, hr, hcm, .inr ⟨g, o, _, rfl, hBg, Blk.sets news (o + n * i.size) w L hblk (by omega), ?_, ?_⟩⟩, Stay.sets (by simp [Ab]) _ _ _, .inl rfl, fun hh => absurd hr (by omega)⟩
      · simp only [List.length_append, List.length_take, List.length_drop]
        omega
      · have e1 : (L.take (o + n * i.size)).drop o = xs := by rw [List.drop_take, Nat.add_sub_cancel_left]; exact hread
        have e2 : (L.take (o + n * i.size)).length = o + n * i.size := by rw [List.length_take]; omega
        rw [List.append_assoc, List.drop_append, e1, e2, show o - (o + n * i.size) = 0 by omega, List.drop_zero, ← List.append_assoc, ← hlen, List.take_left]
    · obtain ⟨v', w', hrun, h2, h3⟩ := run_append_arg_grows (P := P) w t ty e i z i.size i.bytes ht hi hz rfl rfl hzs hsz ⟨g, o, none⟩ n c xs hxl holds a m ca news hl hnews (by omega) h63 hbytes
      rcases h2.2 with ⟨_, h0⟩ | ⟨g', cap, cur, rfl, hb, hg, hnc', hcm', hcs, htake⟩
      · omega
      · exact ⟨_, _, w', hrun, ⟨hlen, hnc', hcm', .inr ⟨g', 0, cur.toList, rfl, by omega, by unfold Blk; rw [hg], by rw [Array.length_toList]; omega, by rw [List.drop_zero]; exact htake⟩⟩, Stay.grown h3 (by simp), .inr ⟨g', rfl, hb⟩, fun _ => Stay.grown h3 (by simp)⟩
theorem run_append_win {P : Program} {w : World} {B : Nat} {e : TypeId} {sz : Nat} {A : Option Addr} {n c : Nat} {xs : List Value} (t ty : TypeId) (i : TypeInfo) (z : Value) (bytes : Nat) (ht : P.underlying t = some (.slice e)) (hi : P.info? e = some i) (hz : i.zero = some z)
    (hsize : i.size = sz) (hby : i.bytes = bytes) (hzs : z.cells.size = sz) (hsz : 0 < sz) (hw : Win w B e sz A n c xs)
    (a : Addr) (m ca : Nat) (news : List Value) (hl : news.length = m * sz) (hm : 0 < m) (hnews : ∀ j u, news[j]? = some u → w.cell? (a.add j) = some u) (h1 : ∀ u ∈ news, u.oneCell' = true)
    (h63 : n + m ≤ maxLen) (hbytes : (n + m) * bytes ≤ 140737488355328) (hB : B ≤ w.heap.size) :
    ∃ A' c' w', (Builtin.append_ #[t, t] ty #[.slice A n c, .slice (some a) m ca]).run P w = .ok (.slice A' (n + m) c') w' ∧ Win w' B e sz A' (n + m) c' (xs ++ news) ∧ Stay (Ab A) w w' ∧ (Ab A' = Ab A ∨ ∃ g, Ab A' = [g] ∧ w.heap.size ≤ g) := by
  obtain ⟨A', c', w', h1, h2, h3, h4, _⟩ := run_append_win' t ty i z bytes ht hi hz hsize hby hzs hsz hw a m ca news hl hm hnews h1 h63 hbytes hB
  exact ⟨A', c', w', h1, h2, h3, h4⟩
theorem wp_append_win {P : Program} {w : World} {o : Oper} {ac : Act} {K : Act → World → Prop} {Q : Exit → Act → World → Prop} (s x : Operand) (t : TypeId)
    (ho : o.op = .call { callee := .builtin .append, args := #[s, x], argTypes := #[t, t] })
    (B : Nat) (e : TypeId) (sz : Nat) (i : TypeInfo) (z : Value) (bytes : Nat) (ht : P.underlying t = some (.slice e)) (hi : P.info? e = some i) (hz : i.zero = some z)
    (hsize : i.size = sz) (hby : i.bytes = bytes) (hzs : z.cells.size = sz) (hsz : 0 < sz) (A : Option Addr) (n c : Nat) (xs : List Value) (hs : ac.eval s = .slice A n c) (hw : Win w B e sz A n c xs)
    (a : Addr) (m ca : Nat) (hx : ac.eval x = .slice (some a) m ca) (news : List Value) (hl : news.length = m * sz) (hm : 0 < m) (hnews : ∀ j u, news[j]? = some u → w.cell? (a.add j) = some u) (h1 : ∀ u ∈ news, u.oneCell' = true)
    (h63 : n + m ≤ maxLen) (hbytes : (n + m) * bytes ≤ 140737488355328) (hB : B ≤ w.heap.size)
    (h : ∀ A' c' w', Win w' B e sz A' (n + m) c' (xs ++ news) → Stay (Ab A) w w' → (Ab A' = Ab A ∨ ∃ g, Ab A' = [g] ∧ w.heap.size ≤ g) → K (ac.put o.dst (.slice A' (n + m) c')) w') : o.wp P ac w K Q := by
  obtain ⟨A', c', w', hr, h2, h3, h5⟩ := run_append_win (P := P) t o.type i z bytes ht hi hz hsize hby hzs hsz hw a m ca news hl hm hnews h1 h63 hbytes hB
  unfold Oper.wp execOp
  simp only [ho, resolve, invoke, builtin, Sem.run_bind, Sem.run_pure, Result.andThen_ok, List.map_toArray, List.map_cons, List.map_nil, hs, hx, hr]
  exact h A' c' w' h2 h3 h5
/-- no room: the block stays -/
theorem wp_append_full {P : Program} {w : World} {o : Oper} {ac : Act} {K : Act → World → Prop} {Q : Exit → Act → World → Prop} (s x : Operand) (t : TypeId)
    (ho : o.op = .call { callee := .builtin .append, args := #[s, x], argTypes := #[t, t] })
    (B : Nat) (e : TypeId) (sz : Nat) (i : TypeInfo) (z : Value) (bytes : Nat) (ht : P.underlying t = some (.slice e)) (hi : P.info? e = some i) (hz : i.zero = some z)
    (hsize : i.size = sz) (hby : i.bytes = bytes) (hzs : z.cells.size = sz) (hsz : 0 < sz) (A : Option Addr) (n c : Nat) (xs : List Value) (hs : ac.eval s = .slice A n c) (hw : Win w B e sz A n c xs)
    (a : Addr) (m ca : Nat) (hx : ac.eval x = .slice (some a) m ca) (news : List Value) (hl : news.length = m * sz) (hm : 0 < m) (hnews : ∀ j u, news[j]? = some u → w.cell? (a.add j) = some u) (h1 : ∀ u ∈ news, u.oneCell' = true)
    (h63 : n + m ≤ maxLen) (hbytes : (n + m) * bytes ≤ 140737488355328) (hB : B ≤ w.heap.size) (hfull : c < n + m)
    (h : ∀ A' c' w', Win w' B e sz A' (n + m) c' (xs ++ news) → Stay [] w w' → (Ab A' = Ab A ∨ ∃ g, Ab A' = [g] ∧ w.heap.size ≤ g) → K (ac.put o.dst (.slice A' (n + m) c')) w') : o.wp P ac w K Q := by
  obtain ⟨A', c', w', hr, h2, _, h5, h3⟩ := run_append_win' (P := P) t o.type i z bytes ht hi hz hsize hby hzs hsz hw a m ca news hl hm hnews h1 h63 hbytes hB
  unfold Oper.wp execOp
  simp only [ho, resolve, invoke, builtin, Sem.run_bind, Sem.run_pure, Result.andThen_ok, List.map_toArray, List.map_cons, List.map_nil, hs, hx, hr]
  exact h A' c' w' h2 (h3 hfull) h5
theorem wpList_append_win {P : Program} {w : World} {ops : Array Oper} {rest : List Oper} {o : Oper} {ac : Act} {Q : Exit → Act → World → Prop} (hgd : o.guard = none) (s x : Operand) (t : TypeId)
    (ho : o.op = .call { callee := .builtin .append, args := #[s, x], argTypes := #[t, t] })
    (B : Nat) (e : TypeId) (sz : Nat) (i : TypeInfo) (z : Value) (bytes : Nat) (ht : P.underlying t = some (.slice e)) (hi : P.info? e = some i) (hz : i.zero = some z)
    (hsize : i.size = sz) (hby : i.bytes = bytes) (hzs : z.cells.size = sz) (hsz : 0 < sz) (A : Option Addr) (n c : Nat) (xs : List Value) (hs : ac.eval s = .slice A n c) (hw : Win w B e sz A n c xs)
    (a : Addr) (m ca : Nat) (hx : ac.eval x = .slice (some a) m ca) (news : List Value) (hl : news.length = m * sz) (hm : 0 < m) (hnews : ∀ j u, news[j]? = some u → w.cell? (a.add j) = some u) (h1 : ∀ u ∈ news, u.oneCell' = true)
    (h63 : n + m ≤ maxLen) (hbytes : (n + m) * bytes ≤ 140737488355328) (hB : B ≤ w.heap.size)
    (h : ∀ A' c' w', Win w' B e sz A' (n + m) c' (xs ++ news) → Stay (Ab A) w w' → (Ab A' = Ab A ∨ ∃ g, Ab A' = [g] ∧ w.heap.size ≤ g) → wpList P ops Q rest (ac.put o.dst (.slice A' (n + m) c')) w') : wpList P ops Q (o :: rest) ac w := by
  refine wpList_plain hgd fun K hK => ?_
  obtain ⟨A', c', w', hr, h2, h3, h5⟩ := run_append_win (P := P) t o.type i z bytes ht hi hz hsize hby hzs hsz hw a m ca news hl hm hnews h1 h63 hbytes hB
  unfold Oper.wp execOp
  simp only [ho, resolve, invoke, builtin, Sem.run_bind, Sem.run_pure, Result.andThen_ok, List.map_toArray, List.map_cons, List.map_nil, hs, hx, hr]
  exact hK _ _ (h A' c' w' h2 h3 h5)
section
variable {P : Program} {ops : Array Oper} {Q : Exit → Act → World → Prop} {md : Region.Mode} {S : World → Prop} {n : Nat}
/-- the condition holds behind every operation: no chain is asked -/
theorem AnyL.firstS {i : Nat} {oi : Oper} {v : Value} (hi : ops[i]? = some oi) (hsel : ∀ (j : Nat) (o : Oper) cs b, ops[j]? = some o → o.op ≠ .select cs b)
    (hQ : ∀ c a w, Q (.panic c) (a.put oi.dst v) w → Q (.panic c) a w) (hn : ops.size ≤ n) :
    ∀ (f : Nat) (l : Array Bool) (a : Act) (w : World), (∀ j oj, ops[j]? = some oj → j ≠ i → l.getD j true = false → (∀ e ∈ oj.after, Region.binds md e = true → e.on ≠ i) → oi.apart ops oj = true) →
      i ∈ Region.ready md ops l → YieldsIf P ops S oi v a → S w → AnyL P md ops Q S n f (l.setIfInBounds i true) (a.put oi.dst v) w → AnyL P md ops Q S n (f + 1) l a w := by
  intro f
  induction f with
  | zero =>
    intro l a w _ hr hy hS H
    refine ⟨fun h => (by rw [h] at hr; cases hr), fun j hj => ?_⟩
    by_cases e : j = i
    · subst e; exact hy.wpOp hi hS ⟨.inr hS, H⟩
    · have := ready_mono hj e
      rw [H.1] at this
      cases this
  | succ f ih =>
    intro l a w hfree hr hy hS H
    refine ⟨fun h => (by rw [h] at hr; cases hr), fun j hj => ?_⟩
    by_cases e : j = i
    · subst e; exact hy.wpOp hi hS ⟨.inr hS, H⟩
    · have hun : l.getD i false = false := by
        have := (mem_ready.1 hr).1
        rcases Nat.lt_or_ge i l.size with h | h
        · simpa [h] using this
        · simp [Array.getElem?_eq_none h] at this
      have h1 := H.2 j (ready_mono hj e)
      obtain ⟨hjl, oj, hoj, hall⟩ := mem_ready.1 hj
      have hnot : ∀ x ∈ oj.after, Region.binds md x = true → x.on ≠ i := fun x hx hb he => by
        have := hall x hx hb
        rw [he, hun] at this
        cases this
      have h2 := wpOp_putIf hoj (hfree j oj hoj e hjl hnot) (fun cs b => hsel i oi cs b hi) (fun cs b => hsel j oj cs b hoj) hQ hy h1
      refine wpOp_mono (fun a' w' h3 => ?_) h2
      have hS' : S w' := h3.2.1.resolve_left fun en => by
        have := (Array.getElem?_eq_some_iff.1 hoj).1
        omega
      refine ⟨.inr hS', ih _ a' w' (fun k ok hk hki hkl hno => hfree k ok hk hki ?_ hno) (ready_mono hr (Ne.symm e)) h3.1 hS' ?_⟩
      · by_cases ek : j = k
        · subst ek; exact hjl
        · rw [getD_set_ne true ek] at hkl; exact hkl
      · rw [Array.setIfInBounds_comm _ _ e]; exact h3.2.2
theorem AnyL.takeS {i : Nat} {oi : Oper} {v : Value} {f : Nat} {l : Array Bool} {a : Act} {w : World} (hi : ops[i]? = some oi)
    (hs : Region.noSelect ops = true) (hf : Region.free md ops l i = true) (hr : (Region.ready md ops l).contains i = true) (hn : decide (ops.size ≤ n) = true)
    (hQ : ∀ c a w, Q (.panic c) (a.put oi.dst v) w → Q (.panic c) a w) (hy : YieldsIf P ops S oi v a) (hS : S w)
    (h : AnyL P md ops Q S n f (l.setIfInBounds i true) (a.put oi.dst v) w) : AnyL P md ops Q S n (f + 1) l a w :=
  AnyL.firstS hi (Region.noSelect_spec hs) hQ (of_decide_eq_true hn) f l a w (Region.free_spec hi hf) (by simpa using hr) hy hS h
end
end Go.Proofs.Ytjoeebjmjnddoaa
namespace Go.Proofs.Ytjoeebjmjnddoaa
open Go.RowKit
/-- a group as it lies in memory -/
structure MG where
  A : Option Addr
  c : Nat
  ed : List Ed
  by_ : Int
  be : Int
  st : Int
def eds (l : List Ed) : List Value := l.flatMap Ed.cells
def MG.cells (g : MG) : List Value := [.slice g.A g.ed.length g.c, .int .i64 g.by_, .int .i64 g.be, .int .i64 g.st]
def MG.val (g : MG) : Value := .agg #[.slice g.A g.ed.length g.c, .int .i64 g.by_, .int .i64 g.be, .int .i64 g.st]
def MG.ok (g : MG) (w : World) (B : Nat) : Prop := Win w B 37 3 g.A g.ed.length g.c (eds g.ed)
def gcs (l : List MG) : List Value := l.flatMap MG.cells
theorem MG.len (g : MG) : g.cells.length = 4 := rfl
theorem gcs_length (l : List MG) : (gcs l).length = l.length * 4 := flat_length MG.cells 4 MG.len l
theorem eds_length (l : List Ed) : (eds l).length = l.length * 3 := flat_length Ed.cells 3 Ed.len l
theorem flat_set {α : Type} (f : α → List Value) (k : Nat) (hf : ∀ x, (f x).length = k) : ∀ (L : List α) (i : Nat) (hi : i < L.length) (j : Nat) (v : Value) (y : α), j < k → (f L[i]).set j v = f y → (L.flatMap f).set (i * k + j) v = (L.set i y).flatMap f
  | x :: L, 0, _, j, v, y, hj, hy => by
    simp only [List.flatMap_cons, Nat.zero_mul, Nat.zero_add, List.set_cons_zero, List.getElem_cons_zero] at hy ⊢
    rw [List.set_append_left _ _ (by rw [hf]; exact hj), hy]
  | x :: L, i + 1, hi, j, v, y, hj, hy => by
    simp only [List.flatMap_cons, List.set_cons_succ, List.getElem_cons_succ] at hy ⊢
    rw [List.set_append_right _ _ (by rw [hf, Nat.add_mul]; omega), hf, show (i + 1) * k + j - k = i * k + j by rw [Nat.add_mul]; omega, flat_set f k hf L i (by simpa using hi) j v y hj hy]
theorem MG.ok.stay {g : MG} {w w' : World} {B : Nat} {F : List Nat} (h : g.ok w B) (hs : Stay F w w') (hF : ∀ f ∈ F, ∀ L, ¬ Blk w f L 37) : g.ok w' B :=
  Win.stay h hs fun f hf hm => by
    obtain ⟨_, _, L, hL⟩ := Win.ab h f hf
    exact hF f hm L hL
theorem MG.ok.stay0 {g : MG} {w w' : World} {B : Nat} (h : g.ok w B) (hs : Stay [] w w') : g.ok w' B := Win.stay0 h hs
/-- a book, plain -/
structure Bk where
  sp : Int
  DA : Option Addr
  dc : Nat
  D : List MG
  UA : Option Addr
  uc : Nat
  U : List MG
  st : Int
  sv : Int
  gv : Int
def bcells (rb : Nat) (sp : Int) (dv uv : Value) (st sv gv : Int) : List Value := [.pointer (some ⟨rb, 0, none⟩), .int .u64 sp, dv, uv, .int .i64 st, .int .i64 sv, .int .i64 gv]
def Bk.cells (b : Bk) (rb : Nat) : List Value := bcells rb b.sp (.slice b.DA b.D.length b.dc) (.slice b.UA b.U.length b.uc) b.st b.sv b.gv
theorem Blk.type {w : World} {b : Nat} {L L' : List Value} {t t' : TypeId} (h : Blk w b L t) (h' : Blk w b L' t') : t = t' := by
  unfold Blk at h h'
  rw [h] at h'
  injection h' with h'
  injection h' with _ h2
theorem RopeAt.blk {w : World} {rb : Nat} {t : Rp} {st : Int} (h : RopeAt w rb t st) : ∃ L, Blk w rb L 77 := by
  obtain ⟨v, hv, _⟩ := h
  exact ⟨[v, .int .u64 st], hv⟩
structure BookAt (w : World) (B bb rb : Nat) (b : Bk) : Prop where
  blk : Blk w bb (b.cells rb) 98
  dW : Win w B 100 4 b.DA b.D.length b.dc (gcs b.D)
  uW : Win w B 100 4 b.UA b.U.length b.uc (gcs b.U)
  dE : ∀ g ∈ b.D, g.ok w B
  uE : ∀ g ∈ b.U, g.ok w B
  ap : ∀ f ∈ Ab b.DA, f ∉ Ab b.UA
  bB : B ≤ bb
theorem noPair_of {w : World} {F : List Nat} (h : ∀ f ∈ F, ∀ L, ¬ Blk w f L 111) : NoPair w F := fun f hf cs hc => h f hf cs.toList (by unfold Blk; rw [hc])
theorem blk_noPair98 {w : World} {bb : Nat} {l : List Value} (h : Blk w bb l 98) : NoPair w [bb] := noPair_of fun f hf L hL => by
  rw [List.mem_singleton] at hf
  subst hf
  have := hL.type h
  cases this
/-- what a book's calls may write -/
def feet (bb rb : Nat) (b : Bk) : List Nat := [rb, bb] ++ Ab b.DA ++ Ab b.UA
section
variable {w w' : World} {B bb rb : Nat} {b b' : Bk}
theorem BookAt.stay {F : List Nat} (h : BookAt w B bb rb b) (hs : Stay F w w') (hF : ∀ f ∈ F, ∀ L t, Blk w f L t → t ≠ 37 ∧ t ≠ 98 ∧ t ≠ 100) : BookAt w' B bb rb b := by
  have n37 : ∀ f ∈ F, ∀ L, ¬ Blk w f L 37 := fun f hf L hL => (hF f hf L _ hL).1 rfl
  have n100 : ∀ (A : Option Addr) (n c : Nat) (xs : List Value), Win w B 100 4 A n c xs → ∀ f ∈ Ab A, f ∉ F := fun A n c xs hw f hf hm => by
    obtain ⟨_, _, L, hL⟩ := hw.ab f hf
    exact (hF f hm L _ hL).2.2 rfl
  exact ⟨h.blk.stay hs (fun hm => (hF bb hm _ _ h.blk).2.1 rfl), h.dW.stay hs (n100 _ _ _ _ h.dW), h.uW.stay hs (n100 _ _ _ _ h.uW), fun g hg => (h.dE g hg).stay hs n37, fun g hg => (h.uE g hg).stay hs n37, h.ap, h.bB⟩
theorem BookAt.stay0 (h : BookAt w B bb rb b) (hs : Stay [] w w') : BookAt w' B bb rb b := h.stay hs (by simp)
theorem BookAt.stayR {t : Rp} {st : Int} (h : BookAt w B bb rb b) (hr : RopeAt w rb t st) (hs : Stay [rb] w w') : BookAt w' B bb rb b := h.stay hs fun f hf L ty hL => by
  rw [List.mem_singleton] at hf
  subst hf
  obtain ⟨L2, h2⟩ := hr.blk
  have := hL.type h2
  subst this
  decide
/-- a field is written -/
theorem BookAt.put (h : BookAt w B bb rb b) (k : Nat) (v : Value) (hc : (b.cells rb).set k v = b'.cells rb) (dW : Win w B 100 4 b'.DA b'.D.length b'.dc (gcs b'.D)) (uW : Win w B 100 4 b'.UA b'.U.length b'.uc (gcs b'.U))
    (dE : ∀ g ∈ b'.D, g.ok w B) (uE : ∀ g ∈ b'.U, g.ok w B) (ap : ∀ f ∈ Ab b'.DA, f ∉ Ab b'.UA) : BookAt (w.setCell ⟨bb, k, none⟩ v) B bb rb b' := by
  have hs : Stay [bb] w (w.setCell ⟨bb, k, none⟩ v) := Stay.setCell _ _ _ (by simp)
  have n37 : ∀ f ∈ [bb], ∀ L, ¬ Blk w f L 37 := fun f hf L hL => by
    rw [List.mem_singleton] at hf
    subst hf
    have := hL.type h.blk
    cases this
  have n100 : ∀ (A : Option Addr) (n c : Nat) (xs : List Value), Win w B 100 4 A n c xs → ∀ f ∈ Ab A, f ∉ [bb] := fun A n c xs hw f hf hm => by
    obtain ⟨_, _, L, hL⟩ := hw.ab f hf
    rw [List.mem_singleton] at hm
    subst hm
    have := hL.type h.blk
    cases this
  exact ⟨hc ▸ h.blk.set k v, dW.stay hs (n100 _ _ _ _ dW), uW.stay hs (n100 _ _ _ _ uW), fun g hg => (dE g hg).stay hs n37, fun g hg => (uE g hg).stay hs n37, ap, h.bB⟩
theorem rope_put {t : Rp} {st : Int} (h : BookAt w B bb rb b) (hr : RopeAt w rb t st) (k : Nat) (v : Value) : RopeAt (w.setCell ⟨bb, k, none⟩ v) rb t st := by
  obtain ⟨L2, h2⟩ := hr.blk
  refine hr.stay (F := [bb]) (Stay.setCell _ _ _ (by simp)) (blk_noPair98 h.blk) ?_
  rw [List.mem_singleton]
  intro e
  subst e
  have := h2.type h.blk
  cases this
end
end Go.Proofs.Ytjoeebjmjnddoaa
namespace Go.Proofs.Ytjoeebjmjnddoaa
open Go.RowKit
set_option maxRecDepth 20000 in
set_option maxHeartbeats 4000000 in
theorem next_any (bb rb : Nat) (sp : Int) (dv uv : Value) (st sv gv : Int) (w : World) (h : Blk w bb (bcells rb sp dv uv st sv gv) 98) (hg : 0 ≤ gv ∧ gv < 9223372036854775807) :
    Calls Try.prog 61 #[.pointer (some ⟨bb, 0, none⟩)] w fun e w' => e = .returned (.int .i64 (gv + 1)) ∧ w' = (w.setCell ⟨bb, 6, none⟩ (.int .i64 (gv + 1))).setCell ⟨bb, 4, none⟩ (.int .i64 (gv + 1)) := by
  have h2 := h.set 6 (.int .i64 (gv + 1))
  have h3 := h2.set 4 (.int .i64 (gv + 1))
  have c6 : w.cell? ⟨bb, 6, none⟩ = some (.int .i64 gv) := h.cell 6
  have f6 := h.free 6
  have d6 : (w.setCell ⟨bb, 6, none⟩ (.int .i64 (gv + 1))).cell? ⟨bb, 6, none⟩ = some (.int .i64 (gv + 1)) := h2.cell 6
  have d4 : (w.setCell ⟨bb, 6, none⟩ (.int .i64 (gv + 1))).cell? ⟨bb, 4, none⟩ = some (.int .i64 st) := h2.cell 4
  have g4 := h2.free 4
  have e4 : ((w.setCell ⟨bb, 6, none⟩ (.int .i64 (gv + 1))).setCell ⟨bb, 4, none⟩ (.int .i64 (gv + 1))).cell? ⟨bb, 4, none⟩ = some (.int .i64 (gv + 1)) := h3.cell 4
  have hs : IntKind.i64.wrap (gv + 1) = gv + 1 := by simp only [IntKind.wrap, IntKind.bits, IntKind.signed]; simp; omega
  clear h h2 h3 hg
  go_enter Try.func61, Try.ntmps61
  go_wp2_with fail
  go_ret
  exact ⟨rfl, rfl⟩
set_option maxRecDepth 20000 in
set_option maxHeartbeats 4000000 in
theorem look_same (bb rb : Nat) (sp : Int) (dv uv : Value) (st sv gv : Int) (t : Rp) (w : World) (h : Blk w bb (bcells rb sp dv uv st sv gv) 98) (hr : RopeAt w rb t sp) :
    Calls Try.prog 59 #[.pointer (some ⟨bb, 0, none⟩)] w fun e w' => e = .returned (.tuple #[]) ∧ w' = w := by
  have HS := Lib.hid (stamp_any rb t sp w hr)
  have c0 : w.cell? ⟨bb, 0, none⟩ = some (.pointer (some ⟨rb, 0, none⟩)) := h.cell 0
  have c1 : w.cell? ⟨bb, 1, none⟩ = some (.int .u64 sp) := h.cell 1
  clear h hr
  go_enter Try.func59, Try.ntmps59
  go_wp2_with fail
  refine HS.out.mono ?_
  rintro e w' ⟨rfl, rfl⟩
  go_wp2_with fail
  exact bodyPost_end (v := .tuple #[]) (by simp [results, Try.results59, go_sem]) rfl ⟨rfl, rfl⟩
set_option maxRecDepth 20000 in
set_option maxHeartbeats 4000000 in
theorem look_other (bb rb : Nat) (sp : Int) (dv uv : Value) (st sv gv : Int) (t : Rp) (rs : Int) (w : World) (h : Blk w bb (bcells rb sp dv uv st sv gv) 98) (hr : RopeAt w rb t rs) (hne : rs ≠ sp) (hg : 0 ≤ gv ∧ gv < 9223372036854775807) :
    Calls Try.prog 59 #[.pointer (some ⟨bb, 0, none⟩)] w fun e w' => e = .returned (.tuple #[]) ∧ Blk w' bb (bcells rb rs (.slice none 0 0) (.slice none 0 0) (gv + 1) (-1) (gv + 1)) 98 ∧ Stay [bb] w w' := by
  have HS := Lib.hid (stamp_any rb t rs w hr)
  have c0 : w.cell? ⟨bb, 0, none⟩ = some (.pointer (some ⟨rb, 0, none⟩)) := h.cell 0
  have c1 : w.cell? ⟨bb, 1, none⟩ = some (.int .u64 sp) := h.cell 1
  have hst : ∀ (u : World) (k : Nat) (v : Value), Stay [bb] u (u.setCell ⟨bb, k, none⟩ v) := fun u k v => Stay.setCell _ _ _ (by simp)
  have f1 := h.free 1
  have h1 := h.set 1 (.int .u64 rs)
  have f2 := h1.free 2
  have c2 : (w.setCell ⟨bb, 1, none⟩ (.int .u64 rs)).cell? ⟨bb, 2, none⟩ = some dv := h1.cell 2
  have h2 := h1.set 2 (.slice none 0 0)
  have f3 := h2.free 3
  have c3 : ((w.setCell ⟨bb, 1, none⟩ (.int .u64 rs)).setCell ⟨bb, 2, none⟩ (.slice none 0 0)).cell? ⟨bb, 3, none⟩ = some uv := h2.cell 3
  have h3 := h2.set 3 (.slice none 0 0)
  have HT3 := Lib.hid (((hst w 1 (.int .u64 rs)).trans (hst _ 2 (.slice none 0 0))).trans (hst _ 3 (.slice none 0 0)))
  obtain ⟨W3, hW3⟩ : ∃ W, W = ((w.setCell ⟨bb, 1, none⟩ (.int .u64 rs)).setCell ⟨bb, 2, none⟩ (.slice none 0 0)).setCell ⟨bb, 3, none⟩ (.slice none 0 0) := ⟨_, rfl⟩
  rw [← hW3] at h3 HT3
  have h3' : Blk W3 bb (bcells rb rs (.slice none 0 0) (.slice none 0 0) st sv gv) 98 := h3
  have HN := Lib.hid (next_any bb rb rs (.slice none 0 0) (.slice none 0 0) st sv gv W3 h3' hg)
  have h4 := (h3'.set 6 (.int .i64 (gv + 1))).set 4 (.int .i64 (gv + 1))
  have HT5 := Lib.hid (HT3.out.trans ((hst W3 6 (.int .i64 (gv + 1))).trans (hst _ 4 (.int .i64 (gv + 1)))))
  obtain ⟨W5, hW5⟩ : ∃ W, W = (W3.setCell ⟨bb, 6, none⟩ (.int .i64 (gv + 1))).setCell ⟨bb, 4, none⟩ (.int .i64 (gv + 1)) := ⟨_, rfl⟩
  rw [← hW5] at h4 HT5
  have h4' : Blk W5 bb (bcells rb rs (.slice none 0 0) (.slice none 0 0) (gv + 1) sv (gv + 1)) 98 := h4
  have f5 := h4'.free 5
  have c5 : W5.cell? ⟨bb, 5, none⟩ = some (.int .i64 sv) := h4'.cell 5
  have HF := Lib.hid (show Blk (W5.setCell ⟨bb, 5, none⟩ (.int .i64 (-1))) bb (bcells rb rs (.slice none 0 0) (.slice none 0 0) (gv + 1) (-1) (gv + 1)) 98 from h4'.set 5 (.int .i64 (-1)))
  have HT := Lib.hid (HT5.out.trans (hst W5 5 (.int .i64 (-1))))
  have HW3 := Lib.hid hW3
  have HW5 := Lib.hid hW5
  have hd : decide (rs = sp) = false := decide_eq_false hne
  clear h h1 h2 h3 h4 h3' h4' hst hr hg hW3 hW5 HT3 HT5
  go_enter Try.func59, Try.ntmps59
  go_wp2_with fail
  refine HS.out.mono ?_
  rintro e w' ⟨rfl, rfl⟩
  go_wp2_with fail
  rw [← HW3.out]
  refine HN.out.mono ?_
  rintro e w' ⟨rfl, h5⟩
  rw [← HW5.out] at h5
  have h6 := Lib.hid h5
  rw [h5]
  clear h5
  go_wp2_with fail
  exact bodyPost_end (v := .tuple #[]) (by simp [results, Try.results59, go_sem]) rfl ⟨rfl, HF.out, HT.out⟩
end Go.Proofs.Ytjoeebjmjnddoaa
namespace Go.Proofs.Ytjoeebjmjnddoaa
open Go.RowKit
theorem win_group {w : World} {B g o n c : Nat} {G : List MG} (h : Win w B 100 4 (some ⟨g, o, none⟩) n c (gcs G)) (k : Nat) (hk : k < G.length) :
    w.cell? ⟨g, o + k * 4, none⟩ = some (.slice G[k].A G[k].ed.length G[k].c) ∧ w.cell? ⟨g, o + k * 4 + 1, none⟩ = some (.int .i64 G[k].by_) ∧ w.cell? ⟨g, o + k * 4 + 2, none⟩ = some (.int .i64 G[k].be) ∧ w.cell? ⟨g, o + k * 4 + 3, none⟩ = some (.int .i64 G[k].st) := by
  have key : ∀ j u, G[k].cells[j]? = some u → w.cell? ⟨g, o + k * 4 + j, none⟩ = some u := fun j u hj => by
    rw [Nat.add_assoc]
    exact h.cell _ _ ((flat_at MG.cells 4 MG.len G k hk j (List.getElem?_eq_some_iff.1 hj).1).trans hj)
  exact ⟨by have := key 0 _ rfl; rwa [Nat.add_zero] at this, key 1 _ rfl, key 2 _ rfl, key 3 _ rfl⟩
set_option maxRecDepth 20000 in
set_option maxHeartbeats 4000000 in
theorem last_none (bb k : Nat) (A : Option Addr) (c : Nat) (w : World) (h0 : w.cell? ⟨bb, k, none⟩ = some (.slice A 0 c)) :
    Calls Try.prog 63 #[.pointer (some ⟨bb, k, none⟩)] w fun e w' => e = .returned (.tuple #[.agg #[.slice none 0 0, .int .i64 0, .int .i64 0, .int .i64 0], .bool false]) ∧ Stay [] w w' := by
  have hs1 : Stay [] w (w.alloc (.cells #[.slice none 0 0, .int .i64 0, .int .i64 0, .int .i64 0] 100)) := Stay.alloc _ _
  have HS1 := Lib.hid hs1
  have k0 : (w.alloc (.cells #[.slice none 0 0, .int .i64 0, .int .i64 0, .int .i64 0] 100)).cell? ⟨bb, k, none⟩ = some (.slice A 0 c) := (hs1.cell_ (a := ⟨bb, k, none⟩) (World.block_lt_of_cell? _ _ h0) (by simp)).trans h0
  have hbx := Blk.new w [.slice none 0 0, .int .i64 0, .int .i64 0, .int .i64 0] 100
  have HBx := Lib.hid hbx
  clear h0 hs1 hbx
  go_enter Try.func63, Try.ntmps63
  go_wp2_with fail
  have x0 := HBx.out.cell 0
  have x1 := HBx.out.cell 1
  have x2 := HBx.out.cell 2
  have x3 := HBx.out.cell 3
  exact bodyPost_ret (v := .tuple #[.agg #[.slice none 0 0, .int .i64 0, .int .i64 0, .int .i64 0], .bool false]) (by simp at x0 x1 x2 x3; simp [results, Try.results63, go_sem, x0, x1, x2, x3]) rfl ⟨rfl, HS1.out⟩
set_option maxRecDepth 20000 in
set_option maxHeartbeats 4000000 in
theorem last_some (B bb k g o m c : Nat) (G : List MG) (L : List Value) (w : World) (h : Blk w bb L 98) (h0 : L[k]? = some (.slice (some ⟨g, o, none⟩) (m + 1) c)) (hW : Win w B 100 4 (some ⟨g, o, none⟩) (m + 1) c (gcs G)) (hm : m < G.length) :
    Calls Try.prog 63 #[.pointer (some ⟨bb, k, none⟩)] w fun e w' => e = .returned (.tuple #[G[m].val, .bool true]) ∧ Blk w' bb (L.set k (.slice (some ⟨g, o, none⟩) m m)) 98 ∧ Stay [bb] w w' := by
  have hcm := hW.2.2.1
  have hnc := hW.2.1
  simp only [maxLen] at hcm
  obtain ⟨q0, q1, q2, q3⟩ := win_group hW m hm
  have hg := hW.lt.2
  have hbb := h.lt
  have k0' : w.cell? ⟨bb, k, none⟩ = some (.slice (some ⟨g, o, none⟩) (m + 1) c) := (h.cell k).trans h0
  obtain ⟨a0, a1, a2, a3, hgv⟩ : ∃ a0 a1 a2 a3, G[m].val = .agg #[a0, .int .i64 a1, .int .i64 a2, .int .i64 a3] ∧ a0 = .slice G[m].A G[m].ed.length G[m].c ∧ a1 = G[m].by_ ∧ a2 = G[m].be ∧ a3 = G[m].st := ⟨_, _, _, _, rfl, rfl, rfl, rfl, rfl⟩
  obtain ⟨hgv, e0, e1, e2, e3⟩ := hgv
  rw [← e0] at q0
  rw [← e1] at q1
  rw [← e2] at q2
  rw [← e3] at q3
  rw [hgv]
  have ho : ∃ vA vn vc, a0 = .slice vA vn vc := ⟨_, _, _, e0⟩
  obtain ⟨vA, vn, vc, hvA⟩ := ho
  subst hvA
  clear hgv e0 e1 e2 e3 hW h0 hm
  obtain ⟨p, hp⟩ : ∃ p, p = o + m * 4 := ⟨_, rfl⟩
  rw [← hp] at q0 q1 q2 q3
  have HP := Lib.hid hp
  obtain ⟨W1, hW1⟩ : ∃ W, W = w.alloc (.cells #[.slice none 0 0, .int .i64 0, .int .i64 0, .int .i64 0] 100) := ⟨_, rfl⟩
  have hs1 : Stay [] w W1 := by rw [hW1]; exact Stay.alloc _ _
  have hbx : Blk W1 w.heap.size [.slice none 0 0, .int .i64 0, .int .i64 0, .int .i64 0] 100 := by rw [hW1]; exact Blk.new w _ _
  obtain ⟨b1, hb1⟩ : ∃ b, b = w.heap.size := ⟨_, rfl⟩
  rw [← hb1] at hbx
  have hk : ∀ (f j : Nat) (v : Value), w.cell? ⟨f, j, none⟩ = some v → W1.cell? ⟨f, j, none⟩ = some v := fun f j v hv => (hs1.cell_ (a := ⟨f, j, none⟩) (World.block_lt_of_cell? _ _ hv) (by simp)).trans hv
  have k0 := hk _ _ _ k0'
  replace q0 := hk _ _ _ q0
  replace q1 := hk _ _ _ q1
  replace q2 := hk _ _ _ q2
  replace q3 := hk _ _ _ q3
  have hB1 := h.stay hs1 (by simp)
  have HW1 := Lib.hid hW1
  have HE1 := Lib.hid hb1
  have HBx := Lib.hid hbx
  have HB1 := Lib.hid hB1
  have hne : b1 ≠ bb := by omega
  have HNe := Lib.hid hne
  have HS1 := Lib.hid hs1
  have hm0 : (0 : Int) ≤ m := by omega
  have hmc : (m : Int) ≤ c := by omega
  have hs0 : IntKind.i64.wrap ((m : Int) + 1 - 1) = (m : Int) := by simp only [IntKind.wrap, IntKind.bits, IntKind.signed]; simp; omega
  have hs2 : IntKind.i64.wrap (((m + 1 : Nat) : Int) - 1) = (m : Int) := by simp only [IntKind.wrap, IntKind.bits, IntKind.signed]; simp; omega
  have hm1 : ¬ (m : Int) < 0 := by omega
  have hm2 : (m : Int) < ((m + 1 : Nat) : Int) := by omega
  clear h hW1 hb1 hs1 hbx hk k0' hB1 hne hg hbb
  go_enter Try.func63, Try.ntmps63
  go_upto_region 1 with fail
  rw [← HW1.out, ← HE1.out]
  rw [HP.out] at q0 q1 q2 q3
  go_upto_region 5 with fail
  obtain ⟨W2, hW2⟩ : ∃ W, W = W1.alloc (.cells #[.slice vA vn vc, .int .i64 a1, .int .i64 a2, .int .i64 a3] 100) := ⟨_, rfl⟩
  have hs2' : Stay [] W1 W2 := by rw [hW2]; exact Stay.alloc _ _
  have hb2 : Blk W2 W1.heap.size [.slice vA vn vc, .int .i64 a1, .int .i64 a2, .int .i64 a3] 100 := by rw [hW2]; exact Blk.new W1 _ _
  have HBb2 := HB1.out.stay hs2' (by simp)
  have HBx2 := HBx.out.stay hs2' (by simp)
  have k1 : W2.cell? ⟨bb, k, none⟩ = some (.slice (some ⟨g, o, none⟩) (m + 1) c) := (hs2'.cell_ (a := ⟨bb, k, none⟩) (World.block_lt_of_cell? _ _ k0) (by simp)).trans k0
  have f1 := HBb2.free k
  have hl1 := HBx.out.lt
  have hl2 := HB1.out.lt
  rw [← hW2]
  have HW2 := Lib.hid hW2
  obtain ⟨b2, he2⟩ : ∃ b, b = W1.heap.size := ⟨_, rfl⟩
  rw [← he2] at hb2 ⊢
  have hn12 : ¬ b1 = b2 := by omega
  have hn21 : ¬ b2 = b1 := by omega
  have hnb2 : bb ≠ b2 := by omega
  have hnb1 : bb ≠ b1 := Ne.symm HNe.out
  have hss : ∀ (u : World) (v : Value), Stay [bb] u (u.setCell ⟨bb, k, none⟩ v) := fun u v => Stay.setCell _ _ _ (by simp)
  have HB3 := Lib.hid (HBb2.set k (.slice (some ⟨g, o, none⟩) m m))
  have HX3 := Lib.hid (HBx2.stay (hss W2 (.slice (some ⟨g, o, none⟩) m m)) (by simp; exact Ne.symm hnb1))
  have HY3 := Lib.hid (hb2.stay (hss W2 (.slice (some ⟨g, o, none⟩) m m)) (by simp; exact Ne.symm hnb2))
  have HS3 := Lib.hid ((HS1.out.mono (G := [bb]) (by simp)).trans ((hs2'.mono (G := [bb]) (by simp)).trans (hss W2 (.slice (some ⟨g, o, none⟩) m m))))
  have HF := Lib.hid (And.intro hnb1 (And.intro hl1 HS1.out.size))
  clear hW2 hb2 HBb2 HBx2 k0 q0 q1 q2 q3 he2 hnb2 hss hl1 hl2 HW2
  go_upto_region 6 with fail
  obtain ⟨W3, hW3⟩ : ∃ W, W = W2.setCell ⟨bb, k, none⟩ (.slice (some ⟨g, o, none⟩) m m) := ⟨_, rfl⟩
  rw [← hW3] at HB3 HX3 HY3 HS3 ⊢
  have u0 : W3.cell? ⟨b2, 0, none⟩ = some (.slice vA vn vc) := HY3.out.cell 0
  have u1 : W3.cell? ⟨b2, 1, none⟩ = some (.int .i64 a1) := HY3.out.cell 1
  have u2 : W3.cell? ⟨b2, 2, none⟩ = some (.int .i64 a2) := HY3.out.cell 2
  have u3 : W3.cell? ⟨b2, 3, none⟩ = some (.int .i64 a3) := HY3.out.cell 3
  have z0 : W3.cell? ⟨b1, 0, none⟩ = some (.slice none 0 0) := HX3.out.cell 0
  have z1 : W3.cell? ⟨b1, 1, none⟩ = some (.int .i64 0) := HX3.out.cell 1
  have z2 : W3.cell? ⟨b1, 2, none⟩ = some (.int .i64 0) := HX3.out.cell 2
  have z3 : W3.cell? ⟨b1, 3, none⟩ = some (.int .i64 0) := HX3.out.cell 3
  have y0 := HX3.out.free 0
  have y1 := HX3.out.free 1
  have y2 := HX3.out.free 2
  have y3 := HX3.out.free 3
  have HL := Lib.hid (show ∀ (c0 c1 c2 c3 : Value), Blk ((((W3.setCell ⟨b1, 0, none⟩ c0).setCell ⟨b1, 1, none⟩ c1).setCell ⟨b1, 2, none⟩ c2).setCell ⟨b1, 3, none⟩ c3) bb (L.set k (.slice (some ⟨g, o, none⟩) m m)) 98 ∧ Stay [bb] w ((((W3.setCell ⟨b1, 0, none⟩ c0).setCell ⟨b1, 1, none⟩ c1).setCell ⟨b1, 2, none⟩ c2).setCell ⟨b1, 3, none⟩ c3) from fun c0 c1 c2 c3 => by
    have hss : ∀ (u : World) (j : Nat) (v : Value), Stay [b1] u (u.setCell ⟨b1, j, none⟩ v) := fun u j v => Stay.setCell _ _ _ (by simp)
    have hs := (((hss W3 0 c0).trans (hss _ 1 c1)).trans (hss _ 2 c2)).trans (hss _ 3 c3)
    exact ⟨HB3.out.stay hs (by simpa using HF.out.1), HS3.out.trans' hs (fun f hf => .inr (by rw [List.mem_singleton] at hf; rw [hf, HE1.out]; exact Nat.le_refl _))⟩)
  clear hW3 HB3 HX3 HY3
  go_wp2_with fail
  exact bodyPost_ret (v := .tuple #[.agg #[.slice vA vn vc, .int .i64 a1, .int .i64 a2, .int .i64 a3], .bool true]) (by simp [results, Try.results63, go_sem, z0, z1, z2, z3]) rfl ⟨rfl, HL.out _ _ _ _⟩
end Go.Proofs.Ytjoeebjmjnddoaa
namespace Go.Proofs.Ytjoeebjmjnddoaa
open Go.RowKit
def chg (D : List MG) : Nat := (D.map fun g => g.ed.length).sum
def byt (D : List MG) : Int := (D.map fun g => g.by_).sum
theorem chg_cons (g : MG) (D : List MG) : chg (g :: D) = g.ed.length + chg D := by simp [chg]
theorem byt_cons (g : MG) (D : List MG) : byt (g :: D) = g.by_ + byt D := by simp [byt]
theorem chg_app (D E : List MG) : chg (D ++ E) = chg D + chg E := by simp [chg]
theorem byt_app (D E : List MG) : byt (D ++ E) = byt D + byt E := by simp [byt]
theorem byt_nn : ∀ (D : List MG), (∀ g ∈ D, 0 ≤ g.by_) → 0 ≤ byt D
  | [], _ => by simp [byt]
  | g :: D, h => by
    rw [byt_cons]
    have h1 := h g (by simp)
    have h2 := byt_nn D (fun x hx => h x (by simp [hx]))
    omega
theorem take_next (D : List MG) (k : Nat) (hk : k < D.length) : chg (D.take (k + 1)) = chg (D.take k) + D[k].ed.length ∧ byt (D.take (k + 1)) = byt (D.take k) + D[k].by_ := by
  rw [List.take_succ_eq_append_getElem hk, chg_app, byt_app]
  simp [chg, byt]
theorem drop_next (D : List MG) (k : Nat) (hk : k < D.length) : chg (D.drop k) = D[k].ed.length + chg (D.drop (k + 1)) ∧ byt (D.drop k) = D[k].by_ + byt (D.drop (k + 1)) := by
  rw [List.drop_eq_getElem_cons hk, chg_cons, byt_cons]
  exact ⟨rfl, rfl⟩
theorem split_le (D : List MG) (k : Nat) (h : ∀ g ∈ D, 0 ≤ g.by_) : chg (D.take k) ≤ chg D ∧ 0 ≤ byt (D.take k) ∧ byt (D.take k) ≤ byt D ∧ chg (D.drop k) ≤ chg D ∧ 0 ≤ byt (D.drop k) ∧ byt (D.drop k) ≤ byt D := by
  have e1 : chg D = chg (D.take k) + chg (D.drop k) := by rw [← chg_app, List.take_append_drop]
  have e2 : byt D = byt (D.take k) + byt (D.drop k) := by rw [← byt_app, List.take_append_drop]
  have h1 := byt_nn (D.take k) (fun x hx => h x (List.mem_of_mem_take hx))
  have h2 := byt_nn (D.drop k) (fun x hx => h x (List.mem_of_mem_drop hx))
  omega
set_option maxRecDepth 20000 in
set_option maxHeartbeats 16000000 in
theorem forget_any (B bb rb g o n c : Nat) (sp : Int) (uv : Value) (st sv gv : Int) (D : List MG) (w : World) (h : Blk w bb (bcells rb sp (.slice (some ⟨g, o, none⟩) n c) uv st sv gv) 98) (hW : Win w B 100 4 (some ⟨g, o, none⟩) n c (gcs D)) (hn : n = D.length) (hn0 : 0 < n)
    (hby : ∀ x ∈ D, 0 ≤ x.by_) (hc : chg D ≤ 4294967296) (hb : byt D ≤ 1099511627776) :
    Calls Try.prog 62 #[.pointer (some ⟨bb, 0, none⟩)] w fun e w' => e = .returned (.tuple #[]) ∧ ∃ j, j < n ∧ Blk w' bb (bcells rb sp (.slice (some ⟨g, o + j * 4, none⟩) (n - j) (c - j)) uv st sv gv) 98 ∧ Stay [bb] w w' ∧ (n - j = 1 ∨ chg (D.drop j) ≤ 1024) := by
  have hcm := hW.2.2.1
  have hnc := hW.2.1
  simp only [maxLen] at hcm
  have HCell := Lib.hid (show ∀ u, Stay [bb] w u → ∀ k (hk : k < D.length), u.cell? ⟨g, o + k * 4, none⟩ = some (.slice D[k].A D[k].ed.length D[k].c) ∧ u.cell? ⟨g, o + k * 4 + 1, none⟩ = some (.int .i64 D[k].by_) ∧ u.cell? ⟨g, o + k * 4 + 2, none⟩ = some (.int .i64 D[k].be) ∧ u.cell? ⟨g, o + k * 4 + 3, none⟩ = some (.int .i64 D[k].st) from fun u hs k hk => by
    have h2 := hW.stay hs (fun f hf hm => by
      obtain ⟨_, _, L, hL⟩ := hW.ab f hf
      rw [List.mem_singleton] at hm
      subst hm
      have := hL.type h
      cases this)
    exact win_group h2 k hk)
  have HB := Lib.hid h
  have HN := Lib.hid hn
  have hni : (n : Int) ≤ 9223372036854775807 := by omega
  have HL := Lib.hid (fun k => split_le D k hby)
  have HC := Lib.hid (And.intro hc hb)
  have HNC := Lib.hid (And.intro hnc hn0)
  have c2 : w.cell? ⟨bb, 2, none⟩ = some (.slice (some ⟨g, o, none⟩) n c) := h.cell 2
  clear h hW hn hby hc hb hcm hnc hn0
  go_enter Try.func62, Try.ntmps62
  go_wp2_with fail
  go_loopw [2, 3, 11] (fun cv bv iv wr => ∃ (k : Nat) (x : Nat) (y : Int), k ≤ n ∧ iv = .int .i64 k ∧ cv = .int .i64 x ∧ bv = .int .i64 y ∧ Hid (x = chg (D.take k) ∧ y = byt (D.take k)) ∧ Hid (Stay [] w wr)) (fun _ _ iv _ => n - (intOf iv).toNat)
  case atStart => exact ⟨0, 0, 0, by omega, rfl, rfl, rfl, ⟨rfl, rfl⟩, Stay.refl _ _⟩
  case round =>
    obtain ⟨k, x, y, hk, rfl, rfl, rfl, HX, HT⟩ := hrel
    by_cases hlt : k < n
    · have hlt' : (k : Int) < n := by omega
      have hk0 : (0 : Int) ≤ k := by omega
      have hkD : k < D.length := by rw [← HN.out]; exact hlt
      obtain ⟨q0, q1, q2, q3⟩ := HCell.out wr (HT.out.mono (by simp)) k hkD
      obtain ⟨t1, t2⟩ := take_next D k hkD
      obtain ⟨G, hG⟩ : ∃ G, G = D[k] := ⟨_, rfl⟩
      rw [← hG] at q0 q1 q2 q3 t1 t2
      have h1 := HL.out (k + 1)
      have h2 := HL.out k
      have h3 := HC.out
      obtain ⟨x2, hx2⟩ : ∃ x2, x2 = x + G.ed.length := ⟨_, rfl⟩
      obtain ⟨y2, hy2⟩ : ∃ y2, y2 = y + G.by_ := ⟨_, rfl⟩
      have HX2 := Lib.hid (show x2 = chg (D.take (k + 1)) ∧ y2 = byt (D.take (k + 1)) from by rw [t1, t2, hx2, hy2, HX.out.1, HX.out.2]; exact ⟨rfl, rfl⟩)
      have hs1 : IntKind.i64.wrap ((x : Int) + G.ed.length) = (x2 : Int) := by have := HX2.out.1; simp only [IntKind.wrap, IntKind.bits, IntKind.signed]; simp; omega
      have hs2 : IntKind.i64.wrap (y + G.by_) = y2 := by have := HX2.out.2; simp only [IntKind.wrap, IntKind.bits, IntKind.signed]; simp; omega
      obtain ⟨GA, gc, ged, gby, gbe, gst⟩ := G
      simp only at q0 q1 q2 q3 hs1 hs2
      clear hG t1 t2 h1 h2 h3 hx2 hy2 HX hkD
      obtain ⟨W2, hW2⟩ : ∃ W, W = wr.alloc (.cells #[.slice GA ged.length gc, .int .i64 gby, .int .i64 gbe, .int .i64 gst] 100) := ⟨_, rfl⟩
      have HT2 := Lib.hid (show Stay [] w W2 from by rw [hW2]; exact HT.out.alloc')
      have hbx : Blk W2 wr.heap.size [.slice GA ged.length gc, .int .i64 gby, .int .i64 gbe, .int .i64 gst] 100 := by rw [hW2]; exact Blk.new wr _ _
      have u0 : W2.cell? ⟨wr.heap.size, 0, none⟩ = some (.slice GA ged.length gc) := hbx.cell 0
      have u1 : W2.cell? ⟨wr.heap.size, 1, none⟩ = some (.int .i64 gby) := hbx.cell 1
      have HW2 := Lib.hid hW2
      clear hbx hW2 c2
      go_upto_region 4 with fail
      rw [← HW2.out]
      go_wp2_with fail
      go_roundw
      case rel => exact ⟨k + 1, x2, y2, by omega, by go_num, rfl, rfl, HX2, HT2⟩
      case measure => simp [intOf]; omega
    · have hlt' : ¬ (k : Int) < n := by omega
      have hkn : k = n := by omega
      have HX1 := Lib.hid (show x = chg (D.drop 0) ∧ y = byt (D.drop 0) from by rw [List.drop_zero]; have := HX.out; rw [hkn, HN.out, List.take_length] at this; exact this)
      have HBk := Lib.hid (HB.out.stay HT.out (by simp))
      have HTk := Lib.hid (HT.out.mono (G := [bb]) (by simp))
      clear HX HT c2 hkn
      go_wp2_with fail
      go_loopw [2, 3] (fun cv bv wx => ∃ (j oj nj cj x : Nat) (y : Int), cv = .int .i64 x ∧ bv = .int .i64 y ∧ Hid (oj = o + j * 4 ∧ nj = n - j ∧ cj = c - j ∧ j < n) ∧ Hid (x = chg (D.drop j) ∧ y = byt (D.drop j)) ∧ Hid (Blk wx bb (bcells rb sp (.slice (some ⟨g, oj, none⟩) nj cj) uv st sv gv) 98) ∧ Hid (Stay [bb] w wx)) (fun _ _ wx => match wx.cell? ⟨bb, 2, none⟩ with | some (.slice _ m _) => m | _ => 0)
      case atStart => exact ⟨0, o, n, c, x, y, rfl, rfl, ⟨by omega, by omega, by omega, HNC.out.2⟩, HX1, HBk, HTk⟩
      case round =>
        obtain ⟨j, oj, nj, cj, x, y, rfl, rfl, HJ, HX, HBj, HTj⟩ := hrel
        have c2 : wr.cell? ⟨bb, 2, none⟩ = some (.slice (some ⟨g, oj, none⟩) nj cj) := HBj.out.cell 2
        have f2 := HBj.out.free 2
        have hjn := HJ.out.2.2.2
        have hnj := HJ.out.2.1
        have hjD : j < D.length := by rw [← HN.out]; exact hjn
        have hcj := HJ.out.2.2.1
        have hnc := HNC.out.1
        have HFin := Lib.hid (show (nj ≤ 1 ∨ x ≤ 1024) → ∃ j, j < n ∧ Blk wr bb (bcells rb sp (.slice (some ⟨g, o + j * 4, none⟩) (n - j) (c - j)) uv st sv gv) 98 ∧ Stay [bb] w wr ∧ (n - j = 1 ∨ chg (D.drop j) ≤ 1024) from fun hh => by
          refine ⟨j, hjn, ?_, HTj.out, ?_⟩
          · rw [← HJ.out.1, ← hnj, ← hcj]; exact HBj.out
          · rw [← HX.out.1]; omega)
        by_cases h1 : 1 < nj
        · have h1' : (1 : Int) < nj := by omega
          by_cases h2 : 1024 < x
          · have h2' : (1024 : Int) < x := by omega
            obtain ⟨q0, q1, q2, q3⟩ := HCell.out wr HTj.out j hjD
            rw [← HJ.out.1] at q0 q1 q2 q3
            obtain ⟨t1, t2⟩ := drop_next D j hjD
            have hl1 := HL.out j
            have hl2 := HL.out (j + 1)
            have hl3 := HC.out
            obtain ⟨G, hG⟩ : ∃ G, G = D[j] := ⟨_, rfl⟩
            rw [← hG] at q0 q1 q2 q3 t1 t2
            have hx := HX.out.1
            have hy := HX.out.2
            obtain ⟨x2, hx2⟩ : ∃ x2, x2 = chg (D.drop (j + 1)) := ⟨_, rfl⟩
            obtain ⟨y2, hy2⟩ : ∃ y2, y2 = byt (D.drop (j + 1)) := ⟨_, rfl⟩
            have hs1 : IntKind.i64.wrap ((x : Int) - G.ed.length) = (x2 : Int) := by simp only [IntKind.wrap, IntKind.bits, IntKind.signed]; simp; omega
            have hs2 : IntKind.i64.wrap (y - G.by_) = y2 := by simp only [IntKind.wrap, IntKind.bits, IntKind.signed]; simp; omega
            have HX2 := Lib.hid (And.intro hx2 hy2)
            obtain ⟨GA, gc, ged, gby, gbe, gst⟩ := G
            simp only at q0 q1 q2 q3 hs1 hs2
            have hj0 : (0 : Int) < nj := by omega
            have hj1 : (1 : Int) ≤ nj := by omega
            have hjc : (nj : Int) ≤ cj := by omega
            have HJ2 := Lib.hid (show oj + 4 = o + (j + 1) * 4 ∧ nj - 1 = n - (j + 1) ∧ cj - 1 = c - (j + 1) ∧ j + 1 < n from by have := HJ.out.1; omega)
            have HB2 := Lib.hid (show Blk (wr.setCell ⟨bb, 2, none⟩ (.slice (some ⟨g, oj + 4, none⟩) (nj - 1) (cj - 1))) bb (bcells rb sp (.slice (some ⟨g, oj + 4, none⟩) (nj - 1) (cj - 1)) uv st sv gv) 98 from HBj.out.set 2 _)
            have HT2 := Lib.hid (show Stay [bb] w (wr.setCell ⟨bb, 2, none⟩ (.slice (some ⟨g, oj + 4, none⟩) (nj - 1) (cj - 1))) from HTj.out.trans (Stay.setCell _ _ _ (by simp)))
            have HM := Lib.hid (And.intro (HB2.out.cell 2) c2)
            have HNj := Lib.hid h1
            clear hG t1 t2 hl1 hl2 hl3 hx hy hx2 hy2 HX HFin HJ hjn hnj hjD hcj hnc HTj HBj h1
            go_wp2_with fail
            go_roundw
            case rel => exact ⟨j + 1, oj + 4, nj - 1, cj - 1, x2, y2, rfl, rfl, HJ2, HX2, HB2, HT2⟩
            case measure =>
              have e1 := HM.out.1
              have e2 := HM.out.2
              have e3 := HNj.out
              have e1' : (wr.setCell ⟨bb, 2, none⟩ (.slice (some ⟨g, oj + 4, none⟩) (nj - 1) (cj - 1))).cell? ⟨bb, 2, none⟩ = some (.slice (some ⟨g, oj + 4, none⟩) (nj - 1) (cj - 1)) := e1
              rw [e1', e2]
              simp only
              omega
          · have h2' : ¬ (1024 : Int) < x := by omega
            by_cases h3 : 16777216 < y
            · have h3' : (16777216 : Int) < y := h3
              obtain ⟨q0, q1, q2, q3⟩ := HCell.out wr HTj.out j hjD
              rw [← HJ.out.1] at q0 q1 q2 q3
              obtain ⟨t1, t2⟩ := drop_next D j hjD
              have hl1 := HL.out j
              have hl2 := HL.out (j + 1)
              have hl3 := HC.out
              obtain ⟨G, hG⟩ : ∃ G, G = D[j] := ⟨_, rfl⟩
              rw [← hG] at q0 q1 q2 q3 t1 t2
              have hx := HX.out.1
              have hy := HX.out.2
              obtain ⟨x2, hx2⟩ : ∃ x2, x2 = chg (D.drop (j + 1)) := ⟨_, rfl⟩
              obtain ⟨y2, hy2⟩ : ∃ y2, y2 = byt (D.drop (j + 1)) := ⟨_, rfl⟩
              have hs1 : IntKind.i64.wrap ((x : Int) - G.ed.length) = (x2 : Int) := by simp only [IntKind.wrap, IntKind.bits, IntKind.signed]; simp; omega
              have hs2 : IntKind.i64.wrap (y - G.by_) = y2 := by simp only [IntKind.wrap, IntKind.bits, IntKind.signed]; simp; omega
              have HX2 := Lib.hid (And.intro hx2 hy2)
              obtain ⟨GA, gc, ged, gby, gbe, gst⟩ := G
              simp only at q0 q1 q2 q3 hs1 hs2
              have hj0 : (0 : Int) < nj := by omega
              have hj1 : (1 : Int) ≤ nj := by omega
              have hjc : (nj : Int) ≤ cj := by omega
              have HJ2 := Lib.hid (show oj + 4 = o + (j + 1) * 4 ∧ nj - 1 = n - (j + 1) ∧ cj - 1 = c - (j + 1) ∧ j + 1 < n from by have := HJ.out.1; omega)
              have HB2 := Lib.hid (show Blk (wr.setCell ⟨bb, 2, none⟩ (.slice (some ⟨g, oj + 4, none⟩) (nj - 1) (cj - 1))) bb (bcells rb sp (.slice (some ⟨g, oj + 4, none⟩) (nj - 1) (cj - 1)) uv st sv gv) 98 from HBj.out.set 2 _)
              have HT2 := Lib.hid (show Stay [bb] w (wr.setCell ⟨bb, 2, none⟩ (.slice (some ⟨g, oj + 4, none⟩) (nj - 1) (cj - 1))) from HTj.out.trans (Stay.setCell _ _ _ (by simp)))
              have HM := Lib.hid (And.intro (HB2.out.cell 2) c2)
              have HNj := Lib.hid h1
              clear hG t1 t2 hl1 hl2 hl3 hx hy hx2 hy2 HX HFin HJ hjn hnj hjD hcj hnc HTj HBj h1
              go_wp2_with fail
              go_roundw
              case rel => exact ⟨j + 1, oj + 4, nj - 1, cj - 1, x2, y2, rfl, rfl, HJ2, HX2, HB2, HT2⟩
              case measure =>
                have e1 := HM.out.1
                have e2 := HM.out.2
                have e3 := HNj.out
                have e1' : (wr.setCell ⟨bb, 2, none⟩ (.slice (some ⟨g, oj + 4, none⟩) (nj - 1) (cj - 1))).cell? ⟨bb, 2, none⟩ = some (.slice (some ⟨g, oj + 4, none⟩) (nj - 1) (cj - 1)) := e1
                rw [e1', e2]
                simp only
                omega
            · have HE := Lib.hid (HFin.out (.inr (by omega)))
              clear HFin HX HJ hjn hnj hjD hcj hnc
              go_wp2_with fail
              exact bodyPost_end (v := .tuple #[]) (by simp [results, Try.results62, go_sem]) rfl ⟨rfl, HE.out⟩
        · have h1' : ¬ (1 : Int) < nj := by omega
          have HE := Lib.hid (HFin.out (.inl (by omega)))
          clear HFin HX HJ hjn hnj hjD hcj hnc
          go_wp2_with fail
          exact bodyPost_end (v := .tuple #[]) (by simp [results, Try.results62, go_sem]) rfl ⟨rfl, HE.out⟩
end Go.Proofs.Ytjoeebjmjnddoaa
namespace Go.Proofs.Ytjoeebjmjnddoaa
open Go.RowKit
set_option maxRecDepth 20000 in
set_option maxHeartbeats 4000000 in
theorem each_undo (b4 m k : Nat) (A : Option Addr) (c : Nat) (w : World) (h : w.cell? ⟨b4, 0, none⟩ = some (.slice A m c)) (hk : k < m) (hm : m ≤ 4096) :
    Calls Try.prog 65 #[.int .i64 k, .pointer (some ⟨b4, 0, none⟩)] w fun e w' => e = .returned (.int .i64 ((m - 1 - k : Nat) : Int)) ∧ w' = w := by
  have hs1 : IntKind.i64.wrap ((m : Int) - 1) = (m : Int) - 1 := by simp only [IntKind.wrap, IntKind.bits, IntKind.signed]; simp; omega
  have hs2 : IntKind.i64.wrap ((m : Int) - 1 - k) = ((m - 1 - k : Nat) : Int) := by simp only [IntKind.wrap, IntKind.bits, IntKind.signed]; simp; omega
  clear hk hm
  go_enter Try.func65, Try.ntmps65
  go_wp2_with fail
  go_ret
  exact ⟨rfl, rfl⟩
set_option maxRecDepth 20000 in
set_option maxHeartbeats 4000000 in
theorem each_redo (k : Nat) (w : World) : Calls Try.prog 66 #[.int .i64 k] w fun e w' => e = .returned (.int .i64 k) ∧ w' = w := by
  go_enter Try.func66, Try.ntmps66
  go_wp2_with fail
  go_ret
  exact ⟨rfl, rfl⟩
end Go.Proofs.Ytjoeebjmjnddoaa
namespace Go.Proofs.Ytjoeebjmjnddoaa
open Go.RowKit
/-- what takes an edit back, once it is done on a text -/
def backE (b : Ed) (x : List UInt8) : Ed := ⟨b.a, b.s.size, str (cutL x b.a.toNat (b.a.toNat + b.d.toNat))⟩
def UndB (a b : Ed) (y x : List UInt8) : Prop := Undoes a y x ∧ a = backE b x
theorem do_undo2 (rb : Nat) (t : Rp) (st : Int) (b : Ed) (x : List UInt8) (w : World) (h : RopeAt w rb t st) (hst : U64 st) (hu : Undoes b t.text x) :
    ∃ a : Ed, Calls Try.prog 21 #[.pointer (some ⟨rb, 0, none⟩), b.val] w (DoneTo rb w a st x) ∧ UndB a b x t.text := by
  obtain ⟨a, d, ins, h1, h2, h3, h4, rfl⟩ := hu
  obtain ⟨b1, b2, b3⟩ := editL_back x a d ins h1
  have hlen := editL_length x a d ins h1
  have hcl : (cutL x a (a + d)).length = d := by rw [cutL_length _ _ _ h1]; omega
  rw [← h4] at b1 b2 b3 hlen
  have hU : Undoes ⟨a, d, str ins⟩ x t.text := by
    refine ⟨a, ins.length, cutL x a (a + d), b3, h3, h2, b1.symm, ?_⟩
    rw [b2, hcl]
  refine ⟨⟨a, d, str ins⟩, ?_, hU, ?_⟩
  · refine (do_ok rb t st a ins.length (cutL x a (a + d)) w h hst b3 (by rw [Rp.len]; omega)).mono ?_
    rintro e w' ⟨e1, ⟨t', e2, e3⟩, e4⟩
    refine ⟨?_, ⟨t', e2, e3.trans b1⟩, e4⟩
    rw [e1, b2, hcl]
    rfl
  · unfold backE
    simp only [Int.toNat_natCast, str_size, hcl, b2]
def zeroE : Ed := ⟨0, 0, ⟨#[]⟩⟩
theorem made37 (x : Nat) : madeCells (Value.agg #[.int .i64 0, .int .i64 0, .string ⟨#[]⟩]).cells (x * 3) = (eds (List.replicate x zeroE)).toArray := by
  have h := madeCells_eq (Value.agg #[.int .i64 0, .int .i64 0, .string ⟨#[]⟩]).cells x
  have e : (Value.agg #[.int .i64 0, .int .i64 0, .string ⟨#[]⟩]).cells.size = 3 := rfl
  rw [e] at h
  rw [h]
  apply Array.toList_inj.1
  rw [zeroCells_list]
  show _ = eds (List.replicate x zeroE)
  unfold eds
  rw [List.flatMap_replicate]
  rfl
/-- what turn has done when k edits are made -/
structure TI (B W0 : Nat) (W : World) (rb eo b9 m : Nat) (e : Nat → Ed) (idx : Nat → Nat) (cur : Nat → List UInt8) (gbe gst : Int) (kd k ky : Nat) (dA : Option Addr) (dc : Nat) (X : List Ed) (y : Int) (t : Rp) (rs : Int) (w : World) : Prop where
  did : Win w B 37 3 dA kd dc (eds ((List.range kd).map fun i => e (idx i)))
  xl : X.length = m
  out : Blk w eo (eds X) 37
  back : ∀ i, i < k → ∃ x, X[idx i]? = some x ∧ UndB x (e (idx i)) (cur (i + 1)) (cur i)
  box : Blk w b9 [.slice (some ⟨eo, 0, none⟩) m m, .int .i64 y, .int .i64 gbe, .int .i64 gst] 100
  R : RopeAt w rb t rs
  u : U64 rs
  tx : t.text = cur k
  stay : Stay [rb] W w
  new : ∀ f ∈ Ab dA, W0 ≤ f
  ne : eo ∉ Ab dA
  y0 : 0 ≤ y
  y1 : y ≤ ky * 1048576
  hW0 : W0 = W.heap.size
  eo0 : W0 ≤ eo
  b90 : W0 ≤ b9
section
variable {B W0 : Nat} {W : World} {rb eo b9 m : Nat} {e : Nat → Ed} {idx : Nat → Nat} {cur : Nat → List UInt8} {gbe gst : Int} {kd k ky : Nat} {dA : Option Addr} {dc : Nat} {X : List Ed} {y : Int} {t : Rp} {rs : Int} {w w' : World}
theorem TI.stay0 (h : TI B W0 W rb eo b9 m e idx cur gbe gst kd k ky dA dc X y t rs w) (hs : Stay [] w w') : TI B W0 W rb eo b9 m e idx cur gbe gst kd k ky dA dc X y t rs w' :=
  ⟨h.did.stay0 hs, h.xl, h.out.stay hs (by simp), h.back, h.box.stay hs (by simp), h.R.stay0 hs, h.u, h.tx, h.stay.trans (hs.mono (by simp)), h.new, h.ne, h.y0, h.y1, h.hW0, h.eo0, h.b90⟩
theorem win_types {w : World} {B : Nat} {e : TypeId} {sz n c : Nat} {A : Option Addr} {xs : List Value} (h : Win w B e sz A n c xs) {f : Nat} {L : List Value} {t : TypeId} (hf : Blk w f L t) (he : t ≠ e) : f ∉ Ab A := fun hm => by
  obtain ⟨_, _, L2, hL⟩ := h.ab f hm
  exact he (hf.type hL)
theorem TI.push {A' : Option Addr} {c' : Nat} (h : TI B W0 W rb eo b9 m e idx cur gbe gst kd k ky dA dc X y t rs w) (hs : Stay (Ab dA) w w') (hw : Win w' B 37 3 A' (kd + 1) c' (eds ((List.range kd).map fun i => e (idx i)) ++ (e (idx kd)).cells)) (ha : Ab A' = Ab dA ∨ ∃ g, Ab A' = [g] ∧ w.heap.size ≤ g) :
    TI B W0 W rb eo b9 m e idx cur gbe gst (kd + 1) k ky A' c' X y t rs w' := by
  obtain ⟨L7, h7⟩ := h.R.blk
  have hnp : NoPair w (Ab dA) := noPair_of fun f hf L hL => by
    obtain ⟨_, _, L2, hL2⟩ := h.did.ab f hf
    have := hL.type hL2
    cases this
  refine ⟨?_, h.xl, h.out.stay hs h.ne, h.back, h.box.stay hs (win_types h.did h.box (by decide)), h.R.stay hs hnp (win_types h.did h7 (by decide)), h.u, h.tx, h.stay.trans' hs (fun f hf => .inr (by rw [← h.hW0]; exact h.new f hf)), ?_, ?_, h.y0, h.y1, h.hW0, h.eo0, h.b90⟩
  · rw [List.range_succ, List.map_append]
    unfold eds
    rw [List.flatMap_append]
    simpa [eds] using hw
  · rcases ha with ha | ⟨g, ha, hg⟩
    · rw [ha]; exact h.new
    · rw [ha]
      intro f hf
      rw [List.mem_singleton] at hf
      rw [hf, h.hW0]
      exact Nat.le_trans h.stay.size hg
  · rcases ha with ha | ⟨g, ha, hg⟩
    · rw [ha]; exact h.ne
    · rw [ha, List.mem_singleton]
      have := h.out.lt
      omega
theorem eds_set (X : List Ed) (q : Nat) (hq : q < X.length) (a : Ed) : (((eds X).set (q * 3) (.int .i64 a.a)).set (q * 3 + 1) (.int .i64 a.d)).set (q * 3 + 2) (.string a.s) = eds (X.set q a) := by
  have e1 := flat_set Ed.cells 3 Ed.len X q hq 0 (.int .i64 a.a) ⟨a.a, X[q].d, X[q].s⟩ (by omega) rfl
  have e2 := flat_set Ed.cells 3 Ed.len (X.set q ⟨a.a, X[q].d, X[q].s⟩) q (by rw [List.length_set]; exact hq) 1 (.int .i64 a.d) ⟨a.a, a.d, X[q].s⟩ (by omega) (by rw [List.getElem_set_self]; rfl)
  have e3 := flat_set Ed.cells 3 Ed.len ((X.set q ⟨a.a, X[q].d, X[q].s⟩).set q ⟨a.a, a.d, X[q].s⟩) q (by rw [List.length_set, List.length_set]; exact hq) 2 (.string a.s) a (by omega) (by rw [List.getElem_set_self]; rfl)
  rw [Nat.add_zero] at e1
  unfold eds
  rw [e1, e2, e3, List.set_set, List.set_set]
theorem TI.step {a : Ed} {t' : Rp} {rs' : Int} {q : Nat} (h : TI B W0 W rb eo b9 m e idx cur gbe gst kd k ky dA dc X y t rs w) (hs : Stay [rb] w w') (hR : RopeAt w' rb t' rs') (hu : U64 rs') (ht : t'.text = cur (k + 1)) (hU : UndB a (e (idx k)) (cur (k + 1)) (cur k)) (hq : q = idx k) (hqm : q < m)
    (hinj : ∀ i, i < k → idx i ≠ q) : TI B W0 W rb eo b9 m e idx cur gbe gst kd (k + 1) ky dA dc (X.set q a) y t' rs' (((w'.setCell ⟨eo, q * 3, none⟩ (.int .i64 a.a)).setCell ⟨eo, q * 3 + 1, none⟩ (.int .i64 a.d)).setCell ⟨eo, q * 3 + 2, none⟩ (.string a.s)) := by
  obtain ⟨L7, h7⟩ := h.R.blk
  have n37 : ∀ {f : Nat} {L : List Value} {ty : TypeId}, Blk w f L ty → ty ≠ 77 → f ∉ [rb] := fun {f L ty} hf hne hm => by
    rw [List.mem_singleton] at hm
    subst hm
    exact hne (hf.type h7)
  have hout := h.out.stay hs (n37 h.out (by decide))
  have hbox := h.box.stay hs (n37 h.box (by decide))
  have hdid := h.did.stay hs (fun f hf => by
    obtain ⟨_, _, L2, hL2⟩ := h.did.ab f hf
    exact n37 hL2 (by decide))
  have hse : ∀ (u : World) (j : Nat) (v : Value), Stay [eo] u (u.setCell ⟨eo, j, none⟩ v) := fun u j v => Stay.setCell _ _ _ (by simp)
  have hs3 := ((hse w' (q * 3) (.int .i64 a.a)).trans (hse _ (q * 3 + 1) (.int .i64 a.d))).trans (hse _ (q * 3 + 2) (.string a.s))
  obtain ⟨L8, h8⟩ := hR.blk
  have ne1 : ∀ {f : Nat} {L : List Value} {ty : TypeId}, Blk w' f L ty → ty ≠ 37 → f ∉ [eo] := fun {f L ty} hf hne hm => by
    rw [List.mem_singleton] at hm
    subst hm
    exact hne (hf.type hout)
  have hq2 : q < X.length := by rw [h.xl]; exact hqm
  refine ⟨hdid.stay hs3 (fun f hf hm => ?_), by rw [List.length_set]; exact h.xl, ?_, fun i hi => ?_, hbox.stay hs3 (ne1 hbox (by decide)), hR.stay hs3 (noPair_of fun f hf L hL => ?_) (ne1 h8 (by decide)), hu, ht, (h.stay.trans hs).trans' hs3 (fun f hf => .inr ?_), h.new, h.ne, h.y0, h.y1, h.hW0, h.eo0, h.b90⟩
  · rw [List.mem_singleton] at hm
    subst hm
    exact h.ne hf
  · rw [← eds_set X q hq2 a]
    exact ((hout.set (q * 3) (.int .i64 a.a)).set (q * 3 + 1) (.int .i64 a.d)).set (q * 3 + 2) (.string a.s)
  · by_cases e1 : i = k
    · subst e1
      exact ⟨a, by rw [← hq, List.getElem?_set_self hq2], hU⟩
    · obtain ⟨x, hx, hx2⟩ := h.back i (by omega)
      exact ⟨x, by rw [List.getElem?_set_ne (Ne.symm (hinj i (by omega)))]; exact hx, hx2⟩
  · rw [List.mem_singleton] at hf
    subst hf
    have := hL.type hout
    cases this
  · rw [List.mem_singleton] at hf
    subst hf
    rw [← h.hW0]
    exact h.eo0
theorem TI.add {z : Nat} (h : TI B W0 W rb eo b9 m e idx cur gbe gst kd k ky dA dc X y t rs w) (hz : z ≤ 1048576) : TI B W0 W rb eo b9 m e idx cur gbe gst kd k (ky + 1) dA dc X (y + z) t rs (w.setCell ⟨b9, 1, none⟩ (.int .i64 (y + z))) := by
  have hs : Stay [b9] w (w.setCell ⟨b9, 1, none⟩ (.int .i64 (y + z))) := Stay.setCell _ _ _ (by simp)
  obtain ⟨L7, h7⟩ := h.R.blk
  have ne1 : ∀ {f : Nat} {L : List Value} {ty : TypeId}, Blk w f L ty → ty ≠ 100 → f ∉ [b9] := fun {f L ty} hf hne hm => by
    rw [List.mem_singleton] at hm
    subst hm
    exact hne (hf.type h.box)
  refine ⟨h.did.stay hs (fun f hf => ?_), h.xl, h.out.stay hs (ne1 h.out (by decide)), h.back, h.box.set 1 _, h.R.stay hs (noPair_of fun f hf L hL => ?_) (ne1 h7 (by decide)), h.u, h.tx, h.stay.trans' hs (fun f hf => .inr ?_), h.new, h.ne, ?_, ?_, h.hW0, h.eo0, h.b90⟩
  · obtain ⟨_, _, L2, hL2⟩ := h.did.ab f hf
    exact ne1 hL2 (by decide)
  · rw [List.mem_singleton] at hf
    subst hf
    have := hL.type h.box
    cases this
  · rw [List.mem_singleton] at hf
    subst hf
    rw [← h.hW0]
    exact h.b90
  · have := h.y0; omega
  · have := h.y1; omega
end
theorem undoes_size {b : Ed} {cur x : List UInt8} (h : Undoes b cur x) : b.s.size ≤ 1048576 := by
  obtain ⟨a, d, ins, h1, h2, _, _, rfl⟩ := h
  show (str (cutL x a (a + d))).size ≤ _
  rw [str_size, cutL_length _ _ _ h1]
  omega
theorem eds_at (X : List Ed) (q : Nat) (hq : q < X.length) (j : Nat) (hj : j < 3) : (eds X)[q * 3 + j]? = X[q].cells[j]? := flat_at Ed.cells 3 Ed.len X q hq j hj
theorem eo_facts {u : World} {eo q : Nat} {X : List Ed} (h : Blk u eo (eds X) 37) (hq : q < X.length) (v1 v2 : Value) :
    u.cell? ⟨eo, q * 3, none⟩ = some (.int .i64 X[q].a) ∧ u.frozen? ⟨eo, q * 3, none⟩ = false ∧ (u.setCell ⟨eo, q * 3, none⟩ v1).cell? ⟨eo, q * 3 + 1, none⟩ = some (.int .i64 X[q].d) ∧ (u.setCell ⟨eo, q * 3, none⟩ v1).frozen? ⟨eo, q * 3 + 1, none⟩ = false ∧
    ((u.setCell ⟨eo, q * 3, none⟩ v1).setCell ⟨eo, q * 3 + 1, none⟩ v2).cell? ⟨eo, q * 3 + 2, none⟩ = some (.string X[q].s) ∧ ((u.setCell ⟨eo, q * 3, none⟩ v1).setCell ⟨eo, q * 3 + 1, none⟩ v2).frozen? ⟨eo, q * 3 + 2, none⟩ = false := by
  have h1 := h.set (q * 3) v1
  have h2 := h1.set (q * 3 + 1) v2
  refine ⟨(h.cell _).trans ?_, h.free _, (h1.cell _).trans ?_, h1.free _, (h2.cell _).trans ?_, h2.free _⟩
  · have := eds_at X q hq 0 (by omega)
    rw [Nat.add_zero] at this
    exact this
  · rw [List.getElem?_set_ne (by omega)]
    exact eds_at X q hq 1 (by omega)
  · rw [List.getElem?_set_ne (by omega), List.getElem?_set_ne (by omega)]
    exact eds_at X q hq 2 (by omega)
/-- what turn tells -/
def Turned (B rb bb m : Nat) (sp : Int) (dv uv : Value) (st sv gv gbe gst : Int) (e : Nat → Ed) (idx : Nat → Nat) (cur : Nat → List UInt8) (w : World) (r : Ending) (w' : World) : Prop :=
  ∃ (X : List Ed) (A' : Option Addr) (y : Int) (dA : Option Addr) (dc : Nat) (t' : Rp) (rs' : Int), r = .returned (.tuple #[.agg #[.slice A' m m, .int .i64 y, .int .i64 gbe, .int .i64 gst], .slice dA m dc]) ∧ X.length = m ∧ Win w' B 37 3 A' m m (eds X) ∧
    (∀ k, k < m → ∃ x, X[idx k]? = some x ∧ UndB x (e (idx k)) (cur (k + 1)) (cur k)) ∧ Win w' B 37 3 dA m dc (eds ((List.range m).map fun k => e (idx k))) ∧ RopeAt w' rb t' rs' ∧ U64 rs' ∧ t'.text = cur m ∧ Blk w' bb (bcells rb rs' dv uv st sv gv) 98 ∧ Stay [rb, bb] w w' ∧ 0 ≤ y ∧ y ≤ m * 1048576
/-- at the end: the stamp is written, the answer's box filled -/
theorem TI.fin {B W0 : Nat} {w W wr w' : World} {rb eo b9 m bb b6 : Nat} {sp : Int} {dv uv : Value} {st sv gv : Int} {e : Nat → Ed} {idx : Nat → Nat} {cur : Nat → List UInt8} {gbe gst : Int} {dA : Option Addr} {dc : Nat} {X : List Ed} {y : Int} {t : Rp} {rs : Int}
    (h : TI B W0 W rb eo b9 m e idx cur gbe gst m m m dA dc X y t rs wr) (hw : Stay [] w W) (hb : Blk W bb (bcells rb sp dv uv st sv gv) 98) (hr : ∃ L, Blk W rb L 77) (hm : m ≤ maxLen) (hB : B ≤ W0) (hs : Stay [b6] (wr.setCell ⟨bb, 1, none⟩ (.int .u64 rs)) w') (h6 : w.heap.size ≤ b6) (h6b : ∃ L, Blk W b6 L 100)
    (q : Ending) (hq : q = .returned (.tuple #[.agg #[.slice (some ⟨eo, 0, none⟩) m m, .int .i64 y, .int .i64 gbe, .int .i64 gst], .slice dA m dc])) : Turned B rb bb m sp dv uv st sv gv gbe gst e idx cur w q w' := by
  obtain ⟨L7, h7⟩ := hr
  obtain ⟨L6, h6b⟩ := h6b
  have nrb : ∀ {f : Nat} {L : List Value} {ty : TypeId}, Blk W f L ty → ty ≠ 77 → f ∉ [rb] := fun {f L ty} hf hne hm => by
    rw [List.mem_singleton] at hm
    subst hm
    exact hne (hf.type h7)
  have hbb := hb.stay h.stay (nrb hb (by decide))
  have h66 := h6b.stay h.stay (nrb h6b (by decide))
  have hsb : Stay [bb] wr (wr.setCell ⟨bb, 1, none⟩ (.int .u64 rs)) := Stay.setCell _ _ _ (by simp)
  have hbb2 : Blk (wr.setCell ⟨bb, 1, none⟩ (.int .u64 rs)) bb (bcells rb rs dv uv st sv gv) 98 := hbb.set 1 (.int .u64 rs)
  have nbb : ∀ {f : Nat} {L : List Value} {ty : TypeId}, Blk wr f L ty → ty ≠ 98 → f ∉ [bb] := fun {f L ty} hf hne hm => by
    rw [List.mem_singleton] at hm
    subst hm
    exact hne (hf.type hbb)
  have h662 := h66.stay hsb (nbb h66 (by decide))
  have nb6 : ∀ {f : Nat} {L : List Value} {ty : TypeId}, Blk (wr.setCell ⟨bb, 1, none⟩ (.int .u64 rs)) f L ty → ty ≠ 100 → f ∉ [b6] := fun {f L ty} hf hne hm => by
    rw [List.mem_singleton] at hm
    subst hm
    exact hne (hf.type h662)
  have ho1 := h.out.stay hsb (nbb h.out (by decide))
  have ho2 := ho1.stay hs (nb6 ho1 (by decide))
  have hd1 := h.did.stay hsb (fun f hf => by
    obtain ⟨_, _, L2, hL2⟩ := h.did.ab f hf
    exact nbb hL2 (by decide))
  have hd2 := hd1.stay hs (fun f hf => by
    obtain ⟨_, _, L2, hL2⟩ := hd1.ab f hf
    exact nb6 hL2 (by decide))
  obtain ⟨L8, h8⟩ := h.R.blk
  have hR1 := h.R.stay hsb (blk_noPair98 hbb) (nbb h8 (by decide))
  have hR2 := hR1.stay hs (noPair_of fun f hf L hL => by
    rw [List.mem_singleton] at hf
    subst hf
    have := hL.type h662
    cases this) (by
    obtain ⟨L9, h9⟩ := hR1.blk
    exact nb6 h9 (by decide))
  refine ⟨X, some ⟨eo, 0, none⟩, y, dA, dc, t, rs, hq, h.xl, ?_, h.back, hd2, hR2, h.u, h.tx, hbb2.stay hs (nb6 hbb2 (by decide)), ?_, h.y0, h.y1⟩
  · have hel := eds_length X
    rw [h.xl] at hel
    exact ⟨hel, Nat.le_refl _, hm, .inr ⟨eo, 0, eds X, rfl, Nat.le_trans hB h.eo0, ho2, by omega, by rw [List.drop_zero]; exact List.take_of_length_le (by omega)⟩⟩
  · have s1 : Stay [rb, bb] w wr := (hw.mono (by simp)).trans (h.stay.mono (by simp))
    exact (s1.trans (hsb.mono (by simp))).trans' hs (fun f hf => .inr (by rw [List.mem_singleton] at hf; rw [hf]; exact h6))
theorem two_boxes (W : World) (L1 L2 : List Value) (t1 t2 : TypeId) : Blk ((W.alloc (.cells L1.toArray t1)).alloc (.cells L2.toArray t2)).drew W.heap.size L1 t1 ∧ Blk ((W.alloc (.cells L1.toArray t1)).alloc (.cells L2.toArray t2)).drew (W.heap.size + 1) L2 t2 ∧ Stay [] W ((W.alloc (.cells L1.toArray t1)).alloc (.cells L2.toArray t2)).drew := by
  have h1 := (Blk.new W L1 t1).stay (F := []) ((Stay.alloc _ (.cells L2.toArray t2)).drew') (by simp)
  have h2 := (Blk.new (W.alloc (.cells L1.toArray t1)) L2 t2).stay (F := []) (Stay.drew _) (by simp)
  rw [size_alloc'] at h2
  exact ⟨h1, h2, ((Stay.alloc _ _).alloc').drew'⟩
theorem win_ed {w : World} {B g o n c : Nat} {L : List Ed} (h : Win w B 37 3 (some ⟨g, o, none⟩) n c (eds L)) (q : Nat) (x : Ed) (hx : L[q]? = some x) :
    w.cell? ⟨g, o + q * 3, none⟩ = some (.int .i64 x.a) ∧ w.cell? ⟨g, o + q * 3 + 1, none⟩ = some (.int .i64 x.d) ∧ w.cell? ⟨g, o + q * 3 + 2, none⟩ = some (.string x.s) := by
  obtain ⟨hq, rfl⟩ := List.getElem?_eq_some_iff.1 hx
  have key : ∀ j u, L[q].cells[j]? = some u → w.cell? ⟨g, o + q * 3 + j, none⟩ = some u := fun j u hj => by
    rw [Nat.add_assoc]
    exact h.cell _ _ ((flat_at Ed.cells 3 Ed.len L q hq j (List.getElem?_eq_some_iff.1 hj).1).trans hj)
  exact ⟨by have := key 0 _ rfl; rwa [Nat.add_zero] at this, key 1 _ rfl, key 2 _ rfl⟩
end Go.Proofs.Ytjoeebjmjnddoaa
namespace Go.Proofs.Ytjoeebjmjnddoaa
open Go.RowKit
/-- the book's block, a box, both lists, a group that is neither's, the rope -/
structure UM (w : World) (B bb rb bx : Nat) (L bxl : List Value) (DA : Option Addr) (dc : Nat) (D : List MG) (UA : Option Addr) (uc : Nat) (U : List MG) (g : MG) (t : Rp) (rs : Int) : Prop where
  bbk : Blk w bb L 98
  box : Blk w bx bxl 100
  dW : Win w B 100 4 DA D.length dc (gcs D)
  uW : Win w B 100 4 UA U.length uc (gcs U)
  dE : ∀ x ∈ D, x.ok w B
  uE : ∀ x ∈ U, x.ok w B
  gE : g.ok w B
  R : RopeAt w rb t rs
  ap : ∀ f ∈ Ab DA, f ∉ Ab UA
  xd : bx ∉ Ab DA
  xu : bx ∉ Ab UA
section
variable {w w' : World} {B bb rb bx : Nat} {L bxl : List Value} {DA : Option Addr} {dc : Nat} {D : List MG} {UA : Option Addr} {uc : Nat} {U : List MG} {g : MG} {t : Rp} {rs : Int}
/-- what F must not hit -/
theorem UM.stay {F : List Nat} (h : UM w B bb rb bx L bxl DA dc D UA uc U g t rs) (hs : Stay F w w') (h1 : bb ∉ F) (h2 : bx ∉ F) (h3 : ∀ f ∈ Ab DA, f ∉ F) (h4 : ∀ f ∈ Ab UA, f ∉ F) (h5 : rb ∉ F) (h6 : ∀ f ∈ F, ∀ L ty, Blk w f L ty → ty ≠ 37 ∧ ty ≠ 111) : UM w' B bb rb bx L bxl DA dc D UA uc U g t rs :=
  ⟨h.bbk.stay hs h1, h.box.stay hs h2, h.dW.stay hs h3, h.uW.stay hs h4, fun x hx => (h.dE x hx).stay hs (fun f hf L hL => (h6 f hf L _ hL).1 rfl), fun x hx => (h.uE x hx).stay hs (fun f hf L hL => (h6 f hf L _ hL).1 rfl), h.gE.stay hs (fun f hf L hL => (h6 f hf L _ hL).1 rfl),
    h.R.stay hs (noPair_of fun f hf L hL => (h6 f hf L _ hL).2 rfl) h5, h.ap, h.xd, h.xu⟩
theorem UM.stay0 (h : UM w B bb rb bx L bxl DA dc D UA uc U g t rs) (hs : Stay [] w w') : UM w' B bb rb bx L bxl DA dc D UA uc U g t rs := h.stay hs (by simp) (by simp) (by simp) (by simp) (by simp) (by simp)
theorem blk_ne_of {f f' : Nat} {l l' : List Value} {ty ty' : TypeId} (h : Blk w f l ty) (h' : Blk w f' l' ty') (hn : ty ≠ ty') : f ≠ f' := fun e => by
  subst e
  exact hn (h.type h')
/-- a field of the book is written -/
theorem UM.setb (h : UM w B bb rb bx L bxl DA dc D UA uc U g t rs) (k : Nat) (v : Value) : UM (w.setCell ⟨bb, k, none⟩ v) B bb rb bx (L.set k v) bxl DA dc D UA uc U g t rs := by
  have hs : Stay [bb] w (w.setCell ⟨bb, k, none⟩ v) := Stay.setCell _ _ _ (by simp)
  obtain ⟨L7, h7⟩ := h.R.blk
  have n1 : ∀ {f : Nat} {l : List Value} {ty : TypeId}, Blk w f l ty → ty ≠ 98 → f ∉ [bb] := fun {f l ty} hf hn hm => by
    rw [List.mem_singleton] at hm
    exact blk_ne_of hf h.bbk hn hm
  have n2 : ∀ f ∈ [bb], ∀ L ty, Blk w f L ty → ty ≠ 37 ∧ ty ≠ 111 := fun f hf L ty hL => by
    rw [List.mem_singleton] at hf
    subst hf
    have := hL.type h.bbk
    subst this
    exact ⟨by decide, by decide⟩
  have n3 : ∀ (A : Option Addr) (n c : Nat) (xs : List Value), Win w B 100 4 A n c xs → ∀ f ∈ Ab A, f ∉ [bb] := fun A n c xs hw f hf => by
    obtain ⟨_, _, L2, hL2⟩ := hw.ab f hf
    exact n1 hL2 (by decide)
  exact ⟨h.bbk.set k v, h.box.stay hs (n1 h.box (by decide)), h.dW.stay hs (n3 _ _ _ _ h.dW), h.uW.stay hs (n3 _ _ _ _ h.uW), fun x hx => (h.dE x hx).stay hs (fun f hf L hL => (n2 f hf L _ hL).1 rfl), fun x hx => (h.uE x hx).stay hs (fun f hf L hL => (n2 f hf L _ hL).1 rfl), h.gE.stay hs (fun f hf L hL => (n2 f hf L _ hL).1 rfl),
    h.R.stay hs (noPair_of fun f hf L hL => (n2 f hf L _ hL).2 rfl) (n1 h7 (by decide)), h.ap, h.xd, h.xu⟩
/-- a field of the box is written -/
theorem UM.setx (h : UM w B bb rb bx L bxl DA dc D UA uc U g t rs) (k : Nat) (v : Value) : UM (w.setCell ⟨bx, k, none⟩ v) B bb rb bx L (bxl.set k v) DA dc D UA uc U g t rs := by
  have hs : Stay [bx] w (w.setCell ⟨bx, k, none⟩ v) := Stay.setCell _ _ _ (by simp)
  obtain ⟨L7, h7⟩ := h.R.blk
  have n1 : ∀ {f : Nat} {l : List Value} {ty : TypeId}, Blk w f l ty → ty ≠ 100 → f ∉ [bx] := fun {f l ty} hf hn hm => by
    rw [List.mem_singleton] at hm
    exact blk_ne_of hf h.box hn hm
  have n2 : ∀ f ∈ [bx], ∀ L ty, Blk w f L ty → ty ≠ 37 ∧ ty ≠ 111 := fun f hf L ty hL => by
    rw [List.mem_singleton] at hf
    subst hf
    have := hL.type h.box
    subst this
    exact ⟨by decide, by decide⟩
  have n3 : ∀ {f : Nat} {A : Option Addr}, bx ∉ Ab A → f ∈ Ab A → f ∉ [bx] := fun {f A} hn hf hm => by
    rw [List.mem_singleton] at hm
    subst hm
    exact hn hf
  exact ⟨h.bbk.stay hs (n1 h.bbk (by decide)), h.box.set k v, h.dW.stay hs (fun f hf => n3 h.xd hf), h.uW.stay hs (fun f hf => n3 h.xu hf), fun x hx => (h.dE x hx).stay hs (fun f hf L hL => (n2 f hf L _ hL).1 rfl), fun x hx => (h.uE x hx).stay hs (fun f hf L hL => (n2 f hf L _ hL).1 rfl), h.gE.stay hs (fun f hf L hL => (n2 f hf L _ hL).1 rfl),
    h.R.stay hs (noPair_of fun f hf L hL => (n2 f hf L _ hL).2 rfl) (n1 h7 (by decide)), h.ap, h.xd, h.xu⟩
/-- the group is put behind the second list -/
theorem UM.app {A' : Option Addr} {c' : Nat} (h : UM w B bb rb bx L bxl DA dc D UA uc U g t rs) (hs : Stay (Ab UA) w w') (hw : Win w' B 100 4 A' (U.length + 1) c' (gcs U ++ g.cells)) (ha : Ab A' = Ab UA ∨ ∃ x, Ab A' = [x] ∧ w.heap.size ≤ x) : UM w' B bb rb bx L bxl DA dc D A' c' (U ++ [g]) g t rs := by
  obtain ⟨L7, h7⟩ := h.R.blk
  have n1 : ∀ {f : Nat} {l : List Value} {ty : TypeId}, Blk w f l ty → ty ≠ 100 → f ∉ Ab UA := fun {f l ty} hf hn => win_types h.uW hf hn
  have n2 : ∀ f ∈ Ab UA, ∀ L ty, Blk w f L ty → ty ≠ 37 ∧ ty ≠ 111 := fun f hf L ty hL => by
    obtain ⟨_, _, L2, hL2⟩ := h.uW.ab f hf
    have := hL.type hL2
    subst this
    exact ⟨by decide, by decide⟩
  refine ⟨h.bbk.stay hs (n1 h.bbk (by decide)), h.box.stay hs h.xu, h.dW.stay hs h.ap, ?_, fun x hx => (h.dE x hx).stay hs (fun f hf L hL => (n2 f hf L _ hL).1 rfl), fun x hx => ?_, h.gE.stay hs (fun f hf L hL => (n2 f hf L _ hL).1 rfl),
    h.R.stay hs (noPair_of fun f hf L hL => (n2 f hf L _ hL).2 rfl) (n1 h7 (by decide)), fun f hf => ?_, h.xd, ?_⟩
  · rw [List.length_append]
    unfold gcs
    rw [List.flatMap_append]
    simpa [gcs] using hw
  · rcases List.mem_append.1 hx with hx | hx
    · exact (h.uE x hx).stay hs (fun f hf L hL => (n2 f hf L _ hL).1 rfl)
    · rw [List.mem_singleton] at hx
      subst hx
      exact h.gE.stay hs (fun f hf L hL => (n2 f hf L _ hL).1 rfl)
  · rcases ha with ha | ⟨x, ha, hx⟩
    · rw [ha]; exact h.ap f hf
    · rw [ha, List.mem_singleton]
      have := (h.dW.ab f hf).2.1
      omega
  · rcases ha with ha | ⟨x, ha, hx⟩
    · rw [ha]; exact h.xu
    · rw [ha, List.mem_singleton]
      have := h.box.lt
      omega
/-- turn: the rope and the book's stamp -/
theorem UM.turn {t' : Rp} {rs' : Int} {L' : List Value} {g' : MG} (h : UM w B bb rb bx L bxl DA dc D UA uc U g t rs) (hs : Stay [rb, bb] w w') (hL : Blk w' bb L' 98) (hR : RopeAt w' rb t' rs') (hg : g'.ok w' B) : UM w' B bb rb bx L' bxl DA dc D UA uc U g' t' rs' := by
  obtain ⟨L7, h7⟩ := h.R.blk
  have n1 : ∀ {f : Nat} {l : List Value} {ty : TypeId}, Blk w f l ty → ty ≠ 77 → ty ≠ 98 → f ∉ [rb, bb] := fun {f l ty} hf hn hn2 hm => by
    rcases List.mem_cons.1 hm with e | hm
    · exact blk_ne_of hf h7 hn e
    · rw [List.mem_singleton] at hm
      exact blk_ne_of hf h.bbk hn2 hm
  have n2 : ∀ f ∈ [rb, bb], ∀ L, ¬ Blk w f L 37 := fun f hf L hL => n1 hL (by decide) (by decide) hf
  have n3 : ∀ (A : Option Addr) (n c : Nat) (xs : List Value), Win w B 100 4 A n c xs → ∀ f ∈ Ab A, f ∉ [rb, bb] := fun A n c xs hw f hf => by
    obtain ⟨_, _, L2, hL2⟩ := hw.ab f hf
    exact n1 hL2 (by decide) (by decide)
  exact ⟨hL, h.box.stay hs (n1 h.box (by decide) (by decide)), h.dW.stay hs (n3 _ _ _ _ h.dW), h.uW.stay hs (n3 _ _ _ _ h.uW), fun x hx => (h.dE x hx).stay hs n2, fun x hx => (h.uE x hx).stay hs n2, hg, hR, h.ap, h.xd, h.xu⟩
end
end Go.Proofs.Ytjoeebjmjnddoaa
