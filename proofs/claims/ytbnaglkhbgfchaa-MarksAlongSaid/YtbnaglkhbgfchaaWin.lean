/- a slice as a window of a block: address with offset, cuts, append (taken out of undo for other seats). -/
import Derived.Test.YtbnaglkhbgfchaaStay
import Derived.ArgAppend
namespace Go.Proofs.Ytbnaglkhbgfchaa
open Go.RowKit
/-- the blocks that an address names -/
def Ab : Option Addr → List Nat
  | none => []
  | some a => [a.block]
/-- n elements of sz cells each, room for c, in a block of the element's type -/
def Win (w : World) (B : Nat) (e : TypeId) (sz : Nat) (A : Option Addr) (n c : Nat) (xs : List Value) : Prop :=
  xs.length = n * sz ∧ n ≤ c ∧ c ≤ maxLen ∧ ((A = none ∧ c = 0) ∨ ∃ g o L, A = some ⟨g, o, none⟩ ∧ B ≤ g ∧ Blk w g L e ∧ o + c * sz ≤ L.length ∧ (L.drop o).take (n * sz) = xs)
section
variable {w w' : World} {B : Nat} {e : TypeId} {sz : Nat} {A : Option Addr} {n c : Nat} {xs : List Value} {g o : Nat}
theorem Win.nil (w : World) (B : Nat) (e : TypeId) (sz : Nat) : Win w B e sz none 0 0 [] := ⟨by simp, Nat.le_refl _, Nat.zero_le _, .inl ⟨rfl, rfl⟩⟩
theorem Win.some_ (h : Win w B e sz (some ⟨g, o, none⟩) n c xs) : ∃ L, B ≤ g ∧ Blk w g L e ∧ o + c * sz ≤ L.length ∧ (L.drop o).take (n * sz) = xs := by
  rcases h.2.2.2 with ⟨h, _⟩ | ⟨g', o', L, h1, h2, h3, h4, h5⟩
  · cases h
  · injection h1 with h1
    injection h1 with h1 h6
    subst h1 h6
    exact ⟨L, h2, h3, h4, h5⟩
theorem Win.addr (h : Win w B e sz A n c xs) (hn : 0 < n) : ∃ g o, A = some ⟨g, o, none⟩ := by
  rcases h.2.2.2 with ⟨_, h0⟩ | ⟨g, o, L, h1, _⟩
  · have := h.2.1; omega
  · exact ⟨g, o, h1⟩
theorem Win.lt (h : Win w B e sz (some ⟨g, o, none⟩) n c xs) : B ≤ g ∧ g < w.heap.size := by
  obtain ⟨L, h1, h2, _⟩ := h.some_
  exact ⟨h1, h2.lt⟩
theorem Win.ab (h : Win w B e sz A n c xs) : ∀ f ∈ Ab A, B ≤ f ∧ f < w.heap.size ∧ ∃ L, Blk w f L e := fun f hf => by
  rcases h.2.2.2 with ⟨rfl, _⟩ | ⟨g, o, L, rfl, h1, h2, _⟩
  · cases hf
  · obtain rfl : f = g := by simpa [Ab] using hf
    exact ⟨h1, h2.lt, L, h2⟩
theorem Win.cell (h : Win w B e sz (some ⟨g, o, none⟩) n c xs) (k : Nat) (u : Value) (hk : xs[k]? = some u) : w.cell? ⟨g, o + k, none⟩ = some u := by
  obtain ⟨L, _, h2, h3, h4⟩ := h.some_
  have hkl := (List.getElem?_eq_some_iff.1 hk).1
  rw [h2.cell, ← hk, ← h4, List.getElem?_take_of_lt (by rw [h.1] at hkl; exact hkl), List.getElem?_drop]
theorem Win.free (h : Win w B e sz (some ⟨g, o, none⟩) n c xs) (k : Nat) : w.frozen? ⟨g, k, none⟩ = false := by
  obtain ⟨L, _, h2, _⟩ := h.some_
  exact h2.free k
theorem Win.stay {F : List Nat} (h : Win w B e sz A n c xs) (hs : Stay F w w') (hF : ∀ g ∈ Ab A, g ∉ F) : Win w' B e sz A n c xs := by
  obtain ⟨h1, h2, h3, h4⟩ := h
  refine ⟨h1, h2, h3, ?_⟩
  rcases h4 with h | ⟨g, o, L, rfl, h5, h6, h7⟩
  · exact .inl h
  · exact .inr ⟨g, o, L, rfl, h5, h6.stay hs (hF g (by simp [Ab])), h7⟩
theorem Win.stay0 (h : Win w B e sz A n c xs) (hs : Stay [] w w') : Win w' B e sz A n c xs := h.stay hs (by simp)
theorem Win.mono {B' : Nat} (h : Win w B e sz A n c xs) (hB : B' ≤ B) : Win w B' e sz A n c xs := by
  obtain ⟨h1, h2, h3, h4⟩ := h
  refine ⟨h1, h2, h3, ?_⟩
  rcases h4 with h | ⟨g, o, L, rfl, h5, h6, h7⟩
  · exact .inl h
  · exact .inr ⟨g, o, L, rfl, by omega, h6, h7⟩
/-- l[:m:m] -/
theorem Win.front (h : Win w B e sz A n c xs) (m : Nat) (hm : m ≤ n) : Win w B e sz A m m (xs.take (m * sz)) := by
  obtain ⟨h1, h2, h3, h4⟩ := h
  have hms : m * sz ≤ n * sz := Nat.mul_le_mul_right _ hm
  refine ⟨by rw [List.length_take]; omega, Nat.le_refl _, by omega, ?_⟩
  rcases h4 with ⟨h, h0⟩ | ⟨g, o, L, rfl, h5, h6, h7, h8⟩
  · exact .inl ⟨h, by omega⟩
  · have : m * sz ≤ c * sz := Nat.mul_le_mul_right _ (by omega)
    exact .inr ⟨g, o, L, rfl, h5, h6, by omega, by rw [← h8, List.take_take, Nat.min_eq_left hms]⟩
/-- l[1:] -/
theorem Win.tail (h : Win w B e sz (some ⟨g, o, none⟩) n c xs) (hn : 1 ≤ n) : Win w B e sz (some ⟨g, o + sz, none⟩) (n - 1) (c - 1) (xs.drop sz) := by
  obtain ⟨L, h5, h6, h7, h8⟩ := h.some_
  obtain ⟨h1, h2, h3, h4⟩ := h
  have e1 : n * sz = sz + (n - 1) * sz := by obtain ⟨m, rfl⟩ : ∃ m, n = m + 1 := ⟨n - 1, by omega⟩; rw [Nat.add_mul, Nat.add_sub_cancel]; omega
  have e2 : c * sz = sz + (c - 1) * sz := by obtain ⟨m, rfl⟩ : ∃ m, c = m + 1 := ⟨c - 1, by omega⟩; rw [Nat.add_mul, Nat.add_sub_cancel]; omega
  refine ⟨by rw [List.length_drop]; omega, by omega, by omega, .inr ⟨g, o + sz, L, rfl, h5, h6, by omega, ?_⟩⟩
  rw [← h8, e1, List.drop_take, List.drop_drop]
  congr 1
  omega
/-- a cell is written -/
theorem Win.set (h : Win w B e sz (some ⟨g, o, none⟩) n c xs) (k : Nat) (u : Value) (_ : k < n * sz) : Win (w.setCell ⟨g, o + k, none⟩ u) B e sz (some ⟨g, o, none⟩) n c (xs.set k u) := by
  obtain ⟨L, h5, h6, h7, h8⟩ := h.some_
  obtain ⟨h1, h2, h3, h4⟩ := h
  have hcs : n * sz ≤ c * sz := Nat.mul_le_mul_right _ h2
  refine ⟨by rw [List.length_set]; exact h1, h2, h3, .inr ⟨g, o, L.set (o + k) u, rfl, h5, h6.set _ _, by rw [List.length_set]; exact h7, ?_⟩⟩
  rw [List.drop_set, if_neg (by omega), show o + k - o = k by omega, List.take_set, h8]
theorem Blk.sets {b : Nat} {t : TypeId} : ∀ (vs : List Value) (k : Nat) (w : World) (L : List Value), Blk w b L t → k + vs.length ≤ L.length → Blk (w.setCells b k vs) b (L.take k ++ vs ++ L.drop (k + vs.length)) t
  | [], k, w, L, h, _ => by
    simp only [World.setCells, List.append_nil, List.length_nil, Nat.add_zero, List.take_append_drop]
    exact h
  | v :: r, k, w, L, h, hk => by
    simp only [List.length_cons] at hk
    rw [World.setCells]
    have h2 := Blk.sets r (k + 1) _ _ (h.set k v) (by rw [List.length_set]; omega)
    have e : (L.set k v).take (k + 1) ++ r ++ (L.set k v).drop (k + 1 + r.length) = L.take k ++ v :: r ++ L.drop (k + (v :: r).length) := by
      rw [List.drop_set_of_lt (by omega), List.take_succ_eq_append_getElem (by rw [List.length_set]; omega), List.getElem_set_self, List.take_set_of_le (Nat.le_refl _)]
      simp only [List.length_cons, List.append_assoc, List.singleton_append]
      congr 3
      omega
    rw [e] at h2
    exact h2
theorem Stay.sets {b : Nat} {F : List Nat} (hb : b ∈ F) : ∀ (vs : List Value) (k : Nat) (w : World), Stay F w (w.setCells b k vs)
  | [], _, _ => Stay.refl _ _
  | v :: r, k, w => by rw [World.setCells]; exact (Stay.setCell _ _ _ hb).trans (Stay.sets hb r _ _)
end
/-- append, whatever room there is -/
theorem run_append_win' {P : Program} {w : World} {B : Nat} {e : TypeId} {sz : Nat} {A : Option Addr} {n c : Nat} {xs : List Value} (t ty : TypeId) (i : TypeInfo) (z : Value) (bytes : Nat) (ht : P.underlying t = some (.slice e)) (hi : P.info? e = some i) (hz : i.zero = some z)
    (hsize : i.size = sz) (hby : i.bytes = bytes) (hzs : z.cells.size = sz) (hsz : 0 < sz) (hw : Win w B e sz A n c xs)
    (a : Addr) (m ca : Nat) (news : List Value) (hl : news.length = m * sz) (hm : 0 < m) (hnews : ∀ j u, news[j]? = some u → w.cell? (a.add j) = some u) (h1 : ∀ u ∈ news, u.oneCell' = true)
    (h63 : n + m ≤ maxLen) (hbytes : (n + m) * bytes ≤ 140737488355328) (hB : B ≤ w.heap.size) :
    ∃ A' c' w', (Builtin.append_ #[t, t] ty #[.slice A n c, .slice (some a) m ca]).run P w = .ok (.slice A' (n + m) c') w' ∧ Win w' B e sz A' (n + m) c' (xs ++ news) ∧ Stay (Ab A) w w' ∧ (Ab A' = Ab A ∨ ∃ g, Ab A' = [g] ∧ w.heap.size ≤ g) ∧ (c < n + m → Stay [] w w') := by
  subst hsize
  subst hby
  obtain ⟨hxl, hnc, hcm, hA⟩ := hw
  have hlen : (xs ++ news).length = (n + m) * i.size := by rw [List.length_append, hxl, hl, Nat.add_mul]
  rcases hA with ⟨rfl, hc0⟩ | ⟨g, o, L, rfl, hBg, hblk, hroom, hread⟩
  · obtain rfl : n = 0 := by omega
    subst hc0
    obtain rfl : xs = [] := by simpa using hxl
    obtain ⟨v', w', hrun, h2, h3, _, h5⟩ := run_append_own_at (P := P) w B t ty e i z i.size i.bytes ht hi hz rfl rfl hzs hsz (.slice none 0 0) 0 [] (World.ownsRow_nil _ _ _ _) a m ca news hl hnews h1 h63 hbytes hB
    rcases h2.2 with ⟨_, h0⟩ | ⟨g, cap, cur, rfl, hb, hg, hnc', hcm', hcs, htake⟩
    · omega
    · refine ⟨_, _, w', hrun, ⟨hlen, hnc', hcm', .inr ⟨g, 0, cur.toList, rfl, hb, by unfold Blk; rw [hg], by rw [Array.length_toList]; omega, by rw [List.drop_zero]; exact htake⟩⟩, Stay.grown h3 (by simp [Value.ownBlock]), ?_, fun _ => Stay.grown h3 (by simp [Value.ownBlock])⟩
      rcases h5 with h5 | h5
      · cases h5
      · injection h5 with h5
        exact .inr ⟨g, rfl, by simp only at h5; omega⟩
  · have holds : ∀ j u, xs[j]? = some u → w.cell? ((⟨g, o, none⟩ : Addr).add j) = some u := fun j u hj => by
      rw [add_lit']
      exact Win.cell ⟨hxl, hnc, hcm, .inr ⟨g, o, L, rfl, hBg, hblk, hroom, hread⟩⟩ j u hj
    by_cases hr : n + m ≤ c
    · have hcs : (n + m) * i.size ≤ c * i.size := Nat.mul_le_mul_right _ hr
      rw [Nat.add_mul] at hcs
      have hrun := run_append_room_cells (P := P) w t ty e i ht hi g o n c a m ca news hl hnews h1 hr (fun j hj => by
        rw [hblk.cell, List.getElem?_eq_getElem (by omega)]; rfl) (fun j _ => hblk.free _)
      refine ⟨_, _, _, hrun, ⟨hlen, hr, hcm, .inr ⟨g, o, _, rfl, hBg, Blk.sets news (o + n * i.size) w L hblk (by omega), ?_, ?_⟩⟩, Stay.sets (by simp [Ab]) _ _ _, .inl rfl, fun hh => absurd hr (by omega)⟩
      · simp only [List.length_append, List.length_take, List.length_drop]
        omega
      · have e1 : (L.take (o + n * i.size)).drop o = xs := by rw [List.drop_take, Nat.add_sub_cancel_left]; exact hread
        have e2 : (L.take (o + n * i.size)).length = o + n * i.size := by rw [List.length_take]; omega
        rw [List.append_assoc, List.drop_append, e1, e2, show o - (o + n * i.size) = 0 by omega, List.drop_zero, ← List.append_assoc, ← hlen, List.take_left]
    · obtain ⟨v', w', hrun, h2, h3⟩ := run_append_arg_grows (P := P) w t ty e i z i.size i.bytes ht hi hz rfl rfl hzs hsz ⟨g, o, none⟩ n c xs hxl holds a m ca news hl hnews (by omega) h63 hbytes
      rcases h2.2 with ⟨_, h0⟩ | ⟨g', cap, cur, rfl, hb, hg, hnc', hcm', hcs, htake⟩
      · omega
      · exact ⟨_, _, w', hrun, ⟨hlen, hnc', hcm', .inr ⟨g', 0, cur.toList, rfl, by omega, by unfold Blk; rw [hg], by rw [Array.length_toList]; omega, by rw [List.drop_zero]; exact htake⟩⟩, Stay.grown h3 (by simp), .inr ⟨g', rfl, hb⟩, fun _ => Stay.grown h3 (by simp)⟩
theorem run_append_win {P : Program} {w : World} {B : Nat} {e : TypeId} {sz : Nat} {A : Option Addr} {n c : Nat} {xs : List Value} (t ty : TypeId) (i : TypeInfo) (z : Value) (bytes : Nat) (ht : P.underlying t = some (.slice e)) (hi : P.info? e = some i) (hz : i.zero = some z)
    (hsize : i.size = sz) (hby : i.bytes = bytes) (hzs : z.cells.size = sz) (hsz : 0 < sz) (hw : Win w B e sz A n c xs)
    (a : Addr) (m ca : Nat) (news : List Value) (hl : news.length = m * sz) (hm : 0 < m) (hnews : ∀ j u, news[j]? = some u → w.cell? (a.add j) = some u) (h1 : ∀ u ∈ news, u.oneCell' = true)
    (h63 : n + m ≤ maxLen) (hbytes : (n + m) * bytes ≤ 140737488355328) (hB : B ≤ w.heap.size) :
    ∃ A' c' w', (Builtin.append_ #[t, t] ty #[.slice A n c, .slice (some a) m ca]).run P w = .ok (.slice A' (n + m) c') w' ∧ Win w' B e sz A' (n + m) c' (xs ++ news) ∧ Stay (Ab A) w w' ∧ (Ab A' = Ab A ∨ ∃ g, Ab A' = [g] ∧ w.heap.size ≤ g) := by
  obtain ⟨A', c', w', h1, h2, h3, h4, _⟩ := run_append_win' t ty i z bytes ht hi hz hsize hby hzs hsz hw a m ca news hl hm hnews h1 h63 hbytes hB
  exact ⟨A', c', w', h1, h2, h3, h4⟩
theorem wp_append_win {P : Program} {w : World} {o : Oper} {ac : Act} {K : Act → World → Prop} {Q : Exit → Act → World → Prop} (s x : Operand) (t : TypeId)
    (ho : o.op = .call { callee := .builtin .append, args := #[s, x], argTypes := #[t, t] })
    (B : Nat) (e : TypeId) (sz : Nat) (i : TypeInfo) (z : Value) (bytes : Nat) (ht : P.underlying t = some (.slice e)) (hi : P.info? e = some i) (hz : i.zero = some z)
    (hsize : i.size = sz) (hby : i.bytes = bytes) (hzs : z.cells.size = sz) (hsz : 0 < sz) (A : Option Addr) (n c : Nat) (xs : List Value) (hs : ac.eval s = .slice A n c) (hw : Win w B e sz A n c xs)
    (a : Addr) (m ca : Nat) (hx : ac.eval x = .slice (some a) m ca) (news : List Value) (hl : news.length = m * sz) (hm : 0 < m) (hnews : ∀ j u, news[j]? = some u → w.cell? (a.add j) = some u) (h1 : ∀ u ∈ news, u.oneCell' = true)
    (h63 : n + m ≤ maxLen) (hbytes : (n + m) * bytes ≤ 140737488355328) (hB : B ≤ w.heap.size)
    (h : ∀ A' c' w', Win w' B e sz A' (n + m) c' (xs ++ news) → Stay (Ab A) w w' → (Ab A' = Ab A ∨ ∃ g, Ab A' = [g] ∧ w.heap.size ≤ g) → K (ac.put o.dst (.slice A' (n + m) c')) w') : o.wp P ac w K Q := by
  obtain ⟨A', c', w', hr, h2, h3, h5⟩ := run_append_win (P := P) t o.type i z bytes ht hi hz hsize hby hzs hsz hw a m ca news hl hm hnews h1 h63 hbytes hB
  unfold Oper.wp execOp
  simp only [ho, resolve, invoke, builtin, Sem.run_bind, Sem.run_pure, Result.andThen_ok, List.map_toArray, List.map_cons, List.map_nil, hs, hx, hr]
  exact h A' c' w' h2 h3 h5
/-- no room: the block stays -/
theorem wp_append_full {P : Program} {w : World} {o : Oper} {ac : Act} {K : Act → World → Prop} {Q : Exit → Act → World → Prop} (s x : Operand) (t : TypeId)
    (ho : o.op = .call { callee := .builtin .append, args := #[s, x], argTypes := #[t, t] })
    (B : Nat) (e : TypeId) (sz : Nat) (i : TypeInfo) (z : Value) (bytes : Nat) (ht : P.underlying t = some (.slice e)) (hi : P.info? e = some i) (hz : i.zero = some z)
    (hsize : i.size = sz) (hby : i.bytes = bytes) (hzs : z.cells.size = sz) (hsz : 0 < sz) (A : Option Addr) (n c : Nat) (xs : List Value) (hs : ac.eval s = .slice A n c) (hw : Win w B e sz A n c xs)
    (a : Addr) (m ca : Nat) (hx : ac.eval x = .slice (some a) m ca) (news : List Value) (hl : news.length = m * sz) (hm : 0 < m) (hnews : ∀ j u, news[j]? = some u → w.cell? (a.add j) = some u) (h1 : ∀ u ∈ news, u.oneCell' = true)
    (h63 : n + m ≤ maxLen) (hbytes : (n + m) * bytes ≤ 140737488355328) (hB : B ≤ w.heap.size) (hfull : c < n + m)
    (h : ∀ A' c' w', Win w' B e sz A' (n + m) c' (xs ++ news) → Stay [] w w' → (Ab A' = Ab A ∨ ∃ g, Ab A' = [g] ∧ w.heap.size ≤ g) → K (ac.put o.dst (.slice A' (n + m) c')) w') : o.wp P ac w K Q := by
  obtain ⟨A', c', w', hr, h2, _, h5, h3⟩ := run_append_win' (P := P) t o.type i z bytes ht hi hz hsize hby hzs hsz hw a m ca news hl hm hnews h1 h63 hbytes hB
  unfold Oper.wp execOp
  simp only [ho, resolve, invoke, builtin, Sem.run_bind, Sem.run_pure, Result.andThen_ok, List.map_toArray, List.map_cons, List.map_nil, hs, hx, hr]
  exact h A' c' w' h2 (h3 hfull) h5
theorem wpList_append_win {P : Program} {w : World} {ops : Array Oper} {rest : List Oper} {o : Oper} {ac : Act} {Q : Exit → Act → World → Prop} (hgd : o.guard = none) (s x : Operand) (t : TypeId)
    (ho : o.op = .call { callee := .builtin .append, args := #[s, x], argTypes := #[t, t] })
    (B : Nat) (e : TypeId) (sz : Nat) (i : TypeInfo) (z : Value) (bytes : Nat) (ht : P.underlying t = some (.slice e)) (hi : P.info? e = some i) (hz : i.zero = some z)
    (hsize : i.size = sz) (hby : i.bytes = bytes) (hzs : z.cells.size = sz) (hsz : 0 < sz) (A : Option Addr) (n c : Nat) (xs : List Value) (hs : ac.eval s = .slice A n c) (hw : Win w B e sz A n c xs)
    (a : Addr) (m ca : Nat) (hx : ac.eval x = .slice (some a) m ca) (news : List Value) (hl : news.length = m * sz) (hm : 0 < m) (hnews : ∀ j u, news[j]? = some u → w.cell? (a.add j) = some u) (h1 : ∀ u ∈ news, u.oneCell' = true)
    (h63 : n + m ≤ maxLen) (hbytes : (n + m) * bytes ≤ 140737488355328) (hB : B ≤ w.heap.size)
    (h : ∀ A' c' w', Win w' B e sz A' (n + m) c' (xs ++ news) → Stay (Ab A) w w' → (Ab A' = Ab A ∨ ∃ g, Ab A' = [g] ∧ w.heap.size ≤ g) → wpList P ops Q rest (ac.put o.dst (.slice A' (n + m) c')) w') : wpList P ops Q (o :: rest) ac w := by
  refine wpList_plain hgd fun K hK => ?_
  obtain ⟨A', c', w', hr, h2, h3, h5⟩ := run_append_win (P := P) t o.type i z bytes ht hi hz hsize hby hzs hsz hw a m ca news hl hm hnews h1 h63 hbytes hB
  unfold Oper.wp execOp
  simp only [ho, resolve, invoke, builtin, Sem.run_bind, Sem.run_pure, Result.andThen_ok, List.map_toArray, List.map_cons, List.map_nil, hs, hx, hr]
  exact hK _ _ (h A' c' w' h2 h3 h5)
end Go.Proofs.Ytbnaglkhbgfchaa
