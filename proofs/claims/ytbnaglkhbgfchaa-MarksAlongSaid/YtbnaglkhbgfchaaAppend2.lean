/- append, told exactly: within the block, or in a new one; within the capacity the value is known. -/
import Derived.Test.YtbnaglkhbgfchaaAppend
import Derived.ArgAppend
namespace Go.Proofs.Ytbnaglkhbgfchaa
open Go.RowKit
theorem own_mono {w : World} {e : TypeId} {B B' : Nat} {v : Value} {xs : List Value} (h : Own w e B v xs) (hB : B' ≤ B) : Own w e B' v xs := by
  refine ⟨h.1, ?_⟩
  rcases h.2 with hn | ⟨g, cap, cur, hv, hb, rest⟩
  · exact .inl hn
  · exact .inr ⟨g, cap, cur, hv, by omega, rest⟩
/-- what an append may have done -/
def Appended (w w' : World) (v v' : Value) : Prop :=
  (v'.ownBlock = v.ownBlock ∧ w.grownBy w' v.ownBlock) ∨ (∃ g, v'.ownBlock = some g ∧ w.heap.size ≤ g ∧ w.grownBy w' none)
section
variable {P : Program} (w : World)
theorem run_append_sl2 (base : Nat) (t ty e : TypeId) (i : TypeInfo) (z : Value) (bytes : Nat) (ht : P.underlying t = some (.slice e)) (hi : P.info? e = some i) (hz : i.zero = some z)
    (hsize : i.size = 1) (hby : i.bytes = bytes) (hzs : z.cells.size = 1) (v : Value) (xs : List Value) (hown : Own w e base v xs)
    (B : Nat) (A : Option Addr) (c : Nat) (news : List Value) (hr : Sl w B A news) (h1 : ∀ u ∈ news, u.oneCell' = true)
    (h63 : xs.length + news.length ≤ maxLen) (hbytes : (xs.length + news.length) * bytes ≤ 140737488355328) (hbase : base ≤ w.heap.size) :
    ∃ v' w', (Builtin.append_ #[t, t] ty #[v, .slice A news.length c]).run P w = .ok v' w' ∧ Own w' e base v' (xs ++ news) ∧ Appended w w' v v' := by
  rcases A with _ | ad
  · obtain ⟨v', w', h, h2, h3, h4⟩ := run_append_sl (P := P) w base t ty e i z bytes ht hi hz hsize hby hzs v xs hown B none c news hr h1 h63 hbytes hbase
    have hn : news = [] := by
      cases news with
      | nil => rfl
      | cons u r =>
        obtain ⟨ad, h, _⟩ := hr 0 u rfl
        cases h
    subst hn
    exact ⟨v, w, run_append_nothing w base t ty e i ht hi v _ 1 xs hown c, by simpa [Own] using hown, .inl ⟨rfl, World.grownBy.refl w _⟩⟩
  · have hcells : ∀ j u, news[j]? = some u → w.cell? (ad.add j) = some u := by
      intro j u hu
      obtain ⟨ad', h, _, hc⟩ := hr j u hu
      injection h with h
      subst h
      exact hc
    rcases hown.2 with ⟨rfl, h0⟩ | ⟨g, cap, cur, rfl, hb, hg, hnc, hcm, hcs, htake⟩
    · obtain ⟨v', w', hrun, h2, h3, _, h5⟩ := run_append_own_at (P := P) w base t ty e i z 1 bytes ht hi hz hsize hby hzs (by omega) _ xs.length xs hown ad news.length c news (by omega) hcells h1 h63 hbytes hbase
      refine ⟨v', w', hrun, by simpa [Own] using h2, ?_⟩
      rcases h5 with h5 | h5
      · exact .inl ⟨h5, h3⟩
      · exact .inr ⟨_, h5, Nat.le_refl _, h3⟩
    · by_cases hroom : xs.length + news.length ≤ cap
      · obtain ⟨w', hrun, h2, h3⟩ := run_append_fits (P := P) w base t ty e i 1 ht hi hsize g xs.length cap xs hown ad news.length c news (by omega) hcells h1 hroom
        exact ⟨_, w', hrun, by simpa [Own] using h2, .inl ⟨rfl, h3⟩⟩
      · obtain ⟨v', w', hrun, h2, h3⟩ := run_append_arg_grows (P := P) w t ty e i z 1 bytes ht hi hz hsize hby hzs (by omega) ⟨g, 0, none⟩ xs.length cap xs (by omega) (hown.cells (g := g) rfl) ad news.length c news (by omega) hcells (by omega) h63 hbytes
        have h2' : Own w' e w.heap.size v' (xs ++ news) := by simpa [Own] using h2
        refine ⟨v', w', hrun, own_mono h2' hbase, ?_⟩
        rcases h2.2 with ⟨rfl, hn0⟩ | ⟨g', cap', cur', rfl, hb', _⟩
        · exact absurd hn0 (by omega)
        · exact .inr ⟨g', rfl, hb', h3⟩
theorem wp_append_sl2 {o : Oper} {a : Act} {K : Act → World → Prop} {Q : Exit → Act → World → Prop} (s x : Operand) (t : TypeId)
    (ho : o.op = .call { callee := .builtin .append, args := #[s, x], argTypes := #[t, t] })
    (base : Nat) (e : TypeId) (i : TypeInfo) (z : Value) (bytes : Nat) (ht : P.underlying t = some (.slice e)) (hi : P.info? e = some i) (hz : i.zero = some z)
    (hsize : i.size = 1) (hby : i.bytes = bytes) (hzs : z.cells.size = 1) (v : Value) (n : Nat) (xs : List Value) (hn : xs.length = n) (hs : a.eval s = v) (hown : Own w e base v xs)
    (B : Nat) (A : Option Addr) (c m : Nat) (news : List Value) (hm : news.length = m) (hx : a.eval x = .slice A m c) (hr : Sl w B A news) (h1 : ∀ u ∈ news, u.oneCell' = true)
    (h63 : n + m ≤ maxLen) (hbytes : (n + m) * bytes ≤ 140737488355328) (hbase : base ≤ w.heap.size)
    (h : ∀ A' c' w', Own w' e base (.slice A' (n + m) c') (xs ++ news) → Appended w w' v (.slice A' (n + m) c') → K (a.put o.dst (.slice A' (n + m) c')) w') : o.wp P a w K Q := by
  subst hm
  subst hn
  obtain ⟨v', w', hrun, h2, h3⟩ := run_append_sl2 (P := P) w base t o.type e i z bytes ht hi hz hsize hby hzs v xs hown B A c news hr h1 h63 hbytes hbase
  obtain ⟨A', c', rfl⟩ := h2.slice
  rw [List.length_append] at *
  unfold Oper.wp execOp
  simp only [ho, resolve, invoke, builtin, Sem.run_bind, Sem.run_pure, Result.andThen_ok, List.map_toArray, List.map_cons, List.map_nil, hs, hx, hrun]
  exact h A' c' w' h2 h3
theorem wpList_append_sl2 {ops : Array Oper} {rest : List Oper} {o : Oper} {a : Act} {Q : Exit → Act → World → Prop} (hgd : o.guard = none) (s x : Operand) (t : TypeId)
    (ho : o.op = .call { callee := .builtin .append, args := #[s, x], argTypes := #[t, t] })
    (base : Nat) (e : TypeId) (i : TypeInfo) (z : Value) (bytes : Nat) (ht : P.underlying t = some (.slice e)) (hi : P.info? e = some i) (hz : i.zero = some z)
    (hsize : i.size = 1) (hby : i.bytes = bytes) (hzs : z.cells.size = 1) (v : Value) (n : Nat) (xs : List Value) (hn : xs.length = n) (hs : a.eval s = v) (hown : Own w e base v xs)
    (B : Nat) (A : Option Addr) (c m : Nat) (news : List Value) (hm : news.length = m) (hx : a.eval x = .slice A m c) (hr : Sl w B A news) (h1 : ∀ u ∈ news, u.oneCell' = true)
    (h63 : n + m ≤ maxLen) (hbytes : (n + m) * bytes ≤ 140737488355328) (hbase : base ≤ w.heap.size)
    (h : ∀ A' c' w', Own w' e base (.slice A' (n + m) c') (xs ++ news) → Appended w w' v (.slice A' (n + m) c') → wpList P ops Q rest (a.put o.dst (.slice A' (n + m) c')) w') : wpList P ops Q (o :: rest) a w :=
  wpList_plain hgd fun _ hK => wp_append_sl2 w s x t ho base e i z bytes ht hi hz hsize hby hzs v n xs hn hs hown B A c m news hm hx hr h1 h63 hbytes hbase fun A' c' w' h2 h3 => hK _ _ (h A' c' w' h2 h3)
/-- within the capacity -/
theorem wpList_append_fits_sl {ops : Array Oper} {rest : List Oper} {o : Oper} {a : Act} {Q : Exit → Act → World → Prop} (hgd : o.guard = none) (s x : Operand) (t : TypeId)
    (ho : o.op = .call { callee := .builtin .append, args := #[s, x], argTypes := #[t, t] })
    (base : Nat) (e : TypeId) (i : TypeInfo) (ht : P.underlying t = some (.slice e)) (hi : P.info? e = some i) (hsize : i.size = 1)
    (g n cap : Nat) (xs : List Value) (hn : xs.length = n) (hs : a.eval s = .slice (some ⟨g, 0, none⟩) n cap) (hown : Own w e base (.slice (some ⟨g, 0, none⟩) n cap) xs)
    (B : Nat) (A : Option Addr) (c m : Nat) (news : List Value) (hm : news.length = m) (hx : a.eval x = .slice A m c) (hr : Sl w B A news) (h1 : ∀ u ∈ news, u.oneCell' = true) (hroom : n + m ≤ cap)
    (h : ∀ w', Own w' e base (.slice (some ⟨g, 0, none⟩) (n + m) cap) (xs ++ news) → w.grownBy w' (some g) → wpList P ops Q rest (a.put o.dst (.slice (some ⟨g, 0, none⟩) (n + m) cap)) w') : wpList P ops Q (o :: rest) a w := by
  subst hm
  subst hn
  have hrun : ∃ w', (Builtin.append_ #[t, t] o.type #[.slice (some ⟨g, 0, none⟩) xs.length cap, .slice A news.length c]).run P w = .ok (.slice (some ⟨g, 0, none⟩) (xs.length + news.length) cap) w' ∧ Own w' e base (.slice (some ⟨g, 0, none⟩) (xs.length + news.length) cap) (xs ++ news) ∧ w.grownBy w' (some g) := by
    rcases A with _ | ad
    · have hn : news = [] := by
        cases news with
        | nil => rfl
        | cons u r =>
          obtain ⟨ad, h, _⟩ := hr 0 u rfl
          cases h
      subst hn
      refine ⟨w, ?_, by simpa [Own] using hown, World.grownBy.refl w _⟩
      simpa using run_append_nothing (P := P) w base t o.type e i ht hi _ _ 1 xs hown c
    · have hcells : ∀ j u, news[j]? = some u → w.cell? (ad.add j) = some u := by
        intro j u hu
        obtain ⟨ad', h, _, hc⟩ := hr j u hu
        injection h with h
        subst h
        exact hc
      obtain ⟨w', hrun, h2, h3⟩ := run_append_fits (P := P) w base t o.type e i 1 ht hi hsize g xs.length cap xs hown ad news.length c news (by omega) hcells h1 hroom
      exact ⟨w', hrun, by simpa [Own] using h2, h3⟩
  obtain ⟨w', hrun, h2, h3⟩ := hrun
  refine wpList_plain hgd fun _ hK => ?_
  unfold Oper.wp execOp
  simp only [ho, resolve, invoke, builtin, Sem.run_bind, Sem.run_pure, Result.andThen_ok, List.map_toArray, List.map_cons, List.map_nil, hs, hx, hrun]
  exact hK _ _ (h w' h2 h3)
end
theorem appended_below {w w' : World} {v v' : Value} {B : Nat} (h : Appended w w' v v') (hB : B ≤ w.heap.size) (hv : ∀ g, v.ownBlock = some g → B ≤ g) : Below B w w' := by
  rcases h with ⟨_, h⟩ | ⟨g, _, _, h⟩
  · exact (Below.refl _ _).grown h hB hv
  · exact (Below.refl _ _).grown h hB (by simp)
theorem appended_size {w w' : World} {v v' : Value} (h : Appended w w' v v') : w.heap.size ≤ w'.heap.size := by
  rcases h with ⟨_, h⟩ | ⟨g, _, _, h⟩ <;> exact h.size
/-- another owned slice is left alone -/
theorem appended_other {w w' : World} {v v' : Value} {e : TypeId} {B : Nat} {u : Value} {xs : List Value} (h : Appended w w' v v') (ho : Own w e B u xs) (hne : ∀ g, u.ownBlock = some g → v.ownBlock ≠ some g) : Own w' e B u xs ∧ ∀ g, u.ownBlock = some g → v'.ownBlock ≠ some g := by
  rcases h with ⟨h1, h⟩ | ⟨g, h1, h2, h⟩
  · refine ⟨ho.kept h ?_, fun g hg => by rw [h1]; exact hne g hg⟩
    cases hu : u.ownBlock with
    | none => exact .inl rfl
    | some k => exact .inr fun e => hne k hu e.symm
  · refine ⟨ho.kept h ?_, fun k hk => ?_⟩
    · cases hu : u.ownBlock <;> simp
    · have := (ho.lt k hk).2
      rw [h1]; intro e; injection e with e; omega
end Go.Proofs.Ytbnaglkhbgfchaa
