/- package level: lists of lists of numbers in memory, all of the call's own; a map of numbers. -/
import Derived.Test.YtikgjnfimagpjaaLinv
import Derived.Maps.OwnSet
import Derived.Maps.Views
namespace Go.Proofs.Ytikgjnfimagpjaa
open Go.RowKit
/-- lists of lists: the outer one in ov, its cells rvs; the blocks of F are others -/
structure Mem (w : World) (B : Nat) (F : List Nat) (ov : Value) (rvs : List Value) (rows : List (List Int)) : Prop where
  own : Own w 25 B ov rvs
  len : rvs.length = rows.length
  row : ∀ (j : Nat) (v : Value), rvs[j]? = some v → Own w 3 B v (ints .i64 (rows.getD j []))
  far : ∀ (j : Nat) (v : Value), rvs[j]? = some v → ∀ x, v.ownBlock = some x → ov.ownBlock ≠ some x ∧ x ∉ F
  apart : ∀ (i j : Nat) (v u : Value), i ≠ j → rvs[i]? = some v → rvs[j]? = some u → ∀ x, v.ownBlock = some x → u.ownBlock ≠ some x
  ofar : ∀ x, ov.ownBlock = some x → x ∉ F
section
variable {w w' : World} {B : Nat} {F G : List Nat} {ov ov' v' : Value} {rvs : List Value} {rows : List (List Int)}
theorem Mem.start (w : World) (B : Nat) (F : List Nat) : Mem w B F (.slice none 0 0) [] [] :=
  ⟨Own.nil_ _ _ _, rfl, by simp, by simp, by simp, by simp [Value.ownBlock]⟩
theorem Mem.keep (h : Mem w B F ov rvs rows) (hs : Stay G w w') (hG : ∀ g ∈ G, g ∈ F) : Mem w' B F ov rvs rows :=
  ⟨Stay.own hs h.own fun x hx hg => h.ofar x hx (hG x hg), h.len, fun j v hv => Stay.own hs (h.row j v hv) fun x hx hg => (h.far j v hv x hx).2 (hG x hg), h.far, h.apart, h.ofar⟩
theorem Mem.less (h : Mem w B F ov rvs rows) (hG : ∀ g ∈ G, g ∈ F) : Mem w B G ov rvs rows :=
  ⟨h.own, h.len, h.row, fun j v hv x hx => ⟨(h.far j v hv x hx).1, fun hg => (h.far j v hv x hx).2 (hG x hg)⟩, h.apart, fun x hx hg => h.ofar x hx (hG x hg)⟩
/-- an empty row more -/
theorem Mem.more (h : Mem w B F ov rvs rows) (ho : Own w' 25 B ov' (rvs ++ [.slice none 0 0])) (ha : Appended w w' ov ov') (hF : ∀ g ∈ F, g < w.heap.size) :
    Mem w' B F ov' (rvs ++ [.slice none 0 0]) (rows ++ [[]]) := by
  obtain ⟨hs, hv⟩ := appended_stay ha
  have hold : ∀ (j : Nat) (v : Value), (rvs ++ [Value.slice none 0 0])[j]? = some v → (rvs[j]? = some v ∧ j < rvs.length) ∨ (j = rvs.length ∧ v = .slice none 0 0) := by
    intro j v hj
    by_cases hl : j < rvs.length
    · rw [List.getElem?_append_left hl] at hj
      exact .inl ⟨hj, hl⟩
    · rw [List.getElem?_append_right (by omega)] at hj
      have := (List.getElem?_eq_some_iff.1 hj).1
      simp at this
      have e : j = rvs.length := by omega
      subst e
      simp at hj
      exact .inr ⟨rfl, hj.symm⟩
  refine ⟨ho, by simp [h.len], fun j v hj => ?_, fun j v hj x hx => ?_, fun i j v u hne hi hj x hx => ?_, fun x hx => ?_⟩
  · rcases hold j v hj with ⟨hj, hl⟩ | ⟨rfl, rfl⟩
    · have e : (rows ++ [[]]).getD j [] = rows.getD j [] := by
        simp only [List.getD_eq_getElem?_getD]
        rw [List.getElem?_append_left (by rw [← h.len]; exact hl)]
      rw [e]
      exact Stay.own hs (h.row j v hj) fun x hx hg => by
        have : ov.ownBlock = some x := by simpa using hg
        exact (h.far j v hj x hx).1 this
    · have e : (rows ++ [[]]).getD rvs.length [] = [] := by rw [h.len]; simp
      rw [e]
      exact Own.nil_ _ _ _
  · rcases hold j v hj with ⟨hj, hl⟩ | ⟨rfl, rfl⟩
    · have hf := h.far j v hj x hx
      refine ⟨fun e => ?_, hf.2⟩
      rcases hv with hv | ⟨g, hg, hsz⟩
      · exact hf.1 (by rw [← hv]; exact e)
      · rw [hg] at e
        injection e with e
        have := ((h.row j v hj).lt x hx).2
        omega
    · simp [Value.ownBlock] at hx
  · rcases hold i v hi with ⟨hi, hl⟩ | ⟨rfl, rfl⟩
    · rcases hold j u hj with ⟨hj, hl'⟩ | ⟨rfl, rfl⟩
      · exact h.apart i j v u hne hi hj x hx
      · simp [Value.ownBlock]
    · simp [Value.ownBlock] at hx
  · rcases hv with hv | ⟨g, hg, hsz⟩
    · exact h.ofar x (by rw [← hv]; exact hx)
    · rw [hx] at hg
      injection hg with hg
      intro hm
      have := hF x hm
      omega
/-- a row has been appended to, its cell in the outer one written -/
theorem Mem.put {g n c j : Nat} {v : Value} {zs : List Int} (h : Mem w B F (.slice (some ⟨g, 0, none⟩) n c) rvs rows) (hj : rvs[j]? = some v) (ho : Own w' 3 B v' (ints .i64 zs)) (ha : Appended w w' v v') (hF : ∀ g ∈ F, g < w.heap.size) :
    Mem (w'.setCell ⟨g, j, none⟩ v') B F (.slice (some ⟨g, 0, none⟩) n c) (rvs.set j v') (rows.set j zs) := by
  obtain ⟨hs, hv⟩ := appended_stay ha
  have hjl := (List.getElem?_eq_some_iff.1 hj).1
  have hgl := (h.own.lt g rfl).2
  have hvf : ∀ x, v'.ownBlock = some x → x ≠ g ∧ x ∉ F ∧ ∀ i u, i ≠ j → rvs[i]? = some u → u.ownBlock ≠ some x := by
    intro x hx
    rcases hv with hv | ⟨y, hy, hsz⟩
    · rw [hv] at hx
      have := h.far j v hj x hx
      exact ⟨fun e => this.1 (by rw [e]; rfl), this.2, fun i u hne hi => h.apart j i v u (fun e => hne e.symm) hj hi x hx⟩
    · rw [hx] at hy
      injection hy with hy
      subst hy
      refine ⟨by omega, fun hm => by have := hF x hm; omega, fun i u hne hi e => ?_⟩
      have := ((h.row i u hi).lt x e).2
      omega
  have hset : ∀ (i : Nat) (u : Value), (rvs.set j v')[i]? = some u → (i = j ∧ u = v') ∨ (i ≠ j ∧ rvs[i]? = some u) := by
    intro i u hi
    by_cases e : i = j
    · subst e
      rw [List.getElem?_set_self hjl] at hi
      injection hi with hi
      exact .inl ⟨rfl, hi.symm⟩
    · rw [List.getElem?_set_ne (fun e' => e e'.symm)] at hi
      exact .inr ⟨e, hi⟩
  have hown1 : Own w' 25 B (.slice (some ⟨g, 0, none⟩) n c) rvs := Stay.own hs h.own fun x hx hm => by
    have : v.ownBlock = some x := by simpa using hm
    exact (h.far j v hj x this).1 hx
  refine ⟨Own.stored hown1 j v', by simp [h.len], fun i u hi => ?_, fun i u hi x hx => ?_, fun i k u y hne hi hk x hx => ?_, h.ofar⟩
  · rcases hset i u hi with ⟨rfl, rfl⟩ | ⟨hne, hi'⟩
    · rw [show (rows.set i zs).getD i [] = zs from by simp [List.getD_eq_getElem?_getD, h.len ▸ hjl]]
      exact ho.set_far (fun e => (hvf g e).1 rfl) _
    · rw [show (rows.set j zs).getD i [] = rows.getD i [] from by simp [List.getD_eq_getElem?_getD, List.getElem?_set_ne (fun e' => hne e'.symm)]]
      have hu1 : Own w' 3 B u (ints .i64 (rows.getD i [])) := Stay.own hs (h.row i u hi') fun x hx hm => by
        have : v.ownBlock = some x := by simpa using hm
        exact h.apart i j u v hne hi' hj x hx this
      exact hu1.set_far (fun e => (h.far i u hi' g e).1 rfl) _
  · rcases hset i u hi with ⟨rfl, rfl⟩ | ⟨hne, hi'⟩
    · have := hvf x hx
      exact ⟨fun e => this.1 (by injection e with e; exact e.symm), this.2.1⟩
    · exact h.far i u hi' x hx
  · rcases hset i u hi with ⟨rfl, rfl⟩ | ⟨hne1, hi'⟩
    · rcases hset k y hk with ⟨rfl, rfl⟩ | ⟨hne2, hk'⟩
      · exact absurd rfl hne
      · exact (hvf x hx).2.2 k y hne2 hk'
    · rcases hset k y hk with ⟨rfl, rfl⟩ | ⟨hne2, hk'⟩
      · intro e
        exact (hvf x e).2.2 i u hne1 hi' hx
      · exact h.apart i k u y hne hi' hk' x hx
end
/-- a map of numbers -/
def MapIs (w : World) (b n : Nat) (f : Int → Option Nat) : Prop :=
  ∃ D : DataW Unit, Maps.IsMap D ∧ w.ownsMap Try.prog 3 (plainElem Try.prog 3) b n D ∧
    ∀ k : Int, (Lit.int .i64 k).wf = true → Maps.has D (.int .i64 k) = (f k).isSome ∧ D.atKey (.int .i64 k) (.lit (.int .i64 0)) = .lit (.int .i64 ((f k).getD 0 : Nat))
theorem u3 : Try.prog.underlying 3 = some (.int .i64) := by kernel_rfl
theorem u70 : Try.prog.underlying 70 = some (.map 3 3) := by kernel_rfl
theorem zero3 (w : World) : (zeroValue 3).run Try.prog w = .ok (.int .i64 0) w := by kernel_rfl
section
variable {w w' : World} {b n : Nat} {f : Int → Option Nat}
theorem MapIs.made (w : World) : MapIs (w.alloc (.map #[] 0)) w.heap.size 0 fun _ => none :=
  ⟨.map [], ⟨[], rfl⟩, World.ownsMap_made w _ _ _, fun _ _ => ⟨rfl, rfl⟩⟩
theorem MapIs.lt (h : MapIs w b n f) : b < w.heap.size := by
  obtain ⟨D, _, h, _⟩ := h
  exact h.lt
theorem MapIs.stay {F : List Nat} (h : MapIs w b n f) (hs : Stay F w w') (hb : b ∉ F) : MapIs w' b n f := by
  have hlt := h.lt
  obtain ⟨D, h1, ⟨es, clock, hh, rest⟩, h3⟩ := h
  exact ⟨D, h1, ⟨es, clock, (hs.block b hlt hb).trans hh, rest⟩, h3⟩
variable {ops : Array Oper} {rest : List Oper} {o : Oper} {a : Act} {Q : Exit → Act → World → Prop}
theorem wpList_look (hg : o.guard = none) (m x : Operand) (hop : o.op = Op.lookup 70 m x true) (hm : a.eval m = .map (some b)) (k : Int) (hx : a.eval x = .int .i64 k) (h : MapIs w b n f) (hk : (Lit.int .i64 k).wf = true)
    (hK : wpList Try.prog ops Q rest (a.put o.dst (.tuple #[.int .i64 ((f k).getD 0 : Nat), .bool (f k).isSome])) w) : wpList Try.prog ops Q (o :: rest) a w := by
  obtain ⟨D, h1, h2, h3⟩ := h
  refine wpList_lookup_own_ok_int w hg m x 70 hop 3 3 .i64 (Maps.int_keyed u3) u70 u3 (zero3 w) b n D hm h2 (.int .i64 k) (.int .i64 k) hx (Maps.keyOf_int_mk u3 hk) ?_
  intro c hat _
  obtain ⟨e1, e2⟩ := h3 k hk
  rw [e2] at hat
  have hc : ((f k).getD 0 : Int) = c := by
    injection hat with hat
    injection hat
  rw [e1, ← hc]
  exact hK
theorem wpList_upd (hg : o.guard = none) (m x v : Operand) (hop : o.op = Op.mapUpdate 70 m x v) (hm : a.eval m = .map (some b)) (k : Int) (hx : a.eval x = .int .i64 k) (c : Nat) (hv : a.eval v = .int .i64 c) (h : MapIs w b n f) (hn : n < maxLen)
    (hk : (Lit.int .i64 k).wf = true) (hc : (Lit.int .i64 c).wf = true) (hK : ∀ w', MapIs w' b (n + 1) (fun y => if y = k then some c else f y) → Stay [b] w w' → wpList Try.prog ops Q rest (a.put o.dst undef) w') : wpList Try.prog ops Q (o :: rest) a w := by
  obtain ⟨D, h1, h2, h3⟩ := h
  refine wpList_mapUpdate_in w hg m x v 70 hop 3 3 (Maps.int_keyed u3) u70 (plainElem Try.prog 3) b n D hm h2 hn (.int .i64 k) (.int .i64 c) (.int .i64 k) hx hv (Maps.keyOf_int_mk u3 hk) (.lit (.int .i64 c)) [] (plainElem_int u3 hc) ?_
  intro w' hw' ht
  have hkl := (Maps.int_keyed u3).key (Maps.keyOf_int_mk u3 hk)
  refine hK w' ⟨D.put (.int .i64 k) (.lit (.int .i64 c)), h1.put _ _, hw', fun y hy => ?_⟩ (Stay.grown ht.grown (by simp))
  by_cases e : y = k
  · subst e
    simp only [if_pos]
    exact ⟨Maps.has_put_same h1 hkl _, Maps.atKey_put_same h1 hkl _ _⟩
  · simp only [if_neg e]
    have hne : (Lit.int .i64 y) ≠ Lit.int .i64 k := by simpa using e
    rw [Maps.has_put_other hne, Maps.atKey_put_other hne]
    exact h3 y hy
end
end Go.Proofs.Ytikgjnfimagpjaa
