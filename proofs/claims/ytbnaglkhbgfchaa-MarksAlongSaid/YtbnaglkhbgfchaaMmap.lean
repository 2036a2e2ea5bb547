/- package marks: a map from numbers to stretches as it lies in memory, and how it is ranged over. -/
import Derived.Test.YtbnaglkhbgfchaaProg
import Derived.Test.YtbnaglkhbgfchaaBase
import Derived.Test.YtbnaglkhbgfchaaAppend
import Derived.Test.YtbnaglkhbgfchaaStay
import Derived.Laws.IdiomRangeMap
import Derived.Deep.DeepCutAuto
namespace Go.Proofs.Ytbnaglkhbgfchaa
open Go.RowKit
/-- a stretch, plain -/
structure St where
  b : Int
  e : Int
  g : Bool
  s : Int
def St.cells (x : St) : List Value := [.int .i64 x.b, .int .i64 x.e, .bool x.g, .int .u16 x.s]
def St.val (x : St) : Value := .agg #[.int .i64 x.b, .int .i64 x.e, .bool x.g, .int .u16 x.s]
/-- an entry: number, stretch, stamp -/
structure EN where
  id : Int
  st : St
  bn : Nat
def EN.ent (x : EN) : MapEntry := ⟨.int .i64 x.id, x.st.val, x.bn⟩
structure MapAt (w : World) (mb : Nat) (L : List EN) (ck : Nat) : Prop where
  h : w.heap[mb]? = some (.map (L.map EN.ent).toArray ck)
  nb : (L.map (·.bn)).Nodup
  lt : ∀ x ∈ L, x.bn < ck
  ni : (L.map (·.id)).Nodup
theorem u3 : Try.prog.underlying 3 = some (.int .i64) := by kernel_rfl
theorem u59 : Try.prog.underlying 59 = some (.map 3 67) := by kernel_rfl
theorem zero67 (w : World) : (zeroValue 67).run Try.prog w = .ok (.agg #[.int .i64 0, .int .i64 0, .bool false, .int .u16 0]) w := by kernel_rfl
/-- what the look-up finds -/
def findL (k : Int) : List EN → Nat → Option (Nat × St)
  | [], _ => none
  | x :: L, i => if k = x.id then some (i, x.st) else findL k L (i + 1)
theorem findNow_eq (k : Int) : ∀ (L : List EN) (i : Nat), Instr.findNow (.int .i64) (.int .i64 k) (L.map EN.ent) i = some ((findL k L i).map fun p => (p.1, p.2.val))
  | [], _ => rfl
  | x :: L, i => by
    rw [List.map_cons, Instr.findNow, findL]
    show (match Instr.sameNow (.int .i64) (.int .i64 k) (.int .i64 x.id) with | some true => some (some (i, x.st.val)) | some false => Instr.findNow (.int .i64) (.int .i64 k) (L.map EN.ent) (i + 1) | none => none) = _
    simp only [Instr.sameNow, if_true]
    by_cases e : k = x.id
    · rw [if_pos e]
      simp [e]
    · rw [if_neg e]
      have : (k == x.id) = false := by simpa using e
      rw [this]
      exact findNow_eq k L (i + 1)
theorem findL_none {k : Int} : ∀ (L : List EN) (i : Nat), (∀ x ∈ L, x.id ≠ k) → findL k L i = none
  | [], _, _ => rfl
  | x :: L, i, h => by
    rw [findL, if_neg (fun e => h x (by simp) e.symm)]
    exact findL_none L (i + 1) (fun y hy => h y (by simp [hy]))
theorem findL_some {x : EN} : ∀ (L : List EN) (i : Nat), (L.map (·.id)).Nodup → x ∈ L → ∃ j, findL x.id L i = some (i + j, x.st) ∧ L[j]? = some x
  | y :: L, i, hn, hx => by
    rw [List.map_cons, List.nodup_cons] at hn
    rw [findL]
    rcases List.mem_cons.1 hx with rfl | hx
    · exact ⟨0, by rw [if_pos rfl]; rfl, rfl⟩
    · have hne : x.id ≠ y.id := fun e => hn.1 (by rw [← e]; exact List.mem_map.2 ⟨x, hx, rfl⟩)
      rw [if_neg hne]
      obtain ⟨j, h1, h2⟩ := findL_some L (i + 1) hn.2 hx
      exact ⟨j + 1, by rw [h1]; congr 2; omega, by simpa using h2⟩
section
variable {w w' : World} {mb ib ck : Nat} {L : List EN} {seen : Array Nat}
theorem MapAt.lt_ (h : MapAt w mb L ck) : mb < w.heap.size := by
  rcases Nat.lt_or_ge mb w.heap.size with h1 | h1
  · exact h1
  · have := h.h
    simp [Array.getElem?_eq_none h1] at this
theorem MapAt.stay {F : List Nat} (h : MapAt w mb L ck) (hs : Stay F w w') (hF : mb ∉ F) : MapAt w' mb L ck := ⟨(hs.block mb h.lt_ hF).trans h.h, h.nb, h.lt, h.ni⟩
theorem getObj_map (h : MapAt w mb L ck) : (getObj mb).run Try.prog w = .ok (.map (L.map EN.ent).toArray ck) w := by
  simp only [getObj, Sem.run, h.h]
theorem checkKey3' (n : Nat) (b : Bool) (k : Int) (w : World) : (Instr.checkKey b (n + 1) 3 (.int .i64 k)).run Try.prog w = .ok () w := by
  simp only [Instr.checkKey, Sem.run_bind, run_underlying u3, Result.andThen_ok]
  rfl
theorem checkKey3 (b : Bool) (k : Int) (w : World) : (Instr.checkKey b 10000 3 (.int .i64 k)).run Try.prog w = .ok () w := checkKey3' 9999 b k w
theorem findKey3 (k : Int) (L : List EN) (w : World) : (Instr.findKey 3 (.int .i64 k) (L.map EN.ent)).run Try.prog w = .ok ((findL k L 0).map fun p => (p.1, p.2.val)) w := by
  simp only [Instr.findKey, Sem.run_bind, run_underlying u3, Result.andThen_ok, findNow_eq]
  rfl
theorem look_run (h : MapAt w mb L ck) (k : Int) : (Instr.lookup 59 (.map (some mb)) (.int .i64 k) true).run Try.prog w = .ok (match findL k L 0 with | some (_, s) => .tuple #[s.val, .bool true] | none => .tuple #[.agg #[.int .i64 0, .int .i64 0, .bool false, .int .u16 0], .bool false]) w := by
  simp only [Instr.lookup, Sem.run_bind, run_underlying u59, Result.andThen_ok, getObj_map h, Sem.run_pure, checkKey3, findKey3]
  cases findL k L 0 with
  | none =>
    simp only [Option.map_none, Sem.run_bind, zero67, Result.andThen_ok, Sem.run_pure, if_true]
  | some p =>
    simp only [Option.map_some, Sem.run_bind, Sem.run_pure, Result.andThen_ok, if_true]
theorem look_there (h : MapAt w mb L ck) {x : EN} (hx : x ∈ L) : (Instr.lookup 59 (.map (some mb)) (.int .i64 x.id) true).run Try.prog w = .ok (.tuple #[x.st.val, .bool true]) w := by
  obtain ⟨j, h1, _⟩ := findL_some L 0 h.ni hx
  rw [look_run h, h1]
theorem look_gone (h : MapAt w mb L ck) {k : Int} (hk : ∀ x ∈ L, x.id ≠ k) : (Instr.lookup 59 (.map (some mb)) (.int .i64 k) true).run Try.prog w = .ok (.tuple #[.agg #[.int .i64 0, .int .i64 0, .bool false, .int .u16 0], .bool false]) w := by
  rw [look_run h, findL_none L 0 hk]
theorem findL_at {k : Int} : ∀ (L : List EN) (i j : Nat) (s : St), findL k L i = some (j, s) → ∃ x, L[j - i]? = some x ∧ x.id = k ∧ i ≤ j
  | [], _, _, _, h => by cases h
  | x :: L, i, j, s, h => by
    rw [findL] at h
    by_cases e : k = x.id
    · rw [if_pos e] at h
      injection h with h
      injection h with h1 h2
      subst h1
      exact ⟨x, by simp, e.symm, Nat.le_refl _⟩
    · rw [if_neg e] at h
      obtain ⟨y, h1, h2, h3⟩ := findL_at L (i + 1) j s h
      refine ⟨y, ?_, h2, by omega⟩
      rw [show j - i = (j - (i + 1)) + 1 by omega, List.getElem?_cons_succ]
      exact h1
/-- an object is laid anew -/
def setO (w : World) (r : Nat) (o : Obj) : World := { w with heap := w.heap.setIfInBounds r o }
theorem setObj_run {es : Array MapEntry} {c : Nat} {o' : Obj} {r : Nat} (h : w.heap[r]? = some (.map es c)) : (setObj r o').run Try.prog w = .ok () (setO w r o') := by
  simp only [setObj, Sem.run]
  rw [h]
  rfl
theorem setObj_iter {m : Option Nat} {s l : Nat} {sn : Array Nat} {o' : Obj} {r : Nat} (h : w.heap[r]? = some (.mapIter m s sn l)) : (setObj r o').run Try.prog w = .ok () (setO w r o') := by
  simp only [setObj, Sem.run]
  rw [h]
  rfl
theorem modify_ent {x : EN} (s : St) : ∀ (L : List EN) (j : Nat), L[j]? = some x → (L.map EN.ent).modify j (fun e => { e with key := .int .i64 x.id, val := s.val }) = (L.modify j (fun y => { y with st := s })).map EN.ent
  | [], j, h => by simp at h
  | y :: L, 0, h => by
    have e : y = x := by simpa using h
    subst e
    rfl
  | y :: L, j + 1, h => by
    rw [List.map_cons, List.modify_succ_cons, List.modify_succ_cons, List.map_cons, modify_ent s L j (by simpa using h)]
theorem erase_map : ∀ (L : List EN) (j : Nat), (L.map EN.ent).eraseIdx j = (L.eraseIdx j).map EN.ent
  | [], j => by simp
  | y :: L, 0 => rfl
  | y :: L, j + 1 => by
    rw [List.map_cons, List.eraseIdx_cons_succ, List.eraseIdx_cons_succ, List.map_cons, erase_map L j]
theorem setO_get {r : Nat} {o : Obj} (h : r < w.heap.size) : (setO w r o).heap[r]? = some o := by
  show (w.heap.setIfInBounds r o)[r]? = _
  simp [h]
theorem setO_other {r r' : Nat} {o : Obj} (h : r' ≠ r) : (setO w r o).heap[r']? = w.heap[r']? := by
  show (w.heap.setIfInBounds r o)[r']? = _
  rw [Array.getElem?_setIfInBounds_ne h.symm]
theorem setO_size {r : Nat} {o : Obj} : (setO w r o).heap.size = w.heap.size := by
  show (w.heap.setIfInBounds r o).size = _
  simp
theorem Stay.setO {F : List Nat} {r : Nat} (o : Obj) (hr : r ∈ F) : Stay F w (setO w r o) :=
  ⟨rfl, rfl, rfl, Nat.le_of_eq setO_size.symm, fun i _ hn => setO_other (fun e => hn (by rw [e]; exact hr))⟩
/-- the stretch of a number is another one -/
def putE (k : Int) (s : St) (x : EN) : EN := if x.id = k then { x with st := s } else x
theorem putE_id (k : Int) (s : St) (x : EN) : (putE k s x).id = x.id := by unfold putE; split <;> rfl
theorem putE_bn (k : Int) (s : St) (x : EN) : (putE k s x).bn = x.bn := by unfold putE; split <;> rfl
theorem modify_put {x : EN} (s : St) : ∀ (L : List EN) (j : Nat), (L.map (·.id)).Nodup → L[j]? = some x → L.modify j (fun y => { y with st := s }) = L.map (putE x.id s)
  | [], j, _, h => by simp at h
  | y :: L, 0, hn, h => by
    rw [List.map_cons, List.nodup_cons] at hn
    have e : y = x := by simpa using h
    subst e
    rw [List.modify_zero_cons, List.map_cons]
    congr 1
    · unfold putE; rw [if_pos rfl]
    · have : ∀ z ∈ L, putE y.id s z = z := fun z hz => by
        unfold putE
        rw [if_neg (fun e => hn.1 (by rw [← e]; exact List.mem_map.2 ⟨z, hz, rfl⟩))]
      conv => lhs; rw [← List.map_id L]
      exact List.map_congr_left (fun z hz => (this z hz).symm)
  | y :: L, j + 1, hn, h => by
    rw [List.map_cons, List.nodup_cons] at hn
    have hx : x ∈ L := List.mem_of_getElem? (by simpa using h)
    rw [List.modify_succ_cons, List.map_cons, modify_put s L j hn.2 (by simpa using h)]
    congr 1
    unfold putE
    rw [if_neg (fun e => hn.1 (by rw [e]; exact List.mem_map.2 ⟨x, hx, rfl⟩))]
theorem MapAt.put (h : MapAt w mb L ck) (k : Int) (s : St) : MapAt (setO w mb (.map ((L.map (putE k s)).map EN.ent).toArray ck)) mb (L.map (putE k s)) ck := by
  have e1 : (L.map (putE k s)).map (·.bn) = L.map (·.bn) := by rw [List.map_map]; exact List.map_congr_left (fun x _ => putE_bn k s x)
  have e2 : (L.map (putE k s)).map (·.id) = L.map (·.id) := by rw [List.map_map]; exact List.map_congr_left (fun x _ => putE_id k s x)
  refine ⟨setO_get h.lt_, by rw [e1]; exact h.nb, fun x hx => ?_, by rw [e2]; exact h.ni⟩
  obtain ⟨y, hy, rfl⟩ := List.mem_map.1 hx
  rw [putE_bn]
  exact h.lt y hy
theorem upd_there (h : MapAt w mb L ck) {x : EN} (hx : x ∈ L) (s : St) : (Instr.mapUpdate 59 (.map (some mb)) (.int .i64 x.id) s.val).run Try.prog w = .ok () (setO w mb (.map ((L.map (putE x.id s)).map EN.ent).toArray ck)) := by
  obtain ⟨j, h1, h2⟩ := findL_some L 0 h.ni hx
  rw [Nat.zero_add] at h1
  have h3 : ((L.map EN.ent).toArray[j]?).map (·.key) = some (.int .i64 x.id) := by
    rw [List.getElem?_toArray, List.getElem?_map, h2]
    rfl
  have h4 : Instr.sameBits 10000 (.int .i64 x.id) (.int .i64 x.id) = true := by
    show (IntKind.i64 == IntKind.i64 && x.id == x.id) = true
    simp
  have h5 : (L.map EN.ent).toArray.modify j (fun e => { e with key := .int .i64 x.id, val := s.val }) = ((L.map (putE x.id s)).map EN.ent).toArray := by
    rw [← modify_put s L j h.ni h2]
    apply Array.toList_inj.1
    rw [Array.toList_modify]
    exact modify_ent s L j h2
  simp only [Instr.mapUpdate, Sem.run_bind, run_underlying u59, Result.andThen_ok, getObj_map h, checkKey3, findKey3, h1, Option.map_some, Instr.keyThatStays, h3, Option.getD_some, h4, if_true, Sem.run_pure, setObj_run h.h, h5]
theorem upd_new (h : MapAt w mb L ck) {k : Int} (hk : ∀ x ∈ L, x.id ≠ k) (s : St) : (Instr.mapUpdate 59 (.map (some mb)) (.int .i64 k) s.val).run Try.prog w = .ok () (setO w mb (.map ((L ++ [(⟨k, s, ck⟩ : EN)]).map EN.ent).toArray (ck + 1))) := by
  have h5 : (L.map EN.ent).toArray.push { key := .int .i64 k, val := s.val, born := ck } = ((L ++ [(⟨k, s, ck⟩ : EN)]).map EN.ent).toArray := by
    simp [EN.ent]
  simp only [Instr.mapUpdate, Sem.run_bind, run_underlying u59, Result.andThen_ok, getObj_map h, checkKey3, findKey3, findL_none L 0 hk, Option.map_none, setObj_run h.h, h5]
theorem MapAt.add (h : MapAt w mb L ck) {k : Int} (hk : ∀ x ∈ L, x.id ≠ k) (s : St) : MapAt (setO w mb (.map ((L ++ [(⟨k, s, ck⟩ : EN)]).map EN.ent).toArray (ck + 1))) mb (L ++ [(⟨k, s, ck⟩ : EN)]) (ck + 1) := by
  refine ⟨setO_get h.lt_, ?_, fun x hx => ?_, ?_⟩
  · rw [List.map_append, List.nodup_append]
    refine ⟨h.nb, by simp, fun a ha b hb => ?_⟩
    obtain ⟨y, hy, rfl⟩ := List.mem_map.1 ha
    have := h.lt y hy
    simp at hb
    subst hb
    omega
  · rcases List.mem_append.1 hx with hx | hx
    · have := h.lt x hx
      omega
    · rw [List.mem_singleton] at hx
      subst hx
      exact Nat.lt_succ_self _
  · rw [List.map_append, List.nodup_append]
    refine ⟨h.ni, by simp, fun a ha b hb => ?_⟩
    obtain ⟨y, hy, rfl⟩ := List.mem_map.1 ha
    simp at hb
    subst hb
    exact hk y hy
/-- all but one -/
def offE (k : Int) (L : List EN) : List EN := L.filter fun x => decide (x.id ≠ k)
theorem erase_off {x : EN} : ∀ (L : List EN) (j : Nat), (L.map (·.id)).Nodup → L[j]? = some x → L.eraseIdx j = offE x.id L
  | [], j, _, h => by simp at h
  | y :: L, 0, hn, h => by
    rw [List.map_cons, List.nodup_cons] at hn
    have e : y = x := by simpa using h
    subst e
    unfold offE
    rw [List.eraseIdx_cons_zero, List.filter_cons_of_neg (by simp)]
    exact (List.filter_eq_self.2 (fun z hz => by
      simp only [decide_eq_true_eq]
      exact fun e => hn.1 (by rw [← e]; exact List.mem_map.2 ⟨z, hz, rfl⟩))).symm
  | y :: L, j + 1, hn, h => by
    rw [List.map_cons, List.nodup_cons] at hn
    have hx : x ∈ L := List.mem_of_getElem? (by simpa using h)
    have ih := erase_off L j hn.2 (by simpa using h)
    unfold offE at ih ⊢
    rw [List.eraseIdx_cons_succ, List.filter_cons_of_pos (by
      simp only [decide_eq_true_eq]
      exact fun e => hn.1 (by rw [e]; exact List.mem_map.2 ⟨x, hx, rfl⟩)), ih]
theorem MapAt.off (h : MapAt w mb L ck) (k : Int) : MapAt (setO w mb (.map ((offE k L).map EN.ent).toArray ck)) mb (offE k L) ck := by
  have hs : (offE k L).Sublist L := List.filter_sublist
  exact ⟨setO_get h.lt_, (hs.map _).nodup h.nb, fun x hx => h.lt x (hs.subset hx), (hs.map _).nodup h.ni⟩
theorem del_there (h : MapAt w mb L ck) {x : EN} (hx : x ∈ L) (ty : TypeId) : (Builtin.delete_ #[59, 3] ty #[.map (some mb), .int .i64 x.id]).run Try.prog w = .ok (.tuple #[]) (setO w mb (.map ((offE x.id L).map EN.ent).toArray ck)) := by
  obtain ⟨j, h1, h2⟩ := findL_some L 0 h.ni hx
  rw [Nat.zero_add] at h1
  have h5 : (L.map EN.ent).toArray.eraseIdxIfInBounds j = ((offE x.id L).map EN.ent).toArray := by
    rw [← erase_off L j h.ni h2]
    apply Array.toList_inj.1
    have hj : j < L.length := (List.getElem?_eq_some_iff.1 h2).1
    simp [Array.eraseIdxIfInBounds, hj, erase_map]
  simp only [Builtin.delete_, Sem.run_bind, List.getElem?_toArray, List.getElem?_cons_zero, List.getElem?_cons_succ, run_underlying u59, Result.andThen_ok, getObj_map h, checkKey3, findKey3, h1, Option.map_some, setObj_run h.h, h5, Sem.run_pure]
theorem len_run (h : MapAt w mb L ck) (ty : TypeId) : (Builtin.len_ #[59] ty #[.map (some mb)]).run Try.prog w = .ok (.int .i64 L.length) w := by
  simp only [Builtin.len_, Sem.run_bind, List.getElem?_toArray, List.getElem?_cons_zero, run_underlying u59, Result.andThen_ok, getObj_map h, Sem.run_pure]
  simp [goInt]
end
end Go.Proofs.Ytbnaglkhbgfchaa
