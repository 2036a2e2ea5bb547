/- shuttlelaw18, shuttlelaw20: slices of edits and of steps as they come in, opened. -/
import Derived.Test.YtjoeebjmjnddoaaRopen
namespace Go.Proofs.Ytjoeebjmjnddoaa
open Go.RowKit Go.ChangeShapes
theorem cellsOf44 : Try.prog.cellsOf 44 = 1 := by kernel_rfl
theorem cellsOf22 : Try.prog.cellsOf 22 = 1 := by kernel_rfl
theorem bytesOf37 : Try.prog.bytesOf 37 = 32 := by kernel_rfl
theorem bytesOf39 : Try.prog.bytesOf 39 = 56 := by kernel_rfl
/-- rows of k cells each, one behind the other -/
theorem flat_length {α : Type} (f : α → List Value) (k : Nat) (hf : ∀ x, (f x).length = k) : ∀ L : List α, (L.flatMap f).length = L.length * k
  | [] => by simp
  | x :: L => by simp only [List.flatMap_cons, List.length_append, hf, flat_length f k hf L, List.length_cons, Nat.add_mul]; omega
theorem flat_at {α : Type} (f : α → List Value) (k : Nat) (hf : ∀ x, (f x).length = k) : ∀ (L : List α) (i : Nat) (hi : i < L.length) (j : Nat), j < k → (L.flatMap f)[i * k + j]? = (f L[i])[j]?
  | x :: L, 0, _, j, hj => by
    simp only [List.flatMap_cons, Nat.zero_mul, Nat.zero_add, List.getElem_cons_zero]
    rw [List.getElem?_append_left (by rw [hf]; exact hj)]
  | x :: L, i + 1, hi, j, hj => by
    simp only [List.flatMap_cons, List.getElem_cons_succ]
    rw [List.getElem?_append_right (by rw [hf, Nat.add_mul]; omega), hf, ← flat_at f k hf L i (by simpa using hi) j hj]
    congr 1
    rw [Nat.add_mul]; omega
theorem cells_at {w : World} {base : Nat} {a : Addr} {n : Nat} {cs : List Value} (h : w.cells? base a n = some cs) : cs.length = n ∧ ∀ i, i < n → w.cell? (a.add i) = cs[i]? := by
  unfold World.cells? at h
  split at h
  · exact ⟨by simpa using mapM_some_length h, fun i hi => mapM_some_get h i i (by simp [hi])⟩
  · cases h
theorem cell_block {w : World} {a : Addr} {v : Value} (h : w.cell? a = some v) : a.block < w.heap.size := by
  unfold World.cell? at h
  split at h
  · rename_i hx
    exact (Array.getElem?_eq_some_iff.1 hx).1
  · cases h
theorem plain_addr {w : World} {a : Addr} {v : Value} (h : w.cell? a = some v) : ∃ b o, a = ⟨b, o, none⟩ := by
  obtain ⟨b, o, sp⟩ := a
  cases sp with
  | none => exact ⟨b, o, rfl⟩
  | some x =>
    exfalso
    unfold World.cell? at h
    simp at h
    split at h <;> simp at h
theorem list_of {α : Type} {p : Nat → α → Prop} : ∀ n : Nat, (∀ i, i < n → ∃ c, p i c) → ∃ l : List α, l.length = n ∧ ∀ i (hi : i < l.length), p i l[i]
  | 0, _ => ⟨[], rfl, fun i hi => absurd hi (by simp)⟩
  | n + 1, h => by
    obtain ⟨l, hl, hp⟩ := list_of n fun i hi => h i (by omega)
    obtain ⟨c, hc⟩ := h n (by omega)
    refine ⟨l ++ [c], by simp [hl], fun i hi => ?_⟩
    simp at hi
    by_cases e : i < l.length
    · rw [List.getElem_append_left e]; exact hp i e
    · have : i = l.length := by omega
      subst this
      rw [List.getElem_append_right (by omega)]
      simp only [Nat.sub_self, List.getElem_cons_zero]
      rw [hl]
      exact hc
/-- rows that stand cell by cell stand as one slice -/
theorem sl_of_rows {α : Type} (f : α → List Value) (k : Nat) (hk : 0 < k) (hf : ∀ x, (f x).length = k) {w : World} {a : Addr} (L : List α) (hp : ∀ i (hi : i < L.length), ∀ j, j < k → w.cell? ((a.add (i * k)).add j) = (f L[i])[j]?) :
    Sl w w.heap.size (some a) (L.flatMap f) := by
  intro j u hj
  have hj1 := (List.getElem?_eq_some_iff.1 hj).1
  rw [flat_length f k hf] at hj1
  have hkk : j / k < L.length := (Nat.div_lt_iff_lt_mul hk).2 hj1
  have hm : j / k * k + j % k = j := by rw [Nat.mul_comm]; exact Nat.div_add_mod j k
  have h2 := flat_at f k hf L (j / k) hkk (j % k) (Nat.mod_lt _ hk)
  rw [hm, hj] at h2
  have h3 := hp (j / k) hkk (j % k) (Nat.mod_lt _ hk)
  rw [← h2] at h3
  have hab : ∃ b o, a = ⟨b, o, none⟩ := by
    have h0 := hp 0 (Nat.lt_of_le_of_lt (Nat.zero_le _) hkk) 0 hk
    have e0 : (a.add (0 * k)).add 0 = a := by rw [Nat.zero_mul]; rfl
    rw [e0, List.getElem?_eq_getElem (by rw [hf]; exact hk)] at h0
    exact plain_addr h0
  obtain ⟨b, o, rfl⟩ := hab
  rw [add_lit', add_lit'] at h3
  refine ⟨⟨b, o, none⟩, rfl, (show b < w.heap.size from cell_block (a := ⟨b, _, none⟩) h3), ?_⟩
  rw [add_lit', ← h3]
  congr 2
  omega
theorem Ed.len (e : Ed) : e.cells.length = 3 := rfl
theorem RSt.len (e : RSt) : e.cells.length = 6 := rfl
theorem USt.len (e : USt) : e.cells.length = 5 := rfl
section
variable {H : Type} {enc : TypeId × Value → H} {w : World} {spare : Nat → Bool} {held : Bool}
set_option maxRecDepth 100000 in
theorem open_edits {n : Nat} {cs : List Value} {y : DataW H × List MemPlace} (h : DataW.trod enc Try.prog w 0 spare held n 44 cs = some y) (hw : ∀ x ∈ y.1.weights Try.prog 44, x ≤ reachBytes) :
    ∃ A c, ∃ L : List Ed, cs = [.slice A L.length c] ∧ Sl w w.heap.size A (L.flatMap Ed.cells) ∧ L.length ≤ c ∧ c ≤ maxLen ∧ (∀ e ∈ L, e.OK) ∧ L.length * 32 ≤ reachBytes := by
  rcases DataW.trod_slice Try.underlying44 h with ⟨rfl, _⟩ | ⟨a, len, cap, elems, rest, m, _, rfl, rfl, _, hl, hm, hlen, hel, _, _⟩
  · exact ⟨none, 0, [], rfl, Sl.nil_ _ _ _, Nat.le_refl _, by simp [maxLen], (fun e he => by cases he), by simp⟩
  · rw [cellsOf37] at hel
    obtain ⟨L, hL, hp⟩ := list_of (α := Ed) (p := fun i e => e.OK ∧ ∀ j, j < 3 → w.cell? ((a.add (i * 3)).add j) = e.cells[j]?) len fun i hi => by
      have h1 := hel i hi
      have h2 : i < elems.length := by omega
      rw [List.getElem?_eq_getElem h2] at h1
      obtain ⟨cs', hc, ht⟩ := Option.bind_eq_some_iff.1 h1
      obtain ⟨e, rfl, he⟩ := open_edit ht
      exact ⟨e, he, (cells_at hc).2⟩
    subst hL
    refine ⟨some a, cap, L, rfl, sl_of_rows Ed.cells 3 (by omega) Ed.len L fun i hi => (hp i hi).2, hl, hm, ?_, ?_⟩
    · intro e he
      obtain ⟨i, hi, rfl⟩ := List.mem_iff_getElem.1 he
      exact (hp i hi).1
    · have := hw ((elems.map (·.1)).length * 32 + (rest.map (·.1)).length * 32) (by simp only [DataW.weights, Try.underlying44, bytesOf37]; rw [← Nat.add_mul]; simp)
      simp only [List.length_map] at this
      omega
set_option maxRecDepth 100000 in
theorem open_rsteps {n : Nat} {cs : List Value} {y : DataW H × List MemPlace} (h : DataW.trod enc Try.prog w 0 spare held n 22 cs = some y) (hw : ∀ x ∈ y.1.weights Try.prog 22, x ≤ reachBytes) :
    ∃ A c, ∃ L : List RSt, cs = [.slice A L.length c] ∧ Sl w w.heap.size A (L.flatMap RSt.cells) ∧ L.length ≤ c ∧ c ≤ maxLen ∧ (∀ e ∈ L, e.OK) ∧ L.length * 56 ≤ reachBytes := by
  rcases DataW.trod_slice Try.underlying22 h with ⟨rfl, _⟩ | ⟨a, len, cap, elems, rest, m, _, rfl, rfl, _, hl, hm, hlen, hel, _, _⟩
  · exact ⟨none, 0, [], rfl, Sl.nil_ _ _ _, Nat.le_refl _, by simp [maxLen], (fun e he => by cases he), by simp⟩
  · rw [cellsOf39] at hel
    obtain ⟨L, hL, hp⟩ := list_of (α := RSt) (p := fun i e => e.OK ∧ ∀ j, j < 6 → w.cell? ((a.add (i * 6)).add j) = e.cells[j]?) len fun i hi => by
      have h1 := hel i hi
      have h2 : i < elems.length := by omega
      rw [List.getElem?_eq_getElem h2] at h1
      obtain ⟨cs', hc, ht⟩ := Option.bind_eq_some_iff.1 h1
      obtain ⟨e, rfl, he⟩ := open_rstep ht
      exact ⟨e, he, (cells_at hc).2⟩
    subst hL
    refine ⟨some a, cap, L, rfl, sl_of_rows RSt.cells 6 (by omega) RSt.len L fun i hi => (hp i hi).2, hl, hm, ?_, ?_⟩
    · intro e he
      obtain ⟨i, hi, rfl⟩ := List.mem_iff_getElem.1 he
      exact (hp i hi).1
    · have := hw ((elems.map (·.1)).length * 56 + (rest.map (·.1)).length * 56) (by simp only [DataW.weights, Try.underlying22, bytesOf39]; rw [← Nat.add_mul]; simp)
      simp only [List.length_map] at this
      omega
end
end Go.Proofs.Ytjoeebjmjnddoaa
