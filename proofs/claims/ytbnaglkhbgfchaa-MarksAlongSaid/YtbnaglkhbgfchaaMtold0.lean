/- shuttlelaw19, told: plain: what is over three places, taken of all marks in their order. -/
import Derived.Test.YtbnaglkhbgfchaaMset
namespace Go.Proofs.Ytbnaglkhbgfchaa
open Go.RowKit Go.Sort
/-- lies a mark over n places from a on? -/
def ovM (a n : Int) (m : MK) : Bool := overP ⟨m.a, m.a + m.n, m.g, m.s⟩ a n
theorem ovM_mk (a n : Int) (x : EN) : ovM a n x.mk_ = overP x.st a n := by
  unfold ovM overP EN.mk_
  simp only
  rw [show x.st.b + (x.st.e - x.st.b) = x.st.e by omega]
theorem filter_mk (a n : Int) : ∀ L : List EN, (L.filter fun x => overP x.st a n).map EN.mk_ = (L.map EN.mk_).filter (ovM a n)
  | [] => rfl
  | x :: L => by
    rw [List.map_cons, List.filter_cons, List.filter_cons, ovM_mk, ← filter_mk a n L]
    split <;> rfl
/-- the order of marks -/
def leM (x y : MK) : Prop := x.a < y.a ∨ (x.a = y.a ∧ x.id < y.id)
theorem pair_of {d : Array MK} (hs : SortedIn (ltOf cmpM) 0 d.size d) (hn : (d.toList.map (·.id)).Nodup) : d.toList.Pairwise leM := by
  rw [List.pairwise_iff_getElem]
  intro i j hi hj hij
  have hi' : i < d.size := by simpa using hi
  have hj' : j < d.size := by simpa using hj
  have h := hs i j (Nat.zero_le _) hij hj'
  rw [ltM] at h
  rw [getElem!_pos d i hi', getElem!_pos d j hj'] at h
  simp only [decide_eq_false_iff_not] at h
  have hne : d[i].id ≠ d[j].id := fun e => by
    have h1 := List.pairwise_iff_getElem.1 hn i j (by simpa using hi') (by simpa using hj') hij
    apply h1
    simpa using e
  show leM d.toList[i] d.toList[j]
  rw [Array.getElem_toList, Array.getElem_toList]
  unfold leM
  omega
/-- the marks over some places are those of all -/
theorem some_eq {D E : List MK} {p : MK → Bool} (hD : D.Pairwise leM) (hE : E.Pairwise leM) (hp : E.Perm (D.filter p)) : E = D.filter p := by
  refine hp.eq_of_pairwise ?_ hE (hD.sublist List.filter_sublist)
  intro x y _ _ h1 h2
  unfold leM at h1 h2
  omega
/-- a style, told by a mark -/
def stM (a : Int) (j : Nat) (s : Int × Int) (m : MK) : Int × Int := if (m.a ≤ a + j ∧ a + j < m.a + m.n) ∧ s.1 < m.id then (m.id, m.s) else s
def tellM (a : Int) (l : List MK) (j : Nat) : Int × Int := l.foldl (stM a j) (0, 0)
theorem tell_of (a : Int) (O : List EN) (j : Nat) : stF a O j = tellM a (O.map EN.mk_) j := by
  unfold stF tellM
  rw [List.foldl_map]
  congr 1
  funext s x
  unfold stp stM EN.mk_
  simp only
  rw [show x.st.b + (x.st.e - x.st.b) = x.st.e by omega]
theorem tell_perm {a : Int} {l l' : List MK} (h : l.Perm l') (hn : (l.map (·.id)).Nodup) (j : Nat) : tellM a l j = tellM a l' j := by
  refine h.foldl_eq' ?_ _
  intro x hx y hy z
  by_cases e : x.id = y.id
  · rw [nodup_eq hn hx hy e]
  · unfold stM
    by_cases c1 : (x.a ≤ a + j ∧ a + j < x.a + x.n) <;> by_cases c2 : (y.a ≤ a + j ∧ a + j < y.a + y.n) <;> by_cases c3 : z.1 < x.id <;> by_cases c4 : z.1 < y.id <;> by_cases c5 : x.id < y.id <;> by_cases c6 : y.id < x.id <;> first | (exfalso; omega) | simp only [c1, c2, c3, c4, c5, c6, and_self, and_true, and_false, if_true, if_false]
theorem tell_snoc (a : Int) (l : List MK) (m : MK) (j : Nat) : tellM a (l ++ [m]) j = stM a j (tellM a l j) m := by simp [tellM]
/-- a list of marks in memory -/
def HoldM (w : World) (B : Nat) (A : Option Addr) (l : List MK) : Prop :=
  l ≠ [] → ∃ g o, A = some ⟨g, o, none⟩ ∧ B ≤ g ∧ g < w.heap.size ∧ ∀ i (hi : i < l.length), ∀ j u, l[i].cells[j]? = some u → w.cell? ⟨g, o + (i * 5 + j), none⟩ = some u
theorem HoldM.stay {w w' : World} {B : Nat} {A : Option Addr} {l : List MK} {F : List Nat} (h : HoldM w B A l) (hs : Stay F w w') (hF : ∀ f ∈ F, w.heap.size ≤ f) : HoldM w' B A l := fun hl => by
  obtain ⟨g, o, e, h1, h2, h3⟩ := h hl
  have := hs.size
  refine ⟨g, o, e, h1, by omega, fun i hi j u hu => ?_⟩
  rw [hs.cell_ (a := ⟨g, _, none⟩) h2 (fun hf => by have h9 : w.heap.size ≤ g := hF _ hf; omega)]
  exact h3 i hi j u hu
theorem over_list {w w' : World} {R : List MK} {e : Ending} (h : Overed w R e w') (hn : (R.map (·.id)).Nodup) :
    ∃ (A : Option Addr) (c : Nat) (l : List MK), e = .returned (.slice A l.length c) ∧ l.Perm R ∧ l.Pairwise leM ∧ HoldM w' w.heap.size A l ∧ Stay [] w w' := by
  obtain ⟨A, c, d, rfl, hp, hs, hm, hst⟩ := h
  refine ⟨A, c, d.toList, by rw [Array.length_toList], hp, pair_of hs ((hp.map _).nodup_iff.2 hn), fun hl => ?_, hst⟩
  obtain ⟨g, o, e, h1, h2, h3⟩ := hm (by
    rcases Nat.eq_zero_or_pos d.size with h0 | h0
    · exact absurd (List.eq_nil_of_length_eq_zero (by simpa using h0)) hl
    · exact h0)
  refine ⟨g, o, e, h1, h2, fun i hi j u hu => ?_⟩
  have hj : j < 5 := by
    have := (List.getElem?_eq_some_iff.1 hu).1
    rwa [MK.len] at this
  have hi' : i < d.size := by simpa using hi
  have hlt : i * 5 + j < (flatK MK.cells 5 d).size := by rw [size_flatK]; omega
  have h9 := (h3 (i * 5 + j) hlt).1
  rw [get_flatK MK.cells 5 d _ (by rw [size_flatK] at hlt; exact hlt)] at h9
  rw [h9, show (i * 5 + j) / 5 = i by omega, show (i * 5 + j) % 5 = j by omega, getElem!_pos d i hi', getElem!_pos _ _ (by rw [MK.len]; exact hj)]
  rw [Array.getElem_toList, List.getElem?_eq_getElem (by rw [MK.len]; exact hj)] at hu
  exact hu
theorem filter_at {α : Type} (p : α → Bool) : ∀ (l : List α) (i : Nat) (hi : i < l.length), p l[i] = true → (l.filter p)[((l.take i).filter p).length]? = some l[i]
  | x :: l, 0, _, h => by
    simp only [List.getElem_cons_zero] at h ⊢
    simp [h]
  | x :: l, i + 1, hi, h => by
    simp only [List.getElem_cons_succ, List.take_succ_cons] at h ⊢
    have ih := filter_at p l i (by simpa using hi) h
    by_cases hx : p x = true
    · simp [hx, ih]
    · simp [hx, ih]
theorem take_next {α : Type} (l : List α) (i : Nat) (x : α) (h : l[i]? = some x) : l.take (i + 1) = l.take i ++ [x] := by
  rw [List.take_add_one, h]; rfl
/-- the numbers and styles between two rounds -/
def midT (a : Int) (m : MK) (f : Nat → Int × Int) (k j : Nat) : Int × Int := if j < k then stM a j (f j) m else f j
theorem ids_set {n k : Nat} {f g : Nat → Int × Int} (hk : k < n) (h2 : ∀ j, j ≠ k → g j = f j) : (idsL n f).set k (.int .i64 (g k).1) = idsL n g :=
  range_set n k _ _ _ hk rfl (fun j hj => by rw [h2 j hj])
theorem sts_set {n k : Nat} {f g : Nat → Int × Int} (hk : k < n) (h2 : ∀ j, j ≠ k → g j = f j) : (stsL n f).set k (.int .u16 (g k).2) = stsL n g :=
  range_set n k _ _ _ hk rfl (fun j hj => by rw [h2 j hj])
theorem ids_congr {n : Nat} {f g : Nat → Int × Int} (h : ∀ j, j < n → f j = g j) : idsL n f = idsL n g := List.map_congr_left (fun j hj => by rw [h j (by simpa using hj)])
theorem sts_congr {n : Nat} {f g : Nat → Int × Int} (h : ∀ j, j < n → f j = g j) : stsL n f = stsL n g := List.map_congr_left (fun j hj => by rw [h j (by simpa using hj)])
end Go.Proofs.Ytbnaglkhbgfchaa
