/- the document's answer: Runs: what the walk needs. -/
import Derived.Test.YtikgjnfimagpjaaLstr
import Derived.Test.YtikgjnfimagpjaaLrs2
namespace Go.Proofs.Ytikgjnfimagpjaa
open Go.RowKit
theorem chI_fwd {zs lv pr : List Int} {k : Nat} {S : List (List Int)} {bg : Bool} {s : RS} {C : List (List Nat)} (h : ChI zs lv pr k S bg s C) {n : Nat} (hp : PairOK zs pr n) (hk : k ≤ n) (a b : Nat) (ha : a < S.length) (e : nxN zs pr S a = b + 1) : a < b ∧ b < S.length := by
  have hb := ChI.nx_lt a b e
  refine ⟨?_, hb⟩
  obtain ⟨c, hc, ham⟩ := h.cov a ha
  obtain ⟨i, hi, hia⟩ := List.mem_iff_getElem.1 ham
  have hgi : (C.getD c []).getD i 0 = a := by rw [List.getD_eq_getElem?_getD, List.getElem?_eq_getElem hi]; exact hia
  by_cases hi1 : i + 1 < (C.getD c []).length
  · have he := h.edge c i hi1
    rw [hgi] at he
    have hy := h.cbd c _ (getD_mem_nat (st := C.getD c []) (i := i + 1) hi1)
    have e2 := (h.nx_edge a _ hy).2 he
    have h1 := List.pairwise_iff_getElem.1 (h.asc c) i (i + 1) hi hi1 (by omega)
    have h2 : (C.getD c []).getD (i + 1) 0 = (C.getD c [])[i + 1] := by rw [List.getD_eq_getElem?_getD, List.getElem?_eq_getElem hi1]; rfl
    omega
  · have hC : C.getD c [] = (C.getD c []).dropLast ++ [a] := by
      have e3 := snoc_lastN (C.getD c []) (h.cne c hc)
      have e4 : lastN (C.getD c []) = a := by
        unfold lastN
        rw [show (C.getD c []).length - 1 = i by omega]
        exact hgi
      rw [e4] at e3
      exact e3
    have := h.end_ hp hk c a _ hC
    omega
theorem nx_fwd (zs lv : List Int) (n : Nat) (hn : n ≤ zs.length) (a b : Nat) (ha : a < (sto zs lv n).1.length) (e : nxN zs (pairsL (zs.take n)) (sto zs lv n).1 a = b + 1) : a < b ∧ b < (sto zs lv n).1.length := by
  have hp := pairs_ok zs n hn
  obtain ⟨C, h⟩ := rto_chain zs lv (pairsL (zs.take n)) n hp n (Nat.le_refl _)
  exact chI_fwd h hp (Nat.le_refl _) a b ha e
def bools (l : List Bool) : List Value := l.map Value.bool
@[simp] theorem bools_length (l : List Bool) : (bools l).length = l.length := by simp [bools]
theorem bown_at {w : World} {e : TypeId} {B g n c : Nat} {l : List Bool} (h : Own w e B (.slice (some ⟨g, 0, none⟩) n c) (bools l)) {i : Nat} (hi : i < l.length) : w.cell? ⟨g, i, none⟩ = some (.bool (l.getD i false)) := by
  have := h.cell i (by simpa using hi)
  rw [this]
  simp [bools, List.getD_eq_getElem?_getD, hi]
theorem bown_put {w : World} {e : TypeId} {B g n c : Nat} {l : List Bool} (h : Own w e B (.slice (some ⟨g, 0, none⟩) n c) (bools l)) (i : Nat) (x : Bool) : Own (w.setCell ⟨g, i, none⟩ (.bool x)) e B (.slice (some ⟨g, 0, none⟩) n c) (bools (l.set i x)) := by
  have := h.stored i (.bool x)
  rw [bools, List.map_set]
  exact this
theorem bget_set (l : List Bool) (i j : Nat) (x : Bool) (h : i < l.length) : (l.set i x).getD j false = if j = i then x else l.getD j false := by
  simp only [List.getD_eq_getElem?_getD]
  by_cases e : j = i
  · subst e; simp [h]
  · rw [if_neg e, List.getElem?_set_ne (fun e' => e e'.symm)]
theorem bget_rep (n j : Nat) : (List.replicate n false).getD j false = false := by
  simp only [List.getD_eq_getElem?_getD, List.getElem?_replicate]
  split <;> rfl
/-- other blocks, all new -/
theorem Mem.others {w : World} {B : Nat} {F G : List Nat} {ov : Value} {rvs : List Value} {rows : List (List Int)} (h : Mem w B F ov rvs rows) (hG : ∀ g ∈ G, g ∈ F ∨ w.heap.size ≤ g) : Mem w B G ov rvs rows :=
  ⟨h.own, h.len, h.row, fun j v hv x hx => ⟨(h.far j v hv x hx).1, fun hg => by
    rcases hG x hg with hg | hg
    · exact (h.far j v hv x hx).2 hg
    · have := ((h.row j v hv).lt x hx).2; omega⟩, h.apart, fun x hx hg => by
    rcases hG x hg with hg | hg
    · exact h.ofar x hx hg
    · have := (h.own.lt x hx).2; omega⟩
/-- one more slice grows: the lists stay -/
theorem Mem.grow {w w' : World} {B : Nat} {ov v v' : Value} {rvs : List Value} {rows : List (List Int)} (h : Mem w B v.ownBlock.toList ov rvs rows) (ha : Appended w w' v v') : Mem w' B v'.ownBlock.toList ov rvs rows := by
  obtain ⟨hs, hv⟩ := appended_stay ha
  have h1 : Mem w B (v.ownBlock.toList ++ v'.ownBlock.toList) ov rvs rows := h.others fun g hg => by
    rcases List.mem_append.1 hg with hg | hg
    · exact .inl hg
    · rcases hv with hv | ⟨y, hy, hsz⟩
      · rw [hv] at hg; exact .inl hg
      · rw [hy] at hg
        simp at hg
        subst hg
        exact .inr hsz
  exact (h1.keep hs (fun g hg => List.mem_append_left _ hg)).less fun g hg => List.mem_append_right _ hg
theorem Mem.base_mono {w : World} {B B' : Nat} {F : List Nat} {ov : Value} {rvs : List Value} {rows : List (List Int)} (h : Mem w B F ov rvs rows) (hB : B' ≤ B) : Mem w B' F ov rvs rows :=
  ⟨own_mono h.own hB, h.len, fun j v hv => own_mono (h.row j v hv) hB, h.far, h.apart, h.ofar⟩
theorem info4 : (Try.prog.info? 4).map (fun i => (i.zero, i.size, i.bytes)) = some (some (.bool false), 1, 1) := by kernel_rfl
theorem begN_le (S : List (List Int)) (p : Int) : ∀ i, begN S i p ≤ i
  | 0 => Nat.le_refl _
  | i + 1 => by
    unfold begN
    split
    · exact Nat.le_refl _
    · have := begN_le S p i; omega
theorem chainF_zero (S : List (List Int)) (nx : Nat → Nat) (f : Nat) : chainF S nx f 0 = [] := by cases f <;> rfl
theorem docR_len (S : List (List Int)) (nx : Nat → Nat) : ∀ i, (docR S nx i).length ≤ i
  | 0 => Nat.le_refl _
  | i + 1 => by
    have := docR_len S nx i
    unfold docR
    split
    · omega
    · simp only [List.length_append, List.length_singleton]; omega
theorem docR_mem (S : List (List Int)) (nx : Nat → Nat) (i : Nat) (hg : goesB nx S.length i = false) : ∀ m, i < m → chainF S nx (S.length + 1) (i + 1) ∈ docR S nx m
  | 0, h => absurd h (by omega)
  | m + 1, h => by
    unfold docR
    by_cases e : i = m
    · subst e
      rw [hg]
      simp
    · have := docR_mem S nx i hg m (by omega)
      split
      · exact this
      · exact List.mem_append_left _ this
theorem doc_each (zs lv : List Int) (n : Nat) (hn : n = min zs.length lv.length) : ∀ row ∈ runsL zs lv, row.length ≤ n := by
  intro row hrow
  obtain ⟨a, ha, e⟩ := List.mem_iff_getElem.1 hrow
  have h := (rto_good zs lv (pairsL (zs.take (min zs.length lv.length))) (min zs.length lv.length)).each a
  unfold runsL at ha e
  have := h ha
  rw [List.getD_eq_getElem?_getD, List.getElem?_eq_getElem ha] at this
  simp only [Option.getD_some, e] at this
  omega
end Go.Proofs.Ytikgjnfimagpjaa
