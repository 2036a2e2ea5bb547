/- package level: what Runs does, place by place. -/
import Derived.Test.YtikgjnfimagpjaaLrows
namespace Go.Proofs.Ytikgjnfimagpjaa
open Go.RowKit
theorem pto_bound (zs : List Int) (k : Nat) (hk : k ≤ zs.length) : ∀ x ∈ (pto zs k).1, -1 ≤ x ∧ x < (zs.length : Int) := by
  induction k with
  | zero =>
    intro x hx
    simp only [pto, List.mem_replicate] at hx
    omega
  | succ k ih =>
    have ih := ih (by omega)
    have hop := pto_open zs k
    have key : ∀ (l : List Int) (i : Nat) (v : Int), (∀ x ∈ l, -1 ≤ x ∧ x < (zs.length : Int)) → -1 ≤ v ∧ v < (zs.length : Int) → ∀ x ∈ l.set i v, -1 ≤ x ∧ x < (zs.length : Int) := by
      intro l i v hl hv x hx
      rcases List.mem_or_eq_of_mem_set hx with h | rfl
      · exact hl x h
      · exact hv
    rw [pto]
    unfold pstep
    have h1 := key _ k (-1) ih ⟨by omega, by omega⟩
    repeat' split
    · exact h1
    · exact h1
    · rename_i h
      refine key _ _ _ (key _ _ _ h1 ?_) ⟨by omega, by omega⟩
      have hl : (pto zs k).2.length - 1 < (pto zs k).2.length := by omega
      have := hop ((pto zs k).2.getD ((pto zs k).2.length - 1) 0) (by rw [List.getD_eq_getElem?_getD, List.getElem?_eq_getElem hl]; exact List.getElem_mem _)
      omega
    · exact h1
theorem pairsL_bound (zs : List Int) (i : Nat) (hi : i < zs.length) : -1 ≤ (pairsL zs).getD i 0 ∧ (pairsL zs).getD i 0 < (zs.length : Int) := by
  refine pto_bound zs zs.length (Nat.le_refl _) _ ?_
  have hl : i < (pairsL zs).length := by simpa using hi
  rw [List.getD_eq_getElem?_getD, List.getElem?_eq_getElem hl]
  exact List.getElem_mem _
structure RS where
  rows : List (List Int)
  now : Int
  last : Int
  m : Int → Option Nat
def RS.fresh (s : RS) : RS := { s with rows := s.rows ++ [[]], now := s.rows.length }
def breaksP (lv : List Int) (i : Nat) (s : RS) : Prop := s.now < 0 ∨ s.last < 0 ∨ lv.getD s.last.toNat 0 ≠ lv.getD i 0
instance (lv : List Int) (i : Nat) (s : RS) : Decidable (breaksP lv i s) := by unfold breaksP; infer_instance
/-- a new stretch: it goes on a run, or begins one -/
def turnR (pr : List Int) (i : Nat) (s : RS) : RS :=
  match s.m i with
  | some a => if (s.rows.getD a []).getD ((s.rows.getD a []).length - 1) 0 = pr.getD i 0 then { s with now := a } else s.fresh
  | none => s.fresh
def pickR (lv pr : List Int) (i : Nat) (s : RS) : RS := if breaksP lv i s then turnR pr i s else s
def putR (d : Int) (pr : List Int) (i : Nat) (s : RS) : RS :=
  { rows := s.rows.set s.now.toNat (s.rows.getD s.now.toNat [] ++ [(i : Int)]),
    now := s.now,
    last := if d = 10 then -1 else i,
    m := if opensB d = true ∧ 0 ≤ pr.getD i 0 then fun y => if y = pr.getD i 0 then some s.now.toNat else s.m y else s.m }
def stepR (d : Int) (lv pr : List Int) (i : Nat) (s : RS) : RS := if leftB d = true then s else putR d pr i (pickR lv pr i s)
def rto (zs lv pr : List Int) : Nat → RS
  | 0 => ⟨[], -1, -1, fun _ => none⟩
  | k + 1 => stepR (clsL (zs.getD k 0)) lv pr k (rto zs lv pr k)
def runsL (zs lv : List Int) : List (List Int) := (rto zs lv (pairsL (zs.take (min zs.length lv.length))) (min zs.length lv.length)).rows
structure GoodR (k : Nat) (s : RS) : Prop where
  now : -1 ≤ s.now ∧ s.now < s.rows.length
  last : -1 ≤ s.last ∧ s.last < k
  m : ∀ i a, s.m i = some a → a < s.rows.length
  ne : ∀ a, a < s.rows.length → 0 < (s.rows.getD a []).length
  len : s.rows.length ≤ k
  each : ∀ a, a < s.rows.length → (s.rows.getD a []).length ≤ k
/-- behind the choice of the run -/
structure MidR (k : Nat) (s : RS) : Prop where
  now : 0 ≤ s.now ∧ s.now < s.rows.length
  m : ∀ i a, s.m i = some a → a < s.rows.length
  ne : ∀ a, a < s.rows.length → (a : Int) ≠ s.now → 0 < (s.rows.getD a []).length
  len : s.rows.length ≤ k + 1
  each : ∀ a, a < s.rows.length → (s.rows.getD a []).length ≤ k
theorem GoodR.fresh {k : Nat} {s : RS} (h : GoodR k s) : MidR k s.fresh := by
  have hl := h.len
  have get : ∀ a, a < s.rows.length → (s.rows ++ [[]]).getD a [] = s.rows.getD a [] := fun a ha => by simp [List.getD_eq_getElem?_getD, List.getElem?_append_left ha]
  refine ⟨by simp [RS.fresh]; omega, fun i a ha => ?_, fun a ha hne => ?_, by simp [RS.fresh]; omega, fun a ha => ?_⟩
  · have := h.m i a ha
    simp [RS.fresh]; omega
  · simp only [RS.fresh, List.length_append, List.length_singleton] at ha hne ⊢
    rw [get a (by omega)]
    exact h.ne a (by omega)
  · simp only [RS.fresh, List.length_append, List.length_singleton] at ha ⊢
    by_cases e : a < s.rows.length
    · rw [get a e]; exact h.each a e
    · have : a = s.rows.length := by omega
      subst this
      simp
theorem GoodR.at_ {k : Nat} {s : RS} (h : GoodR k s) {a : Nat} (ha : a < s.rows.length) : MidR k { s with now := a } :=
  ⟨⟨by show (0 : Int) ≤ a; omega, by show (a : Int) < (s.rows.length : Int); omega⟩, h.m, fun b hb _ => h.ne b hb, by have := h.len; show s.rows.length ≤ _; omega, h.each⟩
theorem GoodR.turn {k : Nat} {s : RS} (h : GoodR k s) (pr : List Int) (i : Nat) : MidR k (turnR pr i s) := by
  unfold turnR
  split
  · rename_i a ha
    split
    · exact h.at_ (h.m _ a ha)
    · exact h.fresh
  · exact h.fresh
theorem GoodR.pick {k : Nat} {s : RS} (h : GoodR k s) (lv pr : List Int) (i : Nat) : MidR k (pickR lv pr i s) := by
  unfold pickR
  split
  · exact h.turn pr i
  · rename_i hb
    have hn : 0 ≤ s.now := by
      unfold breaksP at hb
      omega
    exact ⟨⟨hn, h.now.2⟩, h.m, fun b hb _ => h.ne b hb, by have := h.len; omega, h.each⟩
theorem MidR.put {k : Nat} {s : RS} (h : MidR k s) (d : Int) (pr : List Int) : GoodR (k + 1) (putR d pr k s) := by
  obtain ⟨a, ha⟩ : ∃ a : Nat, s.now = a := ⟨s.now.toNat, by have := h.now; omega⟩
  have hal : a < s.rows.length := by have := h.now; omega
  have get : ∀ b, (s.rows.set a (s.rows.getD a [] ++ [(k : Int)])).getD b [] = if b = a then s.rows.getD a [] ++ [(k : Int)] else s.rows.getD b [] := by
    intro b
    simp only [List.getD_eq_getElem?_getD]
    by_cases e : b = a
    · subst e; simp [hal]
    · rw [if_neg e, List.getElem?_set_ne (fun e' => e e'.symm)]
  have e0 : s.now.toNat = a := by omega
  refine ⟨by simp [putR, e0]; omega, ?_, fun i b hb => ?_, fun b hb => ?_, by simp [putR]; exact h.len, fun b hb => ?_⟩
  · simp only [putR]; split <;> omega
  · simp only [putR, List.length_set] at hb ⊢
    split at hb
    · simp only at hb
      split at hb
      · injection hb with hb; omega
      · exact h.m i b hb
    · exact h.m i b hb
  · simp only [putR, e0, List.length_set] at hb ⊢
    rw [get]
    split
    · simp
    · exact h.ne b hb (by omega)
  · simp only [putR, e0, List.length_set] at hb ⊢
    rw [get]
    split
    · have := h.each a hal
      simp only [List.length_append, List.length_singleton]; omega
    · have := h.each b hb; omega
theorem GoodR.step {k : Nat} {s : RS} (h : GoodR k s) (d : Int) (lv pr : List Int) : GoodR (k + 1) (stepR d lv pr k s) := by
  unfold stepR
  split
  · exact ⟨h.now, ⟨h.last.1, by have := h.last.2; omega⟩, h.m, h.ne, by have := h.len; omega, fun a ha => by have := h.each a ha; omega⟩
  · exact (h.pick lv pr k).put d pr
theorem rto_good (zs lv pr : List Int) (k : Nat) : GoodR k (rto zs lv pr k) := by
  induction k with
  | zero => exact ⟨by simp [rto], by simp [rto], by simp [rto], by simp [rto], by simp [rto], by simp [rto]⟩
  | succ k ih => exact ih.step _ lv pr
/-- what holds in memory between the places of Runs -/
structure RInv (w0 w : World) (pb mb n : Nat) (pr : List Int) (s : RS) (ov : Value) (rvs : List Value) (mn : Nat) : Prop where
  mem : Mem w w0.heap.size [mb, pb] ov rvs s.rows
  map : MapIs w mb mn s.m
  prs : Own w 3 w0.heap.size (.slice (some ⟨pb, 0, none⟩) n n) (ints .i64 pr)
  far : pb ≠ mb
  mB : w0.heap.size ≤ mb
  below : Below w0.heap.size w0 w
section
variable {w0 w w' : World} {pb mb n mn : Nat} {pr : List Int} {s : RS} {ov ov' : Value} {rvs : List Value}
theorem RInv.sizes (h : RInv w0 w pb mb n pr s ov rvs mn) : w0.heap.size ≤ pb ∧ pb < w.heap.size ∧ mb < w.heap.size ∧ w0.heap.size ≤ w.heap.size :=
  ⟨(h.prs.lt pb rfl).1, (h.prs.lt pb rfl).2, h.map.lt, h.below.size⟩
theorem RInv.quiet (h : RInv w0 w pb mb n pr s ov rvs mn) (hs : Stay [] w w') : RInv w0 w' pb mb n pr s ov rvs mn :=
  ⟨h.mem.keep hs (by simp), h.map.stay hs (by simp), Stay.own hs h.prs (by simp), h.far, h.mB, h.below.trans (hs.toBelow h.below.size (by simp))⟩
theorem RInv.at_ (h : RInv w0 w pb mb n pr s ov rvs mn) (a : Int) : RInv w0 w pb mb n pr { s with now := a } ov rvs mn := ⟨h.mem, h.map, h.prs, h.far, h.mB, h.below⟩
theorem RInv.fresh (h : RInv w0 w pb mb n pr s ov rvs mn) (ho : Own w' 25 w0.heap.size ov' (rvs ++ [.slice none 0 0])) (ha : Appended w w' ov ov') : RInv w0 w' pb mb n pr s.fresh ov' (rvs ++ [.slice none 0 0]) mn := by
  obtain ⟨h1, h2, h3, h4⟩ := h.sizes
  obtain ⟨hs, hv⟩ := appended_stay ha
  have hf : ∀ x, x ∈ ov.ownBlock.toList → x ≠ mb ∧ x ≠ pb := fun x hx => by
    have := h.mem.ofar x (by simpa using hx)
    simpa using this
  refine ⟨h.mem.more ho ha (by simp; omega), h.map.stay hs fun hm => (hf mb hm).1 rfl, Stay.own hs h.prs fun x hx hm => ?_, h.far, h.mB, h.below.trans (hs.toBelow h4 fun x hx => (h.mem.own.lt x (by simpa using hx)).1)⟩
  injection hx with hx
  exact (hf x hm).2 hx.symm
/-- the place is put onto its run -/
theorem RInv.put {g c j k : Nat} {v v' : Value} {m : Nat} (h : RInv w0 w pb mb n pr s (.slice (some ⟨g, 0, none⟩) m c) rvs mn) (hj : rvs[j]? = some v) (ho : Own w' 3 w0.heap.size v' (ints .i64 (s.rows.getD j [] ++ [(k : Int)]))) (ha : Appended w w' v v') :
    RInv w0 (w'.setCell ⟨g, j, none⟩ v') pb mb n pr { s with rows := s.rows.set j (s.rows.getD j [] ++ [(k : Int)]) } (.slice (some ⟨g, 0, none⟩) m c) (rvs.set j v') mn := by
  obtain ⟨h1, h2, h3, h4⟩ := h.sizes
  obtain ⟨hs, hv⟩ := appended_stay ha
  have hf : ∀ x, x ∈ v.ownBlock.toList → x ≠ mb ∧ x ≠ pb := fun x hx => by
    have := (h.mem.far j v hj x (by simpa using hx)).2
    simpa using this
  have hg : g ≠ mb ∧ g ≠ pb := by simpa using h.mem.ofar g rfl
  have hs2 : Stay [g] w' (w'.setCell ⟨g, j, none⟩ v') := Stay.setCell _ _ _ (by simp)
  have hp1 : Own w' 3 w0.heap.size (.slice (some ⟨pb, 0, none⟩) n n) (ints .i64 pr) := Stay.own hs h.prs fun x hx hm => by
    injection hx with hx
    exact (hf x hm).2 hx.symm
  refine ⟨h.mem.put hj ho ha (by simp; omega), (h.map.stay hs fun hm => (hf mb hm).1 rfl).stay hs2 (by simp; exact fun e => hg.1 e.symm), Stay.own hs2 hp1 fun x hx hm => ?_, h.far, h.mB, ?_⟩
  · injection hx with hx
    simp at hm
    exact hg.2 (hm.symm.trans hx.symm)
  · refine (h.below.trans (hs.toBelow h4 fun x hx => ((h.mem.row j v hj).lt x (by simpa using hx)).1)).trans (hs2.toBelow (by have := hs.size; omega) ?_)
    simp
    exact (h.mem.own.lt g rfl).1
theorem RInv.upd {f : Int → Option Nat} {mn' : Nat} (h : RInv w0 w pb mb n pr s ov rvs mn) (hm : MapIs w' mb mn' f) (hs : Stay [mb] w w') : RInv w0 w' pb mb n pr { s with m := f } ov rvs mn' :=
  ⟨h.mem.keep hs (by simp), hm, Stay.own hs h.prs (fun x hx hm => by injection hx with hx; simp at hm; exact h.far (hx.trans hm)), h.far, h.mB, h.below.trans (hs.toBelow h.below.size (by simpa using h.mB))⟩
theorem RInv.more {mn' : Nat} (h : RInv w0 w pb mb n pr s ov rvs mn) (hn : mn ≤ mn') : RInv w0 w pb mb n pr s ov rvs mn' := by
  obtain ⟨D, h1, h2, h3⟩ := h.map
  exact ⟨h.mem, ⟨D, h1, h2.mono hn, h3⟩, h.prs, h.far, h.mB, h.below⟩
theorem RInv.last_ (h : RInv w0 w pb mb n pr s ov rvs mn) (a : Int) : RInv w0 w pb mb n pr { s with last := a } ov rvs mn := ⟨h.mem, h.map, h.prs, h.far, h.mB, h.below⟩
end
end Go.Proofs.Ytikgjnfimagpjaa
