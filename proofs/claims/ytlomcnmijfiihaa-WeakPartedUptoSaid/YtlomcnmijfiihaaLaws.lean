/- layer 8 in plain lists: what follows. -/
import Derived.Test.YtlomcnmijfiihaaSpec
namespace Go.Proofs.Ytlomcnmijfiihaa
theorem scan_getD (f : Int → Int → Int × Int) (zs : List Int) (s : Int) (i : Nat) (hi : i < zs.length) : (scan f s zs).1.getD i 0 = (f (scan f s (zs.take i)).2 (zs.getD i 0)).1 := by
  have h := scan_append f (zs.take (i + 1)) (zs.drop (i + 1)) s
  rw [List.take_append_drop] at h
  rw [h, scan_snoc f zs s i hi]
  simp [scan_length, hi, Nat.min_eq_left (Nat.le_of_lt hi)]
theorem scan_state (f : Int → Int → Int × Int) (zs : List Int) (s : Int) (i : Nat) (hi : i < zs.length) : (scan f s (zs.take (i + 1))).2 = (f (scan f s (zs.take i)).2 (zs.getD i 0)).2 := by
  rw [scan_snoc f zs s i hi]
  simp [hi]
theorem scan_all {f : Int → Int → Int × Int} {P R Q : Int → Prop} (h : ∀ s z, Q s → R z → P (f s z).1 ∧ Q (f s z).2) (l : List Int) : ∀ s, Q s → (∀ z ∈ l, R z) → ∀ z ∈ (scan f s l).1, P z := by
  induction l with
  | nil => intro s _ _ z hz; simp [scan] at hz
  | cons a l ih =>
    intro s hs hl z hz
    have h1 := h s a hs (hl a (by simp))
    simp only [scan, List.mem_cons] at hz
    rcases hz with rfl | hz
    · exact h1.1
    · exact ih _ h1.2 (fun z hz => hl z (by simp [hz])) z hz
theorem scan_id {f : Int → Int → Int × Int} {R Q : Int → Prop} (h : ∀ s z, Q s → R z → (f s z).1 = z ∧ Q (f s z).2) (l : List Int) : ∀ s, Q s → (∀ z ∈ l, R z) → (scan f s l).1 = l := by
  induction l with
  | nil => intro s _ _; simp [scan]
  | cons a l ih =>
    intro s hs hl
    have h1 := h s a hs (hl a (by simp))
    simp only [scan, h1.1]
    rw [ih _ h1.2 (fun z hz => hl z (by simp [hz]))]
theorem scan_twice {f : Int → Int → Int × Int} (h : ∀ s z, f s (f s z).1 = f s z) (l : List Int) : ∀ s, scan f s (scan f s l).1 = scan f s l := by
  induction l with
  | nil => intro s; simp [scan]
  | cons a l ih => intro s; simp only [scan, h, ih]
theorem scan_map {f : Int → Int → Int × Int} {g : Int → Int} (h : ∀ s z, (f s z).1 = g z) (l : List Int) : ∀ s, (scan f s l).1 = l.map g := by
  induction l with
  | nil => intro s; simp [scan]
  | cons a l ih => intro s; simp [scan, h, ih]
theorem sepL_mem {zs : List Int} {z : Int} (h : z ∈ sepL zs) : z ∈ zs ∨ z = 3 ∨ z = 6 := by
  simp only [sepL, List.mem_map, List.mem_range] at h
  obtain ⟨i, hi, rfl⟩ := h
  unfold sepAt
  split
  · rename_i h; omega
  · left; simp [hi]
theorem termL_mem {zs : List Int} {z : Int} (h : z ∈ termL zs) : z ∈ zs ∨ z = 3 := by
  simp only [termL, List.mem_map, List.mem_range] at h
  obtain ⟨i, hi, rfl⟩ := h
  unfold termAt
  split
  · right; rfl
  · left; simp [hi]
theorem sepL_getD (zs : List Int) (j : Nat) (hj : j < zs.length) : (sepL zs).getD j 0 = sepAt zs j := by simp [sepL, hj]
theorem sosL_01 (s : Int) : sosL s = 0 ∨ sosL s = 1 := by unfold sosL; split <;> simp
theorem clsL_range (z : Int) : 0 ≤ clsL z ∧ clsL z ≤ 22 := by unfold clsL; split <;> omega
theorem clsL_id {z : Int} (h : 0 ≤ z ∧ z ≤ 22) : clsL z = z := by unfold clsL; rw [if_neg (by omega)]
/-- what is left behind all rules -/
def Clean (z : Int) : Prop := 0 ≤ z ∧ z ≤ 22 ∧ z ≠ 8 ∧ z ≠ 2 ∧ z ≠ 4 ∧ z ≠ 5 ∧ z ≠ 7
theorem rule1_ok (zs : List Int) (s : Int) (hs : s = 0 ∨ s = 1) (h : ∀ z ∈ zs, 0 ≤ z ∧ z ≤ 22) : ∀ z ∈ (scan fMarks s zs).1, 0 ≤ z ∧ z ≤ 22 ∧ z ≠ 8 :=
  scan_all (Q := fun s => 0 ≤ s ∧ s ≤ 22 ∧ s ≠ 8) (R := fun z => 0 ≤ z ∧ z ≤ 22) (fun s z hs hz => by
    simp only [fMarks, iso]
    repeat' split
    all_goals omega) zs s (by omega) h
theorem rule2_ok (zs : List Int) (s : Int) (h : ∀ z ∈ zs, 0 ≤ z ∧ z ≤ 22 ∧ z ≠ 8) : ∀ z ∈ (scan fArabic s zs).1, 0 ≤ z ∧ z ≤ 22 ∧ z ≠ 8 :=
  scan_all (Q := fun _ => True) (R := fun z => 0 ≤ z ∧ z ≤ 22 ∧ z ≠ 8) (fun s z _ hz => by
    simp only [fArabic]
    repeat' split
    all_goals simp only [and_true]; omega) zs s trivial h
theorem rule3_ok (zs : List Int) (s : Int) (h : ∀ z ∈ zs, 0 ≤ z ∧ z ≤ 22 ∧ z ≠ 8) : ∀ z ∈ (scan fLetters s zs).1, 0 ≤ z ∧ z ≤ 22 ∧ z ≠ 8 ∧ z ≠ 2 :=
  scan_all (Q := fun _ => True) (R := fun z => 0 ≤ z ∧ z ≤ 22 ∧ z ≠ 8) (fun s z _ hz => by
    simp only [fLetters]
    repeat' split
    all_goals simp only [and_true]; omega) zs s trivial h
theorem rule4_ok (zs : List Int) (h : ∀ z ∈ zs, 0 ≤ z ∧ z ≤ 22 ∧ z ≠ 8 ∧ z ≠ 2) : ∀ z ∈ sepL zs, 0 ≤ z ∧ z ≤ 22 ∧ z ≠ 8 ∧ z ≠ 2 := fun z hz => by
  rcases sepL_mem hz with h1 | h1 | h1
  · exact h z h1
  · omega
  · omega
theorem rule5_ok (zs : List Int) (h : ∀ z ∈ zs, 0 ≤ z ∧ z ≤ 22 ∧ z ≠ 8 ∧ z ≠ 2) : ∀ z ∈ termL zs, 0 ≤ z ∧ z ≤ 22 ∧ z ≠ 8 ∧ z ≠ 2 := fun z hz => by
  rcases termL_mem hz with h1 | h1
  · exact h z h1
  · omega
theorem rule6_ok (zs : List Int) (s : Int) (h : ∀ z ∈ zs, 0 ≤ z ∧ z ≤ 22 ∧ z ≠ 8 ∧ z ≠ 2) : ∀ z ∈ (scan fOthers s zs).1, Clean z :=
  scan_all (Q := fun _ => True) (R := fun z => 0 ≤ z ∧ z ≤ 22 ∧ z ≠ 8 ∧ z ≠ 2) (fun s z _ hz => by
    simp only [fOthers, Clean]
    repeat' split
    all_goals simp only [and_true]; omega) zs s trivial h
theorem rule7_ok (zs : List Int) (s : Int) (h : ∀ z ∈ zs, Clean z) : ∀ z ∈ (scan fDigits s zs).1, Clean z :=
  scan_all (Q := fun _ => True) (R := Clean) (fun s z _ hz => by
    simp only [fDigits, Clean] at *
    repeat' split
    all_goals simp only [and_true]; omega) zs s trivial h
theorem resolveL_clean (zs : List Int) (s : Int) : ∀ z ∈ resolveL zs s, Clean z := by
  have e : resolveL zs s = (scan fDigits (sosL s) (scan fOthers (sosL s) (termL (sepL (scan fLetters (sosL s) (scan fArabic (sosL s) (scan fMarks (sosL s) (zs.map clsL)).1).1).1))).1).1 := rfl
  rw [e]
  exact rule7_ok _ _ (rule6_ok _ _ (rule5_ok _ (rule4_ok _ (rule3_ok _ _ (rule2_ok _ _ (rule1_ok _ _ (sosL_01 s) (fun z hz => by
    obtain ⟨y, _, rfl⟩ := List.mem_map.1 hz
    exact clsL_range y)))))))
theorem sepL_id (zs : List Int) (h : ∀ z ∈ zs, Clean z) : sepL zs = zs := by
  refine ext_getD (by simp) fun j hj => ?_
  rw [sepL_getD zs j hj]
  have := h (zs.getD j 0) (by simp [hj])
  unfold sepAt Clean at *
  rw [if_neg (by omega)]
theorem termL_id (zs : List Int) (h : ∀ z ∈ zs, Clean z) : termL zs = zs := by
  refine ext_getD (by simp) fun j hj => ?_
  rw [termL_getD zs j hj]
  have := h (zs.getD j 0) (by simp [hj])
  unfold Clean at this
  exact termAt_other (by omega)
theorem map_cls_id (zs : List Int) (h : ∀ z ∈ zs, Clean z) : zs.map clsL = zs := by
  conv => rhs; rw [← List.map_id zs]
  exact List.map_congr_left fun z hz => by
    have := h z hz
    unfold Clean at this
    exact clsL_id (by omega)
/-- once is enough -/
theorem resolveL_twice (zs : List Int) (s : Int) : resolveL (resolveL zs s) s = resolveL zs s := by
  have hc := resolveL_clean zs s
  have e7 : scan fDigits (sosL s) (resolveL zs s) = scan fDigits (sosL s) (scan fOthers (sosL s) (termL (sepL (scan fLetters (sosL s) (scan fArabic (sosL s) (scan fMarks (sosL s) (zs.map clsL)).1).1).1))).1 :=
    scan_twice (fun s z => by
      unfold fDigits
      by_cases h1 : z = 0 ∨ z = 1
      · simp only [if_pos h1]
      · simp only [if_neg h1]
        by_cases h2 : z = 3 ∧ s = 0
        · obtain ⟨rfl, rfl⟩ := h2; simp
        · simp only [if_neg h2, if_neg h1]) _ _
  generalize hr : resolveL zs s = r at *
  have e : resolveL r s = (scan fDigits (sosL s) (scan fOthers (sosL s) (termL (sepL (scan fLetters (sosL s) (scan fArabic (sosL s) (scan fMarks (sosL s) (r.map clsL)).1).1).1))).1).1 := rfl
  rw [e, map_cls_id r hc]
  rw [scan_id (f := fMarks) (R := Clean) (Q := fun _ => True) (fun s z _ hz => by unfold Clean at hz; simp only [fMarks]; rw [if_neg (by omega)]; simp) r _ trivial hc]
  rw [scan_id (f := fArabic) (R := Clean) (Q := fun s => s ≠ 2) (fun s z hs hz => by
    unfold Clean at hz
    unfold fArabic
    by_cases h1 : z = 0 ∨ z = 1 ∨ z = 2
    · rw [if_pos h1]; exact ⟨rfl, by simp only; omega⟩
    · rw [if_neg h1, if_neg (by omega)]; exact ⟨rfl, hs⟩) r _ (by have := sosL_01 s; omega) hc]
  rw [scan_id (f := fLetters) (R := Clean) (Q := fun _ => True) (fun s z _ hz => by unfold Clean at hz; simp only [fLetters]; rw [if_neg (by omega)]; simp) r _ trivial hc]
  rw [sepL_id r hc, termL_id r hc]
  rw [scan_id (f := fOthers) (R := Clean) (Q := fun _ => True) (fun s z _ hz => by unfold Clean at hz; simp only [fOthers]; rw [if_neg (by omega)]; simp) r _ trivial hc]
  rw [e7, ← hr]
  rfl
/-- what no rule changes -/
def staysB (k : Int) : Bool := k == 0 || k == 1 || (decide (9 ≤ k) && decide (k ≤ 22))
theorem staysB_iff (k : Int) : staysB k = true ↔ k = 0 ∨ k = 1 ∨ (9 ≤ k ∧ k ≤ 22) := by simp [staysB, or_assoc]
theorem ruleL_stays (n : Int) (zs : List Int) (s : Int) (i : Nat) (hi : i < zs.length) (h : staysB (zs.getD i 0) = true) : (ruleL n zs s).getD i 0 = zs.getD i 0 := by
  rw [staysB_iff] at h
  unfold ruleL
  split
  · rw [scan_getD _ _ _ _ hi]; simp only [fMarks]; rw [if_neg (by omega)]
  split
  · rw [scan_getD _ _ _ _ hi]; simp only [fArabic]
    split
    · rfl
    · rw [if_neg (by omega)]
  split
  · rw [scan_getD _ _ _ _ hi]; simp only [fLetters]; rw [if_neg (by omega)]
  split
  · rw [sepL_getD _ _ hi]; unfold sepAt; rw [if_neg (by omega)]
  split
  · rw [termL_getD _ _ hi]; exact termAt_other (by omega)
  split
  · rw [scan_getD _ _ _ _ hi]; simp only [fOthers]; rw [if_neg (by omega)]
  split
  · rw [scan_getD _ _ _ _ hi]; simp only [fDigits]
    split
    · rfl
    · rw [if_neg (by omega)]
  rfl
theorem map_cls_getD (zs : List Int) (i : Nat) (hi : i < zs.length) : (zs.map clsL).getD i 0 = clsL (zs.getD i 0) := by simp [hi]
theorem stepL_stays (n : Int) (zs : List Int) (s : Int) (i : Nat) (hi : i < zs.length) (h : staysB (clsL (zs.getD i 0)) = true) : (stepL n zs s).getD i 0 = clsL (zs.getD i 0) := by
  unfold stepL
  rw [ruleL_stays _ _ _ _ (by simpa using hi) (by rw [map_cls_getD _ _ hi]; exact h), map_cls_getD _ _ hi]
theorem resolveL_stays (zs : List Int) (s : Int) (i : Nat) (hi : i < zs.length) (h : staysB (clsL (zs.getD i 0)) = true) : (resolveL zs s).getD i 0 = clsL (zs.getD i 0) := by
  unfold resolveL
  have h0 : staysB ((zs.map clsL).getD i 0) = true := by rw [map_cls_getD _ _ hi]; exact h
  have e0 := map_cls_getD zs i hi
  have l0 : i < (zs.map clsL).length := by simpa using hi
  generalize zs.map clsL = y at *
  rw [← e0]
  have g : ∀ (n : Int) (y y' : List Int), i < y.length → y.length = y'.length → y'.getD i 0 = y.getD i 0 → staysB (y.getD i 0) = true → (ruleL n y' (sosL s)).getD i 0 = y.getD i 0 := fun n y y' h1 h2 h3 h4 => by
    rw [ruleL_stays n y' _ i (by omega) (by rw [h3]; exact h4), h3]
  refine g _ _ _ l0 (by simp [ruleL_length]) ?_ h0
  refine g _ _ _ l0 (by simp [ruleL_length]) ?_ h0
  refine g _ _ _ l0 (by simp [ruleL_length]) ?_ h0
  refine g _ _ _ l0 (by simp [ruleL_length]) ?_ h0
  refine g _ _ _ l0 (by simp [ruleL_length]) ?_ h0
  refine g _ _ _ l0 (by simp [ruleL_length]) ?_ h0
  exact g _ _ _ l0 rfl rfl h0
end Go.Proofs.Ytlomcnmijfiihaa
