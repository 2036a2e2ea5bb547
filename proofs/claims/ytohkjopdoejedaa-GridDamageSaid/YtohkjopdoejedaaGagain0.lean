/- layer 24 in plain lists: what changes nothing; light scripts. -/
import Derived.Test.YtohkjopdoejedaaGlent
namespace Go.Proofs.Ytohkjopdoejedaa
open Go.RowKit
theorem blankR_self (r : List Ce) (a : Nat) : blankR r a a = r := by
  apply List.ext_getElem?
  intro j
  by_cases h : a ≤ r.length
  · rw [blankR_at r a a (Nat.le_refl _) h, if_neg (by omega)]
  · unfold blankR
    rw [List.take_of_length_le (by omega), List.drop_of_length_le (show r.length ≤ a by omega)]
    simp
theorem loseF_whole (n : Nat) : ∀ (f i : Nat) (r : List Ce), r.length = n → loseF 0 n f i r = r
  | 0, _, _, _ => rfl
  | f + 1, i, r, h => by
    by_cases hi : i < r.length
    · have hb := chainE_bd r i hi
      rw [loseF_succ 0 n f i r hi, if_neg (by omega)]
      exact loseF_whole n f _ r h
    · rw [loseF_end 0 n _ i r (by omega)]
theorem blit_nil (a : Nat) (r : List Ce) (h : a ≤ r.length) : blit a [] r = r := by
  apply List.ext_getElem?
  intro j
  rw [blit_at a [] r h j]
  split
  · rfl
  · rw [if_neg (by simp; omega)]
theorem blit_self (r : List Ce) (a b : Nat) (hab : a ≤ b) (hb : b ≤ r.length) : blit a ((r.take b).drop a) r = r := by
  apply List.ext_getElem?
  intro j
  rw [blit_at a _ r (by omega) j, cut_length r a b hb]
  split
  · rfl
  · split
    · rw [List.getElem?_drop, List.getElem?_take, if_pos (by omega)]
      congr 1
      omega
    · rfl
theorem putF_self (r : List Ce) (hr : Well r) : ∀ (f i : Nat), pt r i = 0 → putF r 0 r.length 0 f i r = r
  | 0, _, _ => rfl
  | f + 1, i, h0 => by
    by_cases hi : i < r.length
    · have hb := chainE_bd r i hi
      obtain ⟨_, _, hc⟩ := chain_parts r i hi h0
      rw [putF_succ r 0 r.length 0 f i r hi]
      have e1 : max i 0 = i := by omega
      have e2 : min (chainE r i) (0 + r.length) = chainE r i := by omega
      rw [e1, e2, hc, if_pos hb.1]
      simp only [Nat.lt_irrefl, decide_false, Bool.or_self, Bool.false_eq_true, if_false]
      rw [show 0 + i - 0 = i by omega, blit_self r i _ (by omega) hb.2]
      exact putF_self r hr f _ (hr.next i hi h0)
    · rw [putF_end r 0 r.length 0 _ i r (by omega)]
theorem putRow_self (r : List Ce) (hr : Well r) (h : 0 < r.length) : putRow 0 r.length 0 r r = r := by
  unfold putRow
  have : loseL (0 : Nat) ((0 + r.length : Nat) : Int) r = r := by
    unfold loseL
    rw [Nat.zero_add]
    exact loseF_whole r.length _ _ r rfl
  rw [this]
  exact putF_self r hr _ 0 (hr.start h)
/-- a row laid over itself -/
theorem Good.put_self {S : Sc} (h : Good S) (y : Nat) (hy : y < S.H) : S.put 0 y (S.rows.getD y []) = S := by
  have hl := h.at_ y hy
  unfold Sc.put
  split
  · rfl
  · rename_i ho
    rw [modify_set _ _ _ (by rw [h.len]; omega)]
    obtain ⟨r, hr⟩ : ∃ r, r = S.rows.getD y [] := ⟨_, rfl⟩
    have e0 : (y : Int).toNat = y := by omega
    have hl' : r.length = S.W ∧ Well r := by rw [hr]; exact hl
    rw [← hr] at ho
    rw [e0, ← hr]
    have e1 : (max 0 (-(0 : Int))).toNat = 0 := by omega
    have e2 : (min ((r.length : Int) - max 0 (-(0 : Int))) ((S.W : Int) - max 0 0)).toNat = r.length := by have := hl'.1; omega
    have e3 : (max (0 : Int) 0).toNat = 0 := by omega
    rw [e1, e2, e3, putRow_self r hl'.2 (by have := hl'.1; omega)]
    have : S.rows.set y r = S.rows := by
      apply List.ext_getElem?
      intro j
      rw [List.getElem?_set]
      split
      · rename_i e
        subst e
        split
        · rename_i hlt
          rw [hr, List.getD_eq_getElem?_getD, List.getElem?_eq_getElem hlt]; rfl
        · rename_i hlt
          rw [List.getElem?_eq_none (by omega)]
      · rfl
    rw [this]
theorem Sc.put_off {S : Sc} (x y : Int) (l : List Ce) (h : y < 0 ∨ S.H ≤ y ∨ S.W ≤ x) : S.put x y l = S := S.put_out x y l (by omega)
theorem clearRow_none (a : Nat) (r : List Ce) (h : a ≤ r.length) : clearRow a a r = r := by
  unfold clearRow
  rw [show loseL a a r = r from loseF_none a a (Int.le_refl _) _ _ r, Nat.sub_self]
  exact blit_nil a r h
theorem mapR_id (f : List Ce → List Ce) (c d : Nat) (rows : List (List Ce)) (h : ∀ r ∈ rows, f r = r) : mapR f c d rows = rows := by
  apply List.ext_getElem?
  intro i
  rw [mapR_at]
  cases hq : rows[i]? with
  | none => rfl
  | some q =>
    simp only [Option.map_some]
    rw [h q (List.mem_of_getElem? hq)]
    split <;> rfl
theorem Good.clear_none {S : Sc} (h : Good S) (x y wd hg : Int) (hn : wd ≤ 0 ∨ (S.W ≤ x ∧ 0 ≤ x)) : S.clear x y wd hg = S := by
  obtain ⟨a, b, _, _, hab, hbw, ha', hb'⟩ := span_nat x wd S.W
  have e : a = b := by
    rw [← ha', ← hb']
    unfold spanL
    simp only
    repeat' split
    all_goals first | omega | (simp only; omega) | simp only
  unfold Sc.clear
  rw [ha', hb', e, mapR_id _ _ _ _ fun r hr => clearRow_none b r (by rw [(h.row r hr).1]; exact hbw)]
theorem Sc.scroll_zero (S : Sc) (x y wd hg : Int) : S.scroll x y wd hg 0 = S := by unfold Sc.scroll; rw [if_pos rfl]
theorem looksB_self (c : Ce) : looksB c c = true := by simp [looksB]
theorem dmK_none (cs : List Bool) (W : Nat) (h : ∀ c ∈ cs, c = false) : ∀ x, dmK cs W x = (W, 0)
  | 0 => rfl
  | x + 1 => by
    unfold dmK
    have : cs.getD x false = false := by
      rw [List.getD_eq_getElem?_getD]
      cases hq : cs[x]? with
      | none => rfl
      | some c => exact h c (List.mem_of_getElem? hq)
    rw [this, dmK_none cs W h x]
    rfl
theorem chgRow_self (r : List Ce) : ∀ c ∈ chgRow (some r) r, c = false := by
  intro c hc
  obtain ⟨i, hi, e⟩ := List.mem_iff_getElem.1 hc
  simp only [chgRow, List.length_mapIdx] at hi
  simp only [chgRow, List.getElem_mapIdx] at e
  rw [← e, List.getD_eq_getElem?_getD, List.getElem?_eq_getElem hi]
  simp [looksB_self]
/-- behind Done there is no damage -/
theorem dmg_same (S : Sc) (h : S.old = some S.rows) : ∀ k, S.dmg k = []
  | 0 => rfl
  | k + 1 => by
    have h1 : S.dmRow k = (S.W, 0) := by
      unfold Sc.dmRow Sc.oldRow
      rw [h]
      exact dmK_none _ _ (chgRow_self _) _
    unfold Sc.dmg
    rw [dmg_same S h k, h1]
    rfl
theorem hv_step (w h n : Int) (l : Nat) : n + 1 + l ≤ if inB w h = true then n + 1 + l + w * h else n + 1 + l := by
  split
  · rename_i hb
    unfold inB at hb
    simp only [Bool.and_eq_true, decide_eq_true_eq] at hb
    have := Int.mul_nonneg hb.1.1.1 hb.1.1.2
    omega
  · exact Int.le_refl _
theorem hv_ge : ∀ (ss : List St) (w h n : Int), n ≤ hvF w h n ss
  | [], _, _, n => Int.le_refl n
  | s :: t, w, h, n => by
    show n ≤ if n ≤ 8388608 then hvF _ _ (if inB (if (decide (s.d = 6) && inB s.x s.y) = true then s.x else w) (if (decide (s.d = 6) && inB s.x s.y) = true then s.y else h) = true then n + 1 + s.L.length + (if (decide (s.d = 6) && inB s.x s.y) = true then s.x else w) * (if (decide (s.d = 6) && inB s.x s.y) = true then s.y else h) else n + 1 + s.L.length) t else n
    by_cases hn : n ≤ 8388608
    · rw [if_pos hn]
      refine Int.le_trans ?_ (hv_ge t _ _ _)
      have := hv_step (if (decide (s.d = 6) && inB s.x s.y) = true then s.x else w) (if (decide (s.d = 6) && inB s.x s.y) = true then s.y else h) n s.L.length
      omega
    · rw [if_neg hn]
      exact Int.le_refl n
theorem hv_light : ∀ (ss : List St) (w h n : Int), hvF w h n ss ≤ 8388608 → n + ss.length ≤ 8388608 ∧ ∀ s ∈ ss, n + s.L.length ≤ 8388608
  | [], _, _, n, hh => ⟨by simpa [hvF] using hh, fun s hs => by cases hs⟩
  | s :: t, w, h, n, hh => by
    have hn : n ≤ 8388608 := Int.le_trans (hv_ge (s :: t) w h n) hh
    have e : hvF w h n (s :: t) = if n ≤ 8388608 then
      hvF (if (decide (s.d = 6) && inB s.x s.y) = true then s.x else w) (if (decide (s.d = 6) && inB s.x s.y) = true then s.y else h) (if inB (if (decide (s.d = 6) && inB s.x s.y) = true then s.x else w) (if (decide (s.d = 6) && inB s.x s.y) = true then s.y else h) = true then n + 1 + s.L.length + (if (decide (s.d = 6) && inB s.x s.y) = true then s.x else w) * (if (decide (s.d = 6) && inB s.x s.y) = true then s.y else h) else n + 1 + s.L.length) t else n := rfl
    rw [e, if_pos hn] at hh
    generalize (if (decide (s.d = 6) && inB s.x s.y) = true then s.x else w) = w' at hh
    generalize (if (decide (s.d = 6) && inB s.x s.y) = true then s.y else h) = h' at hh
    obtain ⟨m, hm⟩ : ∃ m, m = (if inB w' h' = true then n + 1 + s.L.length + w' * h' else n + 1 + s.L.length) := ⟨_, rfl⟩
    rw [← hm] at hh
    have hmn : n + 1 + s.L.length ≤ m := by rw [hm]; exact hv_step w' h' n s.L.length
    obtain ⟨h1, h2⟩ := hv_light t w' h' m hh
    refine ⟨by simp only [List.length_cons]; omega, fun q hq => ?_⟩
    rcases List.mem_cons.1 hq with rfl | hq
    · omega
    · have := h2 q hq
      omega
theorem hv_run {wd hg : Int} {ss : List St} (h : hvB wd hg ss = false) : ss.length ≤ 8388608 ∧ ∀ s ∈ ss, s.L.length ≤ 8388608 := by
  have h0 : hvF wd hg 0 ss ≤ 8388608 := by
    unfold hvB at h
    have := of_decide_eq_false h
    omega
  obtain ⟨h1, h2⟩ := hv_light ss wd hg 0 h0
  refine ⟨by omega, fun s hs => ?_⟩
  have := h2 s hs
  omega
/-- the screen behind k calls of a script -/
def Sc.runs (S : Sc) (ss : List St) : Sc := ss.foldl Sc.run S
theorem Good.run {S : Sc} (h : Good S) (s : St) : Good (S.run s) := by
  unfold Sc.run
  repeat' split
  · exact h.put _ _ _
  · exact h.clear _ _ _ _
  · exact h.scroll _ _ _ _ _
  · exact h.caret _ _
  · exact h
theorem Good.runs {S : Sc} (h : Good S) (ss : List St) : Good (S.runs ss) := by
  induction ss generalizing S with
  | nil => exact h
  | cons s t ih => exact ih (h.run s)
theorem Sc.run_size (S : Sc) (s : St) : (S.run s).W = S.W ∧ (S.run s).H = S.H ∧ (S.run s).old = S.old := by
  unfold Sc.run
  split
  · unfold Sc.put; split <;> exact ⟨rfl, rfl, rfl⟩
  · split
    · exact ⟨rfl, rfl, rfl⟩
    · split
      · unfold Sc.scroll; split <;> exact ⟨rfl, rfl, rfl⟩
      · split <;> exact ⟨rfl, rfl, rfl⟩
theorem Sc.runs_size (S : Sc) (ss : List St) : (S.runs ss).W = S.W ∧ (S.runs ss).H = S.H ∧ (S.runs ss).old = S.old := by
  induction ss generalizing S with
  | nil => exact ⟨rfl, rfl, rfl⟩
  | cons s t ih =>
    have h1 := S.run_size s
    have h2 := ih (S.run s)
    exact ⟨h2.1.trans h1.1, h2.2.1.trans h1.2.1, h2.2.2.trans h1.2.2⟩
theorem Good.done {S : Sc} (h : Good S) (o : Option (List (List Ce))) : Good { S with old := o } := ⟨h.len, h.row, h.car⟩
def aC : Ce := ⟨⟨#[97]⟩, 0, 0, 0, false, 0⟩
theorem flatAt (W : Nat) : ∀ (rows : List (List Ce)), (∀ r ∈ rows, r.length = W) → ∀ i k, k < W → rows.flatten[i * W + k]? = (rows.getD i [])[k]?
  | [], _, i, k, _ => by simp
  | r :: t, h, 0, k, hk => by
    have hr := h r (by simp)
    rw [List.flatten_cons, List.getElem?_append_left (by omega)]
    simp
  | r :: t, h, i + 1, k, hk => by
    have hr := h r (by simp)
    have ht := flatAt W t (fun q hq => h q (by simp [hq])) i k hk
    rw [List.flatten_cons, Nat.succ_mul, List.getElem?_append_right (by omega), hr, show i * W + W + k - W = i * W + k by omega, ht]
    simp
theorem flatLen (W : Nat) : ∀ (rows : List (List Ce)), (∀ r ∈ rows, r.length = W) → rows.flatten.length = rows.length * W
  | [], _ => by simp
  | r :: t, h => by
    rw [List.flatten_cons, List.length_append, flatLen W t (fun q hq => h q (by simp [hq])), h r (by simp), List.length_cons, Nat.succ_mul]
    omega
/-- a row of the Grid's cells, where they lie -/
theorem flat_cat {w : World} {B g n c : Nat} {rows : List (List Ce)} {t : TypeId} {W : Nat} (h : w.ownsRow B t 6 (.slice (some ⟨g, 0, none⟩) n c) n (rowCells rows.flatten)) (hr : ∀ r ∈ rows, r.length = W) (hn : n = rows.length * W) (i : Nat) (hi : i < rows.length) : CAt w g (i * W * 6) (rows.getD i []) := by
  intro k hk j v hj
  have hj6 : j < 6 := by have := (List.getElem?_eq_some_iff.1 hj).1; exact this
  have e0 : rows.getD i [] = rows[i] := by rw [List.getD_eq_getElem?_getD, List.getElem?_eq_getElem hi]; rfl
  have hl : (rows.getD i []).length = W := by rw [e0]; exact hr _ (List.getElem_mem hi)
  have hle : (i + 1) * W ≤ rows.length * W := Nat.mul_le_mul_right _ hi
  have hs : (i + 1) * W = i * W + W := Nat.succ_mul _ _
  have hfl := flatLen W rows hr
  have hlt : i * W + k < rows.flatten.length := by omega
  have e1 : rows.flatten[i * W + k] = (rows.getD i [])[k] := by
    have := flatAt W rows hr i k (by omega)
    rw [List.getElem?_eq_getElem hlt, List.getElem?_eq_getElem hk] at this
    injection this
  rw [World.ownsRow.cellAt h (i * W * 6 + k * 6 + j) (by omega), ← Nat.add_mul, rowCells_at _ (i * W + k) hlt j hj6, e1, hj]
end Go.Proofs.Ytohkjopdoejedaa
