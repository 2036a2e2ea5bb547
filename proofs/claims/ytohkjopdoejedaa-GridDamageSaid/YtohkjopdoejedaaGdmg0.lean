/- layer 24 in plain lists: what the damage says. -/
import Derived.Test.YtohkjopdoejedaaGagain0
namespace Go.Proofs.Ytohkjopdoejedaa
theorem dmK_spec (cs : List Bool) (W : Nat) : ∀ x, x ≤ W → (∀ i, i < x → cs.getD i false = true → (dmK cs W x).1 ≤ i ∧ i < (dmK cs W x).2) ∧ (0 < (dmK cs W x).2 → (dmK cs W x).1 < (dmK cs W x).2 ∧ (dmK cs W x).2 ≤ x ∧ cs.getD (dmK cs W x).1 false = true ∧ cs.getD ((dmK cs W x).2 - 1) false = true) ∧ ((dmK cs W x).2 = 0 → (dmK cs W x).1 = W)
  | 0, _ => ⟨fun i h => absurd h (by omega), fun h => absurd h (by simp [dmK]), fun _ => rfl⟩
  | x + 1, hx => by
    obtain ⟨h1, h2, h3⟩ := dmK_spec cs W x (by omega)
    unfold dmK
    by_cases hc : cs.getD x false = true
    · rw [if_pos hc]
      simp only
      refine ⟨fun i hi hb => ?_, fun _ => ?_, fun h => absurd h (by omega)⟩
      · by_cases e : i = x
        · subst e; omega
        · have := h1 i (by omega) hb
          omega
      · refine ⟨by omega, by omega, ?_, by rw [Nat.add_sub_cancel]; exact hc⟩
        by_cases hz : 0 < (dmK cs W x).2
        · have h4 := h2 hz
          rw [show min (dmK cs W x).1 x = (dmK cs W x).1 by omega]
          exact h4.2.2.1
        · have h4 := h3 (by omega)
          rw [h4, show min W x = x by omega]
          exact hc
    · rw [if_neg hc]
      refine ⟨fun i hi hb => ?_, fun h => ?_, h3⟩
      · by_cases e : i = x
        · subst e; exact absurd hb hc
        · exact h1 i (by omega) hb
      · have h4 := h2 h
        exact ⟨h4.1, by omega, h4.2.2⟩
theorem dmg_mem (S : Sc) : ∀ k, ∀ q ∈ S.dmg k, q.2.1 < k ∧ 0 < (S.dmRow q.2.1).2 ∧ q.1 = (S.dmRow q.2.1).1 ∧ q.2.2 = (S.dmRow q.2.1).2 - (S.dmRow q.2.1).1
  | 0, q, h => by simp [Sc.dmg] at h
  | k + 1, q, h => by
    unfold Sc.dmg at h
    rcases List.mem_append.1 h with h | h
    · have := dmg_mem S k q h
      exact ⟨by omega, this.2⟩
    · split at h
      · rename_i h0
        rw [List.mem_singleton] at h
        subst h
        exact ⟨by simp, h0, rfl, rfl⟩
      · cases h
theorem dmg_ord (S : Sc) : ∀ k, (S.dmg k).Pairwise (fun p q => p.2.1 < q.2.1)
  | 0 => List.Pairwise.nil
  | k + 1 => by
    unfold Sc.dmg
    rw [List.pairwise_append]
    refine ⟨dmg_ord S k, ?_, fun a ha b hb => ?_⟩
    · split
      · exact List.pairwise_singleton _ _
      · exact List.Pairwise.nil
    · have h1 := (dmg_mem S k a ha).1
      split at hb
      · rw [List.mem_singleton] at hb
        subst hb
        exact h1
      · cases hb
theorem dmg_all (S : Sc) : ∀ k y, y < k → 0 < (S.dmRow y).2 → ((S.dmRow y).1, y, (S.dmRow y).2 - (S.dmRow y).1) ∈ S.dmg k
  | 0, y, h, _ => absurd h (by omega)
  | k + 1, y, h, h0 => by
    unfold Sc.dmg
    by_cases e : y = k
    · subst e
      rw [if_pos h0]
      simp
    · exact List.mem_append.2 (.inl (dmg_all S k y (by omega) h0))
structure Dm (W H : Nat) (l : List (Nat × Nat × Nat)) (F G : List Ce) : Prop where
  wd : ∀ q ∈ l, 0 < q.2.2 ∧ q.1 + q.2.2 ≤ W ∧ q.2.1 < H
  ord : l.Pairwise (fun p q => p.2.1 < q.2.1)
  first : ∀ q ∈ l, looksB (F.getD (q.2.1 * W + q.1) Ce.zero) (G.getD (q.2.1 * W + q.1) Ce.zero) = false
  last : ∀ q ∈ l, looksB (F.getD (q.2.1 * W + q.1 + q.2.2 - 1) Ce.zero) (G.getD (q.2.1 * W + q.1 + q.2.2 - 1) Ce.zero) = false
  all : ∀ i, i < H * W → looksB (F.getD i Ce.zero) (G.getD i Ce.zero) = false → ∃ q ∈ l, q.2.1 * W + q.1 ≤ i ∧ i < q.2.1 * W + q.1 + q.2.2
theorem flat_getD (W : Nat) (rows : List (List Ce)) (h : ∀ r ∈ rows, r.length = W) (i k : Nat) (hk : k < W) : rows.flatten.getD (i * W + k) Ce.zero = (rows.getD i []).getD k Ce.zero := by
  rw [getD_eq rows.flatten, getD_eq (rows.getD i []), flatAt W rows h i k hk]
theorem chg_at (q r : List Ce) (x : Nat) (hx : x < r.length) : (chgRow (some q) r).getD x false = !looksB (q.getD x Ce.zero) (r.getD x Ce.zero) := by
  have e : (chgRow (some q) r)[x]? = some (!looksB (q.getD x Ce.zero) r[x]) := by
    simp only [chgRow, List.getElem?_mapIdx, List.getElem?_eq_getElem hx, Option.map_some]
  rw [List.getD_eq_getElem?_getD, e, Option.getD_some, getD_eq r, List.getElem?_eq_getElem hx, Option.getD_some]
/-- the damage of a screen, old cells beside new ones -/
theorem dm_of {T : Sc} (hT : Good T) (old : List (List Ce)) (ho : T.old = some old) (hw : ∀ r ∈ old, r.length = T.W) : Dm T.W T.H (T.dmg T.H) old.flatten T.rows.flatten := by
  have hrw : ∀ r ∈ T.rows, r.length = T.W := fun r hr => (hT.row r hr).1
  have hrl : ∀ y, y < T.H → (T.rows.getD y []).length = T.W := fun y hy => (hT.at_ y hy).1
  have hdr : ∀ y, T.dmRow y = dmK (chgRow (some (old.getD y [])) (T.rows.getD y [])) T.W T.W := fun y => by unfold Sc.dmRow Sc.oldRow; rw [ho]; rfl
  have hin : ∀ q ∈ T.dmg T.H, 0 < q.2.2 ∧ q.1 + q.2.2 ≤ T.W ∧ q.2.1 < T.H ∧ (chgRow (some (old.getD q.2.1 [])) (T.rows.getD q.2.1 [])).getD q.1 false = true ∧ (chgRow (some (old.getD q.2.1 [])) (T.rows.getD q.2.1 [])).getD (q.1 + q.2.2 - 1) false = true := by
    intro q hq
    obtain ⟨h1, h2, h3, h4⟩ := dmg_mem T T.H q hq
    rw [hdr] at h2 h3 h4
    obtain ⟨_, k2, _⟩ := dmK_spec (chgRow (some (old.getD q.2.1 [])) (T.rows.getD q.2.1 [])) T.W T.W (Nat.le_refl _)
    obtain ⟨k3, k4, k5, k6⟩ := k2 h2
    refine ⟨by omega, by omega, h1, by rw [h3]; exact k5, ?_⟩
    have e : q.1 + q.2.2 - 1 = (dmK (chgRow (some (old.getD q.2.1 [])) (T.rows.getD q.2.1 [])) T.W T.W).2 - 1 := by omega
    rw [e]
    exact k6
  refine ⟨fun q hq => ⟨(hin q hq).1, (hin q hq).2.1, (hin q hq).2.2.1⟩, dmg_ord T _, fun q hq => ?_, fun q hq => ?_, fun i hi hb => ?_⟩
  · obtain ⟨h1, h2, h3, h4, _⟩ := hin q hq
    rw [flat_getD T.W old hw q.2.1 q.1 (by omega), flat_getD T.W T.rows hrw q.2.1 q.1 (by omega)]
    rw [chg_at _ _ _ (by rw [hrl _ h3]; omega)] at h4
    simpa using h4
  · obtain ⟨h1, h2, h3, _, h5⟩ := hin q hq
    rw [show q.2.1 * T.W + q.1 + q.2.2 - 1 = q.2.1 * T.W + (q.1 + q.2.2 - 1) by omega, flat_getD T.W old hw q.2.1 _ (by omega), flat_getD T.W T.rows hrw q.2.1 _ (by omega)]
    rw [chg_at _ _ _ (by rw [hrl _ h3]; omega)] at h5
    simpa using h5
  · have hW0 : 0 < T.W := by
      rcases Nat.eq_zero_or_pos T.W with h | h
      · rw [h, Nat.mul_zero] at hi; omega
      · exact h
    have hx : i % T.W < T.W := Nat.mod_lt _ hW0
    have hy : i / T.W < T.H := Nat.div_lt_of_lt_mul (by rw [Nat.mul_comm]; exact hi)
    have e : i = i / T.W * T.W + i % T.W := by rw [Nat.mul_comm]; exact (Nat.div_add_mod i T.W).symm
    obtain ⟨y, hye⟩ : ∃ y, y = i / T.W := ⟨_, rfl⟩
    obtain ⟨x, hxe⟩ : ∃ x, x = i % T.W := ⟨_, rfl⟩
    rw [← hye, ← hxe] at e
    rw [← hxe] at hx
    rw [← hye] at hy
    rw [e, flat_getD T.W old hw y x hx, flat_getD T.W T.rows hrw y x hx] at hb
    obtain ⟨k1, k2, _⟩ := dmK_spec (chgRow (some (old.getD y [])) (T.rows.getD y [])) T.W T.W (Nat.le_refl _)
    have hc : (chgRow (some (old.getD y [])) (T.rows.getD y [])).getD x false = true := by
      rw [chg_at _ _ _ (by rw [hrl _ hy]; exact hx), hb]; rfl
    have h3 := k1 x hx hc
    rw [← hdr y] at h3 k2
    have h4 := k2 (by omega)
    exact ⟨_, dmg_all T T.H y hy (by omega), by show y * T.W + (T.dmRow y).1 ≤ i; omega, by show i < y * T.W + (T.dmRow y).1 + ((T.dmRow y).2 - (T.dmRow y).1); omega⟩
theorem Well.nonneg {r : List Ce} (h : Well r) : ∀ i, 0 ≤ pt r i
  | 0 => by
    rcases h 0 with h0 | ⟨h0, _⟩
    · omega
    · omega
  | i + 1 => by
    have ih := h.nonneg i
    rcases h (i + 1) with h0 | ⟨_, h0⟩
    · omega
    · rw [h0, Nat.add_sub_cancel]; omega
theorem flat_shape (W : Nat) (rows : List (List Ce)) (h : ∀ r ∈ rows, r.length = W ∧ Well r) (i : Nat) (hi : i < rows.length * W) : 0 ≤ pt rows.flatten i ∧ (0 < pt rows.flatten i → i % W ≠ 0 ∧ 0 < i ∧ pt rows.flatten (i - 1) = pt rows.flatten i - 1) := by
  have hw : ∀ r ∈ rows, r.length = W := fun r hr => (h r hr).1
  have hW0 : 0 < W := by
    rcases Nat.eq_zero_or_pos W with h | h
    · rw [h, Nat.mul_zero] at hi; omega
    · exact h
  have hx : i % W < W := Nat.mod_lt _ hW0
  have hy : i / W < rows.length := Nat.div_lt_of_lt_mul (by rw [Nat.mul_comm]; exact hi)
  have e : i = i / W * W + i % W := by rw [Nat.mul_comm]; exact (Nat.div_add_mod i W).symm
  obtain ⟨y, hye⟩ : ∃ y, y = i / W := ⟨_, rfl⟩
  obtain ⟨x, hxe⟩ : ∃ x, x = i % W := ⟨_, rfl⟩
  rw [← hye, ← hxe] at e
  rw [← hxe] at hx ⊢
  rw [← hye] at hy
  have hwl : Well (rows.getD y []) := by
    rw [List.getD_eq_getElem?_getD, List.getElem?_eq_getElem hy]
    exact (h _ (List.getElem_mem hy)).2
  have e1 : pt rows.flatten i = pt (rows.getD y []) x := by unfold pt; rw [e, flat_getD W rows hw y x hx]
  rw [e1]
  refine ⟨hwl.nonneg x, fun h0 => ?_⟩
  rcases hwl x with h1 | ⟨h1, h2⟩
  · omega
  · refine ⟨by omega, by omega, ?_⟩
    have e2 : i - 1 = y * W + (x - 1) := by omega
    have e3 : pt rows.flatten (i - 1) = pt (rows.getD y []) (x - 1) := by unfold pt; rw [e2, flat_getD W rows hw y _ (by omega)]
    rw [e3]; omega
end Go.Proofs.Ytohkjopdoejedaa
