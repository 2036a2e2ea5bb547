/- LevelRuns: plain law: the runs as chains of stretches: the steps. -/
import Derived.Test.YtikgjnfimagpjaaLeq1
namespace Go.Proofs.Ytikgjnfimagpjaa
theorem asc_last (l : List Nat) (h : l.Pairwise (· < ·)) (j : Nat) (hj : j ∈ l.dropLast) (hl : l ≠ []) : j < lastN l := by
  have e := snoc_lastN l hl
  rw [e, List.pairwise_append] at h
  exact h.2.2 j hj _ (by simp)
theorem cat_set (S : List (List Int)) (b : Nat) (r : List Int) (hb : b < S.length) (ch : List Nat) (h : b ∉ ch) : cat (S.set b r) ch = cat S ch :=
  cat_congr _ _ _ fun j hj => by rw [gset _ _ _ _ hb, if_neg (fun e => h (by rw [← e]; exact hj))]
theorem cat_app (S : List (List Int)) (r : List Int) (ch : List Nat) (h : ∀ j ∈ ch, j < S.length) : cat (S ++ [r]) ch = cat S ch :=
  cat_congr _ _ _ fun j hj => by rw [gsnoc, if_neg (by have := h j hj; omega)]
/-- the current stretch goes on -/
theorem ChI.cont {zs lv pr : List Int} {n k : Nat} {S : List (List Int)} {bg : Bool} {s : RS} {C : List (List Nat)} (h : ChI zs lv pr k S bg s C) (hg : GoodR k s) (hp : PairOK zs pr n) (hk : k < n) (d : Int) (hd : d = clsL (zs.getD k 0)) (hl : 0 ≤ s.last) (hlv : lv.getD (headL (S.getD (S.length - 1) [])).toNat 0 = lv.getD k 0) :
    ChI zs lv pr (k + 1) (S.set (S.length - 1) (S.getD (S.length - 1) [] ++ [(k : Int)])) (!(d == 10)) (putR d pr k s) C := by
  obtain ⟨hS, hlast, -⟩ := h.last hl
  obtain ⟨hn0, hnC, hnl⟩ := h.now hS
  obtain ⟨q, hq⟩ : ∃ q, q = S.length - 1 := ⟨_, rfl⟩
  rw [← hq] at hlast hlv hnl ⊢
  have hqS : q < S.length := by omega
  obtain ⟨b, hb⟩ : ∃ b, b = s.now.toNat := ⟨_, rfl⟩
  rw [← hb] at hnC hnl
  obtain ⟨S', hS'⟩ : ∃ S', S' = S.set q (S.getD q [] ++ [(k : Int)]) := ⟨_, rfl⟩
  rw [← hS']
  have g : ∀ a, S'.getD a [] = if a = q then S.getD q [] ++ [(k : Int)] else S.getD a [] := fun a => by rw [hS', gset _ _ _ _ hqS]
  have lS : S'.length = S.length := by rw [hS']; simp
  have hsq := h.sne q hqS
  have mem' : ∀ a x, x ∈ S'.getD a [] → x ∈ S.getD a [] ∨ (a = q ∧ x = k) := fun a x hx => by
    rw [g] at hx
    split at hx
    · rename_i e
      subst e
      rcases List.mem_append.1 hx with hx | hx
      · exact .inl hx
      · simp at hx; exact .inr ⟨rfl, hx⟩
    · exact .inl hx
  have hhead : ∀ a, headL (S'.getD a []) = headL (S.getD a []) := fun a => by
    rw [g]
    split
    · rename_i e; rw [headL_snoc _ _ hsq, e]
    · rfl
  have hlastS : ∀ a, a ≠ q → lastL (S'.getD a []) = lastL (S.getD a []) := fun a ha => by rw [g, if_neg ha]
  have hlastq : lastL (S'.getD q []) = k := by rw [g, if_pos rfl, lastL_snoc]
  have hne' : ∀ a, a < S'.length → S'.getD a [] ≠ [] := fun a ha => by
    rw [g]
    split
    · simp
    · exact h.sne a (by omega)
  have edge_iff : ∀ a c, a ≠ q → (Edge zs pr S' a c ↔ Edge zs pr S a c) := fun a c ha => by unfold Edge; rw [hlastS a ha, hhead]
  have hbd' : ∀ a, ∀ x ∈ S'.getD a [], 0 ≤ x ∧ x < ((k + 1 : Nat) : Int) := fun a x hx => by
    rcases mem' a x hx with hx | ⟨-, rfl⟩
    · have := h.sbd a x hx; omega
    · omega
  have noq : ∀ c, c < S'.length → ¬ Edge zs pr S' q c := fun c hc => no_edge hp hk S' q c hlastq (by
    have := hbd' c _ (headL_mem _ (hne' c hc)); omega)
  have cdisb : ∀ c, c ≠ b → q ∉ C.getD c [] := fun c hc hm => hc (h.cdis c b q hm (by rw [← hnl]; exact lastN_mem _ (h.cne b hnC)))
  refine ⟨hne', hbd', fun a c x hx hy => ?_, ?_, h.cne, fun c j hj => by rw [lS]; exact h.cbd c j hj, fun j hj => h.cov j (by omega), h.cdis, h.asc, fun c i hi => ?_, fun c hc a ha => ?_, h.hasc, fun _ => ?_, ?_, fun hlp => ?_, fun t ht hlf ho h0 => ?_⟩
  · rcases mem' a x hx with hx' | ⟨rfl, rfl⟩
    · rcases mem' c x hy with hy' | ⟨rfl, rfl⟩
      · exact h.sdis a c x hx' hy'
      · have := h.sbd a _ hx'; omega
    · rcases mem' c _ hy with hy' | ⟨rfl, -⟩
      · have := h.sbd c _ hy'; omega
      · rfl
  · show s.rows.set s.now.toNat (s.rows.getD s.now.toNat [] ++ [(k : Int)]) = _
    rw [← hb, h.rows, gmap _ _ _ hnC]
    have hcat : cat S' (C.getD b []) = cat S (C.getD b []) ++ [(k : Int)] := by
      have e := snoc_lastN (C.getD b []) (h.cne b hnC)
      rw [hnl] at e
      rw [e, cat_snoc, cat_snoc, g, if_pos rfl, ← List.append_assoc]
      congr 2
      rw [hS']
      refine cat_set S q _ hqS _ fun hm => ?_
      have := asc_last _ (h.asc b) q hm (h.cne b hnC)
      rw [hnl] at this
      omega
    apply List.ext_getElem?
    intro c
    rw [List.getElem?_set, List.getElem?_map, List.length_map]
    by_cases hcb : b = c
    · subst hcb
      rw [if_pos rfl, if_pos hnC, List.getElem?_map, List.getElem?_eq_getElem hnC]
      rw [List.getD_eq_getElem?_getD, List.getElem?_eq_getElem hnC] at hcat
      simp only [Option.map_some, Option.getD_some] at hcat ⊢
      rw [hcat, List.getD_eq_getElem?_getD, List.getElem?_eq_getElem hnC]
      rfl
    · rw [if_neg hcb, List.getElem?_map]
      by_cases hcl : c < C.length
      · rw [List.getElem?_eq_getElem hcl]
        simp only [Option.map_some]
        congr 1
        rw [hS']
        refine (cat_set S q _ hqS _ fun hm => cdisb c (fun e => hcb e.symm) ?_).symm
        rw [List.getD_eq_getElem?_getD, List.getElem?_eq_getElem hcl]
        exact hm
      · rw [List.getElem?_eq_none (by omega)]
        rfl
  · refine (edge_iff _ _ ?_).2 (h.edge c i hi)
    have h1 := List.pairwise_iff_getElem.1 (h.asc c) i (i + 1) (by omega) hi (by omega)
    have h2 := h.cbd c _ (List.getElem_mem hi)
    rw [List.getD_eq_getElem?_getD, List.getElem?_eq_getElem (by omega)]
    simp only [Option.getD_some]
    omega
  · rw [lS] at ha
    by_cases e : a = q
    · subst e
      exact noq _ (by rw [lS]; exact h.cbd c _ (getD_mem_nat (List.length_pos_iff.2 (h.cne c hc))))
    · rw [edge_iff _ _ e]
      exact h.head c hc a ha
  · show 0 ≤ s.now ∧ s.now.toNat < C.length ∧ lastN (C.getD s.now.toNat []) = S'.length - 1
    rw [← hb, lS]
    exact ⟨hn0, hnC, by rw [hnl, hq]⟩
  · show _ ↔ 0 ≤ (if d = 10 then (-1 : Int) else (k : Int))
    by_cases e : d = 10
    · simp [e]
    · rw [if_neg e]; simp [e]
  · have hd10 : d ≠ 10 := fun e => by
      have : (putR d pr k s).last = -1 := by show (if d = 10 then (-1 : Int) else (k : Int)) = -1; rw [if_pos e]
      omega
    have hla : (putR d pr k s).last = k := by show (if d = 10 then (-1 : Int) else (k : Int)) = k; rw [if_neg hd10]
    rw [hla, lS, ← hq, hlastq, hhead, Int.toNat_natCast]
    exact ⟨by omega, rfl, hlv.symm⟩
  · by_cases e : t = k
    · subst e
      rw [← hd] at ho
      refine ⟨b, q, ?_, hnC, by rw [← hnl]; exact lastN_mem _ (h.cne b hnC), by rw [g, if_pos rfl]; simp⟩
      show (if opensB d = true ∧ 0 ≤ pr.getD t 0 then fun y => if y = pr.getD t 0 then some s.now.toNat else s.m y else s.m) (pr.getD t 0) = some b
      rw [if_pos ⟨ho, h0⟩]
      simp [hb]
    · obtain ⟨c, a, hm, hc, ha, hta⟩ := h.m t (by omega) hlf ho h0
      refine ⟨c, a, ?_, hc, ha, ?_⟩
      · show (if opensB d = true ∧ 0 ≤ pr.getD k 0 then fun y => if y = pr.getD k 0 then some s.now.toNat else s.m y else s.m) (pr.getD t 0) = some c
        split
        · rename_i hc2
          have hne : pr.getD t 0 ≠ pr.getD k 0 := fun e2 => by
            obtain ⟨j, hj, -, -, hjt⟩ := hp.fwd t (by omega) ho h0
            rw [hd] at hc2
            obtain ⟨j', hj', -, -, hjk⟩ := hp.fwd k hk hc2.1 hc2.2
            have : j = j' := by omega
            subst this
            omega
          show (if pr.getD t 0 = pr.getD k 0 then some s.now.toNat else s.m (pr.getD t 0)) = some c
          rw [if_neg hne]; exact hm
        · exact hm
      · rw [g]
        split
        · rename_i e2; rw [e2] at hta; exact List.mem_append_left _ hta
        · exact hta
end Go.Proofs.Ytikgjnfimagpjaa
