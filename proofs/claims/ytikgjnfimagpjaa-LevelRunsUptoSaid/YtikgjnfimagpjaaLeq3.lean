/- LevelRuns: plain law: the runs as chains of stretches: a stretch begins. -/
import Derived.Test.YtikgjnfimagpjaaLeq2
namespace Go.Proofs.Ytikgjnfimagpjaa
theorem getD0_snoc (l : List Nat) (x : Nat) : (l ++ [x]).getD 0 0 = if l = [] then x else l.getD 0 0 := by
  cases l <;> rfl
theorem getDi_snoc (l : List Nat) (x i : Nat) : (l ++ [x]).getD i 0 = if i = l.length then x else l.getD i 0 := by
  simp only [List.getD_eq_getElem?_getD]
  by_cases h : i < l.length
  · rw [List.getElem?_append_left h, if_neg (by omega)]
  · by_cases e : i = l.length
    · subst e; simp
    · rw [if_neg e, List.getElem?_eq_none (by simp; omega), List.getElem?_eq_none (by omega)]
theorem ChI.next {zs lv pr : List Int} {n k : Nat} {S : List (List Int)} {bg : Bool} {s : RS} {C : List (List Nat)} (h : ChI zs lv pr k S bg s C) (hp : PairOK zs pr n) (hk : k < n) (d : Int) (hd : d = clsL (zs.getD k 0))
    (b : Nat) (hb : b ≤ C.length) (C' : List (List Nat)) (hC : ∀ c, C'.getD c [] = if c = b then C.getD b [] ++ [S.length] else C.getD c []) (hlen : C'.length = if b < C.length then C.length else C.length + 1)
    (s' : RS) (hrows : s'.rows = C'.map (cat (S ++ [[(k : Int)]]))) (hnow : s'.now = b) (hlast : s'.last = if d = 10 then -1 else (k : Int)) (hm : ∀ y, s'.m y = if opensB d = true ∧ 0 ≤ pr.getD k 0 ∧ y = pr.getD k 0 then some b else s.m y)
    (hedge : b < C.length → Edge zs pr (S ++ [[(k : Int)]]) (lastN (C.getD b [])) S.length) (hno : b = C.length → ∀ a, a < S.length → ¬ Edge zs pr (S ++ [[(k : Int)]]) a S.length) :
    ChI zs lv pr (k + 1) (S ++ [[(k : Int)]]) (!(d == 10)) s' C' := by
  obtain ⟨S', hS'⟩ : ∃ S', S' = S ++ [[(k : Int)]] := ⟨_, rfl⟩
  rw [← hS'] at hrows hedge hno ⊢
  obtain ⟨q, hq⟩ : ∃ q, q = S.length := ⟨_, rfl⟩
  rw [← hq] at hC hedge hno
  have g : ∀ a, S'.getD a [] = if a = q then [(k : Int)] else S.getD a [] := fun a => by rw [hS', gsnoc, hq]
  have lS : S'.length = q + 1 := by rw [hS', hq]; simp
  have hq1 : lastL (S'.getD q []) = k := by rw [g, if_pos rfl]; rfl
  have hq2 : headL (S'.getD q []) = k := by rw [g, if_pos rfl]; rfl
  have ho1 : ∀ a, a ≠ q → S'.getD a [] = S.getD a [] := fun a ha => by rw [g, if_neg ha]
  have edge_iff : ∀ a c, a ≠ q → c ≠ q → (Edge zs pr S' a c ↔ Edge zs pr S a c) := fun a c ha hc => by unfold Edge; rw [ho1 a ha, ho1 c hc]
  have hne' : ∀ a, a < S'.length → S'.getD a [] ≠ [] := fun a ha => by
    by_cases e : a = q
    · rw [g, if_pos e]; simp
    · rw [ho1 a e]; exact h.sne a (by omega)
  have hbd' : ∀ a, ∀ x ∈ S'.getD a [], 0 ≤ x ∧ x < ((k + 1 : Nat) : Int) := fun a x hx => by
    by_cases e : a = q
    · rw [g, if_pos e] at hx; simp at hx; omega
    · rw [ho1 a e] at hx; have := h.sbd a x hx; omega
  have noq : ∀ c, c < S'.length → ¬ Edge zs pr S' q c := fun c hc => no_edge hp hk S' q c hq1 (by
    have := hbd' c _ (headL_mem _ (hne' c hc)); omega)
  have hbC : b < C'.length := by rw [hlen]; split <;> omega
  have old : ∀ c, c < C'.length → c ≠ b → c < C.length := fun c hc hcb => by rw [hlen] at hc; split at hc <;> omega
  have hCb : C'.getD b [] = C.getD b [] ++ [q] := by rw [hC, if_pos rfl]
  have hCo : ∀ c, c ≠ b → C'.getD c [] = C.getD c [] := fun c hc => by rw [hC, if_neg hc]
  have hqn : ∀ c, q ∉ C.getD c [] := fun c hc => by have := h.cbd c q hc; omega
  have hb0 : C.getD b [] = [] ↔ b = C.length := ⟨fun e => by
    by_cases hlt : b < C.length
    · exact absurd e (h.cne b hlt)
    · omega, fun e => gnone _ _ (by omega)⟩
  have hhd : ∀ c, c < C.length → (C'.getD c []).getD 0 0 = (C.getD c []).getD 0 0 := fun c hc => by
    by_cases e : c = b
    · subst e; rw [hCb, getD0_snoc, if_neg (h.cne c hc)]
    · rw [hCo c e]
  have hhm : ∀ c, c < C.length → (C.getD c []).getD 0 0 < q := fun c hc => by
    have := h.cbd c _ (getD_mem_nat (i := 0) (List.length_pos_iff.2 (h.cne c hc))); omega
  have hhn : b = C.length → (C'.getD b []).getD 0 0 = q := fun e => by rw [hCb, getD0_snoc, if_pos (hb0.2 e)]
  refine ⟨hne', hbd', fun a c x hx hy => ?_, hrows, fun c hc => ?_, fun c j hj => ?_, fun j hj => ?_, fun c c' j hj hj' => ?_, fun c => ?_, fun c i hi => ?_, fun c hc a ha => ?_, fun c c' hcc hc' => ?_, fun _ => ?_, ?_, fun hlp => ?_, fun t ht hlf ho h0 => ?_⟩
  · by_cases e : a = q
    · by_cases e2 : c = q
      · omega
      · rw [g, if_pos e] at hx
        rw [ho1 c e2] at hy
        simp at hx
        subst hx
        have := h.sbd c _ hy; omega
    · rw [ho1 a e] at hx
      by_cases e2 : c = q
      · rw [g, if_pos e2] at hy
        simp at hy
        subst hy
        have := h.sbd a _ hx; omega
      · rw [ho1 c e2] at hy
        exact h.sdis a c x hx hy
  · by_cases e : c = b
    · rw [e, hCb]; simp
    · rw [hCo c e]; exact h.cne c (old c hc e)
  · rw [lS]
    by_cases e : c = b
    · rw [e, hCb] at hj
      rcases List.mem_append.1 hj with hj | hj
      · have := h.cbd b j hj; omega
      · simp at hj; omega
    · rw [hCo c e] at hj
      have := h.cbd c j hj; omega
  · by_cases e : j = q
    · exact ⟨b, hbC, by rw [hCb, e]; simp⟩
    · obtain ⟨c, hc, hj2⟩ := h.cov j (by omega)
      by_cases e2 : c = b
      · exact ⟨b, hbC, by rw [hCb]; exact List.mem_append_left _ (e2 ▸ hj2)⟩
      · exact ⟨c, by rw [hlen]; split <;> omega, by rw [hCo c e2]; exact hj2⟩
  · have one : ∀ c, j ∈ C'.getD c [] → (j = q ∧ c = b) ∨ (j ≠ q ∧ j ∈ C.getD c []) := fun c hj => by
      by_cases e : c = b
      · rw [e, hCb] at hj
        rcases List.mem_append.1 hj with hj | hj
        · exact .inr ⟨fun e2 => hqn b (e2 ▸ hj), e ▸ hj⟩
        · simp at hj; exact .inl ⟨hj, e⟩
      · rw [hCo c e] at hj
        exact .inr ⟨fun e2 => hqn c (e2 ▸ hj), hj⟩
    rcases one c hj with ⟨h1, h2⟩ | ⟨h1, h2⟩
    · rcases one c' hj' with ⟨h3, h4⟩ | ⟨h3, h4⟩
      · omega
      · exact absurd h1 h3
    · rcases one c' hj' with ⟨h3, h4⟩ | ⟨h3, h4⟩
      · exact absurd h3 h1
      · exact h.cdis c c' j h2 h4
  · by_cases e : c = b
    · rw [e, hCb, List.pairwise_append]
      refine ⟨h.asc b, by simp, fun x hx y hy => ?_⟩
      simp at hy
      have := h.cbd b x hx
      omega
    · rw [hCo c e]; exact h.asc c
  · by_cases e : c = b
    · rw [e, hCb] at hi ⊢
      simp only [List.length_append, List.length_singleton] at hi
      rw [getDi_snoc, getDi_snoc, if_neg (by omega)]
      by_cases e2 : i + 1 = (C.getD b []).length
      · rw [if_pos e2]
        have hbl : b < C.length := by
          by_cases hlt : b < C.length
          · exact hlt
          · have := hb0.2 (by omega)
            rw [this] at e2
            simp at e2
        have := hedge hbl
        unfold lastN at this
        rw [show (C.getD b []).length - 1 = i by omega] at this
        exact this
      · rw [if_neg e2]
        have m1 := h.cbd b _ (getD_mem_nat (st := C.getD b []) (i := i) (by omega))
        have m2 := h.cbd b _ (getD_mem_nat (st := C.getD b []) (i := i + 1) (by omega))
        exact (edge_iff _ _ (by omega) (by omega)).2 (h.edge b i (by omega))
    · rw [hCo c e] at hi ⊢
      have m1 := h.cbd c _ (getD_mem_nat (st := C.getD c []) (i := i) (by omega))
      have m2 := h.cbd c _ (getD_mem_nat (st := C.getD c []) (i := i + 1) (by omega))
      exact (edge_iff _ _ (by omega) (by omega)).2 (h.edge c i hi)
  · rw [lS] at ha
    by_cases hcl : c < C.length
    · have h1 := hhm c hcl
      rw [hhd c hcl]
      by_cases e : a = q
      · subst e; exact noq _ (by omega)
      · rw [edge_iff _ _ e (by omega)]
        exact h.head c hcl a (by omega)
    · have e : c = b := by
        by_cases e : c = b
        · exact e
        · exact absurd (old c hc e) hcl
      rw [e, hhn (by omega)]
      by_cases e2 : a = q
      · subst e2; exact noq _ (by omega)
      · exact hno (by omega) a (by omega)
  · by_cases hcl : c' < C.length
    · rw [hhd c (by omega), hhd c' hcl]
      exact h.hasc c c' hcc hcl
    · have e : c' = b := by
        by_cases e : c' = b
        · exact e
        · exact absurd (old c' hc' e) hcl
      rw [e, hhn (by omega), hhd c (by omega)]
      exact hhm c (by omega)
  · rw [hnow, lS, Int.toNat_natCast, hCb, lastN_snoc]
    exact ⟨by omega, hbC, by omega⟩
  · rw [hlast]
    by_cases e : d = 10
    · simp [e]
    · rw [if_neg e]; simp [e]
  · have hd10 : d ≠ 10 := fun e => by rw [hlast, if_pos e] at hlp; omega
    rw [hlast, if_neg hd10, lS, Nat.add_sub_cancel, hq1, hq2]
    exact ⟨by omega, rfl, rfl⟩
  · by_cases e : t = k
    · subst e
      rw [← hd] at ho
      exact ⟨b, q, by rw [hm, if_pos ⟨ho, h0, rfl⟩], hbC, by rw [hCb]; simp, by rw [g, if_pos rfl]; simp⟩
    · obtain ⟨c, a, hmm, hc, ha, hta⟩ := h.m t (by omega) hlf ho h0
      refine ⟨c, a, ?_, by rw [hlen]; split <;> omega, ?_, ?_⟩
      · rw [hm]
        split
        · rename_i hc2
          obtain ⟨j, hj, -, -, hjt⟩ := hp.fwd t (by omega) ho h0
          rw [hd] at hc2
          obtain ⟨j', hj', -, -, hjk⟩ := hp.fwd k hk hc2.1 hc2.2.1
          have : j = j' := by omega
          subst this
          omega
        · exact hmm
      · by_cases e2 : c = b
        · rw [e2, hCb]; exact List.mem_append_left _ (e2 ▸ ha)
        · rw [hCo c e2]; exact ha
      · rw [ho1 a (fun e2 => hqn c (e2 ▸ ha))]; exact hta
end Go.Proofs.Ytikgjnfimagpjaa
