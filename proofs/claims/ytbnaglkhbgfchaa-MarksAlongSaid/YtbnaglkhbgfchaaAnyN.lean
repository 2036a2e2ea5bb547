/- A region that draws its order and whose last operations store into cells that the region loads: the loads may be taken first, since the stores wait for them. The condition on the world is asked behind every operation but those (N). -/
import Derived.OrdersHeld
import Derived.WalkKit
namespace Go.Proofs.Ytbnaglkhbgfchaa
open Go
section
variable {P : Program} {ops : Array Oper} {Q : Exit → Act → World → Prop} {md : Region.Mode} {S : World → Prop} {N : List Nat}
/-- whatever order is picked: S holds behind each operation, number n left out -/
def AnyN (P : Program) (md : Region.Mode) (ops : Array Oper) (Q : Exit → Act → World → Prop) (S : World → Prop) (N : List Nat) : Nat → Array Bool → Act → World → Prop
  | 0, l, a, w => Region.ready md ops l = [] ∧ Q .normal a w
  | f + 1, l, a, w => (Region.ready md ops l = [] → Q .normal a w) ∧
      ∀ i ∈ Region.ready md ops l, wpOp P ops Q i (fun a' w' => (i ∈ N ∨ S w') ∧ AnyN P md ops Q S N f (l.setIfInBounds i true) a' w') a w
theorem AnyN.any : ∀ (f : Nat) (l : Array Bool) (a : Act) (w : World), AnyN P md ops Q S N f l a w → wpAny P md ops Q f l a w
  | 0, _, _, _, h => h
  | f + 1, _, _, _, h => ⟨h.1, fun i hi => wpOp_mono (fun a' w' k => AnyN.any f _ a' w' k.2) (h.2 i hi)⟩
/-- each waits for the one ahead of it -/
def chainB (md : Region.Mode) (ops : Array Oper) : Nat → List Nat → Bool
  | _, [] => true
  | i, j :: c => ((ops[j]?).map fun o => o.after.any fun e => Region.binds md e && e.on == i).getD false && chainB md ops j c
theorem chain_waits {l : Array Bool} : ∀ (c : List Nat) (i : Nat), chainB md ops i c = true → l.getD i false = false → (∀ k ∈ c, l.getD k true = false) → ∀ k ∈ c, k ∉ Region.ready md ops l
  | [], _, _, _, _, k, hk => by cases hk
  | j :: c, i, hb, hi, hc, k, hk => by
    simp only [chainB, Bool.and_eq_true] at hb
    rcases List.mem_cons.1 hk with rfl | hk
    · intro hr
      obtain ⟨_, o, ho, ha⟩ := mem_ready.1 hr
      have h1 := hb.1
      rw [ho] at h1
      simp only [Option.map_some, Option.getD_some] at h1
      rw [← Array.any_toList, List.any_eq_true] at h1
      obtain ⟨e, he0, h2⟩ := h1
      have he : e ∈ o.after := by simpa using he0
      simp only [Bool.and_eq_true, beq_iff_eq] at h2
      have := ha e he h2.1
      rw [h2.2, hi] at this
      cases this
    · refine chain_waits c j hb.2 ?_ (fun k hk => hc k (List.mem_cons_of_mem _ hk)) k hk
      have := hc j (List.mem_cons_self ..)
      rcases Nat.lt_or_ge j l.size with h | h
      · simpa [h] using this
      · simp [Array.getElem?_eq_none h] at this
theorem AnyN.first {i : Nat} {oi : Oper} {v : Value} {c : List Nat} (hi : ops[i]? = some oi) (hsel : ∀ (j : Nat) (o : Oper) cs b, ops[j]? = some o → o.op ≠ .select cs b)
    (hQ : ∀ c a w, Q (.panic c) (a.put oi.dst v) w → Q (.panic c) a w) (hch : chainB md ops i c = true) (hn : ∀ k ∈ N, k ∈ c) :
    ∀ (f : Nat) (l : Array Bool) (a : Act) (w : World), (∀ j oj, ops[j]? = some oj → j ≠ i → l.getD j true = false → (∀ e ∈ oj.after, Region.binds md e = true → e.on ≠ i) → oi.apart ops oj = true) →
      i ∈ Region.ready md ops l → (∀ k ∈ c, l.getD k true = false) → YieldsIf P ops S oi v a → S w → AnyN P md ops Q S N f (l.setIfInBounds i true) (a.put oi.dst v) w → AnyN P md ops Q S N (f + 1) l a w := by
  intro f
  induction f with
  | zero =>
    intro l a w _ hr _ hy hS H
    refine ⟨fun h => (by rw [h] at hr; cases hr), fun j hj => ?_⟩
    by_cases e : j = i
    · subst e; exact hy.wpOp hi hS ⟨.inr hS, H⟩
    · have := ready_mono hj e
      rw [H.1] at this
      cases this
  | succ f ih =>
    intro l a w hfree hr hc hy hS H
    refine ⟨fun h => (by rw [h] at hr; cases hr), fun j hj => ?_⟩
    by_cases e : j = i
    · subst e; exact hy.wpOp hi hS ⟨.inr hS, H⟩
    · have hun : l.getD i false = false := by
        have := (mem_ready.1 hr).1
        rcases Nat.lt_or_ge i l.size with h | h
        · simpa [h] using this
        · simp [Array.getElem?_eq_none h] at this
      have hjc : j ∉ c := fun hk => chain_waits c i hch hun hc j hk hj
      have h1 := H.2 j (ready_mono hj e)
      obtain ⟨hjl, oj, hoj, hall⟩ := mem_ready.1 hj
      have hnot : ∀ x ∈ oj.after, Region.binds md x = true → x.on ≠ i := fun x hx hb he => by
        have := hall x hx hb
        rw [he, hun] at this
        cases this
      have h2 := wpOp_putIf hoj (hfree j oj hoj e hjl hnot) (fun cs b => hsel i oi cs b hi) (fun cs b => hsel j oj cs b hoj) hQ hy h1
      refine wpOp_mono (fun a' w' h3 => ?_) h2
      have hS' : S w' := h3.2.1.resolve_left fun en => hjc (hn _ en)
      refine ⟨.inr hS', ih _ a' w' (fun k ok hk hki hkl hno => hfree k ok hk hki ?_ hno) (ready_mono hr (Ne.symm e)) (fun k hk => ?_) h3.1 hS' ?_⟩
      · by_cases ek : j = k
        · subst ek; exact hjl
        · rw [getD_set_ne true ek] at hkl; exact hkl
      · rw [getD_set_ne true (show j ≠ k from fun ek => hjc (by rw [ek]; exact hk))]; exact hc k hk
      · rw [Array.setIfInBounds_comm _ _ e]; exact h3.2.2
/-- take number i first -/
theorem AnyN.take {i : Nat} {oi : Oper} {v : Value} {f : Nat} {l : Array Bool} {a : Act} {w : World} (c : List Nat) (hi : ops[i]? = some oi)
    (hs : Region.noSelect ops = true) (hf : Region.free md ops l i = true) (hr : (Region.ready md ops l).contains i = true) (hch : (chainB md ops i c && N.all (c.contains ·) && c.all fun k => !l.getD k true) = true)
    (hQ : ∀ c a w, Q (.panic c) (a.put oi.dst v) w → Q (.panic c) a w) (hy : YieldsIf P ops S oi v a) (hS : S w)
    (h : AnyN P md ops Q S N f (l.setIfInBounds i true) (a.put oi.dst v) w) : AnyN P md ops Q S N (f + 1) l a w := by
  simp only [Bool.and_eq_true, List.all_eq_true, Bool.not_eq_true'] at hch
  exact AnyN.first hi (Region.noSelect_spec hs) hQ hch.1.1 (fun k hk => by simpa using hch.1.2 k hk) f l a w (Region.free_spec hi hf) (by simpa using hr) hch.2 hy hS h
/-- only number i may come up -/
theorem AnyN.next {i : Nat} {f : Nat} {l : Array Bool} {a : Act} {w : World} (hr : Region.ready md ops l = [i])
    (h : wpOp P ops Q i (fun a' w' => (i ∈ N ∨ S w') ∧ AnyN P md ops Q S N f (l.setIfInBounds i true) a' w') a w) : AnyN P md ops Q S N (f + 1) l a w :=
  ⟨fun h0 => by rw [h0] at hr; (cases hr), fun j hj => by rw [hr, List.mem_singleton] at hj; (subst hj; exact h)⟩
theorem AnyN.done {l : Array Bool} {a : Act} {w : World} (hr : Region.ready md ops l = []) (h : Q .normal a w) : ∀ f, AnyN P md ops Q S N f l a w
  | 0 => ⟨hr, h⟩
  | _ + 1 => ⟨fun _ => h, by rw [hr]; simp⟩
/-- the beginning -/
theorem AnyN.begin_ {id : Nat} {a : Act} {w : World} (hm : P.follows .mixedOrders = true)
    (h : AnyN P .any ops Q S N ops.size (Array.replicate ops.size false) a w.drew) : (Code.region id ops true).wp P Q a w :=
  wp_region_any hm (AnyN.any _ _ _ _ h)
/-- the condition holds behind every operation: no chain is asked -/
theorem AnyN.firstS {i : Nat} {oi : Oper} {v : Value} (hi : ops[i]? = some oi) (hsel : ∀ (j : Nat) (o : Oper) cs b, ops[j]? = some o → o.op ≠ .select cs b)
    (hQ : ∀ c a w, Q (.panic c) (a.put oi.dst v) w → Q (.panic c) a w) (hn : N = []) :
    ∀ (f : Nat) (l : Array Bool) (a : Act) (w : World), (∀ j oj, ops[j]? = some oj → j ≠ i → l.getD j true = false → (∀ e ∈ oj.after, Region.binds md e = true → e.on ≠ i) → oi.apart ops oj = true) →
      i ∈ Region.ready md ops l → YieldsIf P ops S oi v a → S w → AnyN P md ops Q S N f (l.setIfInBounds i true) (a.put oi.dst v) w → AnyN P md ops Q S N (f + 1) l a w := by
  intro f
  induction f with
  | zero =>
    intro l a w _ hr hy hS H
    refine ⟨fun h => (by rw [h] at hr; cases hr), fun j hj => ?_⟩
    by_cases e : j = i
    · subst e; exact hy.wpOp hi hS ⟨.inr hS, H⟩
    · have := ready_mono hj e
      rw [H.1] at this
      cases this
  | succ f ih =>
    intro l a w hfree hr hy hS H
    refine ⟨fun h => (by rw [h] at hr; cases hr), fun j hj => ?_⟩
    by_cases e : j = i
    · subst e; exact hy.wpOp hi hS ⟨.inr hS, H⟩
    · have hun : l.getD i false = false := by
        have := (mem_ready.1 hr).1
        rcases Nat.lt_or_ge i l.size with h | h
        · simpa [h] using this
        · simp [Array.getElem?_eq_none h] at this
      have h1 := H.2 j (ready_mono hj e)
      obtain ⟨hjl, oj, hoj, hall⟩ := mem_ready.1 hj
      have hnot : ∀ x ∈ oj.after, Region.binds md x = true → x.on ≠ i := fun x hx hb he => by
        have := hall x hx hb
        rw [he, hun] at this
        cases this
      have h2 := wpOp_putIf hoj (hfree j oj hoj e hjl hnot) (fun cs b => hsel i oi cs b hi) (fun cs b => hsel j oj cs b hoj) hQ hy h1
      refine wpOp_mono (fun a' w' h3 => ?_) h2
      have hS' : S w' := h3.2.1.resolve_left fun en => by rw [hn] at en; cases en
      refine ⟨.inr hS', ih _ a' w' (fun k ok hk hki hkl hno => hfree k ok hk hki ?_ hno) (ready_mono hr (Ne.symm e)) h3.1 hS' ?_⟩
      · by_cases ek : j = k
        · subst ek; exact hjl
        · rw [getD_set_ne true ek] at hkl; exact hkl
      · rw [Array.setIfInBounds_comm _ _ e]; exact h3.2.2
theorem AnyN.takeS {i : Nat} {oi : Oper} {v : Value} {f : Nat} {l : Array Bool} {a : Act} {w : World} (hi : ops[i]? = some oi)
    (hs : Region.noSelect ops = true) (hf : Region.free md ops l i = true) (hr : (Region.ready md ops l).contains i = true) (hn : N = [])
    (hQ : ∀ c a w, Q (.panic c) (a.put oi.dst v) w → Q (.panic c) a w) (hy : YieldsIf P ops S oi v a) (hS : S w)
    (h : AnyN P md ops Q S N f (l.setIfInBounds i true) (a.put oi.dst v) w) : AnyN P md ops Q S N (f + 1) l a w :=
  AnyN.firstS hi (Region.noSelect_spec hs) hQ hn f l a w (Region.free_spec hi hf) (by simpa using hr) hy hS h
end
end Go.Proofs.Ytbnaglkhbgfchaa
