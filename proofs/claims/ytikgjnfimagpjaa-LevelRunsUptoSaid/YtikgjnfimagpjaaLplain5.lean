/- package level: plain laws: levels and classes outside of an isolate. -/
import Derived.Test.YtikgjnfimagpjaaLplain4
namespace Go.Proofs.Ytikgjnfimagpjaa
theorem lseg_app (low : Int) : ∀ (a b r : List Int) (p : PL), lseg low p (a ++ b) r = ((lseg low p a (b ++ r)).1 ++ (lseg low (lseg low p a (b ++ r)).2.2 b r).1, (lseg low p a (b ++ r)).2.1 ++ (lseg low (lseg low p a (b ++ r)).2.2 b r).2.1, (lseg low (lseg low p a (b ++ r)).2.2 b r).2.2)
  | [], b, r, p => rfl
  | z :: a, b, r, p => by
    rw [List.cons_append]
    show (_ :: (lseg low _ (a ++ b) r).1, _ :: (lseg low _ (a ++ b) r).2.1, (lseg low _ (a ++ b) r).2.2) = _
    rw [lseg_app low a b r, List.append_assoc]
    rfl
theorem lseg_length (low : Int) : ∀ (a r : List Int) (p : PL), (lseg low p a r).1.length = a.length ∧ (lseg low p a r).2.1.length = a.length
  | [], _, _ => ⟨rfl, rfl⟩
  | z :: a, r, p => by
    have := lseg_length low a r (lstep low (clsL z) (a ++ r) p).2.2
    exact ⟨by simp [lseg, this.1], by simp [lseg, this.2]⟩
theorem lto_lseg (low : Int) (zs : List Int) (k : Nat) (hk : k ≤ zs.length) : lto low zs k = lseg low (beginP low) (zs.take k) (zs.drop k) := by
  induction k with
  | zero => rfl
  | succ k ih =>
    rw [← take_snoc' zs k (by omega), lseg_app, List.singleton_append, ← drop_cons zs k (by omega), ← ih (by omega)]
    rfl
theorem lto_all (low : Int) (zs : List Int) : lto low zs zs.length = lseg low (beginP low) zs [] := by
  rw [lto_lseg low zs zs.length (Nat.le_refl _), List.take_length, List.drop_length]
theorem lstep_rest (low d : Int) (r r' : List Int) (p : PL) (h : firstL 0 r = firstL 0 r') : lstep low d r p = lstep low d r' p := by
  have : oddB d r = oddB d r' := by unfold oddB; rw [h]
  unfold lstep
  rw [this]
theorem lseg_apart (low s : Int) (hs : opensB (clsL s) = true) (u v r : List Int) (hu : Bal 0 u) (hv : Bal 0 v) : ∀ (a : List Int) (p : PL), lseg low p a (s :: (u ++ 22 :: r)) = lseg low p a (s :: (v ++ 22 :: r))
  | [], _ => rfl
  | z :: a, p => by
    have h := lstep_rest low (clsL z) (a ++ s :: (u ++ 22 :: r)) (a ++ s :: (v ++ 22 :: r)) p (firstL_apart s hs u v r hu hv a 0)
    show (_ :: (lseg low _ a _).1, _ :: (lseg low _ a _).2.1, (lseg low _ a _).2.2) = (_ :: (lseg low _ a _).1, _ :: (lseg low _ a _).2.1, (lseg low _ a _).2.2)
    rw [h, lseg_apart low s hs u v r hu hv a]
/-- what the places outside of an isolate get, whatever stands in it -/
theorem lto_apart (low s : Int) (hs : opensB (clsL s) = true) (a r : List Int) : ∃ (A Ak Bh Bk : List Int) (x xk y yk : Int), A.length = a.length ∧ Ak.length = a.length ∧ Bh.length = r.length ∧ Bk.length = r.length ∧
    ∀ u, Bal 0 u → ∃ U Uk : List Int, U.length = u.length ∧ Uk.length = u.length ∧ lseg low (beginP low) (a ++ s :: (u ++ 22 :: r)) [] = (A ++ x :: (U ++ y :: Bh), Ak ++ xk :: (Uk ++ yk :: Bk), (lseg low (lseg low (beginP low) a (s :: ([] ++ 22 :: r))).2.2 r []).2.2) := by
  have h22 : clsL 22 = 22 := by decide
  have hnil : Bal 0 [] := rfl
  obtain ⟨p1, hp1⟩ : ∃ p1, p1 = (lseg low (beginP low) a (s :: ([] ++ 22 :: r))).2.2 := ⟨_, rfl⟩
  have hl1 := lseg_length low a (s :: ([] ++ 22 :: r)) (beginP low)
  have hl2 := lseg_length low r [] p1
  refine ⟨(lseg low (beginP low) a (s :: ([] ++ 22 :: r))).1, (lseg low (beginP low) a (s :: ([] ++ 22 :: r))).2.1, (lseg low p1 r []).1, (lseg low p1 r []).2.1, (topP p1).level, saidL (topP p1).over (clsL s), (topP p1).level, saidL (topP p1).over 22, hl1.1, hl1.2, hl2.1, hl2.2, fun u hu => ?_⟩
  have hin := lseg_bal low p1 (22 :: r) u 0 (isoP (oddB (clsL s) (u ++ 22 :: r)) p1) hu (by show closeP _ = p1; exact close_iso _ _) (by have := iso_sum (oddB (clsL s) (u ++ 22 :: r)) p1; omega)
  have hul := lseg_length low u (22 :: r) (isoP (oddB (clsL s) (u ++ 22 :: r)) p1)
  refine ⟨_, _, hul.1, hul.2, ?_⟩
  rw [lseg_app, List.append_nil, lseg_apart low s hs u [] r hu hnil a, ← hp1]
  have hstep : ∀ rr, lstep low (clsL s) rr p1 = ((topP p1).level, saidL (topP p1).over (clsL s), isoP (oddB (clsL s) rr) p1) := fun rr => by
    have := (opensB_iff _).1 hs
    unfold lstep
    rw [if_neg (by omega), if_pos hs]
  have hclose : ∀ rr q, lstep low (clsL 22) rr q = ((topP (closeP q)).level, saidL (topP (closeP q)).over 22, closeP q) := fun rr q => by
    rw [h22]
    unfold lstep
    rw [if_neg (by omega), if_neg (by decide), if_pos rfl]
  have e1 : lseg low p1 (s :: (u ++ 22 :: r)) [] = ((topP p1).level :: (lseg low (isoP (oddB (clsL s) (u ++ 22 :: r)) p1) (u ++ 22 :: r) []).1, saidL (topP p1).over (clsL s) :: (lseg low (isoP (oddB (clsL s) (u ++ 22 :: r)) p1) (u ++ 22 :: r) []).2.1, (lseg low (isoP (oddB (clsL s) (u ++ 22 :: r)) p1) (u ++ 22 :: r) []).2.2) := by
    show ((lstep low (clsL s) ((u ++ 22 :: r) ++ []) p1).1 :: _, _ :: _, _) = _
    rw [List.append_nil, hstep]
  rw [e1, lseg_app, List.append_nil]
  have e2 : ∀ q, closeP q = p1 → lseg low q (22 :: r) [] = ((topP p1).level :: (lseg low p1 r []).1, saidL (topP p1).over 22 :: (lseg low p1 r []).2.1, (lseg low p1 r []).2.2) := fun q hq => by
    show ((lstep low (clsL 22) (r ++ []) q).1 :: _, _ :: _, _) = _
    rw [hclose, hq]
  rw [e2 _ hin]
end Go.Proofs.Ytikgjnfimagpjaa
