/- LevelApart: the plain law, place by place. -/
import Derived.Test.YtikgjnfimagpjaaLplain5
import Derived.Test.YtikgjnfimagpjaaLplain6
namespace Go.Proofs.Ytikgjnfimagpjaa
open Go.RowKit
theorem getD_front (A U Bh : List Int) (x y : Int) (i : Nat) (h : i ≤ A.length) : (A ++ x :: (U ++ y :: Bh)).getD i 0 = (A ++ [x]).getD i 0 := by
  have : A ++ x :: (U ++ y :: Bh) = (A ++ [x]) ++ (U ++ y :: Bh) := by simp
  rw [this, List.getD_eq_getElem?_getD, List.getD_eq_getElem?_getD, List.getElem?_append_left (by simp; omega)]
theorem getD_back (A U Bh : List Int) (x y : Int) (i n : Nat) (h : i ≤ Bh.length) (hn : n = A.length + (1 + (U.length + (1 + Bh.length))) - 1 - i) : (A ++ x :: (U ++ y :: Bh)).getD n 0 = (y :: Bh).getD (Bh.length - i) 0 := by
  have : A ++ x :: (U ++ y :: Bh) = (A ++ x :: U) ++ (y :: Bh) := by simp
  rw [this, List.getD_eq_getElem?_getD, List.getD_eq_getElem?_getD, List.getElem?_append_right (by simp; omega)]
  congr 2
  simp
  omega
theorem apart_get (low s : Int) (hs : opensB (clsL s) = true) (a r u v : List Int) (hu : Bal 0 u) (hv : Bal 0 v) :
    ∃ X1 K1 X2 K2 : List Int, (lto low (a ++ s :: (u ++ 22 :: r)) (a.length + (1 + (u.length + (1 + r.length))))).1 = X1 ∧ (lto low (a ++ s :: (u ++ 22 :: r)) (a.length + (1 + (u.length + (1 + r.length))))).2.1 = K1 ∧
      (lto low (a ++ s :: (v ++ 22 :: r)) (a.length + (1 + (v.length + (1 + r.length))))).1 = X2 ∧ (lto low (a ++ s :: (v ++ 22 :: r)) (a.length + (1 + (v.length + (1 + r.length))))).2.1 = K2 ∧
      X1.length = a.length + (1 + (u.length + (1 + r.length))) ∧ K1.length = a.length + (1 + (u.length + (1 + r.length))) ∧ X2.length = a.length + (1 + (v.length + (1 + r.length))) ∧ K2.length = a.length + (1 + (v.length + (1 + r.length))) ∧
      (∀ i, i ≤ a.length → X1.getD i 0 = X2.getD i 0 ∧ K1.getD i 0 = K2.getD i 0) ∧
      (∀ i n m, i ≤ r.length → n = a.length + (1 + (u.length + (1 + r.length))) - 1 - i → m = a.length + (1 + (v.length + (1 + r.length))) - 1 - i → X1.getD n 0 = X2.getD m 0 ∧ K1.getD n 0 = K2.getD m 0) := by
  obtain ⟨A, Ak, Bh, Bk, x, xk, y, yk, h1, h2, h3, h4, h⟩ := lto_apart low s hs a r
  obtain ⟨U, Uk, g1, g2, hU⟩ := h u hu
  obtain ⟨V, Vk, g3, g4, hV⟩ := h v hv
  have l1 : (a ++ s :: (u ++ 22 :: r)).length = a.length + (1 + (u.length + (1 + r.length))) := by simp; omega
  have l2 : (a ++ s :: (v ++ 22 :: r)).length = a.length + (1 + (v.length + (1 + r.length))) := by simp; omega
  rw [← l1, ← l2, lto_all, lto_all, hU, hV, l1, l2]
  refine ⟨_, _, _, _, rfl, rfl, rfl, rfl, by simp; omega, by simp; omega, by simp; omega, by simp; omega, fun i hi => ⟨?_, ?_⟩, fun i n m hi hn hm => ⟨?_, ?_⟩⟩
  · rw [getD_front _ _ _ _ _ i (by omega), getD_front _ _ _ _ _ i (by omega)]
  · rw [getD_front _ _ _ _ _ i (by omega), getD_front _ _ _ _ _ i (by omega)]
  · rw [getD_back _ _ _ _ _ i n (by omega) (by omega), getD_back _ _ _ _ _ i m (by omega) (by omega)]
  · rw [getD_back _ _ _ _ _ i n (by omega) (by omega), getD_back _ _ _ _ _ i m (by omega) (by omega)]
end Go.Proofs.Ytikgjnfimagpjaa
