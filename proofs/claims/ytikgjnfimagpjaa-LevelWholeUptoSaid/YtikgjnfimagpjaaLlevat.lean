/- package level: Levels and Runs, their lists as letters. -/
import Derived.Test.YtikgjnfimagpjaaLrunsw
namespace Go.Proofs.Ytikgjnfimagpjaa
open Go.RowKit
theorem levels_is (zs X K : List Int) (n : Nat) (A : Option Addr) (c base : Nat) (w : World) (hn : zs.length = n) (hX : (lto (min base 125 : Nat) zs n).1 = X) (hK : (lto (min base 125 : Nat) zs n).2.1 = K) (lX : X.length = n) (lK : K.length = n) (hl : n < 1048576) (hc : n ≤ c ∧ c ≤ maxLen) (h : Sl w w.heap.size A (ints .i8 zs)) :
    Calls Try.prog 19 #[.slice A n c, .int .u8 base] w fun e w' => ∃ XA xc KA kc, e = .returned (.tuple #[.slice XA n xc, .slice KA n kc]) ∧ Own w' 5 w.heap.size (.slice XA n xc) (ints .u8 X) ∧ Own w' 23 w.heap.size (.slice KA n kc) (ints .i8 K) ∧ Below w.heap.size w w' := by
  subst hn
  refine (levels_any zs A c base w hl hc h).mono ?_
  rintro e w' ⟨lv, kv, rfl, h1, h2, -, hb⟩
  rw [hX] at h1
  rw [hK] at h2
  obtain ⟨XA, xc, rfl⟩ := h1.slice
  obtain ⟨KA, kc, rfl⟩ := h2.slice
  rw [ints_length, lX] at h1 ⊢
  rw [ints_length, lK] at h2 ⊢
  exact ⟨XA, xc, KA, kc, rfl, h1, h2, hb⟩
theorem runs_is (zs X : List Int) (n : Nat) (rows : List (List Int)) (A A2 : Option Addr) (c c2 : Nat) (w : World) (hn : zs.length = n) (lX : X.length = n) (hr : runsL zs X = rows) (hl : n < 1048576) (hc : n ≤ c ∧ c ≤ maxLen) (h : Sl w w.heap.size A (ints .i8 zs)) (h2 : Sl w w.heap.size A2 (ints .u8 X)) :
    Calls Try.prog 23 #[.slice A n c, .slice A2 n c2] w fun e w' => ∃ OA oc rvs, e = .returned (.slice OA rows.length oc) ∧ Mem w' w.heap.size [] (.slice OA rows.length oc) rvs rows ∧ Below w.heap.size w w' := by
  have := runs_any zs X A A2 c c2 w (by omega) (by unfold maxLen; omega) (by omega) h h2
  rw [hn, lX, hr] at this
  refine this.mono ?_
  rintro e w' ⟨ov, rvs, rfl, hm, hb⟩
  obtain ⟨OA, oc, rfl⟩ := hm.own.slice
  rw [hm.len] at hm ⊢
  exact ⟨OA, oc, rvs, rfl, hm, hb⟩
end Go.Proofs.Ytikgjnfimagpjaa
