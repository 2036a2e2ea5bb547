/- layer 18 in plain lists: the pieces of a stretch. -/
import Derived.Test.YtjoeebjmjnddoaaRfeed
namespace Go.Proofs.Ytjoeebjmjnddoaa
def pcs : Rp → Nat → Nat → Nat → List (Nat × List UInt8)
  | .leaf l, at_, fr, to_ => if fr < to_ then [(at_ + fr, cutL l fr to_)] else []
  | .pair a b, at_, fr, to_ => if fr < to_ then pcs a at_ (min fr a.len) (min to_ a.len) ++ pcs b (at_ + a.len) (fr - a.len) (to_ - a.len) else []
/-- pieces one behind the other, from a place on -/
def Run : Nat → List (Nat × List UInt8) → Prop
  | _, [] => True
  | p, q :: l => q.1 = p ∧ q.2 ≠ [] ∧ Run (p + q.2.length) l
def joinP (l : List (Nat × List UInt8)) : List UInt8 := (l.map (·.2)).flatten
theorem joinP_app (a b : List (Nat × List UInt8)) : joinP (a ++ b) = joinP a ++ joinP b := by simp [joinP]
theorem run_app : ∀ (a b : List (Nat × List UInt8)) (p : Nat), Run p a → Run (p + (joinP a).length) b → Run p (a ++ b)
  | [], b, p, _, h => by simpa [joinP] using h
  | q :: a, b, p, ⟨h1, h2, h3⟩, h => ⟨h1, h2, run_app a b _ h3 (by
      have e : (joinP (q :: a)).length = q.2.length + (joinP a).length := by simp [joinP]
      rw [e] at h
      rw [Nat.add_assoc]
      exact h)⟩
theorem pcs_spec : ∀ (t : Rp) (at_ fr to_ : Nat), to_ ≤ t.len → joinP (pcs t at_ fr to_) = cutL t.text fr to_ ∧ Run (at_ + fr) (pcs t at_ fr to_)
  | .leaf l, at_, fr, to_, h => by
    unfold pcs
    by_cases hc : fr < to_
    · rw [if_pos hc]
      refine ⟨by simp [joinP]; rfl, rfl, fun e => ?_, trivial⟩
      have h1 := cutL_length l fr to_ h
      have h2 := congrArg List.length e
      rw [h1] at h2
      simp at h2
      omega
    · rw [if_neg hc]
      refine ⟨?_, trivial⟩
      unfold cutL
      rw [show to_ - fr = 0 by omega, List.take_zero]
      rfl
  | .pair a b, at_, fr, to_, h => by
    rw [Rp.len_pair] at h
    unfold pcs
    by_cases hc : fr < to_
    · rw [if_pos hc]
      obtain ⟨h1, h2⟩ := pcs_spec a at_ (min fr a.len) (min to_ a.len) (by omega)
      obtain ⟨h3, h4⟩ := pcs_spec b (at_ + a.len) (fr - a.len) (to_ - a.len) (by omega)
      have hal : a.text.length = a.len := rfl
      have hc1 : (cutL a.text (min fr a.len) (min to_ a.len)).length = min to_ a.len - min fr a.len := cutL_length _ _ _ (by rw [hal]; omega)
      refine ⟨?_, ?_⟩
      · rw [joinP_app, h1, h3]
        show _ = cutL (a.text ++ b.text) fr to_
        rcases Nat.lt_or_ge a.len to_ with k1 | k1
        · rcases Nat.lt_or_ge fr a.len with k2 | k2
          · rw [cutL_both _ _ _ _ (by rw [hal]; omega) (by rw [hal]; omega), hal, show min fr a.len = fr by omega, show min to_ a.len = a.len by omega, show fr - a.len = 0 by omega]
          · rw [cutL_right _ _ _ _ (by rw [hal]; omega), hal]
            have : cutL a.text (min fr a.len) (min to_ a.len) = [] := List.eq_nil_of_length_eq_zero (by rw [hc1]; omega)
            rw [this]
            rfl
        · rw [cutL_left _ _ _ _ (by rw [hal]; omega), show min fr a.len = fr by omega, show min to_ a.len = to_ by omega]
          have : cutL b.text (fr - a.len) (to_ - a.len) = [] := List.eq_nil_of_length_eq_zero (by unfold cutL; simp; omega)
          rw [this, List.append_nil]
      · by_cases k : fr ≤ a.len
        · rw [show min fr a.len = fr by omega] at h2 h1 hc1 ⊢
          refine run_app _ _ _ h2 ?_
          rw [h1, hc1]
          by_cases k1 : to_ ≤ a.len
          · have e : pcs b (at_ + a.len) (fr - a.len) (to_ - a.len) = [] := by
              rw [show to_ - a.len = 0 by omega]
              cases b <;> simp [pcs]
            rw [e]
            trivial
          · rw [show at_ + fr + (min to_ a.len - fr) = at_ + a.len + (fr - a.len) by omega]
            exact h4
        · have e : pcs a at_ (min fr a.len) (min to_ a.len) = [] := by
            rw [show min fr a.len = a.len by omega, show min to_ a.len = a.len by omega]
            cases a <;> simp [pcs]
          rw [e, List.nil_append]
          rw [show at_ + a.len + (fr - a.len) = at_ + fr by omega] at h4
          exact h4
    · rw [if_neg hc]
      refine ⟨?_, trivial⟩
      unfold cutL
      rw [show to_ - fr = 0 by omega, List.take_zero]
      rfl
theorem run_len : ∀ (l : List (Nat × List UInt8)) (p : Nat), Run p l → l.length ≤ (joinP l).length
  | [], _, _ => Nat.zero_le _
  | q :: l, p, ⟨_, h2, h3⟩ => by
    have h4 := run_len l _ h3
    have h5 : 0 < q.2.length := List.length_pos_iff.2 h2
    have e : (joinP (q :: l)).length = q.2.length + (joinP l).length := by simp [joinP]
    rw [e, List.length_cons]
    omega
theorem run_mem : ∀ (l : List (Nat × List UInt8)) (p : Nat), Run p l → ∀ q ∈ l, p ≤ q.1 ∧ q.1 + q.2.length ≤ p + (joinP l).length
  | [], _, _ => fun q h => by cases h
  | r :: l, p, ⟨h1, h2, h3⟩ => fun q h => by
    have e : (joinP (r :: l)).length = r.2.length + (joinP l).length := by simp [joinP]
    rw [e]
    rcases List.mem_cons.1 h with rfl | h
    · omega
    · have := run_mem l _ h3 q h
      omega
def clipA (n : Nat) : Nat := min n 4398046511104
def clipS (l : List UInt8) : List UInt8 := l.take 2097152
/-- what a round is handed -/
def encP (x : Nat × List UInt8) : Array Value := #[.int .i64 (clipA x.1), .string (str (clipS x.2))]
theorem clipA_le (n : Nat) : clipA n ≤ 4398046511104 := Nat.min_le_right _ _
theorem clipS_le (l : List UInt8) : (clipS l).length ≤ 2097152 := by unfold clipS; rw [List.length_take]; omega
theorem clipA_of (n : Nat) (h : n ≤ 4398046511104) : clipA n = n := by unfold clipA; omega
theorem clipS_of (l : List UInt8) (h : l.length ≤ 2097152) : clipS l = l := List.take_of_length_le h
end Go.Proofs.Ytjoeebjmjnddoaa
