/- shuttlelaw18: RopeLines: a call of Do whatever the edit; a line's place. -/
import Derived.Test.YtjoeebjmjnddoaaRopen2
namespace Go.Proofs.Ytjoeebjmjnddoaa
open Go.RowKit
/-- a stamp -/
def U64 (x : Int) : Prop := 0 ≤ x ∧ x < 18446744073709551616
theorem u64_wrap (x : Int) : U64 (IntKind.u64.wrap x) := by
  unfold U64 IntKind.wrap
  simp only [IntKind.bits, IntKind.signed]
  have h1 := Int.emod_nonneg x (show (2 : Int) ^ 64 ≠ 0 by decide)
  have h2 := Int.emod_lt_of_pos x (show (0 : Int) < 2 ^ 64 by decide)
  simp at h1 h2 ⊢
  omega
theorem bytes_length (s : ByteArray) : s.data.toList.length = s.size := by show s.data.toList.length = s.data.size; exact Array.length_toList
/-- the edit fits the text -/
def Fits (e : Ed) (L : Nat) : Prop := 0 ≤ e.a ∧ 0 ≤ e.d ∧ e.a + e.d ≤ L ∧ (e.s.size : Int) ≤ 1048576 - ((L : Int) - e.d)
def Ed.val (e : Ed) : Value := .agg #[.int .i64 e.a, .int .i64 e.d, .string e.s]
def noEd : Value := .agg #[.int .i64 0, .int .i64 0, .string ⟨#[]⟩]
theorem do_fits (rb : Nat) (t : Rp) (st : Int) (e : Ed) (w : World) (h : RopeAt w rb t st) (hst : U64 st) (hf : Fits e t.len) :
    Calls Try.prog 21 #[.pointer (some ⟨rb, 0, none⟩), e.val] w (DoneAt w rb t st e.a.toNat e.d.toNat e.s.data.toList) := by
  obtain ⟨a, d, s⟩ := e
  obtain ⟨h1, h2, h3, h4⟩ := hf
  dsimp only at h1 h2 h3 h4 ⊢
  have hb := bytes_length s
  have hl := h.len
  have := do_ok rb t st a.toNat d.toNat s.data.toList w h hst (by omega) (by omega)
  rw [Int.toNat_of_nonneg h1, Int.toNat_of_nonneg h2, str_of] at this
  exact this
theorem do_not (rb : Nat) (t : Rp) (st : Int) (e : Ed) (w : World) (h : RopeAt w rb t st) (ho : e.OK) (hf : ¬ Fits e t.len) :
    ∃ er : Int, er ≠ 0 ∧ Calls Try.prog 21 #[.pointer (some ⟨rb, 0, none⟩), e.val] w fun e' w' => e' = .returned (.tuple #[noEd, .int .i64 er]) ∧ Below w.heap.size w w' := by
  have ha := ho.a
  have hd := ho.d
  unfold I64 at ha hd
  unfold Fits at hf
  by_cases hc : e.a < 0 ∨ (t.len : Int) < e.a ∨ e.d < 0 ∨ (t.len : Int) - e.a < e.d
  · exact ⟨180, by decide, do_refused rb t st e.a e.d e.s w h ha hd 180 (.inl ⟨hc, rfl⟩)⟩
  · exact ⟨3, by decide, do_refused rb t st e.a e.d e.s w h ha hd 3 (.inr ⟨by omega, rfl⟩)⟩
/-- Do, whatever the edit -/
theorem do_any (rb : Nat) (t : Rp) (st : Int) (e : Ed) (w : World) (h : RopeAt w rb t st) (hst : U64 st) (ho : e.OK) :
    Calls Try.prog 21 #[.pointer (some ⟨rb, 0, none⟩), e.val] w fun e' w' => ∃ v t' st', e' = .returned v ∧ RopeAt w' rb t' st' ∧ U64 st' ∧ Stay [rb] w w' := by
  by_cases hf : Fits e t.len
  · refine (do_fits rb t st e w h hst hf).mono ?_
    rintro e' w' ⟨h1, ⟨t', h2, _⟩, h3⟩
    exact ⟨_, t', _, h1, h2, u64_wrap _, h3⟩
  · obtain ⟨er, _, hc⟩ := do_not rb t st e w h ho hf
    refine hc.mono ?_
    rintro e' w' ⟨h1, h2⟩
    exact ⟨_, t, st, h1, h.below h2, hst, Stay.below h2⟩
theorem nl_consIf (c : UInt8) (l : List UInt8) : nl (c :: l) = if c = 10 then nl l + 1 else nl l := by
  unfold nl
  rw [List.count_cons]
  by_cases h : c = 10
  · simp [h]
  · simp [h]
theorem feedL_succ (c : UInt8) (l : List UInt8) (i : Nat) : feedL (i + 1) (c :: l) = if c = 10 then 1 + feedL i l else 1 + feedL (i + 1) l := by rw [feedL]
theorem nl_feed : ∀ (l : List UInt8) (i : Nat), i ≤ nl l → nl (l.take (feedL i l)) = i
  | l, 0, _ => by rw [feedL_zero]; rfl
  | [], i + 1, h => by simp [nl] at h
  | c :: l, i + 1, h => by
    rw [nl_consIf] at h
    rw [feedL_succ]
    split
    · rename_i hc
      rw [if_pos hc] at h
      rw [Nat.add_comm 1, List.take_succ_cons, nl_consIf, if_pos hc, nl_feed l i (by omega)]
    · rename_i hc
      rw [if_neg hc] at h
      rw [Nat.add_comm 1, List.take_succ_cons, nl_consIf, if_neg hc, nl_feed l (i + 1) h]
theorem feed_next : ∀ (l : List UInt8) (i : Nat), i < nl l → feedL i l < feedL (i + 1) l ∧ l[feedL (i + 1) l - 1]? = some 10 ∧ nl (l.take (feedL (i + 1) l - 1)) = i
  | [], i, h => by simp [nl] at h
  | c :: l, i, h => by
    rw [nl_consIf] at h
    rw [feedL_succ]
    by_cases hc : c = 10
    · rw [if_pos hc] at h ⊢
      rw [Nat.add_sub_cancel_left]
      cases i with
      | zero => rw [feedL_zero, feedL_zero]; exact ⟨by omega, by rw [hc]; rfl, rfl⟩
      | succ j =>
        obtain ⟨h1, h2, h3⟩ := feed_next l j (by omega)
        rw [feedL_succ, if_pos hc]
        obtain ⟨m, hm⟩ : ∃ m, feedL (j + 1) l = m + 1 := ⟨feedL (j + 1) l - 1, by omega⟩
        rw [hm] at h1 h2 h3 ⊢
        exact ⟨by omega, by simpa using h2, by rw [List.take_succ_cons, nl_consIf, if_pos hc]; simpa using h3⟩
    · rw [if_neg hc] at h ⊢
      rw [Nat.add_sub_cancel_left]
      obtain ⟨h1, h2, h3⟩ := feed_next l i h
      obtain ⟨m, hm⟩ : ∃ m, feedL (i + 1) l = m + 1 := ⟨feedL (i + 1) l - 1, by omega⟩
      rw [hm] at h1 h2 h3 ⊢
      refine ⟨?_, by simpa using h2, by rw [List.take_succ_cons, nl_consIf, if_neg hc]; simpa using h3⟩
      cases i with
      | zero => rw [feedL_zero]; omega
      | succ j => rw [feedL_succ, if_neg hc]; omega
/-- the i-th line: from a to z -/
theorem line_facts (l : List UInt8) (i : Nat) (h : i ≤ nl l) : ∃ a z : Nat, a = feedL i l ∧ a ≤ z ∧ z ≤ l.length ∧ lineL l i = ((a : Int), (z : Int) - a) ∧ nl (cutL l 0 a) = i ∧ nl (cutL l 0 z) = i ∧
    ((i = nl l ∧ z = l.length) ∨ (i < nl l ∧ z + 1 = feedL (i + 1) l ∧ l[z]? = some 10)) := by
  have hc : ∀ n, cutL l 0 n = l.take n := fun n => by simp [cutL]
  have h0 : ¬ ((i : Int) < 0 ∨ (nl l : Int) + 1 ≤ i) := by omega
  refine ⟨feedL i l, ?_⟩
  by_cases hi : i = nl l
  · refine ⟨l.length, rfl, feedL_le l i h, Nat.le_refl _, ?_, by rw [hc]; exact nl_feed l i h, by rw [hc, List.take_length]; exact hi.symm, .inl ⟨hi, rfl⟩⟩
    unfold lineL
    rw [if_neg h0, if_pos (by rw [hi])]
    rfl
  · obtain ⟨h1, h2, h3⟩ := feed_next l i (by omega)
    have h4 := feedL_le l (i + 1) (by omega)
    refine ⟨feedL (i + 1) l - 1, rfl, by omega, by omega, ?_, by rw [hc]; exact nl_feed l i h, by rw [hc]; exact h3, .inr ⟨by omega, by omega, h2⟩⟩
    unfold lineL
    rw [if_neg h0, if_neg (by omega)]
    simp only [Int.toNat_natCast]
    congr 1
    omega
end Go.Proofs.Ytjoeebjmjnddoaa
