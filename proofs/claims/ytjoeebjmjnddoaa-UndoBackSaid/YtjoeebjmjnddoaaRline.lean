/- package rope: Line, LineAt. -/
import Derived.Test.YtjoeebjmjnddoaaRmeth
namespace Go.Proofs.Ytjoeebjmjnddoaa
open Go.RowKit Go.Shelf
/-- a line: its place, its length -/
def lineL (l : List UInt8) (i : Int) : Int × Int :=
  if i < 0 ∨ (nl l : Int) + 1 ≤ i then (0, 0)
  else if i = nl l then ((feedL i.toNat l : Int), (l.length : Int) - feedL i.toNat l)
  else ((feedL i.toNat l : Int), (feedL (i.toNat + 1) l : Int) - 1 - feedL i.toNat l)
set_option maxRecDepth 20000 in
set_option maxHeartbeats 4000000 in
theorem line_out (rb : Nat) (t : Rp) (st i : Int) (w : World) (h : RopeAt w rb t st) (hi : i < 0 ∨ (t.nls : Int) + 1 ≤ i) : Calls Try.prog 24 #[.pointer (some ⟨rb, 0, none⟩), .int .i64 i] w fun e w' => e = .returned (.tuple #[.int .i64 0, .int .i64 0]) ∧ Stay [] w w' := by
  have HL := Lib.hid (lines_any rb t st w h)
  obtain ⟨n, hn⟩ : ∃ n, n = t.nls := ⟨_, rfl⟩
  rw [← hn] at HL hi
  clear h hn
  rcases hi with h1 | h1
  · go_enter Try.func24, Try.ntmps24
    go_wp2_with fail
    go_ret2
    exact ⟨rfl, Stay.refl _ _⟩
  · have h2 : ¬ i < 0 := by omega
    go_enter Try.func24, Try.ntmps24
    go_wp2_with fail
    refine HL.out.mono ?_
    rintro e w1 ⟨rfl, hs⟩
    have HS := Lib.hid hs
    clear hs
    go_wp2_with fail
    go_ret2
    exact ⟨rfl, HS.out⟩
set_option maxRecDepth 20000 in
set_option maxHeartbeats 4000000 in
theorem line_in (rb : Nat) (t : Rp) (st : Int) (i : Nat) (w : World) (h : RopeAt w rb t st) (hi : i ≤ t.nls) : Calls Try.prog 24 #[.pointer (some ⟨rb, 0, none⟩), .int .i64 i] w fun e w' => e = .returned (.tuple #[.int .i64 (lineL t.text i).1, .int .i64 (lineL t.text i).2]) ∧ Stay [] w w' := by
  have HL := Lib.hid (fun u (hs : Stay [] w u) => lines_any rb t st u (h.stay0 hs))
  have HN := Lib.hid (fun u (hs : Stay [] w u) => len_any rb t st u (h.stay0 hs))
  obtain ⟨v, hr, hn, hl⟩ := h
  have c0 : w.cell? ⟨rb, 0, none⟩ = some v := by rw [cell_of_row w rb 0 _ 77 (0, 0) hr]; rfl
  have HKc := Lib.hid (show ∀ u, Stay [] w u → u.cell? ⟨rb, 0, none⟩ = some v from fun u hs => (hs.cell_ (a := ⟨rb, 0, none⟩) (World.block_lt_of_cell? _ _ c0) (by simp)).trans c0)
  have HF := Lib.hid (fun u j (hj : j ≤ t.nls) (hs : Stay [] w u) => feed_any t v u j (hn.stay hs (NoPair.nil w)) hj (by omega))
  have hn1 : t.nls ≤ t.len := nl_le _
  have hf1 := feedL_le t.text i hi
  have HR := Lib.hid (show ∀ a b : Int, ((i = t.nls ∧ a = feedL i t.text ∧ b = (t.len : Int) - feedL i t.text) ∨ (i < t.nls ∧ a = feedL i t.text ∧ b = (feedL (i + 1) t.text : Int) - 1 - feedL i t.text)) → ((lineL t.text i).1 = a ∧ (lineL t.text i).2 = b) from fun a b hab => by
    unfold lineL
    have hx : nl t.text = t.nls := rfl
    rw [if_neg (by rw [hx]; omega), hx]
    rcases hab with ⟨h1, h2, h3⟩ | ⟨h1, h2, h3⟩
    · rw [if_pos (by omega), h2, h3]
      exact ⟨rfl, rfl⟩
    · rw [if_neg (by omega), h2, h3]
      exact ⟨rfl, rfl⟩)
  have hf2 := fun (h : i < t.nls) => feedL_le t.text (i + 1) h
  obtain ⟨L, hL⟩ : ∃ L, L = t.len := ⟨_, rfl⟩
  have hLt : t.text.length = L := hL.symm
  obtain ⟨n, hne⟩ : ∃ n, n = t.nls := ⟨_, rfl⟩
  obtain ⟨a, ha⟩ : ∃ a, a = feedL i t.text := ⟨_, rfl⟩
  have HFa := Lib.hid (fun u (hs : Stay [] w u) => HF.out u i hi hs)
  rw [← ha] at HFa HR hf1
  rw [hLt] at hf1 hf2
  rw [← hL] at HN HR hn1 hl
  rw [← hne] at HL HF HR hi hn1 hf2
  have HRa := Lib.hid HR.out
  have h0 : ¬ (i : Int) < 0 := by omega
  have h1 : ¬ (n : Int) + 1 ≤ i := by omega
  have h2 : (n : Int) ≤ 1048576 := by omega
  have h3 : (a : Int) ≤ 1048576 := by omega
  have h4 : (L : Int) ≤ 1048576 := by omega
  obtain ⟨x, hx⟩ : ∃ x, x = (lineL t.text i).1 := ⟨_, rfl⟩
  obtain ⟨y, hy⟩ : ∃ y, y = (lineL t.text i).2 := ⟨_, rfl⟩
  rw [← hx, ← hy] at HRa ⊢
  clear HR hx hy
  by_cases hz : i = 0
  · have ha0 : a = 0 := by rw [ha, hz, feedL_zero]
    clear ha hne hL hLt hr hn hl HFa
    subst hz
    rw [ha0] at HRa
    rw [Int.natCast_zero] at *
    by_cases hl2 : n = 0
    · subst hl2
      obtain ⟨e1, e2⟩ := HRa.out 0 ((L : Int) - 0) (.inl ⟨rfl, rfl, by simp⟩)
      have HE := Lib.hid (And.intro e1 e2)
      clear e1 e2 hf2 HF ha0 h3 hf1
      rw [Int.natCast_zero] at HL
      go_enter Try.func24, Try.ntmps24
      go_wp2_with fail
      refine (HL.out _ (Stay.refl _ _)).mono ?_
      rintro e w1 ⟨rfl, hs⟩
      have HS1 := Lib.hid hs
      have c0 := HKc.out w1 hs
      clear hs
      go_wp2_with fail
      refine (HL.out _ HS1.out).mono ?_
      rintro e w3 ⟨rfl, hs⟩
      have HS3 := Lib.hid (HS1.out.trans hs)
      clear hs HS1
      go_wp2_with fail
      refine (HN.out _ HS3.out).mono ?_
      rintro e w4 ⟨rfl, hs⟩
      have HS4 := Lib.hid (HS3.out.trans hs)
      clear hs HS3
      go_wp2_with fail
      go_ret2
      exact ⟨by rw [HE.out.1, HE.out.2]; simp, HS4.out⟩
    · have hf3 := hf2 (by omega)
      have HFb := Lib.hid (fun u (hs : Stay [] w u) => HF.out u (0 + 1) (by omega) hs)
      obtain ⟨b, hb⟩ : ∃ b, b = feedL (0 + 1) t.text := ⟨_, rfl⟩
      obtain ⟨e1, e2⟩ := HRa.out 0 ((b : Int) - 1 - 0) (.inr ⟨by omega, rfl, by rw [hb]⟩)
      rw [← hb] at HFb hf3
      have HE := Lib.hid (And.intro e1 e2)
      have h6 : (b : Int) ≤ 1048576 := by omega
      have h7 : 0 < (n : Int) := by omega
      rw [show ((0 + 1 : Nat) : Int) = 1 from rfl] at HFb
      clear e1 e2 hf2 HF hb hl2 ha0 h3 hf1
      go_enter Try.func24, Try.ntmps24
      go_wp2_with fail
      refine (HL.out _ (Stay.refl _ _)).mono ?_
      rintro e w1 ⟨rfl, hs⟩
      have HS1 := Lib.hid hs
      have c0 := HKc.out w1 hs
      clear hs
      go_wp2_with fail
      refine (HL.out _ HS1.out).mono ?_
      rintro e w3 ⟨rfl, hs⟩
      have HS3 := Lib.hid (HS1.out.trans hs)
      have c0 := HKc.out w3 HS3.out
      clear hs HS1
      go_wp2_with fail
      refine (HFb.out _ HS3.out).mono ?_
      rintro e w4 ⟨rfl, hs⟩
      have HS4 := Lib.hid (HS3.out.trans hs)
      clear hs HS3
      go_wp2_with fail
      go_ret2
      exact ⟨by rw [HE.out.1, HE.out.2]; simp, HS4.out⟩
  · have h5 : 0 < (i : Int) := by omega
    clear ha hne hL hLt hr hn hl
    by_cases hl2 : i = n
    · subst hl2
      obtain ⟨e1, e2⟩ := HRa.out a ((L : Int) - a) (.inl ⟨rfl, rfl, rfl⟩)
      have HE := Lib.hid (And.intro e1 e2)
      clear e1 e2 hf2 HF
      go_enter Try.func24, Try.ntmps24
      go_wp2_with fail
      refine (HL.out _ (Stay.refl _ _)).mono ?_
      rintro e w1 ⟨rfl, hs⟩
      have HS1 := Lib.hid hs
      have c0 := HKc.out w1 hs
      clear hs
      go_wp2_with fail
      refine (HFa.out _ HS1.out).mono ?_
      rintro e w2 ⟨rfl, hs⟩
      have HS2 := Lib.hid (HS1.out.trans hs)
      clear hs HS1
      go_wp2_with fail
      refine (HL.out _ HS2.out).mono ?_
      rintro e w3 ⟨rfl, hs⟩
      have HS3 := Lib.hid (HS2.out.trans hs)
      clear hs HS2
      go_wp2_with fail
      refine (HN.out _ HS3.out).mono ?_
      rintro e w4 ⟨rfl, hs⟩
      have HS4 := Lib.hid (HS3.out.trans hs)
      clear hs HS3
      go_wp2_with fail
      go_ret2
      exact ⟨by rw [HE.out.1, HE.out.2]; simp, HS4.out⟩
    · have hf3 := hf2 (by omega)
      have HFb := Lib.hid (fun u (hs : Stay [] w u) => HF.out u (i + 1) (by omega) hs)
      obtain ⟨b, hb⟩ : ∃ b, b = feedL (i + 1) t.text := ⟨_, rfl⟩
      obtain ⟨e1, e2⟩ := HRa.out a ((b : Int) - 1 - a) (.inr ⟨by omega, rfl, by rw [hb]⟩)
      rw [← hb] at HFb hf3
      have HE := Lib.hid (And.intro e1 e2)
      have hne2 : ¬ (i : Int) = n := by omega
      have h6 : (b : Int) ≤ 1048576 := by omega
      have h7 : (i : Int) < n := by omega
      have hcast : ((i + 1 : Nat) : Int) = (i : Int) + 1 := by omega
      rw [hcast] at HFb
      clear e1 e2 hf2 HF hb hcast hl2
      go_enter Try.func24, Try.ntmps24
      go_wp2_with fail
      refine (HL.out _ (Stay.refl _ _)).mono ?_
      rintro e w1 ⟨rfl, hs⟩
      have HS1 := Lib.hid hs
      have c0 := HKc.out w1 hs
      clear hs
      go_wp2_with fail
      refine (HFa.out _ HS1.out).mono ?_
      rintro e w2 ⟨rfl, hs⟩
      have HS2 := Lib.hid (HS1.out.trans hs)
      clear hs HS1
      go_wp2_with fail
      refine (HL.out _ HS2.out).mono ?_
      rintro e w3 ⟨rfl, hs⟩
      have HS3 := Lib.hid (HS2.out.trans hs)
      have c0 := HKc.out w3 HS3.out
      clear hs HS2
      go_wp2_with fail
      refine (HFb.out _ HS3.out).mono ?_
      rintro e w4 ⟨rfl, hs⟩
      have HS4 := Lib.hid (HS3.out.trans hs)
      clear hs HS3
      go_wp2_with fail
      go_ret2
      exact ⟨by rw [HE.out.1, HE.out.2]; simp, HS4.out⟩
end Go.Proofs.Ytjoeebjmjnddoaa
