/- package undo: add. -/
import Derived.Test.YtjoeebjmjnddoaaUbook
import Derived.Test.YtjoeebjmjnddoaaRlast
import Derived.BigRegion
namespace Go.Proofs.Ytjoeebjmjnddoaa
open Go.RowKit
set_option maxRecDepth 20000 in
set_option maxHeartbeats 16000000 in
theorem add_some (B g p : Nat) (gg oo m gc : Nat) (by_ : Int) (ged : List Ed) (a d : Int) (s : ByteArray) (w : World) (h0 : w.cell? ⟨g, p, none⟩ = some (.slice (some ⟨gg, oo, none⟩) m gc)) (h1 : w.cell? ⟨g, p + 1, none⟩ = some (.int .i64 by_)) (hfr : ∀ q, w.frozen? ⟨g, q, none⟩ = false)
    (hw : Win w B 37 3 (some ⟨gg, oo, none⟩) m gc (eds ged)) (hg : ∀ f ∈ Ab (some ⟨gg, oo, none⟩), f ≠ g) (hml : m ≤ 4096) (hB : B ≤ w.heap.size) (hby : 0 ≤ by_ ∧ by_ + s.size < 9223372036854775807) :
    Calls Try.prog 60 #[.pointer (some ⟨g, p, none⟩), .agg #[.int .i64 a, .int .i64 d, .string s]] w fun e w' => e = .returned (.tuple #[]) ∧ ∃ A' c' wm wn, Stay [] w wn ∧ Stay [] wn wm ∧ Win wm B 37 3 A' (m + 1) c' (eds ged ++ [.int .i64 a, .int .i64 d, .string s]) ∧ w' = ((wm.setCell ⟨g, p, none⟩ (.slice A' (m + 1) c')).setCell ⟨g, p + 1, none⟩ (.int .i64 (by_ + s.size))).drew := by
  have hsum : IntKind.i64.wrap (by_ + s.size) = by_ + s.size := by simp only [IntKind.wrap, IntKind.bits, IntKind.signed]; simp; omega
  have HWf := Lib.hid (hw.front m (Nat.le_refl _))
  rw [show (eds ged).take (m * 3) = eds ged from List.take_of_length_le (by rw [hw.1]; exact Nat.le_refl _)] at HWf
  obtain ⟨i37, hi, hz, hs, hy⟩ := info_parts info37
  have HI := Lib.hid (And.intro hi (And.intro hz (And.intro hs hy)))
  have h63 : m + 1 ≤ maxLen := by simp only [maxLen]; omega
  have hb32 : (m + 1) * 32 ≤ 140737488355328 := by omega
  have HM := Lib.hid (And.intro h63 hb32)
  have hgc := hw.2.1
  clear hi hz hs hy h63 hb32
  have hgl := World.block_lt_of_cell? _ _ h0
  simp only at hgl
  obtain ⟨W1, hW1⟩ : ∃ W, W = w.alloc (.cells #[.int .i64 a, .int .i64 d, .string s] 37) := ⟨_, rfl⟩
  have HS1 := Lib.hid (show Stay [] w W1 from by rw [hW1]; exact Stay.alloc _ _)
  have hbx : Blk W1 w.heap.size [.int .i64 a, .int .i64 d, .string s] 37 := by rw [hW1]; exact Blk.new w _ _
  have HW1 := Lib.hid hW1
  obtain ⟨b1, hb1⟩ : ∃ b, b = w.heap.size := ⟨_, rfl⟩
  rw [← hb1] at hbx
  have HBx := Lib.hid hbx
  have HWf := Lib.hid (HWf.out.stay0 HS1.out)
  have HBw := Lib.hid (show B ≤ W1.drew.heap.size from Nat.le_trans hB HS1.out.size)
  have HSd := Lib.hid (Stay.drew (F := []) W1)
  have hne : b1 ≠ g := by omega
  have HK4 := Lib.hid (show ∀ u, Stay [] W1 u → u.cell? ⟨g, p, none⟩ = some (.slice (some ⟨gg, oo, none⟩) m gc) ∧ u.cell? ⟨b1, 0, none⟩ = some (.int .i64 a) ∧ u.cell? ⟨b1, 1, none⟩ = some (.int .i64 d) ∧ u.cell? ⟨b1, 2, none⟩ = some (.string s) from fun u hs => by
    have h2 := HBx.out.stay hs (by simp)
    have hsw := HS1.out.trans hs
    exact ⟨(hsw.cell_ (a := ⟨g, p, none⟩) hgl (by simp)).trans h0, h2.cell 0, h2.cell 1, h2.cell 2⟩)
  have HK5 := Lib.hid (show ∀ u v, Stay [] W1 u → Stay (Ab (some ⟨gg, oo, none⟩)) u v → v.cell? ⟨g, p, none⟩ = some (.slice (some ⟨gg, oo, none⟩) m gc) ∧ v.cell? ⟨b1, 0, none⟩ = some (.int .i64 a) ∧ v.cell? ⟨b1, 1, none⟩ = some (.int .i64 d) ∧ v.cell? ⟨b1, 2, none⟩ = some (.string s) from fun u v hs hv => by
    obtain ⟨k0, k1, k2, k3⟩ := HK4.out u hs
    have hk : ∀ (f j : Nat) (x : Value), u.cell? ⟨f, j, none⟩ = some x → f ∉ Ab (some ⟨gg, oo, none⟩) → v.cell? ⟨f, j, none⟩ = some x := fun f j x hx hn => (hv.cell_ (a := ⟨f, j, none⟩) (World.block_lt_of_cell? _ _ hx) hn).trans hx
    have hg1 : g ∉ Ab (some ⟨gg, oo, none⟩) := fun hm => hg g hm rfl
    have hb1' : b1 ∉ Ab (some ⟨gg, oo, none⟩) := fun hm => by have := (hw.ab b1 hm).2.1; omega
    exact ⟨hk _ _ _ k0 hg1, hk _ _ _ k1 hb1', hk _ _ _ k2 hb1', hk _ _ _ k3 hb1'⟩)
  have HFr := Lib.hid (show ∀ u v, Stay [] W1 u → Stay (Ab (some ⟨gg, oo, none⟩)) u v → v.frozen? ⟨g, p, none⟩ = false from fun u v hs hv => by
    have h1 := (HS1.out.trans hs).block g hgl (by simp)
    have h2 := hv.block g (Nat.lt_of_lt_of_le hgl (HS1.out.trans hs).size) (fun hm => hg g hm rfl)
    have h3 := hfr p
    unfold World.frozen? at h3 ⊢
    rw [h2, h1]
    exact h3)
  have HK6 := Lib.hid (show ∀ u v x, Stay [] W1 u → Stay (Ab (some ⟨gg, oo, none⟩)) u v → ((v.setCell ⟨g, p, none⟩ x).drew.cell? ⟨g, p + 1, none⟩ = some (.int .i64 by_) ∧ (v.setCell ⟨g, p, none⟩ x).drew.frozen? ⟨g, p + 1, none⟩ = false ∧ (v.setCell ⟨g, p, none⟩ x).drew.cell? ⟨b1, 2, none⟩ = some (.string s)) from fun u v x hs hv => by
    have hsw := HS1.out.trans hs
    have hg1 : g ∉ Ab (some ⟨gg, oo, none⟩) := fun hm => hg g hm rfl
    have e1 : v.cell? ⟨g, p + 1, none⟩ = some (.int .i64 by_) := ((hv.cell_ (a := ⟨g, p + 1, none⟩) (Nat.lt_of_lt_of_le hgl hsw.size) hg1).trans (hsw.cell_ (a := ⟨g, p + 1, none⟩) hgl (by simp))).trans h1
    have e2 := (HK5.out u v hs hv).2.2.2
    have e3 : v.frozen? ⟨g, p + 1, none⟩ = false := by
      have h1 := hsw.block g hgl (by simp)
      have h2 := hv.block g (Nat.lt_of_lt_of_le hgl hsw.size) hg1
      have h3 := hfr (p + 1)
      unfold World.frozen? at h3 ⊢
      rw [h2, h1]
      exact h3
    refine ⟨?_, ?_, ?_⟩
    · show (v.setCell ⟨g, p, none⟩ x).cell? ⟨g, p + 1, none⟩ = _
      rw [World.cell?_setCell_other _ _ _ _ (by intro e; injection e with _ e2; omega)]
      exact e1
    · show (v.setCell ⟨g, p, none⟩ x).frozen? ⟨g, p + 1, none⟩ = _
      rw [World.frozen?_setCell]
      exact e3
    · show (v.setCell ⟨g, p, none⟩ x).cell? ⟨b1, 2, none⟩ = _
      rw [World.cell?_setCell_other _ _ _ _ (by intro e; injection e with e1 _; exact hne e1.symm)]
      exact e2)
  have HBe := Lib.hid hb1
  clear h0 h1 hfr hw hg hB hby hW1 hbx hb1 hgl hne
  go_enter Try.func60, Try.ntmps60
  go_upto_region 1 with fail
  rw [← HW1.out, ← HBe.out]
  go_cut [] (fun wx => ∃ A' c' wm wn, Hid (Stay [] w wn ∧ Stay [] wn wm ∧ Win wm B 37 3 A' (m + 1) c' (eds ged ++ [.int .i64 a, .int .i64 d, .string s])) ∧ Hid ((wm.setCell ⟨g, p, none⟩ (.slice A' (m + 1) c')).drew.cell? ⟨g, p + 1, none⟩ = some (.int .i64 by_) ∧ (wm.setCell ⟨g, p, none⟩ (.slice A' (m + 1) c')).drew.frozen? ⟨g, p + 1, none⟩ = false ∧ (wm.setCell ⟨g, p, none⟩ (.slice A' (m + 1) c')).drew.cell? ⟨b1, 2, none⟩ = some (.string s)) ∧ wx = wm.setCell ⟨g, p, none⟩ (.slice A' (m + 1) c'))
  case first =>
    have hHeld : (fun w' : World => w'.cell? ⟨g, p, none⟩ = some (.slice (some ⟨gg, oo, none⟩) m gc) ∧ w'.cell? ⟨b1, 0, none⟩ = some (.int .i64 a) ∧ w'.cell? ⟨b1, 1, none⟩ = some (.int .i64 d) ∧ w'.cell? ⟨b1, 2, none⟩ = some (.string s)) W1.drew := HK4.out _ HSd.out
    refine AnyL.begin_ (S := fun w' : World => w'.cell? ⟨g, p, none⟩ = some (.slice (some ⟨gg, oo, none⟩) m gc) ∧ w'.cell? ⟨b1, 0, none⟩ = some (.int .i64 a) ∧ w'.cell? ⟨b1, 1, none⟩ = some (.int .i64 d) ∧ w'.cell? ⟨b1, 2, none⟩ = some (.string s)) (n := 21) (by kernel_rfl) ?_
    refine AnyL.take (i := 0) (v := ?_) [19, 20, 21] rfl (by kernel_rfl) (by kernel_rfl) (by kernel_rfl) (by kernel_rfl) (fun _ _ _ h => h) (Or.inl ⟨by rfl, ?_⟩) hHeld ?_
    rotate_left
    · intro w hSw
      obtain ⟨k0, k1, k2, k3⟩ := hSw
      simp only [List.getElem_toArray, List.getElem_cons_zero]
      go_simp
      all_goals with_reducible rfl
    simp only [List.getElem_toArray, List.getElem_cons_zero, Act.put, List.setIfInBounds_toArray, List.set_cons_zero, List.set_cons_succ]
    refine AnyL.take (i := 1) (v := ?_) [2, 3, 4, 15, 18, 21] rfl (by kernel_rfl) (by kernel_rfl) (by kernel_rfl) (by kernel_rfl) (fun _ _ _ h => h) (Or.inl ⟨by rfl, ?_⟩) hHeld ?_
    rotate_left
    · intro w hSw
      obtain ⟨k0, k1, k2, k3⟩ := hSw
      simp only [List.getElem_toArray, List.getElem_cons_zero, List.getElem_cons_succ]
      go_simp
      all_goals with_reducible rfl
    simp only [List.getElem_toArray, List.getElem_cons_zero, List.getElem_cons_succ, Act.put, List.setIfInBounds_toArray, List.set_cons_zero, List.set_cons_succ]
    refine AnyL.take (i := 2) (v := ?_) [3, 4, 15, 18, 21] rfl (by kernel_rfl) (by kernel_rfl) (by kernel_rfl) (by kernel_rfl) (fun _ _ _ h => h) (Or.inl ⟨by rfl, ?_⟩) hHeld ?_
    rotate_left
    · intro w hSw
      obtain ⟨k0, k1, k2, k3⟩ := hSw
      simp only [List.getElem_toArray, List.getElem_cons_zero, List.getElem_cons_succ]
      go_simp
      all_goals with_reducible rfl
    simp only [List.getElem_toArray, List.getElem_cons_zero, List.getElem_cons_succ, Act.put, List.setIfInBounds_toArray, List.set_cons_zero, List.set_cons_succ]
    refine AnyL.take (i := 3) (v := ?_) [4, 15, 18, 21] rfl (by kernel_rfl) (by kernel_rfl) (by kernel_rfl) (by kernel_rfl) (fun _ _ _ h => h) (Or.inl ⟨by rfl, ?_⟩) hHeld ?_
    rotate_left
    · intro w hSw
      obtain ⟨k0, k1, k2, k3⟩ := hSw
      simp only [List.getElem_toArray, List.getElem_cons_zero, List.getElem_cons_succ]
      go_simp
      all_goals with_reducible rfl
    simp only [List.getElem_toArray, List.getElem_cons_zero, List.getElem_cons_succ, Act.put, List.setIfInBounds_toArray, List.set_cons_zero, List.set_cons_succ]
    refine AnyL.take (i := 4) (v := ?_) [15, 18, 21] rfl (by kernel_rfl) (by kernel_rfl) (by kernel_rfl) (by kernel_rfl) (fun _ _ _ h => h) (Or.inl ⟨by rfl, ?_⟩) hHeld ?_
    rotate_left
    · intro w hSw
      obtain ⟨k0, k1, k2, k3⟩ := hSw
      simp only [List.getElem_toArray, List.getElem_cons_zero, List.getElem_cons_succ]
      go_simp
      all_goals with_reducible rfl
    simp only [List.getElem_toArray, List.getElem_cons_zero, List.getElem_cons_succ, Act.put, List.setIfInBounds_toArray, List.set_cons_zero, List.set_cons_succ]
    refine AnyL.take (i := 5) (v := ?_) [6, 7, 8, 9, 15, 18, 21] rfl (by kernel_rfl) (by kernel_rfl) (by kernel_rfl) (by kernel_rfl) (fun _ _ _ h => h) (Or.inl ⟨by rfl, ?_⟩) hHeld ?_
    rotate_left
    · intro w hSw
      obtain ⟨k0, k1, k2, k3⟩ := hSw
      simp only [List.getElem_toArray, List.getElem_cons_zero, List.getElem_cons_succ]
      go_simp
      all_goals with_reducible rfl
    simp only [List.getElem_toArray, List.getElem_cons_zero, List.getElem_cons_succ, Act.put, List.setIfInBounds_toArray, List.set_cons_zero, List.set_cons_succ]
    refine AnyL.take (i := 6) (v := ?_) [7, 8, 9, 15, 18, 21] rfl (by kernel_rfl) (by kernel_rfl) (by kernel_rfl) (by kernel_rfl) (fun _ _ _ h => h) (Or.inl ⟨by rfl, ?_⟩) hHeld ?_
    rotate_left
    · intro w hSw
      obtain ⟨k0, k1, k2, k3⟩ := hSw
      simp only [List.getElem_toArray, List.getElem_cons_zero, List.getElem_cons_succ]
      go_simp
      all_goals with_reducible rfl
    simp only [List.getElem_toArray, List.getElem_cons_zero, List.getElem_cons_succ, Act.put, List.setIfInBounds_toArray, List.set_cons_zero, List.set_cons_succ]
    refine AnyL.take (i := 7) (v := ?_) [8, 9, 15, 18, 21] rfl (by kernel_rfl) (by kernel_rfl) (by kernel_rfl) (by kernel_rfl) (fun _ _ _ h => h) (Or.inl ⟨by rfl, ?_⟩) hHeld ?_
    rotate_left
    · intro w hSw
      obtain ⟨k0, k1, k2, k3⟩ := hSw
      simp only [List.getElem_toArray, List.getElem_cons_zero, List.getElem_cons_succ]
      go_simp
      all_goals with_reducible rfl
    simp only [List.getElem_toArray, List.getElem_cons_zero, List.getElem_cons_succ, Act.put, List.setIfInBounds_toArray, List.set_cons_zero, List.set_cons_succ]
    refine AnyL.take (i := 8) (v := ?_) [9, 15, 18, 21] rfl (by kernel_rfl) (by kernel_rfl) (by kernel_rfl) (by kernel_rfl) (fun _ _ _ h => h) (Or.inl ⟨by rfl, ?_⟩) hHeld ?_
    rotate_left
    · intro w hSw
      obtain ⟨k0, k1, k2, k3⟩ := hSw
      simp only [List.getElem_toArray, List.getElem_cons_zero, List.getElem_cons_succ]
      go_simp
      all_goals with_reducible rfl
    simp only [List.getElem_toArray, List.getElem_cons_zero, List.getElem_cons_succ, Act.put, List.setIfInBounds_toArray, List.set_cons_zero, List.set_cons_succ]
    refine AnyL.take (i := 9) (v := ?_) [15, 18, 21] rfl (by kernel_rfl) (by kernel_rfl) (by kernel_rfl) (by kernel_rfl) (fun _ _ _ h => h) (Or.inl ⟨by rfl, ?_⟩) hHeld ?_
    rotate_left
    · intro w hSw
      obtain ⟨k0, k1, k2, k3⟩ := hSw
      simp only [List.getElem_toArray, List.getElem_cons_zero, List.getElem_cons_succ]
      go_simp
      all_goals with_reducible rfl
    simp only [List.getElem_toArray, List.getElem_cons_zero, List.getElem_cons_succ, Act.put, List.setIfInBounds_toArray, List.set_cons_zero, List.set_cons_succ]
    refine AnyL.take (i := 10) (v := ?_) [11, 12, 13, 14, 15, 18, 21] rfl (by kernel_rfl) (by kernel_rfl) (by kernel_rfl) (by kernel_rfl) (fun _ _ _ h => h) (Or.inl ⟨by rfl, ?_⟩) hHeld ?_
    rotate_left
    · intro w hSw
      obtain ⟨k0, k1, k2, k3⟩ := hSw
      simp only [List.getElem_toArray, List.getElem_cons_zero, List.getElem_cons_succ]
      go_simp
      all_goals with_reducible rfl
    simp only [List.getElem_toArray, List.getElem_cons_zero, List.getElem_cons_succ, Act.put, List.setIfInBounds_toArray, List.set_cons_zero, List.set_cons_succ]
    refine AnyL.take (i := 11) (v := ?_) [12, 13, 14, 15, 18, 21] rfl (by kernel_rfl) (by kernel_rfl) (by kernel_rfl) (by kernel_rfl) (fun _ _ _ h => h) (Or.inl ⟨by rfl, ?_⟩) hHeld ?_
    rotate_left
    · intro w hSw
      obtain ⟨k0, k1, k2, k3⟩ := hSw
      simp only [List.getElem_toArray, List.getElem_cons_zero, List.getElem_cons_succ]
      go_simp
      all_goals with_reducible rfl
    simp only [List.getElem_toArray, List.getElem_cons_zero, List.getElem_cons_succ, Act.put, List.setIfInBounds_toArray, List.set_cons_zero, List.set_cons_succ]
    refine AnyL.take (i := 12) (v := ?_) [13, 14, 15, 18, 21] rfl (by kernel_rfl) (by kernel_rfl) (by kernel_rfl) (by kernel_rfl) (fun _ _ _ h => h) (Or.inl ⟨by rfl, ?_⟩) hHeld ?_
    rotate_left
    · intro w hSw
      obtain ⟨k0, k1, k2, k3⟩ := hSw
      simp only [List.getElem_toArray, List.getElem_cons_zero, List.getElem_cons_succ]
      go_simp
      all_goals with_reducible rfl
    simp only [List.getElem_toArray, List.getElem_cons_zero, List.getElem_cons_succ, Act.put, List.setIfInBounds_toArray, List.set_cons_zero, List.set_cons_succ]
    refine AnyL.take (i := 13) (v := ?_) [14, 15, 18, 21] rfl (by kernel_rfl) (by kernel_rfl) (by kernel_rfl) (by kernel_rfl) (fun _ _ _ h => h) (Or.inl ⟨by rfl, ?_⟩) hHeld ?_
    rotate_left
    · intro w hSw
      obtain ⟨k0, k1, k2, k3⟩ := hSw
      simp only [List.getElem_toArray, List.getElem_cons_zero, List.getElem_cons_succ]
      go_simp
      all_goals with_reducible rfl
    simp only [List.getElem_toArray, List.getElem_cons_zero, List.getElem_cons_succ, Act.put, List.setIfInBounds_toArray, List.set_cons_zero, List.set_cons_succ]
    refine AnyL.take (i := 14) (v := ?_) [15, 18, 21] rfl (by kernel_rfl) (by kernel_rfl) (by kernel_rfl) (by kernel_rfl) (fun _ _ _ h => h) (Or.inl ⟨by rfl, ?_⟩) hHeld ?_
    rotate_left
    · intro w hSw
      obtain ⟨k0, k1, k2, k3⟩ := hSw
      simp only [List.getElem_toArray, List.getElem_cons_zero, List.getElem_cons_succ]
      go_simp
      all_goals with_reducible rfl
    simp only [List.getElem_toArray, List.getElem_cons_zero, List.getElem_cons_succ, Act.put, List.setIfInBounds_toArray, List.set_cons_zero, List.set_cons_succ]
    refine AnyL.take (i := 15) (v := ?_) [18, 21] rfl (by kernel_rfl) (by kernel_rfl) (by kernel_rfl) (by kernel_rfl) (fun _ _ _ h => h) (Or.inl ⟨by rfl, ?_⟩) hHeld ?_
    rotate_left
    · intro w hSw
      obtain ⟨k0, k1, k2, k3⟩ := hSw
      simp only [List.getElem_toArray, List.getElem_cons_zero, List.getElem_cons_succ]
      go_simp
      all_goals with_reducible rfl
    simp only [List.getElem_toArray, List.getElem_cons_zero, List.getElem_cons_succ, Act.put, List.setIfInBounds_toArray, List.set_cons_zero, List.set_cons_succ]
    refine AnyL.take (i := 16) (v := ?_) [17, 18, 21] rfl (by kernel_rfl) (by kernel_rfl) (by kernel_rfl) (by kernel_rfl) (fun _ _ _ h => h) (Or.inl ⟨by rfl, ?_⟩) hHeld ?_
    rotate_left
    · intro w hSw
      obtain ⟨k0, k1, k2, k3⟩ := hSw
      simp only [List.getElem_toArray, List.getElem_cons_zero, List.getElem_cons_succ]
      go_simp
      all_goals with_reducible rfl
    simp only [List.getElem_toArray, List.getElem_cons_zero, List.getElem_cons_succ, Act.put, List.setIfInBounds_toArray, List.set_cons_zero, List.set_cons_succ]
    refine AnyL.next (i := 17) (by kernel_rfl) ?_
    refine wpOp_step rfl (fun K hK => ?_)
    have HK := Lib.hid hK
    clear hK
    simp only [List.getElem_toArray, List.getElem_cons_zero, List.getElem_cons_succ]
    rw [if_pos (by rfl)]
    go_wp2_with fail
    obtain ⟨Wn, hWn⟩ : ∃ W, W = (W1.alloc (.cells #[.int .i64 a, .int .i64 d, .string s] 37)).drew := ⟨_, rfl⟩
    have HSa := Lib.hid (show Stay [] W1 Wn from by rw [hWn]; exact (Stay.alloc (F := []) _ _).drew')
    have HNw := Lib.hid (show ∀ j u, [Value.int .i64 a, .int .i64 d, .string s][j]? = some u → Wn.cell? ((⟨W1.heap.size, 0, none⟩ : Addr).add j) = some u from by rw [hWn]; exact cells_new W1 [.int .i64 a, .int .i64 d, .string s] 37 W1.heap.size rfl)
    rw [← hWn]
    clear hWn
    have hqa := HK4.out _ HSa.out
    have HWw := Lib.hid ((HWf.out.stay0 HSa.out))
    have HSz := Lib.hid (show B ≤ Wn.heap.size from Nat.le_trans HBw.out HSa.out.size)
    refine HK.out _ _ ⟨.inr hqa, ?_⟩
    clear HK K
    refine AnyL.next (i := 18) (by kernel_rfl) ?_
    refine wpOp_step rfl (fun K hK => ?_)
    have HK := Lib.hid hK
    clear hK
    simp only [List.getElem_toArray, List.getElem_cons_zero, List.getElem_cons_succ]
    rw [if_pos (by rfl)]
    refine wp_append_full (.tmp 19) (.tmp 21) 44 rfl B 37 3 i37 _ 32 Try.underlying44 HI.out.1 HI.out.2.1 HI.out.2.2.1 HI.out.2.2.2 rfl (by omega) (some ⟨gg, oo, none⟩) m m (eds ged) rfl HWw.out ⟨W1.heap.size, 0, none⟩ 1 1 rfl [.int .i64 a, .int .i64 d, .string s] rfl (by omega) HNw.out (by simp [Value.oneCell']) HM.out.1 HM.out.2 HSz.out (by omega) ?_
    intro A' c' w5 hw5 hs5 ha5
    have HV5 := Lib.hid hw5
    have HT6 := Lib.hid hs5
    have HT5 := Lib.hid (hs5.mono (G := Ab (some ⟨gg, oo, none⟩)) (by simp))
    have hq5 := HK5.out _ _ HSa.out HT5.out
    clear hw5 hs5 ha5 hqa
    refine HK.out _ _ ⟨.inr hq5, ?_⟩
    clear HK K
    refine AnyL.take (i := 19) (v := ?_) [20, 21] rfl (by kernel_rfl) (by kernel_rfl) (by kernel_rfl) (by kernel_rfl) (fun _ _ _ h => h) (Or.inl ⟨by rfl, ?_⟩) hq5 ?_
    rotate_left
    · intro w hSw
      obtain ⟨k0, k1, k2, k3⟩ := hSw
      simp only [List.getElem_toArray, List.getElem_cons_zero, List.getElem_cons_succ]
      go_simp
      all_goals with_reducible rfl
    simp only [List.getElem_toArray, List.getElem_cons_zero, List.getElem_cons_succ, Act.put, List.setIfInBounds_toArray, List.set_cons_zero, List.set_cons_succ]
    refine AnyL.take (i := 20) (v := ?_) [21] rfl (by kernel_rfl) (by kernel_rfl) (by kernel_rfl) (by kernel_rfl) (fun _ _ _ h => h) (Or.inl ⟨by rfl, ?_⟩) hq5 ?_
    rotate_left
    · intro w hSw
      obtain ⟨k0, k1, k2, k3⟩ := hSw
      simp only [List.getElem_toArray, List.getElem_cons_zero, List.getElem_cons_succ]
      go_simp
      all_goals with_reducible rfl
    simp only [List.getElem_toArray, List.getElem_cons_zero, List.getElem_cons_succ, Act.put, List.setIfInBounds_toArray, List.set_cons_zero, List.set_cons_succ]
    refine AnyL.next (i := 21) (by kernel_rfl) ?_
    refine wpOp_step rfl (fun K hK => ?_)
    have HK := Lib.hid hK
    clear hK
    simp only [List.getElem_toArray, List.getElem_cons_zero, List.getElem_cons_succ]
    rw [if_pos (by rfl)]
    have f5 := HFr.out _ _ HSa.out HT5.out
    have hq50 := hq5.1
    go_wp2_with fail
    refine HK.out _ _ ⟨.inl (by first | rfl | trivial), ?_⟩
    clear HK K
    refine AnyL.done (by kernel_rfl) ?_ _
    go_wp2_with fail
    go_meet
    exact ⟨A', c', w5, Wn, ⟨HS1.out.trans HSa.out, HT6.out, HV5.out⟩, Lib.hid (HK6.out Wn w5 (.slice A' (m + 1) c') HSa.out HT5.out), rfl⟩
  case rest =>
    obtain ⟨A', c', wm, wn, HR, HQ, hwx⟩ := hcut
    have k0 := HQ.out.1
    have k1 := HQ.out.2.1
    have k2 := HQ.out.2.2
    rw [hwx]
    obtain ⟨W7, hW7⟩ : ∃ W, W = wm.setCell ⟨g, p, none⟩ (.slice A' (m + 1) c') := ⟨_, rfl⟩
    rw [← hW7] at k0 k1 k2 ⊢
    have HW7 := Lib.hid hW7
    clear hwx hW7 HQ
    go_upto_region 2 with fail
    have hHeld : (fun w' : World => w'.cell? ⟨g, p + 1, none⟩ = some (.int .i64 by_) ∧ w'.cell? ⟨b1, 2, none⟩ = some (.string s)) W7.drew := ⟨k0, k2⟩
    refine AnyL.begin_ (S := fun w' : World => w'.cell? ⟨g, p + 1, none⟩ = some (.int .i64 by_) ∧ w'.cell? ⟨b1, 2, none⟩ = some (.string s)) (n := 10) (by kernel_rfl) ?_
    refine AnyL.take (i := 0) (v := ?_) [8, 9, 10] rfl (by kernel_rfl) (by kernel_rfl) (by kernel_rfl) (by kernel_rfl) (fun _ _ _ h => h) (Or.inl ⟨by rfl, ?_⟩) hHeld ?_
    rotate_left
    · intro w hSw
      obtain ⟨k0, k1⟩ := hSw
      simp only [List.getElem_toArray, List.getElem_cons_zero]
      go_simp
      all_goals with_reducible rfl
    simp only [List.getElem_toArray, List.getElem_cons_zero, Act.put, List.setIfInBounds_toArray, List.set_cons_zero, List.set_cons_succ]
    refine AnyL.take (i := 1) (v := ?_) [2, 3, 7, 10] rfl (by kernel_rfl) (by kernel_rfl) (by kernel_rfl) (by kernel_rfl) (fun _ _ _ h => h) (Or.inl ⟨by rfl, ?_⟩) hHeld ?_
    rotate_left
    · intro w hSw
      obtain ⟨k0, k1⟩ := hSw
      simp only [List.getElem_toArray, List.getElem_cons_zero, List.getElem_cons_succ]
      go_simp
      all_goals with_reducible rfl
    simp only [List.getElem_toArray, List.getElem_cons_zero, List.getElem_cons_succ, Act.put, List.setIfInBounds_toArray, List.set_cons_zero, List.set_cons_succ]
    refine AnyL.take (i := 2) (v := ?_) [3, 7, 10] rfl (by kernel_rfl) (by kernel_rfl) (by kernel_rfl) (by kernel_rfl) (fun _ _ _ h => h) (Or.inl ⟨by rfl, ?_⟩) hHeld ?_
    rotate_left
    · intro w hSw
      obtain ⟨k0, k1⟩ := hSw
      simp only [List.getElem_toArray, List.getElem_cons_zero, List.getElem_cons_succ]
      go_simp
      all_goals with_reducible rfl
    simp only [List.getElem_toArray, List.getElem_cons_zero, List.getElem_cons_succ, Act.put, List.setIfInBounds_toArray, List.set_cons_zero, List.set_cons_succ]
    refine AnyL.take (i := 3) (v := ?_) [7, 10] rfl (by kernel_rfl) (by kernel_rfl) (by kernel_rfl) (by kernel_rfl) (fun _ _ _ h => h) (Or.inl ⟨by rfl, ?_⟩) hHeld ?_
    rotate_left
    · intro w hSw
      obtain ⟨k0, k1⟩ := hSw
      simp only [List.getElem_toArray, List.getElem_cons_zero, List.getElem_cons_succ]
      go_simp
      all_goals with_reducible rfl
    simp only [List.getElem_toArray, List.getElem_cons_zero, List.getElem_cons_succ, Act.put, List.setIfInBounds_toArray, List.set_cons_zero, List.set_cons_succ]
    refine AnyL.take (i := 4) (v := ?_) [5, 6, 7, 10] rfl (by kernel_rfl) (by kernel_rfl) (by kernel_rfl) (by kernel_rfl) (fun _ _ _ h => h) (Or.inl ⟨by rfl, ?_⟩) hHeld ?_
    rotate_left
    · intro w hSw
      obtain ⟨k0, k1⟩ := hSw
      simp only [List.getElem_toArray, List.getElem_cons_zero, List.getElem_cons_succ]
      go_simp
      all_goals with_reducible rfl
    simp only [List.getElem_toArray, List.getElem_cons_zero, List.getElem_cons_succ, Act.put, List.setIfInBounds_toArray, List.set_cons_zero, List.set_cons_succ]
    refine AnyL.take (i := 5) (v := ?_) [6, 7, 10] rfl (by kernel_rfl) (by kernel_rfl) (by kernel_rfl) (by kernel_rfl) (fun _ _ _ h => h) (Or.inl ⟨by rfl, ?_⟩) hHeld ?_
    rotate_left
    · intro w hSw
      obtain ⟨k0, k1⟩ := hSw
      simp only [List.getElem_toArray, List.getElem_cons_zero, List.getElem_cons_succ]
      go_simp
      all_goals with_reducible rfl
    simp only [List.getElem_toArray, List.getElem_cons_zero, List.getElem_cons_succ, Act.put, List.setIfInBounds_toArray, List.set_cons_zero, List.set_cons_succ]
    refine AnyL.take (i := 6) (v := ?_) [7, 10] rfl (by kernel_rfl) (by kernel_rfl) (by kernel_rfl) (by kernel_rfl) (fun _ _ _ h => h) (Or.inl ⟨by rfl, ?_⟩) hHeld ?_
    rotate_left
    · intro w hSw
      obtain ⟨k0, k1⟩ := hSw
      simp only [List.getElem_toArray, List.getElem_cons_zero, List.getElem_cons_succ]
      go_simp
      all_goals with_reducible rfl
    simp only [List.getElem_toArray, List.getElem_cons_zero, List.getElem_cons_succ, Act.put, List.setIfInBounds_toArray, List.set_cons_zero, List.set_cons_succ]
    refine AnyL.take (i := 7) (v := ?_) [10] rfl (by kernel_rfl) (by kernel_rfl) (by kernel_rfl) (by kernel_rfl) (fun _ _ _ h => h) (Or.inl ⟨by rfl, ?_⟩) hHeld ?_
    rotate_left
    · intro w hSw
      obtain ⟨k0, k1⟩ := hSw
      simp only [List.getElem_toArray, List.getElem_cons_zero, List.getElem_cons_succ]
      go_simp
      all_goals with_reducible rfl
    simp only [List.getElem_toArray, List.getElem_cons_zero, List.getElem_cons_succ, Act.put, List.setIfInBounds_toArray, List.set_cons_zero, List.set_cons_succ]
    refine AnyL.take (i := 8) (v := ?_) [9, 10] rfl (by kernel_rfl) (by kernel_rfl) (by kernel_rfl) (by kernel_rfl) (fun _ _ _ h => h) (Or.inl ⟨by rfl, ?_⟩) hHeld ?_
    rotate_left
    · intro w hSw
      obtain ⟨k0, k1⟩ := hSw
      simp only [List.getElem_toArray, List.getElem_cons_zero, List.getElem_cons_succ]
      go_simp
      all_goals with_reducible rfl
    simp only [List.getElem_toArray, List.getElem_cons_zero, List.getElem_cons_succ, Act.put, List.setIfInBounds_toArray, List.set_cons_zero, List.set_cons_succ]
    refine AnyL.take (i := 9) (v := ?_) [10] rfl (by kernel_rfl) (by kernel_rfl) (by kernel_rfl) (by kernel_rfl) (fun _ _ _ h => h) (Or.inl ⟨by rfl, ?_⟩) hHeld ?_
    rotate_left
    · intro w hSw
      obtain ⟨k0, k1⟩ := hSw
      simp only [List.getElem_toArray, List.getElem_cons_zero, List.getElem_cons_succ]
      go_simp
      all_goals with_reducible rfl
    simp only [List.getElem_toArray, List.getElem_cons_zero, List.getElem_cons_succ, Act.put, List.setIfInBounds_toArray, List.set_cons_zero, List.set_cons_succ]
    refine AnyL.next (i := 10) (by kernel_rfl) ?_
    refine wpOp_step rfl (fun K hK => ?_)
    have HK := Lib.hid hK
    clear hK
    simp only [List.getElem_toArray, List.getElem_cons_zero, List.getElem_cons_succ]
    rw [if_pos (by rfl)]
    go_wp2_with fail
    refine HK.out _ _ ⟨.inl (by first | rfl | trivial), ?_⟩
    clear HK K
    refine AnyL.done (by kernel_rfl) ?_ _
    go_wp2_with fail
    exact bodyPost_end (v := .tuple #[]) (by simp [results, Try.results60, go_sem]) rfl ⟨rfl, A', c', wm, wn, HR.out.1, HR.out.2.1, HR.out.2.2, by rw [HW7.out]⟩
set_option maxRecDepth 20000 in
set_option maxHeartbeats 16000000 in
theorem add_none (B g p : Nat) (by_ : Int) (ged : List Ed) (a d : Int) (s : ByteArray) (w : World) (h0 : w.cell? ⟨g, p, none⟩ = some (.slice none 0 0)) (h1 : w.cell? ⟨g, p + 1, none⟩ = some (.int .i64 by_)) (hfr : ∀ q, w.frozen? ⟨g, q, none⟩ = false)
    (hw : Win w B 37 3 none 0 0 (eds ged)) (hg : ∀ f ∈ Ab none, f ≠ g) (hml : 0 ≤ 4096) (hB : B ≤ w.heap.size) (hby : 0 ≤ by_ ∧ by_ + s.size < 9223372036854775807) :
    Calls Try.prog 60 #[.pointer (some ⟨g, p, none⟩), .agg #[.int .i64 a, .int .i64 d, .string s]] w fun e w' => e = .returned (.tuple #[]) ∧ ∃ A' c' wm wn, Stay [] w wn ∧ Stay [] wn wm ∧ Win wm B 37 3 A' (0 + 1) c' (eds ged ++ [.int .i64 a, .int .i64 d, .string s]) ∧ w' = ((wm.setCell ⟨g, p, none⟩ (.slice A' (0 + 1) c')).setCell ⟨g, p + 1, none⟩ (.int .i64 (by_ + s.size))).drew := by
  have hsum : IntKind.i64.wrap (by_ + s.size) = by_ + s.size := by simp only [IntKind.wrap, IntKind.bits, IntKind.signed]; simp; omega
  have HWf := Lib.hid (hw.front 0 (Nat.le_refl _))
  rw [show (eds ged).take (0 * 3) = eds ged from List.take_of_length_le (by rw [hw.1]; exact Nat.le_refl _)] at HWf
  obtain ⟨i37, hi, hz, hs, hy⟩ := info_parts info37
  have HI := Lib.hid (And.intro hi (And.intro hz (And.intro hs hy)))
  have h63 : 0 + 1 ≤ maxLen := by simp only [maxLen]; omega
  have hb32 : (0 + 1) * 32 ≤ 140737488355328 := by omega
  have HM := Lib.hid (And.intro h63 hb32)
  have hgc := hw.2.1
  clear hi hz hs hy h63 hb32
  have hgl := World.block_lt_of_cell? _ _ h0
  simp only at hgl
  obtain ⟨W1, hW1⟩ : ∃ W, W = w.alloc (.cells #[.int .i64 a, .int .i64 d, .string s] 37) := ⟨_, rfl⟩
  have HS1 := Lib.hid (show Stay [] w W1 from by rw [hW1]; exact Stay.alloc _ _)
  have hbx : Blk W1 w.heap.size [.int .i64 a, .int .i64 d, .string s] 37 := by rw [hW1]; exact Blk.new w _ _
  have HW1 := Lib.hid hW1
  obtain ⟨b1, hb1⟩ : ∃ b, b = w.heap.size := ⟨_, rfl⟩
  rw [← hb1] at hbx
  have HBx := Lib.hid hbx
  have HWf := Lib.hid (HWf.out.stay0 HS1.out)
  have HBw := Lib.hid (show B ≤ W1.drew.heap.size from Nat.le_trans hB HS1.out.size)
  have HSd := Lib.hid (Stay.drew (F := []) W1)
  have hne : b1 ≠ g := by omega
  have HK4 := Lib.hid (show ∀ u, Stay [] W1 u → u.cell? ⟨g, p, none⟩ = some (.slice none 0 0) ∧ u.cell? ⟨b1, 0, none⟩ = some (.int .i64 a) ∧ u.cell? ⟨b1, 1, none⟩ = some (.int .i64 d) ∧ u.cell? ⟨b1, 2, none⟩ = some (.string s) from fun u hs => by
    have h2 := HBx.out.stay hs (by simp)
    have hsw := HS1.out.trans hs
    exact ⟨(hsw.cell_ (a := ⟨g, p, none⟩) hgl (by simp)).trans h0, h2.cell 0, h2.cell 1, h2.cell 2⟩)
  have HK5 := Lib.hid (show ∀ u v, Stay [] W1 u → Stay (Ab none) u v → v.cell? ⟨g, p, none⟩ = some (.slice none 0 0) ∧ v.cell? ⟨b1, 0, none⟩ = some (.int .i64 a) ∧ v.cell? ⟨b1, 1, none⟩ = some (.int .i64 d) ∧ v.cell? ⟨b1, 2, none⟩ = some (.string s) from fun u v hs hv => by
    obtain ⟨k0, k1, k2, k3⟩ := HK4.out u hs
    have hk : ∀ (f j : Nat) (x : Value), u.cell? ⟨f, j, none⟩ = some x → f ∉ Ab none → v.cell? ⟨f, j, none⟩ = some x := fun f j x hx hn => (hv.cell_ (a := ⟨f, j, none⟩) (World.block_lt_of_cell? _ _ hx) hn).trans hx
    have hg1 : g ∉ Ab none := fun hm => hg g hm rfl
    have hb1' : b1 ∉ Ab none := fun hm => by have := (hw.ab b1 hm).2.1; omega
    exact ⟨hk _ _ _ k0 hg1, hk _ _ _ k1 hb1', hk _ _ _ k2 hb1', hk _ _ _ k3 hb1'⟩)
  have HFr := Lib.hid (show ∀ u v, Stay [] W1 u → Stay (Ab none) u v → v.frozen? ⟨g, p, none⟩ = false from fun u v hs hv => by
    have h1 := (HS1.out.trans hs).block g hgl (by simp)
    have h2 := hv.block g (Nat.lt_of_lt_of_le hgl (HS1.out.trans hs).size) (fun hm => hg g hm rfl)
    have h3 := hfr p
    unfold World.frozen? at h3 ⊢
    rw [h2, h1]
    exact h3)
  have HK6 := Lib.hid (show ∀ u v x, Stay [] W1 u → Stay (Ab none) u v → ((v.setCell ⟨g, p, none⟩ x).drew.cell? ⟨g, p + 1, none⟩ = some (.int .i64 by_) ∧ (v.setCell ⟨g, p, none⟩ x).drew.frozen? ⟨g, p + 1, none⟩ = false ∧ (v.setCell ⟨g, p, none⟩ x).drew.cell? ⟨b1, 2, none⟩ = some (.string s)) from fun u v x hs hv => by
    have hsw := HS1.out.trans hs
    have hg1 : g ∉ Ab none := fun hm => hg g hm rfl
    have e1 : v.cell? ⟨g, p + 1, none⟩ = some (.int .i64 by_) := ((hv.cell_ (a := ⟨g, p + 1, none⟩) (Nat.lt_of_lt_of_le hgl hsw.size) hg1).trans (hsw.cell_ (a := ⟨g, p + 1, none⟩) hgl (by simp))).trans h1
    have e2 := (HK5.out u v hs hv).2.2.2
    have e3 : v.frozen? ⟨g, p + 1, none⟩ = false := by
      have h1 := hsw.block g hgl (by simp)
      have h2 := hv.block g (Nat.lt_of_lt_of_le hgl hsw.size) hg1
      have h3 := hfr (p + 1)
      unfold World.frozen? at h3 ⊢
      rw [h2, h1]
      exact h3
    refine ⟨?_, ?_, ?_⟩
    · show (v.setCell ⟨g, p, none⟩ x).cell? ⟨g, p + 1, none⟩ = _
      rw [World.cell?_setCell_other _ _ _ _ (by intro e; injection e with _ e2; omega)]
      exact e1
    · show (v.setCell ⟨g, p, none⟩ x).frozen? ⟨g, p + 1, none⟩ = _
      rw [World.frozen?_setCell]
      exact e3
    · show (v.setCell ⟨g, p, none⟩ x).cell? ⟨b1, 2, none⟩ = _
      rw [World.cell?_setCell_other _ _ _ _ (by intro e; injection e with e1 _; exact hne e1.symm)]
      exact e2)
  have HBe := Lib.hid hb1
  clear h0 h1 hfr hw hg hB hby hW1 hbx hb1 hgl hne
  go_enter Try.func60, Try.ntmps60
  go_upto_region 1 with fail
  rw [← HW1.out, ← HBe.out]
  go_cut [] (fun wx => ∃ A' c' wm wn, Hid (Stay [] w wn ∧ Stay [] wn wm ∧ Win wm B 37 3 A' (0 + 1) c' (eds ged ++ [.int .i64 a, .int .i64 d, .string s])) ∧ Hid ((wm.setCell ⟨g, p, none⟩ (.slice A' (0 + 1) c')).drew.cell? ⟨g, p + 1, none⟩ = some (.int .i64 by_) ∧ (wm.setCell ⟨g, p, none⟩ (.slice A' (0 + 1) c')).drew.frozen? ⟨g, p + 1, none⟩ = false ∧ (wm.setCell ⟨g, p, none⟩ (.slice A' (0 + 1) c')).drew.cell? ⟨b1, 2, none⟩ = some (.string s)) ∧ wx = wm.setCell ⟨g, p, none⟩ (.slice A' (0 + 1) c'))
  case first =>
    have hHeld : (fun w' : World => w'.cell? ⟨g, p, none⟩ = some (.slice none 0 0) ∧ w'.cell? ⟨b1, 0, none⟩ = some (.int .i64 a) ∧ w'.cell? ⟨b1, 1, none⟩ = some (.int .i64 d) ∧ w'.cell? ⟨b1, 2, none⟩ = some (.string s)) W1.drew := HK4.out _ HSd.out
    refine AnyL.begin_ (S := fun w' : World => w'.cell? ⟨g, p, none⟩ = some (.slice none 0 0) ∧ w'.cell? ⟨b1, 0, none⟩ = some (.int .i64 a) ∧ w'.cell? ⟨b1, 1, none⟩ = some (.int .i64 d) ∧ w'.cell? ⟨b1, 2, none⟩ = some (.string s)) (n := 21) (by kernel_rfl) ?_
    refine AnyL.take (i := 0) (v := ?_) [19, 20, 21] rfl (by kernel_rfl) (by kernel_rfl) (by kernel_rfl) (by kernel_rfl) (fun _ _ _ h => h) (Or.inl ⟨by rfl, ?_⟩) hHeld ?_
    rotate_left
    · intro w hSw
      obtain ⟨k0, k1, k2, k3⟩ := hSw
      simp only [List.getElem_toArray, List.getElem_cons_zero]
      go_simp
      all_goals with_reducible rfl
    simp only [List.getElem_toArray, List.getElem_cons_zero, Act.put, List.setIfInBounds_toArray, List.set_cons_zero, List.set_cons_succ]
    refine AnyL.take (i := 1) (v := ?_) [2, 3, 4, 15, 18, 21] rfl (by kernel_rfl) (by kernel_rfl) (by kernel_rfl) (by kernel_rfl) (fun _ _ _ h => h) (Or.inl ⟨by rfl, ?_⟩) hHeld ?_
    rotate_left
    · intro w hSw
      obtain ⟨k0, k1, k2, k3⟩ := hSw
      simp only [List.getElem_toArray, List.getElem_cons_zero, List.getElem_cons_succ]
      go_simp
      all_goals with_reducible rfl
    simp only [List.getElem_toArray, List.getElem_cons_zero, List.getElem_cons_succ, Act.put, List.setIfInBounds_toArray, List.set_cons_zero, List.set_cons_succ]
    refine AnyL.take (i := 2) (v := ?_) [3, 4, 15, 18, 21] rfl (by kernel_rfl) (by kernel_rfl) (by kernel_rfl) (by kernel_rfl) (fun _ _ _ h => h) (Or.inl ⟨by rfl, ?_⟩) hHeld ?_
    rotate_left
    · intro w hSw
      obtain ⟨k0, k1, k2, k3⟩ := hSw
      simp only [List.getElem_toArray, List.getElem_cons_zero, List.getElem_cons_succ]
      go_simp
      all_goals with_reducible rfl
    simp only [List.getElem_toArray, List.getElem_cons_zero, List.getElem_cons_succ, Act.put, List.setIfInBounds_toArray, List.set_cons_zero, List.set_cons_succ]
    refine AnyL.take (i := 3) (v := ?_) [4, 15, 18, 21] rfl (by kernel_rfl) (by kernel_rfl) (by kernel_rfl) (by kernel_rfl) (fun _ _ _ h => h) (Or.inl ⟨by rfl, ?_⟩) hHeld ?_
    rotate_left
    · intro w hSw
      obtain ⟨k0, k1, k2, k3⟩ := hSw
      simp only [List.getElem_toArray, List.getElem_cons_zero, List.getElem_cons_succ]
      go_simp
      all_goals with_reducible rfl
    simp only [List.getElem_toArray, List.getElem_cons_zero, List.getElem_cons_succ, Act.put, List.setIfInBounds_toArray, List.set_cons_zero, List.set_cons_succ]
    refine AnyL.take (i := 4) (v := ?_) [15, 18, 21] rfl (by kernel_rfl) (by kernel_rfl) (by kernel_rfl) (by kernel_rfl) (fun _ _ _ h => h) (Or.inl ⟨by rfl, ?_⟩) hHeld ?_
    rotate_left
    · intro w hSw
      obtain ⟨k0, k1, k2, k3⟩ := hSw
      simp only [List.getElem_toArray, List.getElem_cons_zero, List.getElem_cons_succ]
      go_simp
      all_goals with_reducible rfl
    simp only [List.getElem_toArray, List.getElem_cons_zero, List.getElem_cons_succ, Act.put, List.setIfInBounds_toArray, List.set_cons_zero, List.set_cons_succ]
    refine AnyL.take (i := 5) (v := ?_) [6, 7, 8, 9, 15, 18, 21] rfl (by kernel_rfl) (by kernel_rfl) (by kernel_rfl) (by kernel_rfl) (fun _ _ _ h => h) (Or.inl ⟨by rfl, ?_⟩) hHeld ?_
    rotate_left
    · intro w hSw
      obtain ⟨k0, k1, k2, k3⟩ := hSw
      simp only [List.getElem_toArray, List.getElem_cons_zero, List.getElem_cons_succ]
      go_simp
      all_goals with_reducible rfl
    simp only [List.getElem_toArray, List.getElem_cons_zero, List.getElem_cons_succ, Act.put, List.setIfInBounds_toArray, List.set_cons_zero, List.set_cons_succ]
    refine AnyL.take (i := 6) (v := ?_) [7, 8, 9, 15, 18, 21] rfl (by kernel_rfl) (by kernel_rfl) (by kernel_rfl) (by kernel_rfl) (fun _ _ _ h => h) (Or.inl ⟨by rfl, ?_⟩) hHeld ?_
    rotate_left
    · intro w hSw
      obtain ⟨k0, k1, k2, k3⟩ := hSw
      simp only [List.getElem_toArray, List.getElem_cons_zero, List.getElem_cons_succ]
      go_simp
      all_goals with_reducible rfl
    simp only [List.getElem_toArray, List.getElem_cons_zero, List.getElem_cons_succ, Act.put, List.setIfInBounds_toArray, List.set_cons_zero, List.set_cons_succ]
    refine AnyL.take (i := 7) (v := ?_) [8, 9, 15, 18, 21] rfl (by kernel_rfl) (by kernel_rfl) (by kernel_rfl) (by kernel_rfl) (fun _ _ _ h => h) (Or.inl ⟨by rfl, ?_⟩) hHeld ?_
    rotate_left
    · intro w hSw
      obtain ⟨k0, k1, k2, k3⟩ := hSw
      simp only [List.getElem_toArray, List.getElem_cons_zero, List.getElem_cons_succ]
      go_simp
      all_goals with_reducible rfl
    simp only [List.getElem_toArray, List.getElem_cons_zero, List.getElem_cons_succ, Act.put, List.setIfInBounds_toArray, List.set_cons_zero, List.set_cons_succ]
    refine AnyL.take (i := 8) (v := ?_) [9, 15, 18, 21] rfl (by kernel_rfl) (by kernel_rfl) (by kernel_rfl) (by kernel_rfl) (fun _ _ _ h => h) (Or.inl ⟨by rfl, ?_⟩) hHeld ?_
    rotate_left
    · intro w hSw
      obtain ⟨k0, k1, k2, k3⟩ := hSw
      simp only [List.getElem_toArray, List.getElem_cons_zero, List.getElem_cons_succ]
      go_simp
      all_goals with_reducible rfl
    simp only [List.getElem_toArray, List.getElem_cons_zero, List.getElem_cons_succ, Act.put, List.setIfInBounds_toArray, List.set_cons_zero, List.set_cons_succ]
    refine AnyL.take (i := 9) (v := ?_) [15, 18, 21] rfl (by kernel_rfl) (by kernel_rfl) (by kernel_rfl) (by kernel_rfl) (fun _ _ _ h => h) (Or.inl ⟨by rfl, ?_⟩) hHeld ?_
    rotate_left
    · intro w hSw
      obtain ⟨k0, k1, k2, k3⟩ := hSw
      simp only [List.getElem_toArray, List.getElem_cons_zero, List.getElem_cons_succ]
      go_simp
      all_goals with_reducible rfl
    simp only [List.getElem_toArray, List.getElem_cons_zero, List.getElem_cons_succ, Act.put, List.setIfInBounds_toArray, List.set_cons_zero, List.set_cons_succ]
    refine AnyL.take (i := 10) (v := ?_) [11, 12, 13, 14, 15, 18, 21] rfl (by kernel_rfl) (by kernel_rfl) (by kernel_rfl) (by kernel_rfl) (fun _ _ _ h => h) (Or.inl ⟨by rfl, ?_⟩) hHeld ?_
    rotate_left
    · intro w hSw
      obtain ⟨k0, k1, k2, k3⟩ := hSw
      simp only [List.getElem_toArray, List.getElem_cons_zero, List.getElem_cons_succ]
      go_simp
      all_goals with_reducible rfl
    simp only [List.getElem_toArray, List.getElem_cons_zero, List.getElem_cons_succ, Act.put, List.setIfInBounds_toArray, List.set_cons_zero, List.set_cons_succ]
    refine AnyL.take (i := 11) (v := ?_) [12, 13, 14, 15, 18, 21] rfl (by kernel_rfl) (by kernel_rfl) (by kernel_rfl) (by kernel_rfl) (fun _ _ _ h => h) (Or.inl ⟨by rfl, ?_⟩) hHeld ?_
    rotate_left
    · intro w hSw
      obtain ⟨k0, k1, k2, k3⟩ := hSw
      simp only [List.getElem_toArray, List.getElem_cons_zero, List.getElem_cons_succ]
      go_simp
      all_goals with_reducible rfl
    simp only [List.getElem_toArray, List.getElem_cons_zero, List.getElem_cons_succ, Act.put, List.setIfInBounds_toArray, List.set_cons_zero, List.set_cons_succ]
    refine AnyL.take (i := 12) (v := ?_) [13, 14, 15, 18, 21] rfl (by kernel_rfl) (by kernel_rfl) (by kernel_rfl) (by kernel_rfl) (fun _ _ _ h => h) (Or.inl ⟨by rfl, ?_⟩) hHeld ?_
    rotate_left
    · intro w hSw
      obtain ⟨k0, k1, k2, k3⟩ := hSw
      simp only [List.getElem_toArray, List.getElem_cons_zero, List.getElem_cons_succ]
      go_simp
      all_goals with_reducible rfl
    simp only [List.getElem_toArray, List.getElem_cons_zero, List.getElem_cons_succ, Act.put, List.setIfInBounds_toArray, List.set_cons_zero, List.set_cons_succ]
    refine AnyL.take (i := 13) (v := ?_) [14, 15, 18, 21] rfl (by kernel_rfl) (by kernel_rfl) (by kernel_rfl) (by kernel_rfl) (fun _ _ _ h => h) (Or.inl ⟨by rfl, ?_⟩) hHeld ?_
    rotate_left
    · intro w hSw
      obtain ⟨k0, k1, k2, k3⟩ := hSw
      simp only [List.getElem_toArray, List.getElem_cons_zero, List.getElem_cons_succ]
      go_simp
      all_goals with_reducible rfl
    simp only [List.getElem_toArray, List.getElem_cons_zero, List.getElem_cons_succ, Act.put, List.setIfInBounds_toArray, List.set_cons_zero, List.set_cons_succ]
    refine AnyL.take (i := 14) (v := ?_) [15, 18, 21] rfl (by kernel_rfl) (by kernel_rfl) (by kernel_rfl) (by kernel_rfl) (fun _ _ _ h => h) (Or.inl ⟨by rfl, ?_⟩) hHeld ?_
    rotate_left
    · intro w hSw
      obtain ⟨k0, k1, k2, k3⟩ := hSw
      simp only [List.getElem_toArray, List.getElem_cons_zero, List.getElem_cons_succ]
      go_simp
      all_goals with_reducible rfl
    simp only [List.getElem_toArray, List.getElem_cons_zero, List.getElem_cons_succ, Act.put, List.setIfInBounds_toArray, List.set_cons_zero, List.set_cons_succ]
    refine AnyL.take (i := 15) (v := ?_) [18, 21] rfl (by kernel_rfl) (by kernel_rfl) (by kernel_rfl) (by kernel_rfl) (fun _ _ _ h => h) (Or.inl ⟨by rfl, ?_⟩) hHeld ?_
    rotate_left
    · intro w hSw
      obtain ⟨k0, k1, k2, k3⟩ := hSw
      simp only [List.getElem_toArray, List.getElem_cons_zero, List.getElem_cons_succ]
      go_simp
      all_goals with_reducible rfl
    simp only [List.getElem_toArray, List.getElem_cons_zero, List.getElem_cons_succ, Act.put, List.setIfInBounds_toArray, List.set_cons_zero, List.set_cons_succ]
    refine AnyL.take (i := 16) (v := ?_) [17, 18, 21] rfl (by kernel_rfl) (by kernel_rfl) (by kernel_rfl) (by kernel_rfl) (fun _ _ _ h => h) (Or.inl ⟨by rfl, ?_⟩) hHeld ?_
    rotate_left
    · intro w hSw
      obtain ⟨k0, k1, k2, k3⟩ := hSw
      simp only [List.getElem_toArray, List.getElem_cons_zero, List.getElem_cons_succ]
      go_simp
      all_goals with_reducible rfl
    simp only [List.getElem_toArray, List.getElem_cons_zero, List.getElem_cons_succ, Act.put, List.setIfInBounds_toArray, List.set_cons_zero, List.set_cons_succ]
    refine AnyL.next (i := 17) (by kernel_rfl) ?_
    refine wpOp_step rfl (fun K hK => ?_)
    have HK := Lib.hid hK
    clear hK
    simp only [List.getElem_toArray, List.getElem_cons_zero, List.getElem_cons_succ]
    rw [if_pos (by rfl)]
    go_wp2_with fail
    obtain ⟨Wn, hWn⟩ : ∃ W, W = (W1.alloc (.cells #[.int .i64 a, .int .i64 d, .string s] 37)).drew := ⟨_, rfl⟩
    have HSa := Lib.hid (show Stay [] W1 Wn from by rw [hWn]; exact (Stay.alloc (F := []) _ _).drew')
    have HNw := Lib.hid (show ∀ j u, [Value.int .i64 a, .int .i64 d, .string s][j]? = some u → Wn.cell? ((⟨W1.heap.size, 0, none⟩ : Addr).add j) = some u from by rw [hWn]; exact cells_new W1 [.int .i64 a, .int .i64 d, .string s] 37 W1.heap.size rfl)
    rw [← hWn]
    clear hWn
    have hqa := HK4.out _ HSa.out
    have HWw := Lib.hid ((HWf.out.stay0 HSa.out))
    have HSz := Lib.hid (show B ≤ Wn.heap.size from Nat.le_trans HBw.out HSa.out.size)
    refine HK.out _ _ ⟨.inr hqa, ?_⟩
    clear HK K
    refine AnyL.next (i := 18) (by kernel_rfl) ?_
    refine wpOp_step rfl (fun K hK => ?_)
    have HK := Lib.hid hK
    clear hK
    simp only [List.getElem_toArray, List.getElem_cons_zero, List.getElem_cons_succ]
    rw [if_pos (by rfl)]
    refine wp_append_full (.tmp 19) (.tmp 21) 44 rfl B 37 3 i37 _ 32 Try.underlying44 HI.out.1 HI.out.2.1 HI.out.2.2.1 HI.out.2.2.2 rfl (by omega) none 0 0 (eds ged) rfl HWw.out ⟨W1.heap.size, 0, none⟩ 1 1 rfl [.int .i64 a, .int .i64 d, .string s] rfl (by omega) HNw.out (by simp [Value.oneCell']) HM.out.1 HM.out.2 HSz.out (by omega) ?_
    intro A' c' w5 hw5 hs5 ha5
    have HV5 := Lib.hid hw5
    have HT6 := Lib.hid hs5
    have HT5 := Lib.hid (hs5.mono (G := Ab none) (by simp))
    have hq5 := HK5.out _ _ HSa.out HT5.out
    clear hw5 hs5 ha5 hqa
    refine HK.out _ _ ⟨.inr hq5, ?_⟩
    clear HK K
    refine AnyL.take (i := 19) (v := ?_) [20, 21] rfl (by kernel_rfl) (by kernel_rfl) (by kernel_rfl) (by kernel_rfl) (fun _ _ _ h => h) (Or.inl ⟨by rfl, ?_⟩) hq5 ?_
    rotate_left
    · intro w hSw
      obtain ⟨k0, k1, k2, k3⟩ := hSw
      simp only [List.getElem_toArray, List.getElem_cons_zero, List.getElem_cons_succ]
      go_simp
      all_goals with_reducible rfl
    simp only [List.getElem_toArray, List.getElem_cons_zero, List.getElem_cons_succ, Act.put, List.setIfInBounds_toArray, List.set_cons_zero, List.set_cons_succ]
    refine AnyL.take (i := 20) (v := ?_) [21] rfl (by kernel_rfl) (by kernel_rfl) (by kernel_rfl) (by kernel_rfl) (fun _ _ _ h => h) (Or.inl ⟨by rfl, ?_⟩) hq5 ?_
    rotate_left
    · intro w hSw
      obtain ⟨k0, k1, k2, k3⟩ := hSw
      simp only [List.getElem_toArray, List.getElem_cons_zero, List.getElem_cons_succ]
      go_simp
      all_goals with_reducible rfl
    simp only [List.getElem_toArray, List.getElem_cons_zero, List.getElem_cons_succ, Act.put, List.setIfInBounds_toArray, List.set_cons_zero, List.set_cons_succ]
    refine AnyL.next (i := 21) (by kernel_rfl) ?_
    refine wpOp_step rfl (fun K hK => ?_)
    have HK := Lib.hid hK
    clear hK
    simp only [List.getElem_toArray, List.getElem_cons_zero, List.getElem_cons_succ]
    rw [if_pos (by rfl)]
    have f5 := HFr.out _ _ HSa.out HT5.out
    have hq50 := hq5.1
    go_wp2_with fail
    refine HK.out _ _ ⟨.inl (by first | rfl | trivial), ?_⟩
    clear HK K
    refine AnyL.done (by kernel_rfl) ?_ _
    go_wp2_with fail
    go_meet
    exact ⟨A', c', w5, Wn, ⟨HS1.out.trans HSa.out, HT6.out, HV5.out⟩, Lib.hid (HK6.out Wn w5 (.slice A' (0 + 1) c') HSa.out HT5.out), rfl⟩
  case rest =>
    obtain ⟨A', c', wm, wn, HR, HQ, hwx⟩ := hcut
    have k0 := HQ.out.1
    have k1 := HQ.out.2.1
    have k2 := HQ.out.2.2
    rw [hwx]
    obtain ⟨W7, hW7⟩ : ∃ W, W = wm.setCell ⟨g, p, none⟩ (.slice A' (0 + 1) c') := ⟨_, rfl⟩
    rw [← hW7] at k0 k1 k2 ⊢
    have HW7 := Lib.hid hW7
    clear hwx hW7 HQ
    go_upto_region 2 with fail
    have hHeld : (fun w' : World => w'.cell? ⟨g, p + 1, none⟩ = some (.int .i64 by_) ∧ w'.cell? ⟨b1, 2, none⟩ = some (.string s)) W7.drew := ⟨k0, k2⟩
    refine AnyL.begin_ (S := fun w' : World => w'.cell? ⟨g, p + 1, none⟩ = some (.int .i64 by_) ∧ w'.cell? ⟨b1, 2, none⟩ = some (.string s)) (n := 10) (by kernel_rfl) ?_
    refine AnyL.take (i := 0) (v := ?_) [8, 9, 10] rfl (by kernel_rfl) (by kernel_rfl) (by kernel_rfl) (by kernel_rfl) (fun _ _ _ h => h) (Or.inl ⟨by rfl, ?_⟩) hHeld ?_
    rotate_left
    · intro w hSw
      obtain ⟨k0, k1⟩ := hSw
      simp only [List.getElem_toArray, List.getElem_cons_zero]
      go_simp
      all_goals with_reducible rfl
    simp only [List.getElem_toArray, List.getElem_cons_zero, Act.put, List.setIfInBounds_toArray, List.set_cons_zero, List.set_cons_succ]
    refine AnyL.take (i := 1) (v := ?_) [2, 3, 7, 10] rfl (by kernel_rfl) (by kernel_rfl) (by kernel_rfl) (by kernel_rfl) (fun _ _ _ h => h) (Or.inl ⟨by rfl, ?_⟩) hHeld ?_
    rotate_left
    · intro w hSw
      obtain ⟨k0, k1⟩ := hSw
      simp only [List.getElem_toArray, List.getElem_cons_zero, List.getElem_cons_succ]
      go_simp
      all_goals with_reducible rfl
    simp only [List.getElem_toArray, List.getElem_cons_zero, List.getElem_cons_succ, Act.put, List.setIfInBounds_toArray, List.set_cons_zero, List.set_cons_succ]
    refine AnyL.take (i := 2) (v := ?_) [3, 7, 10] rfl (by kernel_rfl) (by kernel_rfl) (by kernel_rfl) (by kernel_rfl) (fun _ _ _ h => h) (Or.inl ⟨by rfl, ?_⟩) hHeld ?_
    rotate_left
    · intro w hSw
      obtain ⟨k0, k1⟩ := hSw
      simp only [List.getElem_toArray, List.getElem_cons_zero, List.getElem_cons_succ]
      go_simp
      all_goals with_reducible rfl
    simp only [List.getElem_toArray, List.getElem_cons_zero, List.getElem_cons_succ, Act.put, List.setIfInBounds_toArray, List.set_cons_zero, List.set_cons_succ]
    refine AnyL.take (i := 3) (v := ?_) [7, 10] rfl (by kernel_rfl) (by kernel_rfl) (by kernel_rfl) (by kernel_rfl) (fun _ _ _ h => h) (Or.inl ⟨by rfl, ?_⟩) hHeld ?_
    rotate_left
    · intro w hSw
      obtain ⟨k0, k1⟩ := hSw
      simp only [List.getElem_toArray, List.getElem_cons_zero, List.getElem_cons_succ]
      go_simp
      all_goals with_reducible rfl
    simp only [List.getElem_toArray, List.getElem_cons_zero, List.getElem_cons_succ, Act.put, List.setIfInBounds_toArray, List.set_cons_zero, List.set_cons_succ]
    refine AnyL.take (i := 4) (v := ?_) [5, 6, 7, 10] rfl (by kernel_rfl) (by kernel_rfl) (by kernel_rfl) (by kernel_rfl) (fun _ _ _ h => h) (Or.inl ⟨by rfl, ?_⟩) hHeld ?_
    rotate_left
    · intro w hSw
      obtain ⟨k0, k1⟩ := hSw
      simp only [List.getElem_toArray, List.getElem_cons_zero, List.getElem_cons_succ]
      go_simp
      all_goals with_reducible rfl
    simp only [List.getElem_toArray, List.getElem_cons_zero, List.getElem_cons_succ, Act.put, List.setIfInBounds_toArray, List.set_cons_zero, List.set_cons_succ]
    refine AnyL.take (i := 5) (v := ?_) [6, 7, 10] rfl (by kernel_rfl) (by kernel_rfl) (by kernel_rfl) (by kernel_rfl) (fun _ _ _ h => h) (Or.inl ⟨by rfl, ?_⟩) hHeld ?_
    rotate_left
    · intro w hSw
      obtain ⟨k0, k1⟩ := hSw
      simp only [List.getElem_toArray, List.getElem_cons_zero, List.getElem_cons_succ]
      go_simp
      all_goals with_reducible rfl
    simp only [List.getElem_toArray, List.getElem_cons_zero, List.getElem_cons_succ, Act.put, List.setIfInBounds_toArray, List.set_cons_zero, List.set_cons_succ]
    refine AnyL.take (i := 6) (v := ?_) [7, 10] rfl (by kernel_rfl) (by kernel_rfl) (by kernel_rfl) (by kernel_rfl) (fun _ _ _ h => h) (Or.inl ⟨by rfl, ?_⟩) hHeld ?_
    rotate_left
    · intro w hSw
      obtain ⟨k0, k1⟩ := hSw
      simp only [List.getElem_toArray, List.getElem_cons_zero, List.getElem_cons_succ]
      go_simp
      all_goals with_reducible rfl
    simp only [List.getElem_toArray, List.getElem_cons_zero, List.getElem_cons_succ, Act.put, List.setIfInBounds_toArray, List.set_cons_zero, List.set_cons_succ]
    refine AnyL.take (i := 7) (v := ?_) [10] rfl (by kernel_rfl) (by kernel_rfl) (by kernel_rfl) (by kernel_rfl) (fun _ _ _ h => h) (Or.inl ⟨by rfl, ?_⟩) hHeld ?_
    rotate_left
    · intro w hSw
      obtain ⟨k0, k1⟩ := hSw
      simp only [List.getElem_toArray, List.getElem_cons_zero, List.getElem_cons_succ]
      go_simp
      all_goals with_reducible rfl
    simp only [List.getElem_toArray, List.getElem_cons_zero, List.getElem_cons_succ, Act.put, List.setIfInBounds_toArray, List.set_cons_zero, List.set_cons_succ]
    refine AnyL.take (i := 8) (v := ?_) [9, 10] rfl (by kernel_rfl) (by kernel_rfl) (by kernel_rfl) (by kernel_rfl) (fun _ _ _ h => h) (Or.inl ⟨by rfl, ?_⟩) hHeld ?_
    rotate_left
    · intro w hSw
      obtain ⟨k0, k1⟩ := hSw
      simp only [List.getElem_toArray, List.getElem_cons_zero, List.getElem_cons_succ]
      go_simp
      all_goals with_reducible rfl
    simp only [List.getElem_toArray, List.getElem_cons_zero, List.getElem_cons_succ, Act.put, List.setIfInBounds_toArray, List.set_cons_zero, List.set_cons_succ]
    refine AnyL.take (i := 9) (v := ?_) [10] rfl (by kernel_rfl) (by kernel_rfl) (by kernel_rfl) (by kernel_rfl) (fun _ _ _ h => h) (Or.inl ⟨by rfl, ?_⟩) hHeld ?_
    rotate_left
    · intro w hSw
      obtain ⟨k0, k1⟩ := hSw
      simp only [List.getElem_toArray, List.getElem_cons_zero, List.getElem_cons_succ]
      go_simp
      all_goals with_reducible rfl
    simp only [List.getElem_toArray, List.getElem_cons_zero, List.getElem_cons_succ, Act.put, List.setIfInBounds_toArray, List.set_cons_zero, List.set_cons_succ]
    refine AnyL.next (i := 10) (by kernel_rfl) ?_
    refine wpOp_step rfl (fun K hK => ?_)
    have HK := Lib.hid hK
    clear hK
    simp only [List.getElem_toArray, List.getElem_cons_zero, List.getElem_cons_succ]
    rw [if_pos (by rfl)]
    go_wp2_with fail
    refine HK.out _ _ ⟨.inl (by first | rfl | trivial), ?_⟩
    clear HK K
    refine AnyL.done (by kernel_rfl) ?_ _
    go_wp2_with fail
    exact bodyPost_end (v := .tuple #[]) (by simp [results, Try.results60, go_sem]) rfl ⟨rfl, A', c', wm, wn, HR.out.1, HR.out.2.1, HR.out.2.2, by rw [HW7.out]⟩
end Go.Proofs.Ytjoeebjmjnddoaa
