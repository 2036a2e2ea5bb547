/- package marks: Add. -/
import Derived.Test.YtbnaglkhbgfchaaMget
import Derived.Test.YtbnaglkhbgfchaaAnyN
import Derived.BigRegion
namespace Go.Proofs.Ytbnaglkhbgfchaa
open Go.RowKit
set_option maxRecDepth 20000 in
set_option maxHeartbeats 16000000 in
theorem madd_ok {w : World} {sb mb ck : Nat} {L : List EN} {last : Int} (h : SetAt w sb mb L ck last) (id0 a n : Int) (g : Bool) (s : Int) (hm : 0 ≤ a ∧ 0 ≤ n ∧ a + n ≤ 1048576) (hL : L.length < 4096) (hl : last < 9223372036854775807) :
    Calls Try.prog 13 #[.pointer (some ⟨sb, 0, none⟩), .agg #[.int .i64 id0, .int .i64 a, .int .i64 n, .bool g, .int .u16 s]] w fun e w' => e = .returned (.tuple #[.int .i64 (last + 1), .int .i64 0]) ∧ SetAt w' sb mb (L ++ [⟨last + 1, ⟨a, a + n, g, s⟩, ck⟩]) (ck + 1) (last + 1) ∧ Stay [sb, mb] w w' := by
  obtain ⟨h0, h1, h2⟩ := hm
  have hadd : IntKind.i64.wrap (a + n) = a + n := by simp only [IntKind.wrap, IntKind.bits, IntKind.signed]; simp; omega
  have l0 := h.l0
  have hlast : IntKind.i64.wrap (last + 1) = last + 1 := by simp only [IntKind.wrap, IntKind.bits, IntKind.signed]; simp; omega
  obtain ⟨W1, hW1⟩ : ∃ W, W = w.alloc (.cells #[.int .i64 id0, .int .i64 a, .int .i64 n, .bool g, .int .u16 s] 35) := ⟨_, rfl⟩
  have hs1 : Stay [] w W1 := by rw [hW1]; exact Stay.alloc _ _
  have hb1 : Blk W1 w.heap.size [.int .i64 id0, .int .i64 a, .int .i64 n, .bool g, .int .u16 s] 35 := by rw [hW1]; exact Blk.new w _ _
  have h1' := h.stay0 hs1
  have hlen := len_run h1'.m
  have hne : w.heap.size ≠ sb := by
    have := h.blk.lt
    omega
  have hnm : w.heap.size ≠ mb := by
    have := h.m.lt_
    omega
  obtain ⟨bx, hbx⟩ : ∃ b, b = w.heap.size := ⟨_, rfl⟩
  rw [← hbx] at hb1 hne hnm
  obtain ⟨W2, hW2⟩ : ∃ W, W = W1.setCell ⟨sb, 1, none⟩ (.int .i64 (last + 1)) := ⟨_, rfl⟩
  have hs2 : Stay [sb] W1 W2 := by rw [hW2]; exact Stay.setCell _ _ _ (by simp)
  have hb2 := hb1.stay hs2 (by simpa using hne)
  have hsb2 : Blk W2 sb [.map (some mb), .int .i64 (last + 1)] 61 := by rw [hW2]; exact h1'.blk.set 1 _
  have hm2 := (h1'.m.stay hs2 (by simpa using (h1'.m.noBlk h1'.blk).symm)).stay (F := []) (Stay.drew W2) (by simp)
  have hnk : ∀ x ∈ L, x.id ≠ last + 1 := fun x hx e => by
    have := (h.id x hx).2
    omega
  have hup := upd_new hm2 hnk ⟨a, a + n, g, s⟩
  have hadd2 := hm2.add hnk ⟨a, a + n, g, s⟩
  simp only [St.val] at hup
  obtain ⟨W3, hW3⟩ : ∃ W, W = setO W2.drew mb (.map ((L ++ [(⟨last + 1, ⟨a, a + n, g, s⟩, ck⟩ : EN)]).map EN.ent).toArray (ck + 1)) := ⟨_, rfl⟩
  rw [← hW3] at hup hadd2
  have hs3 : Stay [mb] W2.drew W3 := by rw [hW3]; exact Stay.setO _ (by simp)
  have HUp := Lib.hid hup
  have hsb3 : Blk W3 sb [.map (some mb), .int .i64 (last + 1)] 61 := (hsb2.stay (F := []) (Stay.drew W2) (by simp)).stay hs3 (by simpa using h1'.m.noBlk h1'.blk)
  have c31 : W3.cell? ⟨sb, 1, none⟩ = some (.int .i64 (last + 1)) := hsb3.cell 1
  have HF := Lib.hid (show SetAt W3 sb mb (L ++ [⟨last + 1, ⟨a, a + n, g, s⟩, ck⟩]) (ck + 1) (last + 1) ∧ Stay [sb, mb] w W3 from ⟨⟨hsb3, hadd2, fun x hx => by
      rcases List.mem_append.1 hx with hx | hx
      · have := h.id x hx
        omega
      · rw [List.mem_singleton] at hx
        subst hx
        exact ⟨by simp only; omega, Int.le_refl _⟩, fun x hx => by
      rcases List.mem_append.1 hx with hx | hx
      · exact h.ok x hx
      · rw [List.mem_singleton] at hx
        subst hx
        exact ⟨h0, by simp only; omega, by simp only; omega⟩, by omega⟩,
    (((hs1.mono (by simp)).trans (hs2.mono (by simp))).trans ((Stay.drew W2).mono (G := [sb, mb]) (F := []) (by simp))).trans (hs3.mono (by simp))⟩)
  have hHeld : (fun w' : World => w'.cell? ⟨sb, 0, none⟩ = some (.map (some mb)) ∧ w'.cell? ⟨sb, 1, none⟩ = some (.int .i64 (last + 1)) ∧ w'.cell? ⟨bx, 1, none⟩ = some (.int .i64 a) ∧ w'.cell? ⟨bx, 2, none⟩ = some (.int .i64 n) ∧ w'.cell? ⟨bx, 3, none⟩ = some (.bool g) ∧ w'.cell? ⟨bx, 4, none⟩ = some (.int .u16 s)) W2.drew := ⟨hsb2.cell 0, hsb2.cell 1, hb2.cell 1, hb2.cell 2, hb2.cell 3, hb2.cell 4⟩
  have c0 : W1.cell? ⟨sb, 0, none⟩ = some (.map (some mb)) := h1'.blk.cell 0
  have c1 : W1.cell? ⟨sb, 1, none⟩ = some (.int .i64 last) := h1'.blk.cell 1
  have f1 := h1'.blk.free 1
  have b1 : W1.cell? ⟨bx, 1, none⟩ = some (.int .i64 a) := hb1.cell 1
  have b2 : W1.cell? ⟨bx, 2, none⟩ = some (.int .i64 n) := hb1.cell 2
  have q1 : ¬ a < 0 := by omega
  have q2 : ¬ n < 0 := by omega
  have q3 : ¬ 1048576 < a := by omega
  have q4 : ¬ 1048576 < a + n := by omega
  have q5 : ¬ 1048576 < n := by omega
  have q6 : ¬ (4096 : Int) ≤ L.length := by omega
  have HW1 := Lib.hid hW1
  have HW2 := Lib.hid hW2
  have HBx := Lib.hid hbx
  have HHeld := Lib.hid hHeld
  clear hm2 hup hadd2 hW3 hs3 hsb3 h h0 h1 h2 hL hl l0 hs1 hb1 h1' hne hnm hbx hW1 hW2 hs2 hb2 hsb2 hnk hHeld
  go_enter Try.func13, Try.ntmps13
  go_upto_region 1 with fail
  rw [← HW1.out, ← HBx.out]
  go_upto_region 8 with fail
  rw [← HW2.out]
  have hHeld := HHeld.out
  refine AnyN.begin_ (S := fun w' : World => w'.cell? ⟨sb, 0, none⟩ = some (.map (some mb)) ∧ w'.cell? ⟨sb, 1, none⟩ = some (.int .i64 (last + 1)) ∧ w'.cell? ⟨bx, 1, none⟩ = some (.int .i64 a) ∧ w'.cell? ⟨bx, 2, none⟩ = some (.int .i64 n) ∧ w'.cell? ⟨bx, 3, none⟩ = some (.bool g) ∧ w'.cell? ⟨bx, 4, none⟩ = some (.int .u16 s)) (N := [20]) (by kernel_rfl) ?_
  refine AnyN.take (i := 0) (v := ?_) [1, 2, 3, 20] rfl (by kernel_rfl) (by kernel_rfl) (by kernel_rfl) (by kernel_rfl) (fun _ _ _ h => h) (Or.inl ⟨by rfl, ?_⟩) hHeld ?_
  rotate_left
  · intro w hSw
    obtain ⟨k0, k1, k2, k3, k4, k5⟩ := hSw
    simp only [List.getElem_toArray, List.getElem_cons_zero]
    go_simp
    all_goals with_reducible rfl
  simp only [List.getElem_toArray, List.getElem_cons_zero, Act.put, List.setIfInBounds_toArray, List.set_cons_zero, List.set_cons_succ]
  refine AnyN.take (i := 1) (v := ?_) [2, 3, 20] rfl (by kernel_rfl) (by kernel_rfl) (by kernel_rfl) (by kernel_rfl) (fun _ _ _ h => h) (Or.inl ⟨by rfl, ?_⟩) hHeld ?_
  rotate_left
  · intro w hSw
    obtain ⟨k0, k1, k2, k3, k4, k5⟩ := hSw
    simp only [List.getElem_toArray, List.getElem_cons_zero, List.getElem_cons_succ]
    go_simp
    all_goals with_reducible rfl
  simp only [List.getElem_toArray, List.getElem_cons_zero, List.getElem_cons_succ, Act.put, List.setIfInBounds_toArray, List.set_cons_zero, List.set_cons_succ]
  refine AnyN.take (i := 2) (v := ?_) [3, 20] rfl (by kernel_rfl) (by kernel_rfl) (by kernel_rfl) (by kernel_rfl) (fun _ _ _ h => h) (Or.inl ⟨by rfl, ?_⟩) hHeld ?_
  rotate_left
  · intro w hSw
    obtain ⟨k0, k1, k2, k3, k4, k5⟩ := hSw
    simp only [List.getElem_toArray, List.getElem_cons_zero, List.getElem_cons_succ]
    go_simp
    all_goals with_reducible rfl
  simp only [List.getElem_toArray, List.getElem_cons_zero, List.getElem_cons_succ, Act.put, List.setIfInBounds_toArray, List.set_cons_zero, List.set_cons_succ]
  refine AnyN.take (i := 3) (v := ?_) [20] rfl (by kernel_rfl) (by kernel_rfl) (by kernel_rfl) (by kernel_rfl) (fun _ _ _ h => h) (Or.inl ⟨by rfl, ?_⟩) hHeld ?_
  rotate_left
  · intro w hSw
    obtain ⟨k0, k1, k2, k3, k4, k5⟩ := hSw
    simp only [List.getElem_toArray, List.getElem_cons_zero, List.getElem_cons_succ]
    go_simp
    all_goals with_reducible rfl
  simp only [List.getElem_toArray, List.getElem_cons_zero, List.getElem_cons_succ, Act.put, List.setIfInBounds_toArray, List.set_cons_zero, List.set_cons_succ]
  refine AnyN.take (i := 4) (v := ?_) [5, 6, 7, 20] rfl (by kernel_rfl) (by kernel_rfl) (by kernel_rfl) (by kernel_rfl) (fun _ _ _ h => h) (Or.inl ⟨by rfl, ?_⟩) hHeld ?_
  rotate_left
  · intro w hSw
    obtain ⟨k0, k1, k2, k3, k4, k5⟩ := hSw
    simp only [List.getElem_toArray, List.getElem_cons_zero, List.getElem_cons_succ]
    go_simp
    all_goals with_reducible rfl
  simp only [List.getElem_toArray, List.getElem_cons_zero, List.getElem_cons_succ, Act.put, List.setIfInBounds_toArray, List.set_cons_zero, List.set_cons_succ]
  refine AnyN.take (i := 5) (v := ?_) [6, 7, 20] rfl (by kernel_rfl) (by kernel_rfl) (by kernel_rfl) (by kernel_rfl) (fun _ _ _ h => h) (Or.inl ⟨by rfl, ?_⟩) hHeld ?_
  rotate_left
  · intro w hSw
    obtain ⟨k0, k1, k2, k3, k4, k5⟩ := hSw
    simp only [List.getElem_toArray, List.getElem_cons_zero, List.getElem_cons_succ]
    go_simp
    all_goals with_reducible rfl
  simp only [List.getElem_toArray, List.getElem_cons_zero, List.getElem_cons_succ, Act.put, List.setIfInBounds_toArray, List.set_cons_zero, List.set_cons_succ]
  refine AnyN.take (i := 6) (v := ?_) [7, 20] rfl (by kernel_rfl) (by kernel_rfl) (by kernel_rfl) (by kernel_rfl) (fun _ _ _ h => h) (Or.inl ⟨by rfl, ?_⟩) hHeld ?_
  rotate_left
  · intro w hSw
    obtain ⟨k0, k1, k2, k3, k4, k5⟩ := hSw
    simp only [List.getElem_toArray, List.getElem_cons_zero, List.getElem_cons_succ]
    go_simp
    all_goals with_reducible rfl
  simp only [List.getElem_toArray, List.getElem_cons_zero, List.getElem_cons_succ, Act.put, List.setIfInBounds_toArray, List.set_cons_zero, List.set_cons_succ]
  refine AnyN.take (i := 7) (v := ?_) [20] rfl (by kernel_rfl) (by kernel_rfl) (by kernel_rfl) (by kernel_rfl) (fun _ _ _ h => h) (Or.inl ⟨by rfl, ?_⟩) hHeld ?_
  rotate_left
  · intro w hSw
    obtain ⟨k0, k1, k2, k3, k4, k5⟩ := hSw
    simp only [List.getElem_toArray, List.getElem_cons_zero, List.getElem_cons_succ]
    go_simp
    all_goals with_reducible rfl
  simp only [List.getElem_toArray, List.getElem_cons_zero, List.getElem_cons_succ, Act.put, List.setIfInBounds_toArray, List.set_cons_zero, List.set_cons_succ]
  refine AnyN.take (i := 8) (v := ?_) [9, 19, 20] rfl (by kernel_rfl) (by kernel_rfl) (by kernel_rfl) (by kernel_rfl) (fun _ _ _ h => h) (Or.inl ⟨by rfl, ?_⟩) hHeld ?_
  rotate_left
  · intro w hSw
    obtain ⟨k0, k1, k2, k3, k4, k5⟩ := hSw
    simp only [List.getElem_toArray, List.getElem_cons_zero, List.getElem_cons_succ]
    go_simp
    all_goals with_reducible rfl
  simp only [List.getElem_toArray, List.getElem_cons_zero, List.getElem_cons_succ, Act.put, List.setIfInBounds_toArray, List.set_cons_zero, List.set_cons_succ]
  refine AnyN.take (i := 9) (v := ?_) [19, 20] rfl (by kernel_rfl) (by kernel_rfl) (by kernel_rfl) (by kernel_rfl) (fun _ _ _ h => h) (Or.inl ⟨by rfl, ?_⟩) hHeld ?_
  rotate_left
  · intro w hSw
    obtain ⟨k0, k1, k2, k3, k4, k5⟩ := hSw
    simp only [List.getElem_toArray, List.getElem_cons_zero, List.getElem_cons_succ]
    go_simp
    all_goals with_reducible rfl
  simp only [List.getElem_toArray, List.getElem_cons_zero, List.getElem_cons_succ, Act.put, List.setIfInBounds_toArray, List.set_cons_zero, List.set_cons_succ]
  refine AnyN.take (i := 10) (v := ?_) [11, 14, 19, 20] rfl (by kernel_rfl) (by kernel_rfl) (by kernel_rfl) (by kernel_rfl) (fun _ _ _ h => h) (Or.inl ⟨by rfl, ?_⟩) hHeld ?_
  rotate_left
  · intro w hSw
    obtain ⟨k0, k1, k2, k3, k4, k5⟩ := hSw
    simp only [List.getElem_toArray, List.getElem_cons_zero, List.getElem_cons_succ]
    go_simp
    all_goals with_reducible rfl
  simp only [List.getElem_toArray, List.getElem_cons_zero, List.getElem_cons_succ, Act.put, List.setIfInBounds_toArray, List.set_cons_zero, List.set_cons_succ]
  refine AnyN.take (i := 11) (v := ?_) [14, 19, 20] rfl (by kernel_rfl) (by kernel_rfl) (by kernel_rfl) (by kernel_rfl) (fun _ _ _ h => h) (Or.inl ⟨by rfl, ?_⟩) hHeld ?_
  rotate_left
  · intro w hSw
    obtain ⟨k0, k1, k2, k3, k4, k5⟩ := hSw
    simp only [List.getElem_toArray, List.getElem_cons_zero, List.getElem_cons_succ]
    go_simp
    all_goals with_reducible rfl
  simp only [List.getElem_toArray, List.getElem_cons_zero, List.getElem_cons_succ, Act.put, List.setIfInBounds_toArray, List.set_cons_zero, List.set_cons_succ]
  refine AnyN.take (i := 12) (v := ?_) [13, 14, 19, 20] rfl (by kernel_rfl) (by kernel_rfl) (by kernel_rfl) (by kernel_rfl) (fun _ _ _ h => h) (Or.inl ⟨by rfl, ?_⟩) hHeld ?_
  rotate_left
  · intro w hSw
    obtain ⟨k0, k1, k2, k3, k4, k5⟩ := hSw
    simp only [List.getElem_toArray, List.getElem_cons_zero, List.getElem_cons_succ]
    go_simp
    all_goals with_reducible rfl
  simp only [List.getElem_toArray, List.getElem_cons_zero, List.getElem_cons_succ, Act.put, List.setIfInBounds_toArray, List.set_cons_zero, List.set_cons_succ]
  refine AnyN.take (i := 13) (v := ?_) [14, 19, 20] rfl (by kernel_rfl) (by kernel_rfl) (by kernel_rfl) (by kernel_rfl) (fun _ _ _ h => h) (Or.inl ⟨by rfl, ?_⟩) hHeld ?_
  rotate_left
  · intro w hSw
    obtain ⟨k0, k1, k2, k3, k4, k5⟩ := hSw
    simp only [List.getElem_toArray, List.getElem_cons_zero, List.getElem_cons_succ]
    go_simp
    all_goals with_reducible rfl
  simp only [List.getElem_toArray, List.getElem_cons_zero, List.getElem_cons_succ, Act.put, List.setIfInBounds_toArray, List.set_cons_zero, List.set_cons_succ]
  refine AnyN.take (i := 14) (v := ?_) [19, 20] rfl (by kernel_rfl) (by kernel_rfl) (by kernel_rfl) (by kernel_rfl) (fun _ _ _ h => h) (Or.inl ⟨by rfl, ?_⟩) hHeld ?_
  rotate_left
  · intro w hSw
    obtain ⟨k0, k1, k2, k3, k4, k5⟩ := hSw
    simp only [List.getElem_toArray, List.getElem_cons_zero, List.getElem_cons_succ]
    go_simp
    all_goals with_reducible rfl
  simp only [List.getElem_toArray, List.getElem_cons_zero, List.getElem_cons_succ, Act.put, List.setIfInBounds_toArray, List.set_cons_zero, List.set_cons_succ]
  refine AnyN.take (i := 15) (v := ?_) [16, 19, 20] rfl (by kernel_rfl) (by kernel_rfl) (by kernel_rfl) (by kernel_rfl) (fun _ _ _ h => h) (Or.inl ⟨by rfl, ?_⟩) hHeld ?_
  rotate_left
  · intro w hSw
    obtain ⟨k0, k1, k2, k3, k4, k5⟩ := hSw
    simp only [List.getElem_toArray, List.getElem_cons_zero, List.getElem_cons_succ]
    go_simp
    all_goals with_reducible rfl
  simp only [List.getElem_toArray, List.getElem_cons_zero, List.getElem_cons_succ, Act.put, List.setIfInBounds_toArray, List.set_cons_zero, List.set_cons_succ]
  refine AnyN.take (i := 16) (v := ?_) [19, 20] rfl (by kernel_rfl) (by kernel_rfl) (by kernel_rfl) (by kernel_rfl) (fun _ _ _ h => h) (Or.inl ⟨by rfl, ?_⟩) hHeld ?_
  rotate_left
  · intro w hSw
    obtain ⟨k0, k1, k2, k3, k4, k5⟩ := hSw
    simp only [List.getElem_toArray, List.getElem_cons_zero, List.getElem_cons_succ]
    go_simp
    all_goals with_reducible rfl
  simp only [List.getElem_toArray, List.getElem_cons_zero, List.getElem_cons_succ, Act.put, List.setIfInBounds_toArray, List.set_cons_zero, List.set_cons_succ]
  refine AnyN.take (i := 17) (v := ?_) [18, 19, 20] rfl (by kernel_rfl) (by kernel_rfl) (by kernel_rfl) (by kernel_rfl) (fun _ _ _ h => h) (Or.inl ⟨by rfl, ?_⟩) hHeld ?_
  rotate_left
  · intro w hSw
    obtain ⟨k0, k1, k2, k3, k4, k5⟩ := hSw
    simp only [List.getElem_toArray, List.getElem_cons_zero, List.getElem_cons_succ]
    go_simp
    all_goals with_reducible rfl
  simp only [List.getElem_toArray, List.getElem_cons_zero, List.getElem_cons_succ, Act.put, List.setIfInBounds_toArray, List.set_cons_zero, List.set_cons_succ]
  refine AnyN.take (i := 18) (v := ?_) [19, 20] rfl (by kernel_rfl) (by kernel_rfl) (by kernel_rfl) (by kernel_rfl) (fun _ _ _ h => h) (Or.inl ⟨by rfl, ?_⟩) hHeld ?_
  rotate_left
  · intro w hSw
    obtain ⟨k0, k1, k2, k3, k4, k5⟩ := hSw
    simp only [List.getElem_toArray, List.getElem_cons_zero, List.getElem_cons_succ]
    go_simp
    all_goals with_reducible rfl
  simp only [List.getElem_toArray, List.getElem_cons_zero, List.getElem_cons_succ, Act.put, List.setIfInBounds_toArray, List.set_cons_zero, List.set_cons_succ]
  refine AnyN.take (i := 19) (v := ?_) [20] rfl (by kernel_rfl) (by kernel_rfl) (by kernel_rfl) (by kernel_rfl) (fun _ _ _ h => h) (Or.inl ⟨by rfl, ?_⟩) hHeld ?_
  rotate_left
  · intro w hSw
    obtain ⟨k0, k1, k2, k3, k4, k5⟩ := hSw
    simp only [List.getElem_toArray, List.getElem_cons_zero, List.getElem_cons_succ]
    go_simp
    all_goals with_reducible rfl
  simp only [List.getElem_toArray, List.getElem_cons_zero, List.getElem_cons_succ, Act.put, List.setIfInBounds_toArray, List.set_cons_zero, List.set_cons_succ]
  refine AnyN.next (i := 20) (by kernel_rfl) ?_
  refine wpOp_step rfl (fun K hK => ?_)
  have HK := Lib.hid hK
  clear hK
  simp only [List.getElem_toArray, List.getElem_cons_zero, List.getElem_cons_succ]
  rw [if_pos (by rfl)]
  have hup := HUp.out
  go_wp2_with fail
  refine HK.out _ _ ⟨.inl (by decide), ?_⟩
  clear HK K
  refine AnyN.done (by kernel_rfl) ?_ _
  go_wp2_with fail
  go_ret2
  exact ⟨rfl, HF.out⟩
set_option maxRecDepth 20000 in
set_option maxHeartbeats 4000000 in
theorem madd_nil (id0 a n : Int) (g : Bool) (s : Int) (w : World) : Calls Try.prog 13 #[.pointer none, .agg #[.int .i64 id0, .int .i64 a, .int .i64 n, .bool g, .int .u16 s]] w fun e w' => e = .returned (.tuple #[.int .i64 0, .int .i64 1]) ∧ Stay [] w w' := by
  have HS := Lib.hid (Stay.alloc (F := []) w (.cells #[.int .i64 id0, .int .i64 a, .int .i64 n, .bool g, .int .u16 s] 35))
  go_enter Try.func13, Try.ntmps13
  go_wp2_with fail
  go_ret2
  exact ⟨rfl, HS.out⟩
end Go.Proofs.Ytbnaglkhbgfchaa
