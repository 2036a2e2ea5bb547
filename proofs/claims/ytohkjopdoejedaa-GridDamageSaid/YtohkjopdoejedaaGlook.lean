/- shuttlelaw24: looks; cells compared whole. -/
import Derived.Test.YtohkjopdoejedaaGdmg0
import Derived.Test.YtohkjopdoejedaaGce
namespace Go.Proofs.Ytohkjopdoejedaa
open Go.RowKit
set_option maxRecDepth 20000 in
set_option maxHeartbeats 4000000 in
theorem looks_any (a b : Ce) (w : World) : Calls Try.prog 19 #[.agg #[.string a.text, .int .i8 a.part, .int .i64 a.at_, .int .i64 a.len, .bool a.right, .int .u16 a.style], .agg #[.string b.text, .int .i8 b.part, .int .i64 b.at_, .int .i64 b.len, .bool b.right, .int .u16 b.style]] w
    fun e w' => e = .returned (.bool (looksB a b)) ∧ Below w.heap.size w w' := by
  obtain ⟨t1, p1, a1, l1, r1, s1⟩ := a
  obtain ⟨t2, p2, a2, l2, r2, s2⟩ := b
  simp only
  have h0 := box6 w ⟨t1, p1, a1, l1, r1, s1⟩ 49 _ rfl _ rfl
  simp only at h0
  obtain ⟨W1, hW1⟩ : ∃ W1, W1 = w.alloc (.cells #[.string t1, .int .i8 p1, .int .i64 a1, .int .i64 l1, .bool r1, .int .u16 s1] 49) := ⟨_, rfl⟩
  have HW1 := Lib.hid hW1
  rw [← hW1] at h0
  have hz : W1.heap.size = w.heap.size + 1 := by rw [hW1]; simp
  have h1 := box6 W1 ⟨t2, p2, a2, l2, r2, s2⟩ 49 _ rfl _ rfl
  simp only at h1
  have hk : ∀ (j : Nat) (u : Value), W1.cell? ⟨w.heap.size, j, none⟩ = some u → (W1.alloc (.cells #[.string t2, .int .i8 p2, .int .i64 a2, .int .i64 l2, .bool r2, .int .u16 s2] 49)).cell? ⟨w.heap.size, j, none⟩ = some u := fun j u h => ((Stay.alloc (F := []) W1 (.cells #[.string t2, .int .i8 p2, .int .i64 a2, .int .i64 l2, .bool r2, .int .u16 s2] 49)).cell_ (a := ⟨w.heap.size, j, none⟩) (by show w.heap.size < W1.heap.size; omega) (by simp)).trans h
  have c0 := hk _ _ h0.1
  have c1 := hk _ _ h0.2.1
  have c5 := hk _ _ h0.2.2.2.2.2
  obtain ⟨d0, d1, _, _, _, d5⟩ := h1
  have HB := Lib.hid (show Below w.heap.size w (W1.alloc (.cells #[.string t2, .int .i8 p2, .int .i64 a2, .int .i64 l2, .bool r2, .int .u16 s2] 49)) from by
    rw [HW1.out]
    exact ((Below.refl w.heap.size w).alloc (Nat.le_refl _) _).alloc (by simp) _)
  obtain ⟨b, hb⟩ : ∃ b, b = w.heap.size := ⟨_, rfl⟩
  have HBe := Lib.hid hb
  rw [← hb] at c0 c1 c5 HB hz ⊢
  rw [hz] at d0 d1 d5
  clear h0 hk hb hW1
  have HLk := Lib.hid (show looksB ⟨t1, p1, a1, l1, r1, s1⟩ ⟨t2, p2, a2, l2, r2, s2⟩ = (decide (t1 = t2) && decide (p1 = p2) && decide (s1 = s2)) from rfl)
  rw [HLk.out]
  by_cases ht : t1 = t2
  · subst ht
    by_cases hp : p1 = p2
    · subst hp
      by_cases hs : s1 = s2
      · subst hs
        go_enter Try.func19, Try.ntmps19
        go_wp2_with fail
        exact bodyPost_ret (v := .bool true) (by simp [results, Try.results19, go_sem]) rfl ⟨by simp, by have h := HB.out; rw [HW1.out] at h; exact h⟩
      · have HNhs := Lib.hid hs
        go_enter Try.func19, Try.ntmps19
        go_wp2_with fail
        exact bodyPost_ret (v := .bool false) (by simp [results, Try.results19, go_sem, HNhs.out]) rfl ⟨by simp [HNhs.out], by have h := HB.out; rw [HW1.out] at h; exact h⟩
    · have HNhp := Lib.hid hp
      go_enter Try.func19, Try.ntmps19
      go_wp2_with fail
      exact bodyPost_ret (v := .bool false) (by simp [results, Try.results19, go_sem, HNhp.out]) rfl ⟨by simp [HNhp.out], by have h := HB.out; rw [HW1.out] at h; exact h⟩
  · have htb2 : ¬ t1.toList = t2.toList := fun e => ht ((str_eq t1 t2).1 e)
    have HNt := Lib.hid ht
    have htb : (t1.toList == t2.toList) = false := by simpa using htb2
    go_enter Try.func19, Try.ntmps19
    go_wp2_with fail
    exact bodyPost_ret (v := .bool false) (by simp [results, Try.results19, go_sem, HNt.out]) rfl ⟨by simp [HNt.out], by have h := HB.out; rw [HW1.out] at h; exact h⟩
end Go.Proofs.Ytohkjopdoejedaa
