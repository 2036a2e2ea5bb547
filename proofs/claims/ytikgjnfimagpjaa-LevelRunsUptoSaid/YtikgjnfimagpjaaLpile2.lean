/- package level: the pile's methods. -/
import Derived.Test.YtikgjnfimagpjaaLpile
import Derived.RegionTactic
import Derived.BigRegion
namespace Go.Proofs.Ytikgjnfimagpjaa
open Go.RowKit
theorem PileAt.peek {w : World} {B b g n c : Nat} {s : PS} {l : List St} {t : St} (h : PileAt w B b g n c s) (hs : s.sts = l ++ [t]) :
    n = l.length + 1 ∧ n ≤ c ∧ c ≤ maxLen ∧ B ≤ g ∧ g < w.heap.size ∧ b < w.heap.size ∧ g ≠ b ∧
      w.cell? ⟨g, l.length * 3, none⟩ = some (.int .u8 t.level) ∧ w.cell? ⟨g, l.length * 3 + 1, none⟩ = some (.int .i8 t.over) ∧ w.cell? ⟨g, l.length * 3 + 2, none⟩ = some (.bool t.iso) := by
  have hn := h.len
  rw [hs] at hn
  simp at hn
  have hr := h.row
  have hat := stCells_at s.sts l.length (by rw [hs]; simp)
  have ht : s.sts[l.length]'(by rw [hs]; simp) = t := by simp [hs]
  rw [ht] at hat
  have h0 := (hr.cell (l.length * 3) (by omega)).trans hat.1
  have h1 := (hr.cell (l.length * 3 + 1) (by omega)).trans hat.2.1
  have h2 := (hr.cell (l.length * 3 + 2) (by omega)).trans hat.2.2
  exact ⟨hn.symm, hr.2.1, hr.2.2.1, hr.2.2.2.1, hr.lt, h.blk.lt, h.far, h0, h1, h2⟩
set_option maxHeartbeats 1000000 in
theorem top_any (B b g n c : Nat) (s : PS) (l : List St) (t : St) (hs : s.sts = l ++ [t]) (w : World) (hp : PileAt w B b g n c s) :
    Calls Try.prog 43 #[.pointer (some ⟨b, 0, none⟩)] w fun e w' => e = .returned (.agg #[.int .u8 t.level, .int .i8 t.over, .bool t.iso]) ∧ Stay [] w w' := by
  obtain ⟨rfl, hnc, hcm, hBg, hg, hbl, hgb, hc0, hc1, hc2⟩ := hp.peek hs
  have hb0 := hp.blk.cell 0
  have hbf := hp.blk.free 0
  obtain ⟨k, hk⟩ : ∃ k, k = l.length := ⟨_, rfl⟩
  rw [← hk] at hb0 hc0 hc1 hc2 hnc
  have hkb : (k : Int) ≤ 9223372036854775806 := by unfold maxLen at hcm; omega
  have hk0 : (0 : Int) ≤ k := by omega
  have hkk : (k : Int) < (k : Int) + 1 := by omega
  have hkw : IntKind.i64.wrap (k : Int) = k := by simp [IntKind.wrap, IntKind.signed, IntKind.bits]; omega
  have e1 : (k : Int).toNat = k := by omega
  simp only [List.getElem?_cons_zero] at hb0
  clear hp hs hk s
  go_enter Try.func43, Try.ntmps43
  go_wp2
  go_region
  go_wp2
  refine bodyPost_ret (v := .agg #[.int .u8 t.level, .int .i8 t.over, .bool t.iso]) (by simp [results, Try.results43, go_sem]) rfl ⟨rfl, ?_⟩
  repeat (refine Stay.set' ?_ (.inr ?_); rotate_left; exact Nat.le_refl _)
  exact ((Stay.refl _ _).alloc').drew'
end Go.Proofs.Ytikgjnfimagpjaa
