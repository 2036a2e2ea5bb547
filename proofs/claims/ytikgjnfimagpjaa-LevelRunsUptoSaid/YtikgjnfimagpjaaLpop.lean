/- package level: pop. -/
import Derived.Test.YtikgjnfimagpjaaLpile2
namespace Go.Proofs.Ytikgjnfimagpjaa
open Go.RowKit
theorem PileAt.popped {w w' : World} {B b g n c : Nat} {s : PS} {l : List St} {t : St} (h : PileAt w B b g n c s) (hs : s.sts = l ++ [t]) (hw : w' = w.setCell ⟨b, 0, none⟩ (.slice (some ⟨g, 0, none⟩) l.length l.length)) : PileAt w' B b g l.length l.length { s with sts := l } ∧ Stay [b] w w' := by
  obtain ⟨rfl, hnc, hcm, -⟩ := h.peek hs
  subst hw
  refine ⟨⟨h.base, h.blk.set 0 _, rfl, ?_, h.far⟩, Stay.setCell _ _ _ (by simp)⟩
  have := (h.row.stay (Stay.setCell (F := [b]) w ⟨b, 0, none⟩ (.slice (some ⟨g, 0, none⟩) l.length l.length) (by simp)) (by simpa using h.far)).cut l.length l.length (by omega) (Nat.le_refl _) (by omega)
  rw [stCells_take, hs, List.take_left] at this
  exact this
theorem Row.drewN {w : World} {B g n c sz : Nat} {e : TypeId} {xs : List Value} (h : Row w B e sz g n c xs) (k : Nat) : Row (w.drewN k) B e sz g n c xs := h
theorem PileAt.drew {w : World} {B b g n c : Nat} {s : PS} (h : PileAt w B b g n c s) : PileAt w.drew B b g n c s := ⟨h.base, h.blk, h.len, h.row, h.far⟩
set_option maxHeartbeats 1000000 in
theorem pop_any (B b g n c : Nat) (s : PS) (l : List St) (t : St) (hs : s.sts = l ++ [t]) (w : World) (hp : PileAt w B b g n c s) :
    Calls Try.prog 64 #[.pointer (some ⟨b, 0, none⟩)] w fun e w' => e = .returned (.tuple #[]) ∧ PileAt w' B b g l.length l.length { s with sts := l } ∧ Stay [b] w w' := by
  obtain ⟨rfl, hnc, hcm, hBg, hg, hbl, hgb, hc0, hc1, hc2⟩ := hp.peek hs
  have hb0 := hp.blk.cell 0
  have hbf := hp.blk.free 0
  obtain ⟨k, hk⟩ : ∃ k, k = l.length := ⟨_, rfl⟩
  have HR := Lib.hid (hp.popped hs rfl)
  rw [← hk] at hb0 hnc HR ⊢
  have hkb : (k : Int) ≤ 9223372036854775806 := by unfold maxLen at hcm; omega
  have hk0 : (0 : Int) ≤ k := by omega
  have hkk : (k : Int) ≤ (k : Int) + 1 := by omega
  have hkc : (k : Int) ≤ (c : Int) := by omega
  have hkw : IntKind.i64.wrap (k : Int) = k := by simp [IntKind.wrap, IntKind.signed, IntKind.bits]; omega
  have e1 : (k : Int).toNat = k := by omega
  simp only [List.getElem?_cons_zero] at hb0
  clear hp hs hk hc0 hc1 hc2
  go_enter Try.func64, Try.ntmps64
  go_region
  go_wp2
  exact bodyPost_end (v := .tuple #[]) (by simp [results, Try.results64, go_sem]) rfl ⟨rfl, HR.out.1.drew, HR.out.2.drew'⟩
end Go.Proofs.Ytikgjnfimagpjaa
