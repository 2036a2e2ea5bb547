/- package level: the document's pile, in memory (printed by gen_rpile.py). -/
import Derived.Test.YtikgjnfimagpjaaLref4
namespace Go.Proofs.Ytikgjnfimagpjaa
open Go.RowKit
theorem info78 : (Try.prog.info? 78).map (fun i => (i.zero, i.size, i.bytes)) = some (some (.agg #[.int .u8 0, .int .i8 0, .bool false]), 3, 3) := by kernel_rfl
/-- the document's pile at block b, its states in row g -/
structure RPileAt (w : World) (B b g n c : Nat) (low : Int) (prv : Value) (s : PS) : Prop where
  base : B ≤ b
  blk : Blk w b [.slice (some ⟨g, 0, none⟩) n c, .int .i64 s.opens, .int .i64 s.deep, .int .i64 s.lost, .int .u8 low, prv] 57
  len : s.sts.length = n
  row : Row w B 78 3 g n c (stCells s.sts)
  far : g ≠ b
theorem RPileAt.peek {w : World} {B b g n c : Nat} {low : Int} {prv : Value} {s : PS} {l : List St} {t : St} (h : RPileAt w B b g n c low prv s) (hs : s.sts = l ++ [t]) :
    n = l.length + 1 ∧ n ≤ c ∧ c ≤ maxLen ∧ B ≤ g ∧ g < w.heap.size ∧ b < w.heap.size ∧ g ≠ b ∧
      w.cell? ⟨g, l.length * 3, none⟩ = some (.int .u8 t.level) ∧ w.cell? ⟨g, l.length * 3 + 1, none⟩ = some (.int .i8 t.over) ∧ w.cell? ⟨g, l.length * 3 + 2, none⟩ = some (.bool t.iso) := by
  have hn := h.len
  rw [hs] at hn
  simp at hn
  have hr := h.row
  have hat := stCells_at s.sts l.length (by rw [hs]; simp)
  have ht : s.sts[l.length]'(by rw [hs]; simp) = t := by simp [hs]
  rw [ht] at hat
  have h0 := (hr.cell (l.length * 3) (by omega)).trans hat.1
  have h1 := (hr.cell (l.length * 3 + 1) (by omega)).trans hat.2.1
  have h2 := (hr.cell (l.length * 3 + 2) (by omega)).trans hat.2.2
  exact ⟨hn.symm, hr.2.1, hr.2.2.1, hr.2.2.2.1, hr.lt, h.blk.lt, h.far, h0, h1, h2⟩
theorem RPileAt.popped {w w' : World} {B b g n c : Nat} {low : Int} {prv : Value} {s : PS} {l : List St} {t : St} (h : RPileAt w B b g n c low prv s) (hs : s.sts = l ++ [t]) (hw : w' = w.setCell ⟨b, 0, none⟩ (.slice (some ⟨g, 0, none⟩) l.length c)) : RPileAt w' B b g l.length c low prv { s with sts := l } ∧ Stay [b] w w' := by
  obtain ⟨rfl, hnc, hcm, -⟩ := h.peek hs
  subst hw
  refine ⟨⟨h.base, h.blk.set 0 _, rfl, ?_, h.far⟩, Stay.setCell _ _ _ (by simp)⟩
  have := (h.row.stay (Stay.setCell (F := [b]) w ⟨b, 0, none⟩ (.slice (some ⟨g, 0, none⟩) l.length c) (by simp)) (by simpa using h.far)).cut l.length c (by omega) (by omega) (Nat.le_refl _)
  rw [stCells_take, hs, List.take_left] at this
  exact this
theorem RPileAt.drew {w : World} {B b g n c : Nat} {low : Int} {prv : Value} {s : PS} (h : RPileAt w B b g n c low prv s) : RPileAt w.drew B b g n c low prv s := ⟨h.base, h.blk, h.len, h.row, h.far⟩
theorem RPileAt.stay {w w' : World} {B b g n c : Nat} {low : Int} {prv : Value} {s : PS} {F : List Nat} (h : RPileAt w B b g n c low prv s) (hs : Stay F w w') (hb : b ∉ F) (hg : g ∉ F) : RPileAt w' B b g n c low prv s :=
  ⟨h.base, h.blk.stay hs hb, h.len, h.row.stay hs hg, h.far⟩
theorem RPileAt.laid {w w1 w2 : World} {B b g n c g' c' : Nat} {low : Int} {prv : Value} {s : PS} {st : St} (h : RPileAt w1 B b g n c low prv s) (h1 : Stay [g] w1 w2) (hr : Row w2 B 78 3 g' (n + 1) c' (stCells s.sts ++ st.cells)) (hg : g' = g ∨ g' = w1.heap.size) (hs : Stay [] w w1) :
    RPileAt (w2.setCell ⟨b, 0, none⟩ (.slice (some ⟨g', 0, none⟩) (n + 1) c')) B b g' (n + 1) c' low prv { s with sts := s.sts ++ [st] } ∧ Stay [b, g] w (w2.setCell ⟨b, 0, none⟩ (.slice (some ⟨g', 0, none⟩) (n + 1) c')) ∧ (g' = g ∨ w.heap.size ≤ g') := by
  have hbl := h.blk.lt
  have hf : g' ≠ b := by
    rcases hg with rfl | hg
    · exact h.far
    · omega
  have hgb := h.far
  refine ⟨⟨h.base, (h.blk.stay h1 (by simpa using fun e : b = g => hgb e.symm)).set 0 _, by simp [h.len], ?_, hf⟩, ((hs.mono (by simp)).trans' h1 (by simp)).set' (.inl (by simp)), ?_⟩
  · have := hr.stay (Stay.setCell (F := [b]) w2 ⟨b, 0, none⟩ (.slice (some ⟨g', 0, none⟩) (n + 1) c') (by simp)) (by simpa using hf)
    simpa [stCells] using this
  · rcases hg with hg | hg
    · exact .inl hg
    · exact .inr (by have := hs.size; omega)
theorem rlost_put {w : World} {B b g n c : Nat} {low : Int} {prv : Value} {p q : PS} (h : RPileAt w B b g n c low prv p) {v : Int} (hv : q.sts = p.sts ∧ q.opens = p.opens ∧ q.deep = p.deep ∧ v = q.lost) : RPileAt (w.setCell ⟨b, 3, none⟩ (.int .i64 v)) B b g n c low prv q := by
  obtain ⟨e1, e2, e3, rfl⟩ := hv
  refine ⟨h.base, ?_, by rw [e1]; exact h.len, ?_, h.far⟩
  · have := h.blk.set 3 (.int .i64 q.lost)
    rw [e2, e3]
    exact this
  · rw [e1]
    exact h.row.stay (Stay.setCell (F := [b]) w ⟨b, 3, none⟩ _ (by simp)) (by simpa using h.far)
theorem rtwo_put {w : World} {B b g n c : Nat} {low : Int} {prv : Value} {p q : PS} (h : RPileAt w B b g n c low prv p) {v : Int} (hv : q.sts = p.sts ∧ q.opens = p.opens ∧ q.lost = p.lost ∧ v = q.deep) : RPileAt (w.setCell ⟨b, 2, none⟩ (.int .i64 v)) B b g n c low prv q := by
  obtain ⟨e1, e2, e3, rfl⟩ := hv
  refine ⟨h.base, ?_, by rw [e1]; exact h.len, ?_, h.far⟩
  · have := h.blk.set 2 (.int .i64 q.deep)
    rw [e2, e3]
    exact this
  · rw [e1]
    exact h.row.stay (Stay.setCell (F := [b]) w ⟨b, 2, none⟩ _ (by simp)) (by simpa using h.far)
theorem ropen_put {w : World} {B b g n c : Nat} {low : Int} {prv : Value} {p q : PS} (h : RPileAt w B b g n c low prv p) {v : Int} (hv : q.sts = p.sts ∧ q.deep = p.deep ∧ q.lost = p.lost ∧ v = q.opens) : RPileAt (w.setCell ⟨b, 1, none⟩ (.int .i64 v)) B b g n c low prv q := by
  obtain ⟨e1, e2, e3, rfl⟩ := hv
  refine ⟨h.base, ?_, by rw [e1]; exact h.len, ?_, h.far⟩
  · have := h.blk.set 1 (.int .i64 q.opens)
    rw [e2, e3]
    exact this
  · rw [e1]
    exact h.row.stay (Stay.setCell (F := [b]) w ⟨b, 1, none⟩ _ (by simp)) (by simpa using h.far)
set_option maxHeartbeats 1000000 in
theorem rtop_any (B b g n c : Nat) (low : Int) (prv : Value) (s : PS) (l : List St) (t : St) (hs : s.sts = l ++ [t]) (w : World) (hp : RPileAt w B b g n c low prv s) :
    Calls Try.prog 58 #[.pointer (some ⟨b, 0, none⟩)] w fun e w' => e = .returned (.agg #[.int .u8 t.level, .int .i8 t.over, .bool t.iso]) ∧ Stay [] w w' := by
  obtain ⟨rfl, hnc, hcm, hBg, hg, hbl, hgb, hc0, hc1, hc2⟩ := hp.peek hs
  have hb0 := hp.blk.cell 0
  have hbf := hp.blk.free 0
  obtain ⟨k, hk⟩ : ∃ k, k = l.length := ⟨_, rfl⟩
  rw [← hk] at hb0 hc0 hc1 hc2 hnc
  have hkb : (k : Int) ≤ 9223372036854775806 := by unfold maxLen at hcm; omega
  have hk0 : (0 : Int) ≤ k := by omega
  have hkk : (k : Int) < (k : Int) + 1 := by omega
  have hkw : IntKind.i64.wrap (k : Int) = k := by simp [IntKind.wrap, IntKind.signed, IntKind.bits]; omega
  have e1 : (k : Int).toNat = k := by omega
  simp only [List.getElem?_cons_zero] at hb0
  clear hp hs hk s
  go_enter Try.func58, Try.ntmps58
  go_wp2
  go_region
  go_wp2
  refine bodyPost_ret (v := .agg #[.int .u8 t.level, .int .i8 t.over, .bool t.iso]) (by simp [results, Try.results58, go_sem]) rfl ⟨rfl, ?_⟩
  repeat (refine Stay.set' ?_ (.inr ?_); rotate_left; exact Nat.le_refl _)
  exact ((Stay.refl _ _).alloc').drew'
end Go.Proofs.Ytikgjnfimagpjaa
