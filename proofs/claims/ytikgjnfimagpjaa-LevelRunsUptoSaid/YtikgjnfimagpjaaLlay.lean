/- package level: lay, where there is room. -/
import Derived.Test.YtikgjnfimagpjaaLsaid
namespace Go.Proofs.Ytikgjnfimagpjaa
open Go.RowKit
theorem info61 : (Try.prog.info? 61).map (fun i => (i.zero, i.size, i.bytes)) = some (some (.agg #[.int .u8 0, .int .i8 0, .bool false]), 3, 3) := by kernel_rfl
theorem one_st (a b : Int) (c : Bool) : ∀ u ∈ [Value.int .u8 a, .int .i8 b, .bool c], u.oneCell' = true := by intro u hu; simp at hu; rcases hu with rfl | rfl | rfl <;> rfl
/-- behind the append: the pile's slice is put -/
theorem PileAt.laid {w w1 w2 : World} {B b g n c g' c' : Nat} {s : PS} {st : St} (h : PileAt w1 B b g n c s) (h1 : Stay [g] w1 w2) (hr : Row w2 B 61 3 g' (n + 1) c' (stCells s.sts ++ st.cells)) (hg : g' = g ∨ g' = w1.heap.size) (hs : Stay [] w w1) :
    PileAt (w2.setCell ⟨b, 0, none⟩ (.slice (some ⟨g', 0, none⟩) (n + 1) c')) B b g' (n + 1) c' { s with sts := s.sts ++ [st] } ∧ Stay [b, g] w (w2.setCell ⟨b, 0, none⟩ (.slice (some ⟨g', 0, none⟩) (n + 1) c')) ∧ (g' = g ∨ w.heap.size ≤ g') := by
  have hbl := h.blk.lt
  have hf : g' ≠ b := by
    rcases hg with rfl | hg
    · exact h.far
    · omega
  have hgb := h.far
  refine ⟨⟨h.base, (h.blk.stay h1 (by simpa using fun e : b = g => hgb e.symm)).set 0 _, by simp [h.len], ?_, hf⟩, ((hs.mono (by simp)).trans' h1 (by simp)).set' (.inl (by simp)), ?_⟩
  · have := hr.stay (Stay.setCell (F := [b]) w2 ⟨b, 0, none⟩ (.slice (some ⟨g', 0, none⟩) (n + 1) c') (by simp)) (by simpa using hf)
    simpa [stCells] using this
  · rcases hg with hg | hg
    · exact .inl hg
    · exact .inr (by have := hs.size; omega)
set_option maxHeartbeats 2000000 in
theorem lay_yes (odd : Bool) (over : Int) (iso : Bool) (B b g n c : Nat) (s : PS) (l : List St) (t : St) (hs : s.sts = l ++ [t]) (w : World) (hp : PileAt w B b g n c s) (h0 : 0 ≤ t.level) (h1 : t.level ≤ 125) (hn : n ≤ 2097152) (hx1 : upL odd t.level ≤ 125) (hx2 : s.deep = 0) (hx3 : s.lost = 0) :
    Calls Try.prog 46 #[.pointer (some ⟨b, 0, none⟩), .bool odd, .int .i8 over, .bool iso] w fun e w' => e = .returned (.bool true) ∧ ∃ g' c', PileAt w' B b g' (n + 1) c' { s with sts := s.sts ++ [⟨upL odd t.level, over, iso⟩] } ∧ Stay [b, g] w w' ∧ (g' = g ∨ w.heap.size ≤ g') := by
  obtain ⟨i0, hi0, hz0, hz1, hz2⟩ := info_parts info61
  have HT := Lib.hid (fun w' (hst : Stay [] w w') => top_any B b g n c s l t hs w' (hp.stay hst (by simp) (by simp)))
  have HPW := Lib.hid (fun w' (hst : Stay [] w w') => (hp.stay hst (by simp) (by simp)))
  have HP0 := Lib.hid (fun w' (hst : Stay [] w w') => (hp.stay hst (by simp) (by simp)).blk.cell 0)
  have HPF := Lib.hid (fun w' (hst : Stay [] w w') => (hp.stay hst (by simp) (by simp)).blk.free 0)
  have HP2 := Lib.hid (fun w' (hst : Stay [] w w') => (hp.stay hst (by simp) (by simp)).blk.cell 2)
  have HP3 := Lib.hid (fun w' (hst : Stay [] w w') => (hp.stay hst (by simp) (by simp)).blk.cell 3)
  simp only [List.getElem?_cons_zero, List.getElem?_cons_succ, hx2, hx3] at HP0 HP2 HP3
  obtain ⟨lev, hlev⟩ : ∃ lev, lev = t.level := ⟨_, rfl⟩
  rw [← hlev] at HT h0 h1 hx1 ⊢
  have hor := or_up lev h0 h1
  have han := andNot_up lev h0 h1
  obtain ⟨x, hx⟩ : ∃ x, x = upL odd lev := ⟨_, rfl⟩
  rw [← hx] at hx1 ⊢
  have hBs : B ≤ w.heap.size := by have := hp.base; have := hp.blk.lt; omega
  clear hp hs hlev hx2 hx3
  have hfd : ∀ (o : Int) (i : Bool) (w : World), (Instr.field 61 (.agg #[.int .u8 lev, .int .i8 o, .bool i]) 0).run Try.prog w = .ok (.int .u8 lev) w := fun _ _ _ => by kernel_rfl
  have b1 : decide (125 < x) = false := by simpa using hx1
  have hgb := (HPW.out _ (Stay.refl _ _)).far
  cases odd with
  | true =>
    rw [← hx] at hor
    clear han hx
    go_enter Try.func46, Try.ntmps46
    go_wp2_with (first
      | (go_at_call 43; refine (HT.out _ (Stay.refl _ _)).mono ?_; rintro e w1 ⟨rfl, hst1⟩)
      | (go_at_call 43; refine (HT.out _ hst1).mono ?_; rintro e w2 ⟨rfl, hst2⟩; have hst := hst1.trans hst2; have hc0 := HP0.out _ hst; have hc2 := HP2.out _ hst; have hc3 := HP3.out _ hst; have hcf := HPF.out _ hst)
      | (at_builtin; refine wpList_append_row rfl (.tmp 41) (.tmp 46) 63 rfl i0 _ 3 Try.underlying63 hi0 hz0 hz1 hz2 rfl rfl ((HPW.out _ hst).row.stay (F := []) (Stay.alloc _ _) (by simp)) _ 1 1 [.int .u8 x, .int .i8 over, .bool iso] rfl rfl (cells_new _ _ _ _ rfl) (one_st _ _ _) (by unfold maxLen; omega) (by omega) (by rw [size_alloc']; have := hst.size; omega) ?_; intro g' c' w3 hr3 hst3 hg3
         have hb3 := ((HPW.out _ hst).blk.stay (F := []) (Stay.alloc _ (.cells #[.int .u8 x, .int .i8 over, .bool iso] 61)) (by simp)).stay hst3 (by simpa using fun e : b = g => hgb e.symm)
         have hc30 := hb3.cell 0
         have hf30 := hb3.free 0
         simp only [List.getElem?_cons_zero] at hc30
         have HR := Lib.hid (PileAt.laid (st := ⟨x, over, iso⟩) ((HPW.out _ hst).stay (F := []) (Stay.alloc _ (.cells #[.int .u8 x, .int .i8 over, .bool iso] 61)) (by simp) (by simp)) hst3 hr3 hg3 (hst.trans (Stay.alloc _ _)))
         clear hr3 hst3 hg3 hb3))
    go_ret
    exact ⟨rfl, g', c', HR.out⟩
  | false =>
    rw [← hx] at han
    clear hor hx
    go_enter Try.func46, Try.ntmps46
    go_wp2_with (first
      | (go_at_call 43; refine (HT.out _ (Stay.refl _ _)).mono ?_; rintro e w2 ⟨rfl, hst⟩; have hc0 := HP0.out _ hst; have hc2 := HP2.out _ hst; have hc3 := HP3.out _ hst; have hcf := HPF.out _ hst)
      | (at_builtin; refine wpList_append_row rfl (.tmp 41) (.tmp 46) 63 rfl i0 _ 3 Try.underlying63 hi0 hz0 hz1 hz2 rfl rfl ((HPW.out _ hst).row.stay (F := []) (Stay.alloc _ _) (by simp)) _ 1 1 [.int .u8 x, .int .i8 over, .bool iso] rfl rfl (cells_new _ _ _ _ rfl) (one_st _ _ _) (by unfold maxLen; omega) (by omega) (by rw [size_alloc']; have := hst.size; omega) ?_; intro g' c' w3 hr3 hst3 hg3
         have hb3 := ((HPW.out _ hst).blk.stay (F := []) (Stay.alloc _ (.cells #[.int .u8 x, .int .i8 over, .bool iso] 61)) (by simp)).stay hst3 (by simpa using fun e : b = g => hgb e.symm)
         have hc30 := hb3.cell 0
         have hf30 := hb3.free 0
         simp only [List.getElem?_cons_zero] at hc30
         have HR := Lib.hid (PileAt.laid (st := ⟨x, over, iso⟩) ((HPW.out _ hst).stay (F := []) (Stay.alloc _ (.cells #[.int .u8 x, .int .i8 over, .bool iso] 61)) (by simp) (by simp)) hst3 hr3 hg3 (hst.trans (Stay.alloc _ _)))
         clear hr3 hst3 hg3 hb3))
    go_ret
    exact ⟨rfl, g', c', HR.out⟩
end Go.Proofs.Ytikgjnfimagpjaa
