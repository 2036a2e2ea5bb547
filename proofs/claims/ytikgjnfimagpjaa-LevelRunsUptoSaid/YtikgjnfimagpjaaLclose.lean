/- package level: close. -/
import Derived.Test.YtikgjnfimagpjaaLembed
namespace Go.Proofs.Ytikgjnfimagpjaa
open Go.RowKit
theorem iso_some {p : PL} (hG : GoodP p) (h : 0 < p.opens) : ∃ s ∈ p.stk, s.iso = true := by
  have := hG.isos
  have : 0 < (p.stk.filter St.iso).length := by omega
  obtain ⟨s, hs⟩ := List.exists_mem_of_length_pos this
  exact ⟨s, (List.mem_filter.1 hs).1, (List.mem_filter.1 hs).2⟩
theorem two_put {w : World} {B b g n c : Nat} {p q : PS} (h : PileAt w B b g n c p) {v : Int} (hv : q.sts = p.sts ∧ q.opens = p.opens ∧ q.lost = p.lost ∧ v = q.deep) : PileAt (w.setCell ⟨b, 2, none⟩ (.int .i64 v)) B b g n c q := by
  obtain ⟨e1, e2, e3, rfl⟩ := hv
  refine ⟨h.base, ?_, by rw [e1]; exact h.len, ?_, h.far⟩
  · have := h.blk.set 2 (.int .i64 q.deep)
    rw [e2, e3]
    exact this
  · rw [e1]
    exact h.row.stay (Stay.setCell (F := [b]) w ⟨b, 2, none⟩ _ (by simp)) (by simpa using h.far)
theorem open_put {w : World} {B b g n c : Nat} {p q : PS} (h : PileAt w B b g n c p) {v : Int} (hv : q.sts = p.sts ∧ q.deep = p.deep ∧ q.lost = p.lost ∧ v = q.opens) : PileAt (w.setCell ⟨b, 1, none⟩ (.int .i64 v)) B b g n c q := by
  obtain ⟨e1, e2, e3, rfl⟩ := hv
  refine ⟨h.base, ?_, by rw [e1]; exact h.len, ?_, h.far⟩
  · have := h.blk.set 1 (.int .i64 q.opens)
    rw [e2, e3]
    exact this
  · rw [e1]
    exact h.row.stay (Stay.setCell (F := [b]) w ⟨b, 1, none⟩ _ (by simp)) (by simpa using h.far)
def sliceLen : Option Value → Nat
  | some (.slice _ n _) => n
  | _ => 0
set_option maxHeartbeats 2000000 in
theorem close_any (B b g n c : Nat) (p : PL) (hG : GoodP p) (w : World) (hp : PileAt w B b g n c p.ps) (hbd : p.deep ≤ 2097152 ∧ p.opens ≤ 2097152) :
    Calls Try.prog 47 #[.pointer (some ⟨b, 0, none⟩)] w fun e w' => e = .returned (.tuple #[]) ∧ ∃ n' c', n' ≤ n ∧ PileAt w' B b g n' c' (closeP p).ps ∧ Stay [b] w w' := by
  have hc1 := hp.blk.cell 1
  have hc2 := hp.blk.cell 2
  have hc3 := hp.blk.cell 3
  have hf1 := hp.blk.free 1
  have hf2 := hp.blk.free 2
  have hf3 := hp.blk.free 3
  simp only [List.getElem?_cons_zero, List.getElem?_cons_succ, PL.ps] at hc1 hc2 hc3
  have HP := Lib.hid hp
  obtain ⟨hbd1, hbd2⟩ := hbd
  clear hp
  by_cases h2 : 0 < p.deep
  · have HE := Lib.hid (show closeP p = { p with deep := p.deep - 1 } from by unfold closeP; rw [if_pos h2])
    clear hG
    go_enter Try.func47, Try.ntmps47
    go_wp2
    exact bodyPost_end (v := .tuple #[]) (by simp [results, Try.results47, go_sem]) rfl ⟨rfl, n, c, Nat.le_refl _, by rw [HE.out]; exact two_put HP.out ⟨rfl, rfl, rfl, by simp [PL.ps]; omega⟩, Stay.setCell _ _ _ (by simp)⟩
  by_cases h3 : 0 < p.opens
  · have HE := Lib.hid (show closeP p = { p with stk := (p.stk.dropWhile fun s => !s.iso).tail, opens := p.opens - 1, lost := 0 } from by unfold closeP; rw [if_neg h2, if_pos h3])
    have HI := Lib.hid (iso_some hG h3)
    have HP1 := Lib.hid (lost_put HP.out (q := ⟨p.stk.reverse, p.opens, p.deep, 0⟩) (v := 0) ⟨rfl, rfl, rfl, rfl⟩)
    clear hG
    go_enter Try.func47, Try.ntmps47
    go_wp2
    go_loopw [] (fun wr => ∃ (stk : List St) (m cm : Nat), m ≤ n ∧ Hid (∃ s ∈ stk, s.iso = true) ∧ Hid (stk.dropWhile (fun s => !s.iso) = p.stk.dropWhile fun s => !s.iso) ∧ PileAt wr B b g m cm ⟨stk.reverse, p.opens, p.deep, 0⟩ ∧ Stay [b] w wr)
      (fun wr => sliceLen (wr.cell? ⟨b, 0, none⟩))
    case atStart => exact ⟨p.stk, n, c, Nat.le_refl _, HI, rfl, HP1.out, Stay.setCell _ _ _ (by simp)⟩
    case round =>
      obtain ⟨stk, m, cm, hm, HI2, HD, hpr, hst⟩ := hrel
      have hfd : ∀ (l o : Int) (i : Bool) (w : World), (Instr.field 61 (.agg #[.int .u8 l, .int .i8 o, .bool i]) 2).run Try.prog w = .ok (.bool i) w := fun _ _ _ _ => by kernel_rfl
      cases stk with
      | nil => obtain ⟨s, hs, _⟩ := HI2.out; simp at hs
      | cons t r =>
        have hml := hpr.len
        simp only [List.length_reverse, List.length_cons] at hml
        have HT := Lib.hid (top_any B b g m cm _ r.reverse t (by simp) _ hpr)
        have HO := Lib.hid (fun w' (h : Stay [] wr w') => pop_any B b g m cm _ r.reverse t (by simp) w' (hpr.stay h (by simp) (by simp)))
        have HX := Lib.hid hpr
        have HST := Lib.hid hst
        have hc0 := hpr.blk.cell 0
        simp only [List.getElem?_cons_zero] at hc0
        clear hpr hst hc1 hc2 hc3 hf1 hf2 hf3
        cases hi : t.iso with
        | true =>
          rw [hi] at HT
          have HE2 := Lib.hid (show closeP p = { p with stk := r, opens := p.opens - 1, lost := 0 } from by rw [HE.out, ← HD.out]; simp [hi])
          clear hi
          go_wp2_with (first
            | (go_at_call 43; refine HT.out.mono ?_; rintro e w1 ⟨rfl, hst1⟩)
            | (go_at_call 64; refine (HO.out _ hst1).mono ?_; rintro e w2 ⟨rfl, hp2, hst2⟩
               have hc1 := hp2.blk.cell 1
               have hf1 := hp2.blk.free 1
               simp only [List.getElem?_cons_zero, List.getElem?_cons_succ] at hc1
               replace hp2 := Lib.hid hp2))
          exact bodyPost_end (v := .tuple #[]) (by simp [results, Try.results47, go_sem]) rfl ⟨rfl, r.reverse.length, r.reverse.length, by simp; omega, by rw [HE2.out]; exact open_put hp2.out ⟨rfl, rfl, rfl, by simp [PL.ps]; omega⟩, ((HST.out.trans (hst1.mono (by simp))).trans hst2).trans (Stay.setCell _ _ _ (by simp))⟩
        | false =>
          rw [hi] at HT
          have HI3 := Lib.hid (show ∃ s ∈ r, s.iso = true from by
            obtain ⟨s, hs, h⟩ := HI2.out
            rcases List.mem_cons.1 hs with rfl | hs
            · rw [hi] at h; cases h
            · exact ⟨s, hs, h⟩)
          have HD3 := Lib.hid (show r.dropWhile (fun s => !s.iso) = p.stk.dropWhile fun s => !s.iso from by rw [← HD.out]; simp [hi])
          clear hi
          go_wp2_with (first
            | (go_at_call 43; refine HT.out.mono ?_; rintro e w1 ⟨rfl, hst1⟩)
            | (go_at_call 64; refine (HO.out _ hst1).mono ?_; rintro e w2 ⟨rfl, hp2, hst2⟩
               have HC2 := Lib.hid (hp2.blk.cell 0)
               replace hp2 := Lib.hid hp2))
          go_roundw
          case rel => exact ⟨r, r.reverse.length, r.reverse.length, by simp; omega, HI3, HD3, hp2.out, (HST.out.trans (hst1.mono (by simp))).trans hst2⟩
          case measure =>
            rw [HC2.out, hc0]
            simp [sliceLen]; omega
  · have HE := Lib.hid (show closeP p = p from by unfold closeP; rw [if_neg h2, if_neg h3])
    clear hG
    go_enter Try.func47, Try.ntmps47
    go_wp2
    exact bodyPost_end (v := .tuple #[]) (by simp [results, Try.results47, go_sem]) rfl ⟨rfl, n, c, Nat.le_refl _, by rw [HE.out]; exact HP.out, Stay.refl _ _⟩
end Go.Proofs.Ytikgjnfimagpjaa
