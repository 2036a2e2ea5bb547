/- package level: embed (printed by gen_embed.py). -/
import Derived.Test.YtikgjnfimagpjaaLend
namespace Go.Proofs.Ytikgjnfimagpjaa
open Go.RowKit
set_option maxHeartbeats 2000000 in
theorem embed16 (B b g n c : Nat) (p : PL) (hG : GoodP p) (w : World) (hp : PileAt w B b g n c p.ps) (hn : n ≤ 2097152) (hlo : p.lost ≤ 2097152) :
    Calls Try.prog 45 #[.pointer (some ⟨b, 0, none⟩), .int .i8 16] w fun e w' => e = .returned (.tuple #[]) ∧ ∃ g' n' c', n' ≤ n + 1 ∧ PileAt w' B b g' n' c' (embedP 16 p).ps ∧ Stay [b, g] w w' ∧ (g' = g ∨ w.heap.size ≤ g') := by
  have HL := Lib.hid (lay_any false (0) false B b g n c p hG w hp hn)
  have HE := Lib.hid (show embedP 16 p = (match layP false (0) false p with
    | some q => q
    | none => if p.deep = 0 then { p with lost := p.lost + 1 } else p) from by
      rfl)
  have HH := Lib.hid hlo
  clear hp hG hlo
  cases hl : layP false (0) false p with
  | some q =>
    rw [hl] at HL HE
    clear hl
    go_enter Try.func45, Try.ntmps45
    go_wp2_with (first
      | (go_at_call 46; refine HL.out.mono ?_; rintro e w1 ⟨rfl, HR⟩; replace HR := Lib.hid HR))
    exact bodyPost_end (v := .tuple #[]) (by simp [results, Try.results45, go_sem]) rfl ⟨rfl, by rw [HE.out]; exact HR.out⟩
  | none =>
    rw [hl] at HL HE
    clear hl
    by_cases hd : p.deep = 0
    · have HE2 := Lib.hid (HE.out.trans (if_pos hd))
      go_enter Try.func45, Try.ntmps45
      go_wp2_with (first
        | (go_at_call 46; refine HL.out.mono ?_; rintro e w1 ⟨rfl, g', n', c', hn', hp', hst, hg'⟩
           have hc2 := hp'.blk.cell 2
           have hc3 := hp'.blk.cell 3
           have hf3 := hp'.blk.free 3
           have hls := HH.out
           simp only [List.getElem?_cons_zero, List.getElem?_cons_succ, Option.getD_none, PL.ps, hd] at hc2 hc3
           have HR := Lib.hid hp'
           have HS := Lib.hid (And.intro hst hg')
           clear hp' hst hg'))
      exact bodyPost_end (v := .tuple #[]) (by simp [results, Try.results45, go_sem]) rfl ⟨rfl, g', n', c', hn', by rw [HE2.out]; exact lost_put HR.out ⟨rfl, rfl, rfl, by simp [PL.ps]⟩, HS.out.1.set' (.inl (by simp)), HS.out.2⟩
    · have HE2 := Lib.hid (HE.out.trans (if_neg hd))
      have bd : ((p.deep : Int) == 0) = false := by simpa using hd
      clear hd
      go_enter Try.func45, Try.ntmps45
      go_wp2_with (first
        | (go_at_call 46; refine HL.out.mono ?_; rintro e w1 ⟨rfl, g', n', c', hn', hp', hst, hg'⟩
           have hc2 := hp'.blk.cell 2
           simp only [List.getElem?_cons_zero, List.getElem?_cons_succ, Option.getD_none, PL.ps] at hc2
           have HR := Lib.hid hp'
           have HS := Lib.hid (And.intro hst hg')
           clear hp' hst hg'))
      exact bodyPost_end (v := .tuple #[]) (by simp [results, Try.results45, go_sem]) rfl ⟨rfl, g', n', c', hn', by rw [HE2.out]; exact HR.out, HS.out⟩
set_option maxHeartbeats 2000000 in
theorem embed17 (B b g n c : Nat) (p : PL) (hG : GoodP p) (w : World) (hp : PileAt w B b g n c p.ps) (hn : n ≤ 2097152) (hlo : p.lost ≤ 2097152) :
    Calls Try.prog 45 #[.pointer (some ⟨b, 0, none⟩), .int .i8 17] w fun e w' => e = .returned (.tuple #[]) ∧ ∃ g' n' c', n' ≤ n + 1 ∧ PileAt w' B b g' n' c' (embedP 17 p).ps ∧ Stay [b, g] w w' ∧ (g' = g ∨ w.heap.size ≤ g') := by
  have HL := Lib.hid (lay_any true (1) false B b g n c p hG w hp hn)
  have HE := Lib.hid (show embedP 17 p = (match layP true (1) false p with
    | some q => q
    | none => if p.deep = 0 then { p with lost := p.lost + 1 } else p) from by
      rfl)
  have HH := Lib.hid hlo
  clear hp hG hlo
  cases hl : layP true (1) false p with
  | some q =>
    rw [hl] at HL HE
    clear hl
    go_enter Try.func45, Try.ntmps45
    go_wp2_with (first
      | (go_at_call 46; refine HL.out.mono ?_; rintro e w1 ⟨rfl, HR⟩; replace HR := Lib.hid HR))
    exact bodyPost_end (v := .tuple #[]) (by simp [results, Try.results45, go_sem]) rfl ⟨rfl, by rw [HE.out]; exact HR.out⟩
  | none =>
    rw [hl] at HL HE
    clear hl
    by_cases hd : p.deep = 0
    · have HE2 := Lib.hid (HE.out.trans (if_pos hd))
      go_enter Try.func45, Try.ntmps45
      go_wp2_with (first
        | (go_at_call 46; refine HL.out.mono ?_; rintro e w1 ⟨rfl, g', n', c', hn', hp', hst, hg'⟩
           have hc2 := hp'.blk.cell 2
           have hc3 := hp'.blk.cell 3
           have hf3 := hp'.blk.free 3
           have hls := HH.out
           simp only [List.getElem?_cons_zero, List.getElem?_cons_succ, Option.getD_none, PL.ps, hd] at hc2 hc3
           have HR := Lib.hid hp'
           have HS := Lib.hid (And.intro hst hg')
           clear hp' hst hg'))
      exact bodyPost_end (v := .tuple #[]) (by simp [results, Try.results45, go_sem]) rfl ⟨rfl, g', n', c', hn', by rw [HE2.out]; exact lost_put HR.out ⟨rfl, rfl, rfl, by simp [PL.ps]⟩, HS.out.1.set' (.inl (by simp)), HS.out.2⟩
    · have HE2 := Lib.hid (HE.out.trans (if_neg hd))
      have bd : ((p.deep : Int) == 0) = false := by simpa using hd
      clear hd
      go_enter Try.func45, Try.ntmps45
      go_wp2_with (first
        | (go_at_call 46; refine HL.out.mono ?_; rintro e w1 ⟨rfl, g', n', c', hn', hp', hst, hg'⟩
           have hc2 := hp'.blk.cell 2
           simp only [List.getElem?_cons_zero, List.getElem?_cons_succ, Option.getD_none, PL.ps] at hc2
           have HR := Lib.hid hp'
           have HS := Lib.hid (And.intro hst hg')
           clear hp' hst hg'))
      exact bodyPost_end (v := .tuple #[]) (by simp [results, Try.results45, go_sem]) rfl ⟨rfl, g', n', c', hn', by rw [HE2.out]; exact HR.out, HS.out⟩
set_option maxHeartbeats 2000000 in
theorem embed15 (B b g n c : Nat) (p : PL) (hG : GoodP p) (w : World) (hp : PileAt w B b g n c p.ps) (hn : n ≤ 2097152) (hlo : p.lost ≤ 2097152) :
    Calls Try.prog 45 #[.pointer (some ⟨b, 0, none⟩), .int .i8 15] w fun e w' => e = .returned (.tuple #[]) ∧ ∃ g' n' c', n' ≤ n + 1 ∧ PileAt w' B b g' n' c' (embedP 15 p).ps ∧ Stay [b, g] w w' ∧ (g' = g ∨ w.heap.size ≤ g') := by
  have HL := Lib.hid (lay_any true (-1) false B b g n c p hG w hp hn)
  have HE := Lib.hid (show embedP 15 p = (match layP true (-1) false p with
    | some q => q
    | none => if p.deep = 0 then { p with lost := p.lost + 1 } else p) from by
      rfl)
  have HH := Lib.hid hlo
  clear hp hG hlo
  cases hl : layP true (-1) false p with
  | some q =>
    rw [hl] at HL HE
    clear hl
    go_enter Try.func45, Try.ntmps45
    go_wp2_with (first
      | (go_at_call 46; refine HL.out.mono ?_; rintro e w1 ⟨rfl, HR⟩; replace HR := Lib.hid HR))
    exact bodyPost_end (v := .tuple #[]) (by simp [results, Try.results45, go_sem]) rfl ⟨rfl, by rw [HE.out]; exact HR.out⟩
  | none =>
    rw [hl] at HL HE
    clear hl
    by_cases hd : p.deep = 0
    · have HE2 := Lib.hid (HE.out.trans (if_pos hd))
      go_enter Try.func45, Try.ntmps45
      go_wp2_with (first
        | (go_at_call 46; refine HL.out.mono ?_; rintro e w1 ⟨rfl, g', n', c', hn', hp', hst, hg'⟩
           have hc2 := hp'.blk.cell 2
           have hc3 := hp'.blk.cell 3
           have hf3 := hp'.blk.free 3
           have hls := HH.out
           simp only [List.getElem?_cons_zero, List.getElem?_cons_succ, Option.getD_none, PL.ps, hd] at hc2 hc3
           have HR := Lib.hid hp'
           have HS := Lib.hid (And.intro hst hg')
           clear hp' hst hg'))
      exact bodyPost_end (v := .tuple #[]) (by simp [results, Try.results45, go_sem]) rfl ⟨rfl, g', n', c', hn', by rw [HE2.out]; exact lost_put HR.out ⟨rfl, rfl, rfl, by simp [PL.ps]⟩, HS.out.1.set' (.inl (by simp)), HS.out.2⟩
    · have HE2 := Lib.hid (HE.out.trans (if_neg hd))
      have bd : ((p.deep : Int) == 0) = false := by simpa using hd
      clear hd
      go_enter Try.func45, Try.ntmps45
      go_wp2_with (first
        | (go_at_call 46; refine HL.out.mono ?_; rintro e w1 ⟨rfl, g', n', c', hn', hp', hst, hg'⟩
           have hc2 := hp'.blk.cell 2
           simp only [List.getElem?_cons_zero, List.getElem?_cons_succ, Option.getD_none, PL.ps] at hc2
           have HR := Lib.hid hp'
           have HS := Lib.hid (And.intro hst hg')
           clear hp' hst hg'))
      exact bodyPost_end (v := .tuple #[]) (by simp [results, Try.results45, go_sem]) rfl ⟨rfl, g', n', c', hn', by rw [HE2.out]; exact HR.out, HS.out⟩
set_option maxHeartbeats 2000000 in
theorem embed14 (B b g n c : Nat) (p : PL) (hG : GoodP p) (w : World) (hp : PileAt w B b g n c p.ps) (hn : n ≤ 2097152) (hlo : p.lost ≤ 2097152) :
    Calls Try.prog 45 #[.pointer (some ⟨b, 0, none⟩), .int .i8 14] w fun e w' => e = .returned (.tuple #[]) ∧ ∃ g' n' c', n' ≤ n + 1 ∧ PileAt w' B b g' n' c' (embedP 14 p).ps ∧ Stay [b, g] w w' ∧ (g' = g ∨ w.heap.size ≤ g') := by
  have HL := Lib.hid (lay_any false (-1) false B b g n c p hG w hp hn)
  have HE := Lib.hid (show embedP 14 p = (match layP false (-1) false p with
    | some q => q
    | none => if p.deep = 0 then { p with lost := p.lost + 1 } else p) from by
      rfl)
  have HH := Lib.hid hlo
  clear hp hG hlo
  cases hl : layP false (-1) false p with
  | some q =>
    rw [hl] at HL HE
    clear hl
    go_enter Try.func45, Try.ntmps45
    go_wp2_with (first
      | (go_at_call 46; refine HL.out.mono ?_; rintro e w1 ⟨rfl, HR⟩; replace HR := Lib.hid HR))
    exact bodyPost_end (v := .tuple #[]) (by simp [results, Try.results45, go_sem]) rfl ⟨rfl, by rw [HE.out]; exact HR.out⟩
  | none =>
    rw [hl] at HL HE
    clear hl
    by_cases hd : p.deep = 0
    · have HE2 := Lib.hid (HE.out.trans (if_pos hd))
      go_enter Try.func45, Try.ntmps45
      go_wp2_with (first
        | (go_at_call 46; refine HL.out.mono ?_; rintro e w1 ⟨rfl, g', n', c', hn', hp', hst, hg'⟩
           have hc2 := hp'.blk.cell 2
           have hc3 := hp'.blk.cell 3
           have hf3 := hp'.blk.free 3
           have hls := HH.out
           simp only [List.getElem?_cons_zero, List.getElem?_cons_succ, Option.getD_none, PL.ps, hd] at hc2 hc3
           have HR := Lib.hid hp'
           have HS := Lib.hid (And.intro hst hg')
           clear hp' hst hg'))
      exact bodyPost_end (v := .tuple #[]) (by simp [results, Try.results45, go_sem]) rfl ⟨rfl, g', n', c', hn', by rw [HE2.out]; exact lost_put HR.out ⟨rfl, rfl, rfl, by simp [PL.ps]⟩, HS.out.1.set' (.inl (by simp)), HS.out.2⟩
    · have HE2 := Lib.hid (HE.out.trans (if_neg hd))
      have bd : ((p.deep : Int) == 0) = false := by simpa using hd
      clear hd
      go_enter Try.func45, Try.ntmps45
      go_wp2_with (first
        | (go_at_call 46; refine HL.out.mono ?_; rintro e w1 ⟨rfl, g', n', c', hn', hp', hst, hg'⟩
           have hc2 := hp'.blk.cell 2
           simp only [List.getElem?_cons_zero, List.getElem?_cons_succ, Option.getD_none, PL.ps] at hc2
           have HR := Lib.hid hp'
           have HS := Lib.hid (And.intro hst hg')
           clear hp' hst hg'))
      exact bodyPost_end (v := .tuple #[]) (by simp [results, Try.results45, go_sem]) rfl ⟨rfl, g', n', c', hn', by rw [HE2.out]; exact HR.out, HS.out⟩
theorem embed_any (d : Int) (hd : 14 ≤ d ∧ d ≤ 17) (B b g n c : Nat) (p : PL) (hG : GoodP p) (w : World) (hp : PileAt w B b g n c p.ps) (hn : n ≤ 2097152) (hlo : p.lost ≤ 2097152) :
    Calls Try.prog 45 #[.pointer (some ⟨b, 0, none⟩), .int .i8 d] w fun e w' => e = .returned (.tuple #[]) ∧ ∃ g' n' c', n' ≤ n + 1 ∧ PileAt w' B b g' n' c' (embedP d p).ps ∧ Stay [b, g] w w' ∧ (g' = g ∨ w.heap.size ≤ g') := by
  have h : d = 14 ∨ d = 15 ∨ d = 16 ∨ d = 17 := by omega
  rcases h with rfl | rfl | rfl | rfl
  · exact embed14 B b g n c p hG w hp hn hlo
  · exact embed15 B b g n c p hG w hp hn hlo
  · exact embed16 B b g n c p hG w hp hn hlo
  · exact embed17 B b g n c p hG w hp hn hlo
end Go.Proofs.Ytikgjnfimagpjaa
