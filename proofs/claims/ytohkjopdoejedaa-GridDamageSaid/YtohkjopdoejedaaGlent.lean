/- shuttlelaw24: lent, run. -/
import Derived.Test.YtohkjopdoejedaaGin
import Derived.Deep.RegionHeld3
namespace Go.Proofs.Ytohkjopdoejedaa
open Go.RowKit
def spareC : Ce := ⟨str [115, 112, 97, 114, 101], 0, 0, 0, false, 0⟩
set_option maxRecDepth 20000 in
set_option maxHeartbeats 4000000 in
theorem lent_any (A : Option Addr) (c : Nat) (L : List Ce) (B : Nat) (w : World) (h : Sl w B A (rowCells L)) (hl : L.length ≤ 16777216) (hc : L.length ≤ c) (hcm : c ≤ maxLen) :
    Calls Try.prog 30 #[.slice A L.length c] w fun e w' => ∃ g c', e = .returned (.slice (some ⟨g, 0, none⟩) L.length c') ∧ w'.ownsRow w.heap.size 49 6 (.slice (some ⟨g, 0, none⟩) (L.length + 1) c') (L.length + 1) (rowCells (L ++ [spareC])) ∧ L.length + 1 ≤ c' ∧ c' ≤ maxLen ∧ w.heap.size ≤ g ∧ Below w.heap.size w w' := by
  obtain ⟨i49, hi49, hz490, hz491, hz492⟩ := info_parts info49
  have HI := Lib.hid (And.intro hi49 (And.intro hz490 (And.intro hz491 hz492)))
  clear hi49 hz490 hz491 hz492
  have HSl := Lib.hid h
  have HLn := Lib.hid (rowCells_length L)
  have HRA := Lib.hid (rowCells_app L [spareC])
  obtain ⟨n, hne⟩ : ∃ n, n = L.length := ⟨_, rfl⟩
  have HN := Lib.hid hne
  rw [← hne] at hl hc HLn ⊢
  have HM := Lib.hid (show 0 + n ≤ maxLen ∧ (0 + n) * 48 ≤ 140737488355328 ∧ n + 1 ≤ maxLen ∧ (n + 1) * 48 ≤ 140737488355328 from by simp only [maxLen]; omega)
  have hcm1 : (c : Int) ≤ 9223372036854775807 := by simp only [maxLen] at hcm; omega
  have hH : Hid (∀ (A2 : Option Addr) (c2 : Nat) (w2 : World), w2.ownsRow w.heap.size 49 6 (.slice A2 n c2) n (rowCells L) → Below w.heap.size w w2 → ∀ cs, (w2.alloc (.cells cs 49)).ownsRow w.heap.size 49 6 (.slice A2 n c2) n (rowCells L) ∧ Below w.heap.size w (w2.alloc (.cells cs 49)) ∧ w.heap.size ≤ (w2.alloc (.cells cs 49)).heap.size) := by
    show ∀ _, _
    intro A2 c2 w2 h1 h2 cs
    have h3 := h2.size
    have h4 : Below w.heap.size w (w2.alloc (.cells cs 49)) := h2.alloc h3 _
    exact ⟨h1.alloc _, h4, by simp; omega⟩
  have HNw := Lib.hid (show ∀ (w2 : World) (j : Nat) (u : Value), spareC.cells[j]? = some u → (w2.alloc (.cells #[.string ⟨#[115, 112, 97, 114, 101]⟩, .int .i8 0, .int .i64 0, .int .i64 0, .bool false, .int .u16 0] 49)).cell? ((⟨w2.heap.size, 0, none⟩ : Addr).add j) = some u from fun w2 j u hj => by
    rw [add_lit', Nat.zero_add]
    exact box_cell w2 _ 49 j u (by simpa [spareC, Ce.cells, str] using hj))
  have HX := Lib.hid (show ∀ (w' : World) (v : Option Addr) (cp : Nat), w'.ownsRow w.heap.size 49 6 (.slice v (n + 1) cp) (n + 1) (rowCells (L ++ [spareC])) → n + 1 ≤ cp ∧ cp ≤ maxLen from fun w' v cp h1 => by
    rcases h1.2 with ⟨_, h0⟩ | ⟨g, cap, cur, hv, _, _, h3, h4, _⟩
    · omega
    · injection hv with _ _ hc
      omega)
  have HBr := Lib.hid (Below.refl w.heap.size w)
  have HFn := Lib.hid (show ∀ (A5 : Option Addr) (c5 : Nat) (w5 : World), w5.ownsRow w.heap.size 49 6 (.slice A5 n c5) n (rowCells L) → Below w.heap.size w w5 → ∀ (cs : Array Value) (A7 : Option Addr) (c7 : Nat) (w7 : World),
      w7.ownsRow w.heap.size 49 6 (.slice A7 (n + 1) c7) (n + 1) (rowCells L ++ spareC.cells) → (w5.alloc (.cells cs 49)).grownBy w7 (Value.slice A5 n c5).ownBlock →
      ∃ g, A7 = some ⟨g, 0, none⟩ ∧ w7.ownsRow w.heap.size 49 6 (.slice (some ⟨g, 0, none⟩) (n + 1) c7) (n + 1) (rowCells (L ++ [spareC])) ∧ n + 1 ≤ c7 ∧ c7 ≤ maxLen ∧ w.heap.size ≤ g ∧ Below w.heap.size w w7 from by
    intro A5 c5 w5 ho5 hb5 cs A7 c7 w7 ho7 hg7
    obtain ⟨h1, h2, h3⟩ := hH.out A5 c5 w5 ho5 hb5 cs
    have hrc : rowCells L ++ spareC.cells = rowCells (L ++ [spareC]) := by rw [HRA.out]; rfl
    rw [hrc] at ho7
    obtain ⟨g, cap, hv, hgB, hgl⟩ := owned_form ho7 (by omega)
    injection hv with hA _ hcc
    subst hA
    have hcp := HX.out _ _ _ ho7
    exact ⟨g, rfl, ho7, hcp.1, hcp.2, hgB, ((Stay.below (F := []) h2).new_ hg7 (fun b hb => .inr (ho5.lt b hb).1)).toBelow (Nat.le_refl _) (by simp)⟩)
  clear h hne
  cases A with
  | none =>
    have hnil : rowCells L = [] := by
      cases hL : rowCells L with
      | nil => rfl
      | cons u t =>
        obtain ⟨ad, e, _⟩ := HSl.out 0 u (by rw [hL]; rfl)
        cases e
    have hn0 : n = 0 := by
      have := HLn.out
      rw [hnil] at this
      simp at this
      omega
    have hap : ∀ w, (Builtin.append_ #[33, 33] 33 #[.slice none 0 0, .slice none 0 c]).run Try.prog w = .ok (.slice none 0 0) w := fun w => run_append_nothing (P := Try.prog) w 0 33 33 49 i49 Try.underlying33 HI.out.1 _ 0 6 [] (World.ownsRow_nil _ _ _ _) c
    have HO0 := Lib.hid (show w.ownsRow w.heap.size 49 6 (.slice none n 0) n (rowCells L) from by rw [hn0, hnil]; exact World.ownsRow_nil _ _ _ _)
    have HO5 := Lib.hid (hH.out none 0 w HO0.out HBr.out)
    clear hH HSl
    subst hn0
    go_enter Try.func30, Try.ntmps30
    go_wp2_with (first
      | (refine wpList_append_z rfl (.tmp 7) (.tmp 9) 33 rfl w.heap.size 49 i49 zero49 6 48 Try.underlying33 HI.out.1 HI.out.2.1 HI.out.2.2.1 HI.out.2.2.2 rfl (by omega) (.slice none 0 0) 0 (rowCells L) rfl (HO5.out _).1 ⟨w.heap.size, 0, none⟩ 1 1 rfl spareC.cells rfl (HNw.out w) (by simp [spareC, Ce.cells, Value.oneCell']) HM.out.2.2.1 HM.out.2.2.2 (HO5.out _).2.2 ?_; intro A7 c7 w7 ho7 hg7 hv7
         obtain ⟨g, rfl, k1, k2, k3, k4, k5⟩ := HFn.out none 0 w HO0.out HBr.out _ A7 c7 w7 ho7 hg7
         have HK := Lib.hid (And.intro k1 (And.intro k4 k5))
         clear ho7 hg7 hv7 k1 k4 k5))
    exact bodyPost_ret (v := .slice (some ⟨g, 0, none⟩) 0 c7) (by simp [results, Try.results30, go_sem]) rfl ⟨g, c7, rfl, HK.out.1, k2, k3, HK.out.2.1, HK.out.2.2⟩
  | some ad =>
    have HNs := Lib.hid (show ∀ (j : Nat) (u : Value), (rowCells L)[j]? = some u → w.cell? (ad.add j) = some u from fun j u hj => by
      obtain ⟨ad', e, _, hc⟩ := HSl.out j u hj
      injection e with e
      rw [e]
      exact hc)
    clear HSl
    go_enter Try.func30, Try.ntmps30
    go_wp2_with (first
      | (refine wpList_append_z rfl (.tmp 4) (.tmp 5) 33 rfl w.heap.size 49 i49 zero49 6 48 Try.underlying33 HI.out.1 HI.out.2.1 HI.out.2.2.1 HI.out.2.2.2 rfl (by omega) (.slice none 0 0) 0 [] rfl (World.ownsRow_nil _ _ _ _) ad n c rfl (rowCells L) HLn.out HNs.out (rowCells_one L) HM.out.1 HM.out.2.1 (Nat.le_refl _) ?_; intro A5 c5 w5 ho5 hg5 hv5
         rw [Nat.zero_add] at ho5 ⊢
         have HB5 := Lib.hid (Stay.toBelow (F := []) (Stay.new_ (Stay.refl [] _) hg5 (fun g hg => by cases hg)) (Nat.le_refl _) (by simp))
         have HO0 := Lib.hid (show w5.ownsRow w.heap.size 49 6 (.slice A5 n c5) n (rowCells L) from ho5)
         have HO5 := Lib.hid (hH.out A5 c5 w5 ho5 HB5.out)
         clear ho5 hg5 hv5)
      | (refine wpList_append_z rfl (.tmp 7) (.tmp 9) 33 rfl w.heap.size 49 i49 zero49 6 48 Try.underlying33 HI.out.1 HI.out.2.1 HI.out.2.2.1 HI.out.2.2.2 rfl (by omega) (.slice A5 n c5) n (rowCells L) rfl (HO5.out _).1 ⟨w5.heap.size, 0, none⟩ 1 1 rfl spareC.cells rfl (HNw.out w5) (by simp [spareC, Ce.cells, Value.oneCell']) HM.out.2.2.1 HM.out.2.2.2 (HO5.out _).2.2 ?_; intro A7 c7 w7 ho7 hg7 hv7
         obtain ⟨g, rfl, k1, k2, k3, k4, k5⟩ := HFn.out A5 c5 w5 HO0.out HB5.out _ A7 c7 w7 ho7 hg7
         have HK := Lib.hid (And.intro k1 (And.intro k4 k5))
         clear ho7 hg7 hv7 k1 k4 k5))
    exact bodyPost_ret (v := .slice (some ⟨g, 0, none⟩) n c7) (by simp [results, Try.results30, go_sem]) rfl ⟨g, c7, rfl, HK.out.1, k2, k3, HK.out.2.1, HK.out.2.2⟩
/-- the plain answer of a call that changes a screen -/
def Sc.run (S : Sc) (s : St) : Sc :=
  if s.d = 1 then S.put s.x s.y s.L
  else if s.d = 2 then S.clear s.rx s.ry s.rw_ s.rh
  else if s.d = 3 then S.scroll s.rx s.ry s.rw_ s.rh s.n
  else if s.d = 4 then S.caret s.x s.y
  else S
def St.agg (s : St) : Value := .agg #[.int .i64 s.d, .int .i64 s.x, .int .i64 s.y, .slice s.A s.L.length s.c, .int .i64 s.rx, .int .i64 s.ry, .int .i64 s.rw_, .int .i64 s.rh, .int .i64 s.n]
theorem owned_cat {w : World} {B g n c : Nat} {L : List Ce} {t : TypeId} (h : w.ownsRow B t 6 (.slice (some ⟨g, 0, none⟩) n c) n (rowCells (L ++ [spareC]))) (hn : n = L.length + 1) : CAt w g 0 L := by
  intro k hk j v hj
  have hj6 : j < 6 := by have := (List.getElem?_eq_some_iff.1 hj).1; exact this
  rw [World.ownsRow.cellAt h (0 + k * 6 + j) (by omega), Nat.zero_add, rowCells_at (L ++ [spareC]) k (by simp; omega) j hj6, List.getElem_append_left hk, hj]
set_option maxRecDepth 20000 in
set_option maxHeartbeats 4000000 in
theorem run_any (s base : Nat) (os : List Nat) (S : Sc) (st : St) (B : Nat) (w : World) (hst : StOK w B st) (hB : B ≤ w.heap.size) (hl : st.L.length ≤ 8388608) (h : Sm w s base os S) :
    Calls Try.prog 14 #[.pointer (some ⟨s, 0, none⟩), st.agg] w fun e w' => e = .returned (.tuple #[]) ∧ Sm w' s base os (S.run st) ∧ Stay (foot s base S.H) w w' := by
  obtain ⟨d, x, y, A, c, L, rx, ry, rw_, rh, sn⟩ := st
  have HSt := Lib.hid hst
  have HS := Lib.hid h
  have HRn := Lib.hid (show S.run ⟨d, x, y, A, c, L, rx, ry, rw_, rh, sn⟩ = if d = 1 then S.put x y L else if d = 2 then S.clear rx ry rw_ rh else if d = 3 then S.scroll rx ry rw_ rh sn else if d = 4 then S.caret x y else S from rfl)
  have hs0 := h.scr.lt
  simp only [St.agg]
  simp only at hl
  obtain ⟨C, hC⟩ : ∃ C, C = #[Value.int .i64 d, .int .i64 x, .int .i64 y, .slice A L.length c, .int .i64 rx, .int .i64 ry, .int .i64 rw_, .int .i64 rh, .int .i64 sn] := ⟨_, rfl⟩
  have e0 : (w.alloc (.cells C 37)).cell? ⟨w.heap.size, 0, none⟩ = some (.int .i64 d) := box_cell w _ 37 0 _ (by rw [hC]; rfl)
  have e1 : (w.alloc (.cells C 37)).cell? ⟨w.heap.size, 1, none⟩ = some (.int .i64 x) := box_cell w _ 37 1 _ (by rw [hC]; rfl)
  have e2 : (w.alloc (.cells C 37)).cell? ⟨w.heap.size, 2, none⟩ = some (.int .i64 y) := box_cell w _ 37 2 _ (by rw [hC]; rfl)
  have e3 : (w.alloc (.cells C 37)).cell? ⟨w.heap.size, 3, none⟩ = some (.slice A L.length c) := box_cell w _ 37 3 _ (by rw [hC]; rfl)
  have e4 : (w.alloc (.cells C 37)).cell? ⟨w.heap.size, 4, none⟩ = some (.int .i64 rx) := box_cell w _ 37 4 _ (by rw [hC]; rfl)
  have e5 : (w.alloc (.cells C 37)).cell? ⟨w.heap.size, 5, none⟩ = some (.int .i64 ry) := box_cell w _ 37 5 _ (by rw [hC]; rfl)
  have e6 : (w.alloc (.cells C 37)).cell? ⟨w.heap.size, 6, none⟩ = some (.int .i64 rw_) := box_cell w _ 37 6 _ (by rw [hC]; rfl)
  have e7 : (w.alloc (.cells C 37)).cell? ⟨w.heap.size, 7, none⟩ = some (.int .i64 rh) := box_cell w _ 37 7 _ (by rw [hC]; rfl)
  have e8 : (w.alloc (.cells C 37)).cell? ⟨w.heap.size, 8, none⟩ = some (.int .i64 sn) := box_cell w _ 37 8 _ (by rw [hC]; rfl)
  have hT0 : Stay [] w (w.alloc (.cells C 37)) := Stay.alloc _ _
  have HT := Lib.hid hT0
  have hz := size_alloc' w (.cells C 37)
  have HS1 := Lib.hid (h.stay hT0 (by simp))
  have HSl := Lib.hid (hst.sl.below (hT0.toBelow hB (by simp)))
  have hBz : B ≤ (w.alloc (.cells C 37)).heap.size := by omega
  have hSl0 := HSl.out
  clear hst h
  by_cases h1 : d = 1
  · have HR := Lib.hid (HRn.out.trans (if_pos h1))
    subst h1
    go_enter Try.func14, Try.ntmps14
    go_wp2_with fail
    rw [← hC]
    obtain ⟨b, hb⟩ : ∃ b, b = w.heap.size := ⟨_, rfl⟩
    rw [← hb] at e0 e1 e2 e3 e4 e5 e6 e7 e8 hz ⊢
    have HBe := Lib.hid hb
    clear hb
    generalize w.alloc (.cells C 37) = W1 at *
    have HLe := Lib.hid (lent_any A c L B W1.drew hSl0 (by omega) HSt.out.cap.1 HSt.out.cap.2)
    have HSd := Lib.hid (HS1.out.stay (F := []) (Stay.drew W1) (by simp))
    have HF := Lib.hid (foot_lt HSd.out)
    have HKe := Lib.hid (show ∀ w6, Below W1.drew.heap.size W1.drew w6 → w6.cell? ⟨b, 1, none⟩ = some (.int .i64 x) ∧ w6.cell? ⟨b, 2, none⟩ = some (.int .i64 y) ∧ w6.cell? ⟨b, 3, none⟩ = some (.slice A L.length c) from by
      intro w6 h6
      have hk : ∀ (j : Nat) (u : Value), W1.cell? ⟨b, j, none⟩ = some u → w6.cell? ⟨b, j, none⟩ = some u := fun j u hu => (h6.cell (p := ⟨b, j, none⟩) (by show b < W1.heap.size; omega)).trans hu
      exact ⟨hk _ _ e1, hk _ _ e2, hk _ _ e3⟩)
    have HKp := Lib.hid (show ∀ w6 w7 : World, w6.cell? ⟨b, 1, none⟩ = some (.int .i64 x) → w6.cell? ⟨b, 2, none⟩ = some (.int .i64 y) → w6.cell? ⟨b, 3, none⟩ = some (.slice A L.length c) → Stay (foot s base S.H) w6 w7 → w7.cell? ⟨b, 1, none⟩ = some (.int .i64 x) ∧ w7.cell? ⟨b, 2, none⟩ = some (.int .i64 y) ∧ w7.cell? ⟨b, 3, none⟩ = some (.slice A L.length c) from by
      intro w6 w7 p1 p2 p3 hs
      have hbn : b ∉ foot s base S.H := fun hm => by
        have := foot_lt HS.out _ hm
        have := HBe.out
        omega
      have hk : ∀ (j : Nat) (u : Value), w6.cell? ⟨b, j, none⟩ = some u → w7.cell? ⟨b, j, none⟩ = some u := fun j u hu => (hs.cell_ (a := ⟨b, j, none⟩) (by
        unfold World.cell? at hu
        split at hu
        · rename_i hx
          exact (Array.getElem?_eq_some_iff.1 hx).1
        · cases hu) hbn).trans hu
      exact ⟨hk _ _ p1, hk _ _ p2, hk _ _ p3⟩)
    have HLl := Lib.hid hl
    clear hSl0 hBz e0 e4 e5 e6 e7 e8 hl
    go_region_held3 (fun w' => w'.cell? ⟨b, 1, none⟩ = some (.int .i64 x) ∧ w'.cell? ⟨b, 2, none⟩ = some (.int .i64 y) ∧ w'.cell? ⟨b, 3, none⟩ = some (.slice A L.length c)) (first | go_keep | exact ⟨q1, q2, q3⟩)
      (first
        | (go_at_call 30; refine HLe.out.mono ?_; rintro e w6 ⟨g, c6, rfl, k1, k2, k3, k4, k5⟩
           obtain ⟨q1, q2, q3⟩ := HKe.out w6 k5
           have HPt := Lib.hid (put_any s base os S x y L g 0 c6 w6 HSt.out.x HSt.out.y (by have := HLl.out; omega) HSt.out.ce ⟨by omega, k3⟩ (owned_cat k1 rfl) (k1.lt g rfl).2 (fun hm => by have := HF.out _ hm; omega) (HSd.out.below k5))
           have HT6 := Lib.hid (show Stay (foot s base S.H) w w6 from HT.out.mono (G := foot s base S.H) (by simp) |>.trans ((Stay.drew _).trans (Stay.below k5)))
           clear k1 k2 k3 k4 k5)
        | (go_at_call 22; refine HPt.out.mono ?_; rintro e w7 ⟨rfl, k1, k2⟩
           obtain ⟨q1, q2, q3⟩ := HKp.out w6 w7 q1 q2 q3 k2
           have HK := Lib.hid (And.intro k1 (HT6.out.trans k2))
           clear k1 k2))
    all_goals
      go_wp2_with fail
      exact bodyPost_end (v := .tuple #[]) (by simp [results, Try.results14, go_sem]) rfl ⟨rfl, by rw [HR.out]; exact HK.out.1, HK.out.2⟩
  · by_cases h2 : d = 2
    · have HR := Lib.hid (HRn.out.trans (by rw [if_neg h1, if_pos h2]))
      subst h2
      go_enter Try.func14, Try.ntmps14
      go_wp2_with fail
      rw [← hC]
      refine (clear_any s base os S rx ry rw_ rh _ HSt.out.rx HSt.out.ry HSt.out.rw_ HSt.out.rh HS1.out).mono ?_
      rintro e w2 ⟨rfl, k1, k2⟩
      have HK := Lib.hid (And.intro k1 (HT.out.mono (G := foot s base S.H) (by simp) |>.trans k2))
      clear k1 k2
      go_wp2_with fail
      exact bodyPost_end (v := .tuple #[]) (by simp [results, Try.results14, go_sem]) rfl ⟨rfl, by rw [HR.out]; exact HK.out.1, HK.out.2⟩
    · by_cases h3 : d = 3
      · have HR := Lib.hid (HRn.out.trans (by rw [if_neg h1, if_neg h2, if_pos h3]))
        subst h3
        go_enter Try.func14, Try.ntmps14
        go_wp2_with fail
        rw [← hC]
        refine (scroll_any s base os S rx ry rw_ rh sn _ HSt.out.rx HSt.out.ry HSt.out.rw_ HSt.out.rh HSt.out.n HS1.out).mono ?_
        rintro e w2 ⟨rfl, k1, k2⟩
        have HK := Lib.hid (And.intro k1 (HT.out.mono (G := foot s base S.H) (by simp) |>.trans k2))
        clear k1 k2
        go_wp2_with fail
        exact bodyPost_end (v := .tuple #[]) (by simp [results, Try.results14, go_sem]) rfl ⟨rfl, by rw [HR.out]; exact HK.out.1, HK.out.2⟩
      · by_cases h4 : d = 4
        · have HR := Lib.hid (HRn.out.trans (by rw [if_neg h1, if_neg h2, if_neg h3, if_pos h4]))
          subst h4
          go_enter Try.func14, Try.ntmps14
          go_wp2_with fail
          rw [← hC]
          refine (caret_sm s base os S x y _ HS1.out).mono ?_
          rintro e w2 ⟨rfl, k1, k2⟩
          have HK := Lib.hid (And.intro k1 (HT.out.mono (G := foot s base S.H) (by simp) |>.trans (k2.mono (by intro g hg; simp at hg; rw [mem_foot]; exact .inl hg))))
          clear k1 k2
          go_wp2_with fail
          exact bodyPost_end (v := .tuple #[]) (by simp [results, Try.results14, go_sem]) rfl ⟨rfl, by rw [HR.out]; exact HK.out.1, HK.out.2⟩
        · have HR := Lib.hid (HRn.out.trans (by rw [if_neg h1, if_neg h2, if_neg h3, if_neg h4]))
          go_enter Try.func14, Try.ntmps14
          go_wp2_with fail
          rw [← hC]
          exact bodyPost_end (v := .tuple #[]) (by simp [results, Try.results14, go_sem]) rfl ⟨rfl, by rw [HR.out]; exact HS1.out, HT.out.mono (by simp)⟩
end Go.Proofs.Ytohkjopdoejedaa
