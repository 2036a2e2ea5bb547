/- package undo: Do: what it keeps. -/
import Derived.Test.YtjoeebjmjnddoaaUundo
import Derived.Test.YtjoeebjmjnddoaaUadd
import Derived.Test.YtjoeebjmjnddoaaUhelp
namespace Go.Proofs.Ytjoeebjmjnddoaa
open Go.RowKit
/-- the rope's part of a call of Do -/
def RDo (rb : Nat) (a d : Int) (s : ByteArray) (va vd : Int) (vs : ByteArray) (er rs2 : Int) (tx : List UInt8) (u : World) : Prop :=
  Calls Try.prog 21 #[.pointer (some ⟨rb, 0, none⟩), .agg #[.int .i64 a, .int .i64 d, .string s]] u fun e w' => e = .returned (.tuple #[.agg #[.int .i64 va, .int .i64 vd, .string vs], .int .i64 er]) ∧ (∃ t', RopeAt w' rb t' rs2 ∧ t'.text = tx) ∧ Stay [rb] u w'
/-- the book's block, the done groups, the rope, the edit's box, the answer's box -/
structure UD (w : World) (B bb rb : Nat) (L : List Value) (DA : Option Addr) (dc : Nat) (D : List MG) (rs : Int) (tx : List UInt8) (be b8 : Nat) (el bl : List Value) : Prop where
  bbk : Blk w bb L 98
  dW : Win w B 100 4 DA D.length dc (gcs D)
  dE : ∀ x ∈ D, x.ok w B
  R : ∃ t, RopeAt w rb t rs ∧ t.text = tx
  e : Blk w be el 37
  b : Blk w b8 bl 37
section
variable {w w' : World} {B bb rb : Nat} {L : List Value} {DA : Option Addr} {dc : Nat} {D : List MG} {rs : Int} {tx : List UInt8} {be b8 : Nat} {el bl : List Value}
theorem UD.stay {F : List Nat} (h : UD w B bb rb L DA dc D rs tx be b8 el bl) (hs : Stay F w w') (h1 : bb ∉ F) (h2 : ∀ f ∈ Ab DA, f ∉ F) (h3 : rb ∉ F) (h6 : ∀ f ∈ F, ∀ L ty, Blk w f L ty → ty ≠ 37 ∧ ty ≠ 111) : UD w' B bb rb L DA dc D rs tx be b8 el bl := by
  obtain ⟨t, h7, h8⟩ := h.R
  have n37 : ∀ {f : Nat} {l : List Value}, Blk w f l 37 → f ∉ F := fun {f l} hf hm => (h6 _ hm _ _ hf).1 rfl
  exact ⟨h.bbk.stay hs h1, h.dW.stay hs h2, fun x hx => (h.dE x hx).stay hs (fun f hf L hL => (h6 f hf L _ hL).1 rfl), ⟨t, h7.stay hs (noPair_of fun f hf L hL => (h6 f hf L _ hL).2 rfl) h3, h8⟩, h.e.stay hs (n37 h.e), h.b.stay hs (n37 h.b)⟩
theorem UD.stay0 (h : UD w B bb rb L DA dc D rs tx be b8 el bl) (hs : Stay [] w w') : UD w' B bb rb L DA dc D rs tx be b8 el bl := h.stay hs (by simp) (by simp) (by simp) (by simp)
theorem UD.setb (h : UD w B bb rb L DA dc D rs tx be b8 el bl) (k : Nat) (v : Value) : UD (w.setCell ⟨bb, k, none⟩ v) B bb rb (L.set k v) DA dc D rs tx be b8 el bl := by
  have hs : Stay [bb] w (w.setCell ⟨bb, k, none⟩ v) := Stay.setCell _ _ _ (by simp)
  obtain ⟨t, h7, h8⟩ := h.R
  obtain ⟨L7, h77⟩ := h7.blk
  have n1 : ∀ {f : Nat} {l : List Value} {ty : TypeId}, Blk w f l ty → ty ≠ 98 → f ∉ [bb] := fun {f l ty} hf hn hm => by
    rw [List.mem_singleton] at hm
    exact blk_ne_of hf h.bbk hn hm
  exact ⟨h.bbk.set k v, h.dW.stay hs (fun f hf => by
    obtain ⟨_, _, L2, hL2⟩ := h.dW.ab f hf
    exact n1 hL2 (by decide)), fun x hx => (h.dE x hx).stay hs (fun f hf L hL => n1 hL (by decide) hf), ⟨t, h7.stay hs (blk_noPair98 h.bbk) (n1 h77 (by decide)), h8⟩, h.e.stay hs (n1 h.e (by decide)), h.b.stay hs (n1 h.b (by decide))⟩
theorem ud_base {W1 w5 : World} {t : Rp} {rs0 rs2 : Int} (hb1 : Blk W1 bb L 98) (hd : Win W1 B 100 4 DA D.length dc (gcs D)) (hde : ∀ x ∈ D, x.ok W1 B) (hr1 : RopeAt W1 rb t rs0) (hbe : Blk W1 be el 37) (hs : Stay [rb] W1 w5) (hR : ∃ t', RopeAt w5 rb t' rs2 ∧ t'.text = tx) (hb8 : Blk w5 b8 bl 37) :
    UD w5 B bb rb L DA dc D rs2 tx be b8 el bl := by
  obtain ⟨L7, h7⟩ := hr1.blk
  have n1 : ∀ {f : Nat} {l : List Value} {ty : TypeId}, Blk W1 f l ty → ty ≠ 77 → f ∉ [rb] := fun {f l ty} hf hn hm => by
    rw [List.mem_singleton] at hm
    exact blk_ne_of hf h7 hn hm
  exact ⟨hb1.stay hs (n1 hb1 (by decide)), hd.stay hs (fun f hf => by
    obtain ⟨_, _, L2, hL2⟩ := hd.ab f hf
    exact n1 hL2 (by decide)), fun x hx => (hde x hx).stay hs (fun f hf L hL => n1 hL (by decide) hf), hR, hbe.stay hs (n1 hbe (by decide)), hb8⟩
theorem ud_alloc {W1 w5 : World} {t : Rp} {rs0 rs2 : Int} (hb1 : Blk W1 bb L 98) (hd : Win W1 B 100 4 DA D.length dc (gcs D)) (hde : ∀ x ∈ D, x.ok W1 B) (hr1 : RopeAt W1 rb t rs0) (hbe : Blk W1 be el 37) (hs : Stay [rb] W1 w5) (hR : ∃ t', RopeAt w5 rb t' rs2 ∧ t'.text = tx) (bl : List Value) :
    UD (w5.alloc (.cells bl.toArray 37)) B bb rb L DA dc D rs2 tx be w5.heap.size el bl := by
  obtain ⟨t', h1, h2⟩ := hR
  exact ud_base hb1 hd hde hr1 hbe (hs.trans (Stay.alloc _ _)) ⟨t', h1.stay0 (Stay.alloc _ _), h2⟩ (Blk.new w5 bl 37)
theorem ud_sets {W1 w5 : World} {t : Rp} {rs0 rs2 : Int} (hb1 : Blk W1 bb L 98) (hd : Win W1 B 100 4 DA D.length dc (gcs D)) (hde : ∀ x ∈ D, x.ok W1 B) (hr1 : RopeAt W1 rb t rs0) (hbe : Blk W1 be el 37) (hs : Stay [rb] W1 w5) (hR : ∃ t', RopeAt w5 rb t' rs2 ∧ t'.text = tx) (x0 x1 x2 x y z : Value)
    (h8 : Blk w5 b8 [x0, x1, x2] 37) (hl : W1.heap.size ≤ b8) : UD (((w5.setCell ⟨b8, 0, none⟩ x).setCell ⟨b8, 1, none⟩ y).setCell ⟨b8, 2, none⟩ z) B bb rb L DA dc D rs2 tx be b8 el [x, y, z] ∧ Stay [rb] W1 (((w5.setCell ⟨b8, 0, none⟩ x).setCell ⟨b8, 1, none⟩ y).setCell ⟨b8, 2, none⟩ z) := by
  obtain ⟨t', h1, h2⟩ := hR
  have hss : ∀ (u : World) (j : Nat) (v : Value), Stay [b8] u (u.setCell ⟨b8, j, none⟩ v) := fun u j v => Stay.setCell _ _ _ (by simp)
  have hs3 := ((hss w5 0 x).trans (hss _ 1 y)).trans (hss _ 2 z)
  obtain ⟨L7, h7⟩ := h1.blk
  have hs4 := hs.trans' hs3 (fun f hf => .inr (by rw [List.mem_singleton] at hf; rw [hf]; exact hl))
  exact ⟨ud_base hb1 hd hde hr1 hbe hs4 ⟨t', h1.stay hs3 (noPair_of fun f hf L hL => by
    rw [List.mem_singleton] at hf
    subst hf
    have := hL.type h8
    cases this) (by rw [List.mem_singleton]; exact blk_ne_of h7 h8 (by decide)), h2⟩ (((h8.set 0 x).set 1 y).set 2 z), hs4⟩
/-- a new group behind the others -/
theorem UD.app {A' : Option Addr} {c' : Nat} {g : MG} (h : UD w B bb rb L DA dc D rs tx be b8 el bl) (hs : Stay (Ab DA) w w') (hw : Win w' B 100 4 A' (D.length + 1) c' (gcs D ++ g.cells)) (hg : g.ok w B) : UD w' B bb rb L A' c' (D ++ [g]) rs tx be b8 el bl := by
  obtain ⟨t, h7, h8⟩ := h.R
  obtain ⟨L7, h77⟩ := h7.blk
  have n1 : ∀ {f : Nat} {l : List Value} {ty : TypeId}, Blk w f l ty → ty ≠ 100 → f ∉ Ab DA := fun {f l ty} hf hn => win_types h.dW hf hn
  have n2 : ∀ f ∈ Ab DA, ∀ L, ¬ Blk w f L 37 := fun f hf L hL => n1 hL (by decide) hf
  refine ⟨h.bbk.stay hs (n1 h.bbk (by decide)), ?_, fun x hx => ?_, ⟨t, h7.stay hs (noPair_of fun f hf L hL => n1 hL (by decide) hf) (n1 h77 (by decide)), h8⟩, h.e.stay hs (n1 h.e (by decide)), h.b.stay hs (n1 h.b (by decide))⟩
  · rw [List.length_append, gcs_app]
    simpa using hw
  · rcases List.mem_append.1 hx with hx | hx
    · exact (h.dE x hx).stay hs n2
    · rw [List.mem_singleton] at hx
      subst hx
      exact hg.stay hs n2
/-- the last group is written -/
theorem UD.grp {g o c : Nat} {F : List Nat} {D2 : List MG} (h : UD w B bb rb L (some ⟨g, o, none⟩) c D rs tx be b8 el bl) (hs : Stay F w w') (hF : ∀ f ∈ F, f = g ∨ w.heap.size ≤ f) (hw : Win w' B 100 4 (some ⟨g, o, none⟩) D2.length c (gcs D2)) (hE : ∀ x ∈ D2, x.ok w' B) : UD w' B bb rb L (some ⟨g, o, none⟩) c D2 rs tx be b8 el bl := by
  obtain ⟨t, h7, h8⟩ := h.R
  obtain ⟨L7, h77⟩ := h7.blk
  obtain ⟨LG, _, hg, _⟩ := h.dW.some_
  have n1 : ∀ {f : Nat} {l : List Value} {ty : TypeId}, Blk w f l ty → ty ≠ 100 → f ∉ F := fun {f l ty} hf hn hm => by
    rcases hF f hm with e1 | e1
    · exact blk_ne_of hf hg hn e1
    · have := hf.lt
      omega
  exact ⟨h.bbk.stay hs (n1 h.bbk (by decide)), hw, hE, ⟨t, h7.stay hs (noPair_of fun f hf L hL => n1 hL (by decide) hf) (n1 h77 (by decide)), h8⟩, h.e.stay hs (n1 h.e (by decide)), h.b.stay hs (n1 h.b (by decide))⟩
end
/-- a cell of the last group is written -/
theorem ud_cell {w : World} {B bb rb : Nat} {L : List Value} {g o c dn : Nat} {D : List MG} {rs : Int} {tx : List UInt8} {be b8 : Nat} {el bl : List Value} {x y : MG}
    (h : UD w B bb rb L (some ⟨g, o, none⟩) c (D ++ [x]) rs tx be b8 el bl) (hdn : dn = D.length) (j : Nat) (hj : j < 4) (v : Value) (hv : x.cells.set j v = y.cells) (hy : y.ok w B) :
    UD (w.setCell ⟨g, o + dn * 4 + j, none⟩ v) B bb rb L (some ⟨g, o, none⟩) c (D ++ [y]) rs tx be b8 el bl := by
  have hl : dn < (D ++ [x]).length := by simp [hdn]
  have hgd : (D ++ [x])[dn] = x := by
    rw [List.getElem_append_right (by omega)]
    simp
  have e1 := flat_set MG.cells 4 MG.len _ dn hl j v y hj (by rw [hgd]; exact hv)
  have e3 : (D ++ [x]).set dn y = D ++ [y] := by
    rw [List.set_append_right _ _ (by omega), hdn, Nat.sub_self]
    rfl
  rw [e3] at e1
  have hlen : (D ++ [x]).length = D.length + 1 := by simp
  have hW := h.dW.set (dn * 4 + j) v (by omega)
  rw [← Nat.add_assoc] at hW
  have hs : Stay [g] w (w.setCell ⟨g, o + dn * 4 + j, none⟩ v) := Stay.setCell _ _ _ (by simp)
  obtain ⟨LG, _, hg, _⟩ := h.dW.some_
  have n37 : ∀ f ∈ [g], ∀ L, ¬ Blk w f L 37 := fun f hf L hL => by
    rw [List.mem_singleton] at hf
    subst hf
    have := hL.type hg
    cases this
  refine h.grp hs (fun f hf => .inl (by simpa using hf)) (D2 := D ++ [y]) ?_ ?_
  · unfold gcs at hW ⊢
    rw [e1, hlen] at hW
    simpa using hW
  · intro z hz
    rcases List.mem_append.1 hz with hz | hz
    · exact (h.dE z (List.mem_append_left _ hz)).stay hs n37
    · rw [List.mem_singleton] at hz
      subst hz
      exact hy.stay hs n37
theorem ud_add {w wn wm : World} {B bb rb : Nat} {L : List Value} {g o c dn c0 c1 : Nat} {A0 A1 : Option Addr} {D : List MG} {ed : List Ed} {rs by_ bf st va vd : Int} {vs : ByteArray} {tx : List UInt8} {be b8 : Nat} {el bl : List Value}
    (h : UD w B bb rb L (some ⟨g, o, none⟩) c (D ++ [⟨A0, c0, ed, by_, bf, st⟩]) rs tx be b8 el bl) (hdn : dn = D.length) (s1 : Stay [] w wn) (s2 : Stay [] wn wm) (hw : Win wm B 37 3 A1 (ed.length + 1) c1 (eds ed ++ [.int .i64 va, .int .i64 vd, .string vs])) :
    UD ((wm.setCell ⟨g, o + dn * 4, none⟩ (.slice A1 (ed.length + 1) c1)).setCell ⟨g, o + dn * 4 + 1, none⟩ (.int .i64 (by_ + vs.size))).drew B bb rb L (some ⟨g, o, none⟩) c (D ++ [⟨A1, c1, ed ++ [⟨va, vd, vs⟩], by_ + vs.size, bf, st⟩]) rs tx be b8 el bl := by
  have hm := h.stay0 (s1.trans s2)
  have e0 : eds (ed ++ [(⟨va, vd, vs⟩ : Ed)]) = eds ed ++ [.int .i64 va, .int .i64 vd, .string vs] := by simp [eds, Ed.cells]
  have h1 := ud_cell (y := ⟨A1, c1, ed ++ [⟨va, vd, vs⟩], by_, bf, st⟩) hm hdn 0 (by omega) (.slice A1 (ed.length + 1) c1) (by simp [MG.cells]) (by
    show Win wm B 37 3 A1 (ed ++ [(⟨va, vd, vs⟩ : Ed)]).length c1 (eds (ed ++ [⟨va, vd, vs⟩]))
    rw [e0, List.length_append]
    exact hw)
  have h2 := ud_cell (y := ⟨A1, c1, ed ++ [⟨va, vd, vs⟩], by_ + vs.size, bf, st⟩) h1 hdn 1 (by omega) (.int .i64 (by_ + vs.size)) (by simp [MG.cells]) (h1.dE ⟨A1, c1, ed ++ [⟨va, vd, vs⟩], by_, bf, st⟩ (by simp))
  exact h2.stay0 (Stay.drew _)
theorem stay_put {F : List Nat} {w u : World} {g k : Nat} {v : Value} (h : Stay F w u) (hg : g ∈ F ∨ w.heap.size ≤ g) : Stay F w (u.setCell ⟨g, k, none⟩ v) :=
  h.trans' (Stay.setCell (F := [g]) _ _ _ (by simp)) (fun f hf => by
    rw [List.mem_singleton] at hf
    subst hf
    exact hg)
theorem Win.drop {w : World} {B : Nat} {e : TypeId} {sz g n c : Nat} : ∀ (j o : Nat) (xs : List Value), Win w B e sz (some ⟨g, o, none⟩) n c xs → j ≤ n → Win w B e sz (some ⟨g, o + j * sz, none⟩) (n - j) (c - j) (xs.drop (j * sz))
  | 0, o, xs, h, _ => by simpa using h
  | j + 1, o, xs, h, hj => by
    have h1 := Win.drop j o xs h (by omega)
    have h2 := h1.tail (by omega)
    rw [List.drop_drop, Nat.sub_sub, Nat.sub_sub, Nat.add_assoc, ← Nat.succ_mul] at h2
    exact h2
theorem gcs_drop (D : List MG) (j : Nat) (hj : j ≤ D.length) : (gcs D).drop (j * 4) = gcs (D.drop j) := by
  have e1 : gcs D = gcs (D.take j) ++ gcs (D.drop j) := by unfold gcs; rw [← List.flatMap_append, List.take_append_drop]
  rw [e1, List.drop_append_of_le_length (by rw [gcs_length, List.length_take]; omega), List.drop_eq_nil_of_le (by rw [gcs_length, List.length_take]; omega), List.nil_append]
theorem ud_fin {w w' : World} {B bb rb : Nat} {L : List Value} {g o c : Nat} {D : List MG} {rs : Int} {tx : List UInt8} {be b8 : Nat} {el bl : List Value}
    (h : UD w B bb rb L (some ⟨g, o, none⟩) c D rs tx be b8 el bl) (hs : Stay [bb] w w') (j : Nat) (hj : j < D.length) :
    Win w' B 100 4 (some ⟨g, o + j * 4, none⟩) (D.length - j) (c - j) (gcs (D.drop j)) ∧ (∀ y ∈ D, y.ok w' B) ∧ (∃ t', RopeAt w' rb t' rs ∧ t'.text = tx) := by
  have n1 : ∀ {f : Nat} {l : List Value} {ty : TypeId}, Blk w f l ty → ty ≠ 98 → f ∉ [bb] := fun {f l ty} hf hn hm => by
    rw [List.mem_singleton] at hm
    exact blk_ne_of hf h.bbk hn hm
  obtain ⟨t, h7, h8⟩ := h.R
  obtain ⟨L7, h77⟩ := h7.blk
  refine ⟨?_, fun y hy => (h.dE y hy).stay hs (fun f hf L hL => n1 hL (by decide) hf), ⟨t, h7.stay hs (blk_noPair98 h.bbk) (n1 h77 (by decide)), h8⟩⟩
  rw [← gcs_drop D j (by omega)]
  exact Win.drop j o _ (h.dW.stay hs (fun f hf => by
    obtain ⟨_, _, L2, hL2⟩ := h.dW.ab f hf
    exact n1 hL2 (by decide))) (by omega)
/-- what Do leaves -/
def Did (B bb rb : Nat) (DA : Option Addr) (Dk : List MG) (ed : List Ed) (by_ bf rs2 sv gv : Int) (tx : List UInt8) (w : World) (e : Ending) (w' : World) : Prop :=
  ∃ (A1 : Option Addr) (c1 : Nat) (A' : Option Addr) (c' j : Nat), e = .returned (.int .i64 0) ∧ j < Dk.length + 1 ∧ Blk w' bb (bcells rb rs2 (.slice A' (Dk.length + 1 - j) c') (.slice none 0 0) (gv + 1) sv (gv + 1)) 98 ∧
    Win w' B 100 4 A' (Dk.length + 1 - j) c' (gcs ((Dk ++ [(⟨A1, c1, ed, by_, bf, gv + 1⟩ : MG)]).drop j)) ∧ (∀ y ∈ Dk ++ [(⟨A1, c1, ed, by_, bf, gv + 1⟩ : MG)], y.ok w' B) ∧ (∃ t', RopeAt w' rb t' rs2 ∧ t'.text = tx) ∧ Stay ([rb, bb] ++ Ab DA) w w' ∧
    (Dk.length + 1 - j = 1 ∨ chg ((Dk ++ [(⟨A1, c1, ed, by_, bf, gv + 1⟩ : MG)]).drop j) ≤ 1024)
end Go.Proofs.Ytjoeebjmjnddoaa
