/- shuttlelaw20: a book and its rope through the calls. -/
import Derived.Test.YtjoeebjmjnddoaaUundo
import Derived.Test.YtjoeebjmjnddoaaUhelp
namespace Go.Proofs.Ytjoeebjmjnddoaa
open Go.RowKit
structure BS (w0 w : World) (B bb rb : Nat) (DA : Option Addr) (dc : Nat) (D : List MG) (UA : Option Addr) (uc : Nat) (U : List MG) (rs st sv gv : Int) (tx : List UInt8) : Prop where
  bbk : Blk w bb (bcells rb rs (.slice DA D.length dc) (.slice UA U.length uc) st sv gv) 98
  dW : Win w B 100 4 DA D.length dc (gcs D)
  uW : Win w B 100 4 UA U.length uc (gcs U)
  dE : ∀ g ∈ D, g.ok w B
  uE : ∀ g ∈ U, g.ok w B
  ap : ∀ f ∈ Ab DA, f ∉ Ab UA
  R : ∃ t, RopeAt w rb t rs ∧ t.text = tx
  u : U64 rs
  hbb : B ≤ bb
  hrb : B ≤ rb
  bel : Below B w0 w
  sz : B ≤ w.heap.size
/-- blocks that a book's calls may hit -/
def Foot (w : World) (B rb : Nat) (F : List Nat) : Prop := ∀ f ∈ F, B ≤ f ∧ (f = rb ∨ ∃ L ty, Blk w f L ty ∧ (ty = 98 ∨ ty = 100))
section
variable {w0 w w' : World} {B bb rb : Nat} {DA : Option Addr} {dc : Nat} {D : List MG} {UA : Option Addr} {uc : Nat} {U : List MG} {rs st sv gv : Int} {tx : List UInt8}
theorem Foot.nil : Foot w B rb [] := fun f hf => by cases hf
/-- a block of another type is not hit -/
theorem Foot.off {F : List Nat} (h : Foot w B rb F) (hr : ∃ L, Blk w rb L 77) {f : Nat} {L : List Value} {ty : TypeId} (hf : Blk w f L ty) (hn : ty ≠ 77 ∧ ty ≠ 98 ∧ ty ≠ 100) : f ∉ F := fun hm => by
  rcases (h f hm).2 with rfl | ⟨L2, ty2, h2, h3⟩
  · obtain ⟨L2, h2⟩ := hr
    exact hn.1 (hf.type h2)
  · have e := hf.type h2
    subst e
    rcases h3 with h3 | h3
    · exact hn.2.1 h3
    · exact hn.2.2 h3
theorem Foot.win {F : List Nat} (h : Foot w B rb F) (hr : ∃ L, Blk w rb L 77) {B' : Nat} {e : TypeId} {sz n c : Nat} {A : Option Addr} {xs : List Value} (hw : Win w B' e sz A n c xs) (hn : e ≠ 77 ∧ e ≠ 98 ∧ e ≠ 100) (hs : Stay F w w') : Win w' B' e sz A n c xs :=
  hw.stay hs (fun f hf => by
    obtain ⟨_, _, L, hL⟩ := hw.ab f hf
    exact h.off hr hL hn)
/-- another rope stays -/
theorem Foot.rope {F : List Nat} (h : Foot w B rb F) (hr : ∃ L, Blk w rb L 77) {xb : Nat} {t : Rp} {s : Int} (hx : RopeAt w xb t s) (hne : xb ≠ rb) (hs : Stay F w w') : RopeAt w' xb t s := by
  refine hx.stay hs (noPair_of fun f hf L hL => h.off hr hL ⟨by decide, by decide, by decide⟩ hf) (fun hm => ?_)
  rcases (h xb hm).2 with e | ⟨L2, ty2, h2, h3⟩
  · exact hne e
  · obtain ⟨L, hL⟩ := hx.blk
    have e := hL.type h2
    subst e
    rcases h3 with h3 | h3 <;> cases h3
theorem BS.rblk (h : BS w0 w B bb rb DA dc D UA uc U rs st sv gv tx) : ∃ L, Blk w rb L 77 := by
  obtain ⟨t, h1, _⟩ := h.R
  exact h1.blk
theorem BS.stay0 (h : BS w0 w B bb rb DA dc D UA uc U rs st sv gv tx) (hs : Stay [] w w') : BS w0 w' B bb rb DA dc D UA uc U rs st sv gv tx := by
  obtain ⟨t, h1, h2⟩ := h.R
  exact ⟨h.bbk.stay hs (by simp), h.dW.stay0 hs, h.uW.stay0 hs, fun g hg => (h.dE g hg).stay0 hs, fun g hg => (h.uE g hg).stay0 hs, h.ap, ⟨t, h1.stay0 hs, h2⟩, h.u, h.hbb, h.hrb, h.bel.trans (hs.toBelow h.sz (by simp)), Nat.le_trans h.sz hs.size⟩
theorem BS.foot (h : BS w0 w B bb rb DA dc D UA uc U rs st sv gv tx) : Foot w B rb ([rb, bb] ++ Ab DA ++ Ab UA) := fun f hf => by
  simp only [List.mem_append, List.mem_cons, List.not_mem_nil, or_false] at hf
  rcases hf with ((rfl | rfl) | hf) | hf
  · exact ⟨h.hrb, .inl rfl⟩
  · exact ⟨h.hbb, .inr ⟨_, _, h.bbk, .inl rfl⟩⟩
  · obtain ⟨h1, _, L, hL⟩ := h.dW.ab f hf
    exact ⟨h1, .inr ⟨L, _, hL, .inr rfl⟩⟩
  · obtain ⟨h1, _, L, hL⟩ := h.uW.ab f hf
    exact ⟨h1, .inr ⟨L, _, hL, .inr rfl⟩⟩
theorem Foot.mono {F G : List Nat} (h : Foot w B rb F) (hG : ∀ f ∈ G, f ∈ F) : Foot w B rb G := fun f hf => h f (hG f hf)
theorem BS.below (h : BS w0 w B bb rb DA dc D UA uc U rs st sv gv tx) {F : List Nat} (hf : Foot w B rb F) (hs : Stay F w w') : Below B w0 w' := h.bel.trans (hs.toBelow h.sz (fun g hg => (hf g hg).1))
/-- Undo -/
theorem bs_undo {P : List MG} {g : MG} {x : List UInt8} (h : BS w0 w B bb rb DA dc (P ++ [g]) UA uc U rs st sv gv tx) (hg : GT g.ed x tx) (gi : GI g) (hU : U.length ≤ 4096) :
    Calls Try.prog 33 #[.pointer (some ⟨bb, 0, none⟩)] w fun e w' => ∃ (tA : Option Addr) (tc : Nat) (told : List Ed) (g' : MG) (DA' : Option Addr) (dc' : Nat) (UA' : Option Addr) (uc' : Nat) (rs' : Int) (F : List Nat),
      e = .returned (.tuple #[.slice tA told.length tc, .int .i64 0]) ∧ Win w' B 37 3 tA told.length tc (eds told) ∧ told = (List.range g.ed.length).map (fun k => g.ed.getD (g.ed.length - 1 - k) zeroE) ∧ RF told tx x ∧
      BS w0 w' B bb rb DA' dc' P UA' uc' (U ++ [g']) rs' g.be sv gv x ∧ RF g'.ed x tx ∧ GI g' ∧ g'.be = g.be ∧ g'.st = g.st ∧ (∀ b, g.ed = [b] → g'.ed = [backE b tx]) ∧ Stay F w w' ∧ Foot w B rb F := by
  obtain ⟨cur, c0, c1, hun, hbk⟩ := hg.undo
  obtain ⟨t, hR, ht⟩ := h.R
  have hb := h.bbk
  have hd := h.dW
  rw [List.length_append, List.length_singleton] at hb hd
  refine (undo_call B bb rb DA dc P g UA uc U st sv gv cur t rs w hb hd h.uW (fun y hy => h.dE y (List.mem_append_left _ hy)) (h.dE g (by simp)) h.uE h.ap hR h.u h.sz hU ⟨gi.n0, Nat.le_trans gi.n1 (by omega)⟩ (ht.trans c0.symm) hun).mono ?_
  rintro e w' ⟨dA, dc', g', QA', qc', t', rs', rfl, e1, e2, e3, e4, e5, e6, e7, e8, e9, e10, e11, e12, e13, e14, e15, e16, e17⟩
  have hF : Foot w B rb ([rb, bb] ++ Ab UA) := h.foot.mono (fun f hf => by
    simp only [List.mem_append] at hf ⊢
    rcases hf with hf | hf
    · exact .inl (.inl hf)
    · exact .inr hf)
  have htl : ((List.range g.ed.length).map (fun k => g.ed.getD (g.ed.length - 1 - k) zeroE)).length = g.ed.length := by simp
  refine ⟨dA, dc', _, g', DA, P.length, QA', qc', rs', _, by rw [htl], by rw [htl]; exact e7, rfl, ⟨cur, c0, by rw [htl]; exact c1, fun k hk => ?_⟩, ⟨by rw [List.length_append]; exact e8, e9, e10, e11, e12, e13, ⟨t', e14, e16.trans c1⟩, e15, h.hbb, h.hrb, h.below hF e17, Nat.le_trans h.sz e17.size⟩,
    hbk g'.ed e1 e2, ⟨by rw [e1]; exact gi.n0, by rw [e1]; exact gi.n1, e5, by rw [e1]; exact e6⟩, e3, e4, fun b hb => ?_, e17, hF⟩
  · rw [htl] at hk
    rw [List.getD_eq_getElem?_getD, List.getElem?_map, List.getElem?_range hk]
    exact hun k hk
  · have h1 : g.ed.length = 1 := by rw [hb]; rfl
    obtain ⟨x1, x2, _, x3⟩ := e2 0 (by omega)
    rw [h1] at x2 e1
    match hh : g'.ed, e1 with
    | [y], _ =>
      rw [hh] at x2
      have x4 : y = x1 := by simpa using x2
      rw [x4, x3, h1, hb, c0]
      rfl
/-- Redo -/
theorem bs_redo {Q : List MG} {g : MG} {y : List UInt8} (h : BS w0 w B bb rb DA dc D UA uc (Q ++ [g]) rs st sv gv tx) (hg : RF g.ed tx y) (gi : GI g) (hD : D.length ≤ 4096) :
    Calls Try.prog 34 #[.pointer (some ⟨bb, 0, none⟩)] w fun e w' => ∃ (tA : Option Addr) (tc : Nat) (told : List Ed) (g' : MG) (DA' : Option Addr) (dc' : Nat) (UA' : Option Addr) (uc' : Nat) (rs' : Int) (F : List Nat),
      e = .returned (.tuple #[.slice tA told.length tc, .int .i64 0]) ∧ Win w' B 37 3 tA told.length tc (eds told) ∧ told = (List.range g.ed.length).map (fun k => g.ed.getD k zeroE) ∧ RF told tx y ∧
      BS w0 w' B bb rb DA' dc' (D ++ [g']) UA' uc' Q rs' g.st sv gv y ∧ GT g'.ed tx y ∧ GI g' ∧ g'.be = g.be ∧ g'.st = g.st ∧ (∀ b, g.ed = [b] → g'.ed = [backE b tx]) ∧ Stay F w w' ∧ Foot w B rb F := by
  obtain ⟨cur, c0, c1, hun, hbk⟩ := hg.redo
  obtain ⟨t, hR, ht⟩ := h.R
  have hb := h.bbk
  have hd := h.uW
  rw [List.length_append, List.length_singleton] at hb hd
  refine (redo_call B bb rb UA uc Q g DA dc D st sv gv cur t rs w hb hd h.dW (fun y hy => h.uE y (List.mem_append_left _ hy)) (h.uE g (by simp)) h.dE (fun f hf hm => h.ap f hm hf) hR h.u h.sz hD ⟨gi.n0, Nat.le_trans gi.n1 (by omega)⟩ (ht.trans c0.symm) hun).mono ?_
  rintro e w' ⟨dA, dc', g', QA', qc', t', rs', rfl, e1, e2, e3, e4, e5, e6, e7, e8, e9, e10, e11, e12, e13, e14, e15, e16, e17⟩
  have hF : Foot w B rb ([rb, bb] ++ Ab DA) := h.foot.mono (fun f hf => List.mem_append_left _ hf)
  have htl : ((List.range g.ed.length).map (fun k => g.ed.getD k zeroE)).length = g.ed.length := by simp
  refine ⟨dA, dc', _, g', QA', qc', UA, Q.length, rs', _, by rw [htl], by rw [htl]; exact e7, rfl, ⟨cur, c0, by rw [htl]; exact c1, fun k hk => ?_⟩, ⟨by rw [List.length_append]; exact e8, e10, e9, e12, e11, fun f hf hm => e13 f hm hf, ⟨t', e14, e16.trans c1⟩, e15, h.hbb, h.hrb, h.below hF e17, Nat.le_trans h.sz e17.size⟩,
    hbk g'.ed e1 e2, ⟨by rw [e1]; exact gi.n0, by rw [e1]; exact gi.n1, e5, by rw [e1]; exact e6⟩, e3, e4, fun b hb => ?_, e17, hF⟩
  · rw [htl] at hk
    rw [List.getD_eq_getElem?_getD, List.getElem?_map, List.getElem?_range hk]
    exact hun k hk
  · have h1 : g.ed.length = 1 := by rw [hb]; rfl
    obtain ⟨x1, x2, _, x3⟩ := e2 0 (by omega)
    rw [h1] at e1
    match hh : g'.ed, e1 with
    | [y], _ =>
      rw [hh] at x2
      have x4 : y = x1 := by simpa using x2
      rw [x4, x3, hb, c0]
      rfl
end
end Go.Proofs.Ytjoeebjmjnddoaa
