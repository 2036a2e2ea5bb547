/- shuttlelaw20: a book and its rope through Do. -/
import Derived.Test.YtjoeebjmjnddoaaUdo1
import Derived.Test.YtjoeebjmjnddoaaUdo2
import Derived.Test.YtjoeebjmjnddoaaUdo3
import Derived.Test.YtjoeebjmjnddoaaUdo4
import Derived.Test.YtjoeebjmjnddoaaUdo5
import Derived.Test.YtjoeebjmjnddoaaUdo6
import Derived.Test.YtjoeebjmjnddoaaUdo7
import Derived.Test.YtjoeebjmjnddoaaUbs
import Derived.Test.YtjoeebjmjnddoaaUrdo
import Derived.Laws.Strings
namespace Go.Proofs.Ytjoeebjmjnddoaa
open Go.RowKit
section
variable {w0 w w' : World} {B bb rb : Nat} {DA : Option Addr} {dc : Nat} {D : List MG} {UA : Option Addr} {uc : Nat} {U : List MG} {rs st sv gv : Int} {tx : List UInt8}
theorem BS.keepU (h : BS w0 w B bb rb DA dc D UA uc U rs st sv gv tx) {F : List Nat} (hs : Stay F w w') (hF : ∀ f ∈ F, f = rb ∨ f = bb) : Win w' B 100 4 UA U.length uc (gcs U) ∧ ∀ g ∈ U, g.ok w' B := by
  obtain ⟨L, hL⟩ := h.rblk
  have n1 : ∀ {f : Nat} {l : List Value} {ty : TypeId}, Blk w f l ty → ty ≠ 77 ∧ ty ≠ 98 → f ∉ F := fun {f l ty} hf hn hm => by
    rcases hF f hm with rfl | rfl
    · exact hn.1 (hf.type hL)
    · exact hn.2 (hf.type h.bbk)
  exact ⟨h.uW.stay hs (fun f hf => by
    obtain ⟨_, _, L2, hL2⟩ := h.uW.ab f hf
    exact n1 hL2 ⟨by decide, by decide⟩), fun g hg => (h.uE g hg).stay hs (fun f hf L hL => n1 hL ⟨by decide, by decide⟩ hf)⟩
/-- is an edit one more of the last group? -/
def mo2 (mo : Bool) (D U : List MG) : Bool := mo && decide (0 < D.length) && decide (U.length = 0)
theorem mo2_true {mo : Bool} (h : mo2 mo D U = true) : mo = true ∧ U = [] ∧ ∃ Dk g, D = Dk ++ [g] := by
  unfold mo2 at h
  simp only [Bool.and_eq_true, decide_eq_true_eq] at h
  obtain ⟨⟨h1, h2⟩, h3⟩ := h
  refine ⟨h1, List.length_eq_zero_iff.1 h3, ?_⟩
  have hne : D ≠ [] := fun e => by rw [e] at h2; simp at h2
  exact ⟨D.dropLast, D.getLast hne, (List.dropLast_concat_getLast hne).symm⟩
theorem gi_len (hG : ∀ g ∈ D, GI g) (hc : chg D ≤ 1024) : D.length ≤ 4096 ∧ (∀ y ∈ D, 0 ≤ y.by_) ∧ chg D ≤ 2147483648 ∧ byt D ≤ 549755813888 := by
  have h1 := chg_ge D hG
  have h2 := byt_le D hG
  refine ⟨by omega, fun y hy => (hG y hy).y0, by omega, ?_⟩
  have h3 : (chg D : Int) ≤ 1024 := by omega
  omega
/-- the book is as it was -/
def DSame (w0 w : World) (B bb rb : Nat) (DA : Option Addr) (dc : Nat) (D : List MG) (UA : Option Addr) (uc : Nat) (U : List MG) (st sv gv : Int) (tx : List UInt8) (er : Int) (e : Ending) (w' : World) : Prop :=
  ∃ (rs' : Int) (F : List Nat), e = .returned (.int .i64 er) ∧ BS w0 w' B bb rb DA dc D UA uc U rs' st sv gv tx ∧ Stay F w w' ∧ Foot w B rb F
theorem bs_full {g : MG} {Dk : List MG} (h : BS w0 w B bb rb DA dc D UA uc [] rs st sv gv tx) (e : Ed) (hD : D = Dk ++ [g]) (hG : ∀ g ∈ D, GI g) (hc : chg D ≤ 1024) (ok : e.OK) (hf : 1024 ≤ g.ed.length) :
    Calls Try.prog 31 #[.pointer (some ⟨bb, 0, none⟩), e.val, .bool true] w (DSame w0 w B bb rb DA dc D UA uc [] st sv gv tx 4) := by
  obtain ⟨t, hR, ht⟩ := h.R
  obtain ⟨A0, c0, ed, by_, bf, sx⟩ := g
  have hl := gi_len hG hc
  have key : ∃ va vd vs er rs2 tx2, U64 rs2 ∧ ∀ u, Stay [] w u → RDo rb e.a e.d e.s va vd vs er rs2 tx2 u := by
    rcases rdo_cases rb t rs e w hR h.u ok with ⟨er, _, h2⟩ | ⟨b, z, _, _, _, h2⟩
    · exact ⟨_, _, _, _, _, _, h.u, h2⟩
    · exact ⟨_, _, _, _, _, _, u64_wrap _, h2⟩
  obtain ⟨va, vd, vs, er, rs2, tx2, hu, hRD⟩ := key
  refine (tdo_full B bb rb DA dc D Dk A0 c0 ed by_ bf sx UA uc st sv gv t rs e.a e.d e.s va vd vs er rs2 tx2 w h.bbk h.dW h.dE hR hu h.sz hl.1 hRD hD hf).mono ?_
  rintro e' w' ⟨rfl, hs⟩
  exact ⟨rs, [], rfl, h.stay0 hs, hs, Foot.nil⟩
theorem bs_bad (h : BS w0 w B bb rb DA dc D UA uc U rs st sv gv tx) (e : Ed) (mo : Bool) (hG : ∀ g ∈ D, GI g) (hc : chg D ≤ 1024) (ok : e.OK) (va vd : Int) (vs : ByteArray) (er : Int) (hRD : ∀ u, Stay [] w u → RDo rb e.a e.d e.s va vd vs er rs tx u) (her : er ≠ 0) :
    Calls Try.prog 31 #[.pointer (some ⟨bb, 0, none⟩), e.val, .bool mo] w fun e w' => ∃ er', er' ≠ 0 ∧ (mo2 mo D U = false → er' = er) ∧ DSame w0 w B bb rb DA dc D UA uc U st sv gv tx er' e w' := by
  obtain ⟨t, hR, ht⟩ := h.R
  have hl := gi_len hG hc
  have hfin : ∀ w', Blk w' bb (bcells rb rs (.slice DA D.length dc) (.slice UA U.length uc) st sv gv) 98 ∧ Win w' B 100 4 DA D.length dc (gcs D) ∧ (∀ y ∈ D, y.ok w' B) ∧ (∃ t', RopeAt w' rb t' rs ∧ t'.text = tx) ∧ Stay [rb] w w' →
      BS w0 w' B bb rb DA dc D UA uc U rs st sv gv tx ∧ Stay [rb] w w' ∧ Foot w B rb [rb] := fun w' ⟨h1, h2, h3, h4, h5⟩ => by
    have hF : Foot w B rb [rb] := h.foot.mono (by simp)
    obtain ⟨k1, k2⟩ := h.keepU h5 (by simp)
    exact ⟨⟨h1, h2, k1, h3, k2, h.ap, h4, h.u, h.hbb, h.hrb, h.below hF h5, Nat.le_trans h.sz h5.size⟩, h5, hF⟩
  cases hm : mo2 mo D U with
  | false =>
    refine (udo_refused B bb rb DA dc D UA U.length uc st sv gv t rs e.a e.d e.s mo va vd vs er rs tx w h.bbk h.dW h.dE hR h.u h.sz hl.1 hRD hm her).mono ?_
    rintro e' w' ⟨rfl, h5⟩
    obtain ⟨k1, k2, k3⟩ := hfin w' h5
    exact ⟨er, her, fun _ => rfl, rs, _, rfl, k1, k2, k3⟩
  | true =>
    obtain ⟨rfl, rfl, Dk, g, hD⟩ := mo2_true hm
    by_cases hfu : 1024 ≤ g.ed.length
    · refine (bs_full h e hD hG hc ok hfu).mono ?_
      rintro e' w' ⟨rs', F, h1⟩
      exact ⟨4, by omega, fun h => by simp at h, rs', F, h1⟩
    · obtain ⟨A0, c0, ed, by_, bf, sx⟩ := g
      refine (tdo_refused B bb rb DA dc D Dk A0 c0 ed by_ bf sx UA uc st sv gv t rs e.a e.d e.s va vd vs er rs tx w h.bbk h.dW h.dE hR h.u h.sz hl.1 hRD hD (by simpa using hfu) her).mono ?_
      rintro e' w' ⟨rfl, h5⟩
      obtain ⟨k1, k2, k3⟩ := hfin w' h5
      exact ⟨er, her, fun h => by simp at h, rs, _, rfl, k1, k2, k3⟩
theorem bs_emp (h : BS w0 w B bb rb DA dc D UA uc U rs st sv gv tx) (e : Ed) (mo : Bool) (hG : ∀ g ∈ D, GI g) (hc : chg D ≤ 1024) (ok : e.OK) (va vd : Int) (vs : ByteArray) (rs2 : Int) (hu : U64 rs2) (hRD : ∀ u, Stay [] w u → RDo rb e.a e.d e.s va vd vs 0 rs2 tx u) (hem : e.d = 0 ∧ e.s = ⟨#[]⟩) :
    Calls Try.prog 31 #[.pointer (some ⟨bb, 0, none⟩), e.val, .bool mo] w fun e w' => ∃ er', (mo2 mo D U = false → er' = 0) ∧ DSame w0 w B bb rb DA dc D UA uc U st sv gv tx er' e w' := by
  obtain ⟨t, hR, ht⟩ := h.R
  have hl := gi_len hG hc
  have hfin : ∀ w', Blk w' bb (bcells rb rs2 (.slice DA D.length dc) (.slice UA U.length uc) st sv gv) 98 ∧ Win w' B 100 4 DA D.length dc (gcs D) ∧ (∀ y ∈ D, y.ok w' B) ∧ (∃ t', RopeAt w' rb t' rs2 ∧ t'.text = tx) ∧ Stay [rb, bb] w w' →
      BS w0 w' B bb rb DA dc D UA uc U rs2 st sv gv tx ∧ Stay [rb, bb] w w' ∧ Foot w B rb [rb, bb] := fun w' ⟨h1, h2, h3, h4, h5⟩ => by
    have hF : Foot w B rb [rb, bb] := h.foot.mono (fun f hf => List.mem_append_left _ (List.mem_append_left _ hf))
    obtain ⟨k1, k2⟩ := h.keepU h5 (by simp)
    exact ⟨⟨h1, h2, k1, h3, k2, h.ap, h4, hu, h.hbb, h.hrb, h.below hF h5, Nat.le_trans h.sz h5.size⟩, h5, hF⟩
  cases hm : mo2 mo D U with
  | false =>
    refine (udo_empty B bb rb DA dc D UA U.length uc st sv gv t rs e.a e.d e.s mo va vd vs 0 rs2 tx w h.bbk h.dW h.dE hR hu h.sz hl.1 hRD hm rfl hem).mono ?_
    rintro e' w' ⟨rfl, h5⟩
    obtain ⟨k1, k2, k3⟩ := hfin w' h5
    exact ⟨0, fun _ => rfl, rs2, _, rfl, k1, k2, k3⟩
  | true =>
    obtain ⟨rfl, rfl, Dk, g, hD⟩ := mo2_true hm
    by_cases hfu : 1024 ≤ g.ed.length
    · refine (bs_full h e hD hG hc ok hfu).mono ?_
      rintro e' w' ⟨rs', F, h1⟩
      exact ⟨4, fun h => by simp at h, rs', F, h1⟩
    · obtain ⟨A0, c0, ed, by_, bf, sx⟩ := g
      refine (tdo_empty B bb rb DA dc D Dk A0 c0 ed by_ bf sx UA uc st sv gv t rs e.a e.d e.s va vd vs 0 rs2 tx w h.bbk h.dW h.dE hR hu h.sz hl.1 hRD hD (by simpa using hfu) rfl hem).mono ?_
      rintro e' w' ⟨rfl, h5⟩
      obtain ⟨k1, k2, k3⟩ := hfin w' h5
      exact ⟨0, fun h => by simp at h, rs2, _, rfl, k1, k2, k3⟩
/-- a change is done -/
def DNew (w0 w : World) (B bb rb : Nat) (Dk : List MG) (ed : List Ed) (by_ bf sv gv : Int) (tx : List UInt8) (e : Ending) (w' : World) : Prop :=
  ∃ (g : MG) (j : Nat) (DA' : Option Addr) (dc' : Nat) (rs' : Int) (F : List Nat), e = .returned (.int .i64 0) ∧ g.ed = ed ∧ g.by_ = by_ ∧ g.be = bf ∧ g.st = gv + 1 ∧ j < Dk.length + 1 ∧ BS w0 w' B bb rb DA' dc' ((Dk ++ [g]).drop j) none 0 [] rs' (gv + 1) sv (gv + 1) tx ∧
    (Dk.length + 1 - j = 1 ∨ chg ((Dk ++ [g]).drop j) ≤ 1024) ∧ Stay F w w' ∧ Foot w B rb F
theorem dnew_of (h : BS w0 w B bb rb DA dc D UA uc U rs st sv gv tx) {Dk : List MG} {ed : List Ed} {by_ bf rs2 : Int} {z : List UInt8} (hu : U64 rs2) {e : Ending} (hd : Did B bb rb DA Dk ed by_ bf rs2 sv gv z w e w') : DNew w0 w B bb rb Dk ed by_ bf sv gv z e w' := by
  obtain ⟨A1, c1, A', c', j, rfl, hj, h1, h2, h3, h4, h5, h6⟩ := hd
  have hF : Foot w B rb ([rb, bb] ++ Ab DA) := h.foot.mono (fun f hf => List.mem_append_left _ hf)
  have hl : ((Dk ++ [(⟨A1, c1, ed, by_, bf, gv + 1⟩ : MG)]).drop j).length = Dk.length + 1 - j := by simp
  refine ⟨⟨A1, c1, ed, by_, bf, gv + 1⟩, j, A', c', rs2, _, rfl, rfl, rfl, rfl, rfl, hj, ⟨by rw [hl]; exact h1, by rw [hl]; exact h2, Win.nil _ _ _ _, fun g hg => h3 g (List.mem_of_mem_drop hg), fun g hg => (by cases hg), by simp [Ab], h4, hu, h.hbb, h.hrb, h.below hF h5, Nat.le_trans h.sz h5.size⟩, h6, h5, hF⟩
theorem nonempty_of {e : Ed} (hne : ¬ (e.d = 0 ∧ e.s = ⟨#[]⟩)) : e.d = 0 → e.s.toList.isEmpty = false := fun h => by
  cases h2 : e.s.toList.isEmpty with
  | false => rfl
  | true =>
    exfalso
    refine hne ⟨h, ?_⟩
    rw [ByteArray.toList_eq, List.isEmpty_iff] at h2
    have h3 : e.s.data = #[] := by rw [← Array.toList_eq_nil_iff]; exact h2
    have h4 : e.s = ⟨e.s.data⟩ := rfl
    rw [h4, h3]
theorem bs_new (h : BS w0 w B bb rb DA dc D UA uc U rs st sv gv tx) (e : Ed) (mo : Bool) (hG : ∀ g ∈ D, GI g) (hc : chg D ≤ 1024) (va vd : Int) (vs : ByteArray) (rs2 : Int) (z : List UInt8) (hu : U64 rs2) (hRD : ∀ u, Stay [] w u → RDo rb e.a e.d e.s va vd vs 0 rs2 z u) (hne : ¬ (e.d = 0 ∧ e.s = ⟨#[]⟩)) (hvs : vs.size ≤ 1048576) (hgv : 0 ≤ gv ∧ gv < 4611686018427387904)
    (hm : mo2 mo D U = false) :
    Calls Try.prog 31 #[.pointer (some ⟨bb, 0, none⟩), e.val, .bool mo] w (DNew w0 w B bb rb D [⟨va, vd, vs⟩] vs.size st sv gv z) := by
  obtain ⟨t, hR, ht⟩ := h.R
  have hl := gi_len hG hc
  refine (udo_new B bb rb DA dc D UA U.length uc st sv gv t rs e.a e.d e.s mo va vd vs 0 rs2 z w h.bbk h.dW h.dE hR hu h.sz hl.1 hRD hm rfl (nonempty_of hne) hvs ⟨hgv.1, by omega⟩ hl.2).mono ?_
  intro e' w' hd
  exact dnew_of h hu hd
theorem bs_more {g : MG} {Dk : List MG} (h : BS w0 w B bb rb DA dc D UA uc [] rs st sv gv tx) (e : Ed) (hD : D = Dk ++ [g]) (hG : ∀ g ∈ D, GI g) (hc : chg D ≤ 1024) (hf : g.ed.length < 1024) (va vd : Int) (vs : ByteArray) (rs2 : Int) (z : List UInt8) (hu : U64 rs2) (hRD : ∀ u, Stay [] w u → RDo rb e.a e.d e.s va vd vs 0 rs2 z u) (hne : ¬ (e.d = 0 ∧ e.s = ⟨#[]⟩)) (hvs : vs.size ≤ 1048576) (hgv : 0 ≤ gv ∧ gv < 4611686018427387904) :
    Calls Try.prog 31 #[.pointer (some ⟨bb, 0, none⟩), e.val, .bool true] w (DNew w0 w B bb rb Dk (g.ed ++ [⟨va, vd, vs⟩]) (g.by_ + vs.size) g.be sv gv z) := by
  obtain ⟨t, hR, ht⟩ := h.R
  have hl := gi_len hG hc
  have h0 : 0 < g.ed.length := (hG g (by rw [hD]; simp)).n0
  obtain ⟨A0, c0, ed, by_, bf, sx⟩ := g
  refine (tdo_more B bb rb DA dc D Dk A0 c0 ed by_ bf sx UA uc st sv gv t rs e.a e.d e.s va vd vs 0 rs2 z w h.bbk h.dW h.dE hR hu h.sz hl.1 hRD hD hf h0 rfl (nonempty_of hne) hvs ⟨hgv.1, by omega⟩ hl.2).mono ?_
  intro e' w' hd
  exact dnew_of h hu hd
end
end Go.Proofs.Ytjoeebjmjnddoaa
