/- package marks: Styles. -/
import Derived.Test.YtbnaglkhbgfchaaMoverw
import Derived.Laws.MakeOwn
namespace Go.Proofs.Ytbnaglkhbgfchaa
open Go.RowKit
/-- a byte's style as it is told by the marks that have come: the greatest number that covers it, its style -/
def stp (a : Int) (x : EN) (j : Nat) (s : Int × Int) : Int × Int := if (x.st.b ≤ a + j ∧ a + j < x.st.e) ∧ s.1 < x.id then (x.id, x.st.s) else s
def stF (a : Int) (O : List EN) (j : Nat) : Int × Int := O.foldl (fun s x => stp a x j s) (0, 0)
theorem stF_app (a : Int) (O : List EN) (x : EN) (j : Nat) : stF a (O ++ [x]) j = stp a x j (stF a O j) := by simp [stF]
def idsL (n : Nat) (f : Nat → Int × Int) : List Value := (List.range n).map fun j => .int .i64 (f j).1
def stsL (n : Nat) (f : Nat → Int × Int) : List Value := (List.range n).map fun j => .int .u16 (f j).2
theorem range_set (n q : Nat) (f g : Nat → Value) (v : Value) (_ : q < n) (h1 : g q = v) (h2 : ∀ j, j ≠ q → g j = f j) : ((List.range n).map f).set q v = (List.range n).map g := by
  refine List.ext_getElem (by simp) (fun i hi _ => ?_)
  rw [List.getElem_set]
  split
  · rename_i e
    subst e
    simp [h1]
  · rename_i e
    simp [h2 i (fun h => e h.symm)]
theorem idsL_at (n j : Nat) (f : Nat → Int × Int) (h : j < n) : (idsL n f)[j]? = some (.int .i64 (f j).1) := by simp [idsL, h]
theorem stsL_at (n j : Nat) (f : Nat → Int × Int) (h : j < n) : (stsL n f)[j]? = some (.int .u16 (f j).2) := by simp [stsL, h]
theorem info33 : (Try.prog.info? 33).map (fun i => (i.zero, i.size, i.bytes)) = some (some (.int .u16 0), 1, 2) := by kernel_rfl
theorem info3' : (Try.prog.info? 3).map (fun i => (i.zero, i.size, i.bytes)) = some (some (.int .i64 0), 1, 8) := by kernel_rfl
theorem made1 (v : Value) (hv : v.cells = #[v]) (x : Nat) : madeCells v.cells (x * 1) = (List.replicate x v).toArray := by
  rw [hv, Nat.mul_one]
  apply Array.toList_inj.1
  rw [toList_madeCells_one]
/-- between two rounds: f the first q places of the round are done -/
def mid (a : Int) (x : EN) (S : Nat → Int × Int) (q0 q : Nat) (j : Nat) : Int × Int := if q0 ≤ j ∧ j < q then stp a x j (S j) else S j
/-- what Styles' loops keep -/
structure SI (w wr : World) (sb mb ib ck b1 b2 n : Nat) (L : List EN) (last : Int) (seen : Array Nat) (f : Nat → Int × Int) : Prop where
  m : MapAt wr mb L ck
  i : IterAt wr ib mb ck seen
  blk : Blk wr sb [.map (some mb), .int .i64 last] 61
  o : Blk wr b1 (stsL n f) 33
  d : Blk wr b2 (idsL n f) 3
  st : Stay [] w wr
  hib : w.heap.size ≤ ib ∧ w.heap.size ≤ b1 ∧ w.heap.size ≤ b2
section
variable {w wr wr' : World} {sb mb ib ck b1 b2 n : Nat} {L : List EN} {last : Int} {seen : Array Nat} {f : Nat → Int × Int}
theorem iter_noBlk (h : IterAt w ib mb ck seen) {b : Nat} {l : List Value} {t : TypeId} (hb : Blk w b l t) : b ≠ ib := fun e => by
  subst e
  unfold Blk at hb
  unfold IterAt at h
  rw [h] at hb
  cases hb
theorem blk_ty {b b' : Nat} {l l' : List Value} {t t' : TypeId} (h : Blk w b l t) (h' : Blk w b' l' t') (hn : t ≠ t') : b ≠ b' := fun e => by
  subst e
  unfold Blk at h h'
  rw [h] at h'
  injection h' with h'
  injection h' with _ h2
  exact hn h2
theorem SI.stay0 (h : SI w wr sb mb ib ck b1 b2 n L last seen f) (hs : Stay [] wr wr') : SI w wr' sb mb ib ck b1 b2 n L last seen f :=
  ⟨h.m.stay hs (by simp), h.i.stay hs (by simp), h.blk.stay hs (by simp), h.o.stay hs (by simp), h.d.stay hs (by simp), h.st.trans hs, h.hib⟩
theorem SI.stepped {x : EN} (h : SI w wr sb mb ib ck b1 b2 n L last seen f) (hs : Stay [ib] wr wr') (hi : IterAt wr' ib mb ck (seen.push x.bn)) : SI w wr' sb mb ib ck b1 b2 n L last (seen.push x.bn) f := by
  have n0 : mb ≠ ib := fun e => by
    subst e
    have := h.i
    unfold IterAt at this
    rw [h.m.h] at this
    cases this
  exact ⟨h.m.stay hs (by simpa using n0), hi, h.blk.stay hs (by simpa using iter_noBlk h.i h.blk), h.o.stay hs (by simpa using iter_noBlk h.i h.o), h.d.stay hs (by simpa using iter_noBlk h.i h.d), h.st.trans' hs (fun g hg => .inr (by rw [List.mem_singleton] at hg; rw [hg]; exact h.hib.1)), h.hib⟩
/-- both places are written -/
theorem SI.put {q : Nat} {a b : Int} {g : Nat → Int × Int} (h : SI w wr sb mb ib ck b1 b2 n L last seen f) (hq : q < n) (h1 : g q = (a, b)) (h2 : ∀ j, j ≠ q → g j = f j) : SI w ((wr.setCell ⟨b1, q, none⟩ (.int .u16 b)).setCell ⟨b2, q, none⟩ (.int .i64 a)) sb mb ib ck b1 b2 n L last seen g := by
  have hs1 : Stay [b1, b2] wr ((wr.setCell ⟨b1, q, none⟩ (.int .u16 b)).setCell ⟨b2, q, none⟩ (.int .i64 a)) := (Stay.setCell _ _ _ (by simp)).trans (Stay.setCell _ _ _ (by simp))
  have ne := blk_ty h.o h.d (by decide)
  have e1 := h.m.noBlk h.o
  have e2 := h.m.noBlk h.d
  have e3 := iter_noBlk h.i h.o
  have e4 := iter_noBlk h.i h.d
  have e5 := blk_ty h.blk h.o (by decide)
  have e6 := blk_ty h.blk h.d (by decide)
  refine ⟨h.m.stay hs1 (by simp; exact ⟨e1.symm, e2.symm⟩), h.i.stay hs1 (by simp; exact ⟨e3.symm, e4.symm⟩), h.blk.stay hs1 (by simp; exact ⟨e5, e6⟩), ?_, ?_, h.st.trans' hs1 (fun f hf => .inr (by
    simp only [List.mem_cons, List.not_mem_nil, or_false] at hf
    rcases hf with rfl | rfl
    · exact h.hib.2.1
    · exact h.hib.2.2)), h.hib⟩
  · have h3 := (h.o.set q (.int .u16 b)).stay (F := [b2]) (Stay.setCell _ ⟨b2, q, none⟩ (.int .i64 a) (by simp)) (by simpa using ne)
    unfold stsL at h3
    rw [range_set n q _ (fun j => .int .u16 (g j).2) _ hq (by rw [h1]) (fun j hj => by rw [h2 j hj])] at h3
    exact h3
  · have h3 := (h.d.stay (F := [b1]) (Stay.setCell wr ⟨b1, q, none⟩ (.int .u16 b) (by simp)) (by simpa using ne.symm)).set q (.int .i64 a)
    unfold idsL at h3
    rw [range_set n q _ (fun j => .int .i64 (g j).1) _ hq (by rw [h1]) (fun j hj => by rw [h2 j hj])] at h3
    exact h3
theorem SI.congr {g : Nat → Int × Int} (h : SI w wr sb mb ib ck b1 b2 n L last seen f) (he : ∀ j, j < n → f j = g j) : SI w wr sb mb ib ck b1 b2 n L last seen g := by
  have e1 : stsL n f = stsL n g := List.map_congr_left (fun j hj => by rw [he j (by simpa using hj)])
  have e2 : idsL n f = idsL n g := List.map_congr_left (fun j hj => by rw [he j (by simpa using hj)])
  exact ⟨h.m, h.i, h.blk, e1 ▸ h.o, e2 ▸ h.d, h.st, h.hib⟩
theorem SI.left (h : SI w wr sb mb ib ck b1 b2 n L last seen f) : leftN wr ib mb = (L.filter fun x => !seen.contains x.bn).length := leftN_eq h.m h.i
end
end Go.Proofs.Ytbnaglkhbgfchaa
