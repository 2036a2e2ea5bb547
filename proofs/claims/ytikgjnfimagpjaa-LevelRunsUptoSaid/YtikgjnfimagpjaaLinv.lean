/- package level: what holds in memory between the places of Levels. -/
import Derived.Test.YtikgjnfimagpjaaLlev
namespace Go.Proofs.Ytikgjnfimagpjaa
open Go.RowKit
theorem appended_stay {w w' : World} {v v' : Value} (h : Appended w w' v v') : Stay (v.ownBlock.toList) w w' ∧ (v'.ownBlock = v.ownBlock ∨ ∃ g, v'.ownBlock = some g ∧ w.heap.size ≤ g) := by
  rcases h with ⟨h1, h⟩ | ⟨g, h1, h2, h⟩
  · exact ⟨Stay.grown h fun g hg => by simp [hg], .inl h1⟩
  · exact ⟨(Stay.grown (F := []) h (by simp)).mono (by simp), .inr ⟨g, h1, h2⟩⟩
structure LInv (low : Int) (w0 wr : World) (P : PL) (L K : List Int) (lv kv : Value) (bb b g n c : Nat) : Prop where
  pile : PileAt wr w0.heap.size b g n c P.ps
  lo : Own wr 5 w0.heap.size lv (ints .u8 L)
  ko : Own wr 23 w0.heap.size kv (ints .i8 K)
  lfar : ∀ x, lv.ownBlock = some x → x ≠ b ∧ x ≠ g ∧ x ≠ bb ∧ kv.ownBlock ≠ some x
  kfar : ∀ x, kv.ownBlock = some x → x ≠ b ∧ x ≠ g ∧ x ≠ bb
  beg : Blk wr bb [.int .u8 low, .int .i8 (-1), .bool false] 61
  bfar : b ≠ bb ∧ g ≠ bb
  bbB : w0.heap.size ≤ bb
  below : Below w0.heap.size w0 wr
section
variable {low : Int} {w0 wr w' : World} {P Q : PL} {L K : List Int} {lv kv : Value} {bb b g n c b' g' n' c' : Nat}
theorem LInv.gB (h : LInv low w0 wr P L K lv kv bb b g n c) : w0.heap.size ≤ g ∧ g < wr.heap.size ∧ w0.heap.size ≤ b ∧ b < wr.heap.size ∧ bb < wr.heap.size ∧ w0.heap.size ≤ wr.heap.size :=
  ⟨h.pile.row.2.2.2.1, h.pile.row.lt, h.pile.base, h.pile.blk.lt, h.beg.lt, h.below.size⟩
/-- the pile has been worked on -/
theorem LInv.moved (h : LInv low w0 wr P L K lv kv bb b g n c) (hp : PileAt w' w0.heap.size b g' n' c' Q.ps) (hs : Stay [b, g] wr w') (hg : g' = g ∨ wr.heap.size ≤ g') : LInv low w0 w' Q L K lv kv bb b g' n' c' := by
  obtain ⟨h1, h2, h3, h4, h5, h6⟩ := h.gB
  have hne : ∀ x, x < wr.heap.size → x ≠ g → x ≠ g' := by
    intro x hx hn
    rcases hg with rfl | hg
    · exact hn
    · omega
  refine ⟨hp, Stay.own hs h.lo fun x hx => by have := h.lfar x hx; simp; exact ⟨this.1, this.2.1⟩, Stay.own hs h.ko fun x hx => by have := h.kfar x hx; simp; exact ⟨this.1, this.2.1⟩, fun x hx => ?_, fun x hx => ?_, h.beg.stay hs (by have := h.bfar; simp; exact ⟨fun e => this.1 e.symm, fun e => this.2 e.symm⟩), ⟨h.bfar.1, ?_⟩, h.bbB, h.below.trans (hs.toBelow h6 (by simp; omega))⟩
  · have := h.lfar x hx
    exact ⟨this.1, hne x (h.lo.lt x hx).2 this.2.1, this.2.2⟩
  · have := h.kfar x hx
    exact ⟨this.1, hne x (h.ko.lt x hx).2 this.2.1, this.2.2⟩
  · exact fun e => hne bb h5 (fun e => h.bfar.2 e.symm) e.symm
theorem LInv.quiet (h : LInv low w0 wr P L K lv kv bb b g n c) (hs : Stay [] wr w') : LInv low w0 w' P L K lv kv bb b g n c :=
  h.moved (h.pile.stay hs (by simp) (by simp)) (hs.mono (by simp)) (.inl rfl)
/-- a new pile -/
theorem LInv.anew (h : LInv low w0 wr P L K lv kv bb b g n c) (hp : PileAt w' w0.heap.size b' g' n' c' Q.ps) (hs : Stay [] wr w') (hb : wr.heap.size ≤ b') (hg : wr.heap.size ≤ g') : LInv low w0 w' Q L K lv kv bb b' g' n' c' := by
  have hq := h.quiet hs
  obtain ⟨h1, h2, h3, h4, h5, h6⟩ := h.gB
  refine ⟨hp, hq.lo, hq.ko, fun x hx => ?_, fun x hx => ?_, hq.beg, ⟨by omega, by omega⟩, h.bbB, hq.below⟩
  · have := h.lfar x hx
    have hl := (h.lo.lt x hx).2
    exact ⟨by omega, by omega, this.2.2⟩
  · have := h.kfar x hx
    have hl := (h.ko.lt x hx).2
    exact ⟨by omega, by omega, this.2.2⟩
/-- a level more -/
theorem LInv.app1 {lv' : Value} {L' : List Int} (h : LInv low w0 wr P L K lv kv bb b g n c) (ho : Own w' 5 w0.heap.size lv' (ints .u8 L')) (ha : Appended wr w' lv lv') : LInv low w0 w' P L' K lv' kv bb b g n c := by
  obtain ⟨h1, h2, h3, h4, h5, h6⟩ := h.gB
  obtain ⟨hs, hv⟩ := appended_stay ha
  have hf : ∀ y, y ∈ lv.ownBlock.toList → y ≠ b ∧ y ≠ g ∧ y ≠ bb ∧ kv.ownBlock ≠ some y := fun y hy => h.lfar y (by simpa using hy)
  refine ⟨h.pile.stay hs (fun hm => (hf b hm).1 rfl) (fun hm => (hf g hm).2.1 rfl), ho, Stay.own hs h.ko fun x hx hm => (hf x hm).2.2.2 hx, fun x hx => ?_, h.kfar, h.beg.stay hs fun hm => (hf bb hm).2.2.1 rfl, h.bfar, h.bbB, h.below.trans (hs.toBelow h6 fun y hy => (h.lo.lt y (by simpa using hy)).1)⟩
  rcases hv with hv | ⟨y, hy, hsz⟩
  · exact h.lfar x (by rw [← hv]; exact hx)
  · rw [hx] at hy
    injection hy with hy
    subst hy
    refine ⟨by omega, by omega, by omega, fun e => ?_⟩
    have := (h.ko.lt x e).2
    omega
/-- a class more -/
theorem LInv.app2 {kv' : Value} {K' : List Int} (h : LInv low w0 wr P L K lv kv bb b g n c) (ho : Own w' 23 w0.heap.size kv' (ints .i8 K')) (ha : Appended wr w' kv kv') : LInv low w0 w' P L K' lv kv' bb b g n c := by
  obtain ⟨h1, h2, h3, h4, h5, h6⟩ := h.gB
  obtain ⟨hs, hv⟩ := appended_stay ha
  have hf : ∀ y, y ∈ kv.ownBlock.toList → y ≠ b ∧ y ≠ g ∧ y ≠ bb ∧ lv.ownBlock ≠ some y := fun y hy => by
    have hy' : kv.ownBlock = some y := by simpa using hy
    have := h.kfar y hy'
    exact ⟨this.1, this.2.1, this.2.2, fun e => (h.lfar y e).2.2.2 hy'⟩
  have key : ∀ x, kv'.ownBlock = some x → x ≠ b ∧ x ≠ g ∧ x ≠ bb ∧ lv.ownBlock ≠ some x := by
    intro x hx
    rcases hv with hv | ⟨y, hy, hsz⟩
    · exact hf x (by rw [hv] at hx; simp [hx])
    · rw [hx] at hy
      injection hy with hy
      subst hy
      refine ⟨by omega, by omega, by omega, fun e => ?_⟩
      have := (h.lo.lt x e).2
      omega
  refine ⟨h.pile.stay hs (fun hm => (hf b hm).1 rfl) (fun hm => (hf g hm).2.1 rfl), Stay.own hs h.lo fun x hx hm => (hf x hm).2.2.2 hx, ho, fun x hx => ?_, fun x hx => ?_, h.beg.stay hs fun hm => (hf bb hm).2.2.1 rfl, h.bfar, h.bbB, h.below.trans (hs.toBelow h6 fun y hy => (h.ko.lt y (by simpa using hy)).1)⟩
  · have := h.lfar x hx
    exact ⟨this.1, this.2.1, this.2.2.1, fun e => (key x e).2.2.2 hx⟩
  · have := key x hx
    exact ⟨this.1, this.2.1, this.2.2.1⟩
end
end Go.Proofs.Ytikgjnfimagpjaa
