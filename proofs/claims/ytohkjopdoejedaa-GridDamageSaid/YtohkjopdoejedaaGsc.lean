/- a screen, plain, and how it lies in memory. -/
import Derived.Test.YtohkjopdoejedaaGresize
import Derived.Test.YtohkjopdoejedaaMove
namespace Go.Proofs.Ytohkjopdoejedaa
open Go.RowKit
structure Sc where
  W : Nat
  H : Nat
  rows : List (List Ce)
  old : Option (List (List Ce))
  X : Int
  Y : Int
structure Sc.OK (S : Sc) : Prop where
  w : S.W ≤ 1024
  h : S.H ≤ 1024
  len : S.rows.length = S.H
  row : ∀ r ∈ S.rows, r.length = S.W ∧ PartOK r
  old : ∀ l, S.old = some l → l.length = S.H ∧ ∀ r ∈ l, r.length = S.W
def newS (W H : Nat) : Sc := ⟨W, H, List.replicate H (List.replicate W Ce.zero), none, -1, -1⟩
theorem partOK_zero (n : Nat) : PartOK (List.replicate n Ce.zero) := PartOK.of_mem fun c hc => by
  rw [List.eq_of_mem_replicate hc]; simp [Ce.zero]
theorem newS_ok (W H : Nat) (hW : W ≤ 1024) (hH : H ≤ 1024) : (newS W H).OK :=
  ⟨hW, hH, List.length_replicate, fun r hr => by
    have := List.eq_of_mem_replicate hr
    subst this
    exact ⟨List.length_replicate, partOK_zero _⟩, fun l hl => by cases hl⟩
/-- how a cell looks, as cells -/
def Ce.look (c : Ce) : List Value := [.string c.text, .int .i8 c.part, .int .u16 c.style]
def lookRow (l : List Ce) : List Value := l.flatMap Ce.look
def oldRows (os : List Nat) (W : Nat) : List Value := os.map (fun o => Value.slice (some ⟨o, 0, none⟩) W W) ++ List.replicate (1024 - os.length) (.slice none 0 0)
theorem oldRows_nil (W : Nat) : oldRows [] W = nils := rfl
structure Sm (w : World) (s base : Nat) (os : List Nat) (S : Sc) : Prop where
  scr : Scr w s (newRows base S.W S.H) (oldRows os S.W) S.W S.H S.X S.Y
  rows : ∀ (y : Nat) (r : List Ce), S.rows[y]? = some r → Blk w (base + y) (rowCells r) 49
  olds : ∀ l : List (List Ce), S.old = some l → os.length = S.H ∧ ∀ (y o : Nat) (r : List Ce), os[y]? = some o → l[y]? = some r → Blk w o (lookRow r) 78
  non : S.old = none → os = []
  sep : s < base
  sepo : ∀ o ∈ os, base + S.H ≤ o
  ok : S.OK
/-- the blocks that calls write to -/
def foot (s base H : Nat) : List Nat := s :: List.range' base H
theorem mem_foot {s base H i : Nat} : i ∈ foot s base H ↔ i = s ∨ (base ≤ i ∧ i < base + H) := by
  unfold foot
  rw [List.mem_cons, List.mem_range'_1]
section
variable {w w' : World} {s base : Nat} {os : List Nat} {S : Sc}
theorem Sm.stay {F : List Nat} (h : Sm w s base os S) (hs : Stay F w w') (hn : ∀ i ∈ F, i ≠ s ∧ (i < base ∨ base + S.H ≤ i) ∧ i ∉ os) : Sm w' s base os S := by
  refine ⟨h.scr.stay hs (fun hm => (hn _ hm).1 rfl), fun y r hr => (h.rows y r hr).stay hs fun hm => ?_, fun l hl => ⟨(h.olds l hl).1, fun y o r ho hr => ((h.olds l hl).2 y o r ho hr).stay hs fun hm => (hn _ hm).2.2 (List.mem_of_getElem? ho)⟩, h.non, h.sep, h.sepo, h.ok⟩
  have h1 := (hn _ hm).2.1
  have h2 := (List.getElem?_eq_some_iff.1 hr).1
  rw [h.ok.len] at h2
  omega
theorem Sm.below (h : Sm w s base os S) (hb : Below w.heap.size w w') : Sm w' s base os S := h.stay (Stay.below (F := []) hb) (by simp)
theorem Sm.lt (h : Sm w s base os S) (y : Nat) (hy : y < S.H) : base + y < w.heap.size := by
  have h1 : y < S.rows.length := by rw [h.ok.len]; exact hy
  exact (h.rows y _ (List.getElem?_eq_getElem h1)).lt
theorem newRows_at (base W H y : Nat) (hy : y < H) (hH : H ≤ 1024) : (newRows base W H)[y]? = some (.slice (some ⟨base + y, 0, none⟩) W W) := by
  unfold newRows
  rw [List.getElem?_append_left (by simpa using hy)]
  simp [hy]
theorem newRows_length (base W H : Nat) (hH : H ≤ 1024) : (newRows base W H).length = 1024 := by
  unfold newRows
  rw [List.length_append, List.length_map, List.length_range, List.length_replicate]
  omega
theorem Sm.row (h : Sm w s base os S) (y : Nat) (hy : y < S.H) : w.cell? ⟨s, y, none⟩ = some (.slice (some ⟨base + y, 0, none⟩) S.W S.W) := by
  have := h.ok.h
  rw [h.scr.row y (by omega), newRows_at _ _ _ _ hy h.ok.h]
/-- a row as a list, and its block -/
theorem Sm.rowAt (h : Sm w s base os S) (y : Nat) (hy : y < S.H) : ∃ r, S.rows[y]? = some r ∧ r.length = S.W ∧ PartOK r ∧ Blk w (base + y) (rowCells r) 49 := by
  have h1 : y < S.rows.length := by rw [h.ok.len]; exact hy
  refine ⟨S.rows[y], List.getElem?_eq_getElem h1, (h.ok.row _ (List.getElem_mem h1)).1, (h.ok.row _ (List.getElem_mem h1)).2, h.rows y _ (List.getElem?_eq_getElem h1)⟩
theorem lay_whole (r l : List Ce) (h : l.length = r.length) : lay (rowCells r) 0 l = rowCells l := by
  unfold lay
  rw [List.drop_of_length_le (by rw [rowCells_length, h]; omega)]
  simp
/-- one row is written anew -/
theorem Sm.setRow (h : Sm w s base os S) (y : Nat) (hy : y < S.H) (r : List Ce) (hr : r.length = S.W) (hp : PartOK r) (hb : Blk w' (base + y) (rowCells r) 49) (hs : Stay [base + y] w w') :
    Sm w' s base os { S with rows := S.rows.set y r } := by
  have hsep := h.sep
  refine ⟨h.scr.stay hs (by simp; omega), ?_, ?_, h.non, h.sep, h.sepo, h.ok.w, h.ok.h, by simp [h.ok.len], ?_, h.ok.old⟩
  · intro k q hk
    simp only [List.getElem?_set] at hk
    by_cases e : y = k
    · subst e
      simp only [if_true] at hk
      split at hk
      · injection hk with hk; subst hk; exact hb
      · cases hk
    · rw [if_neg e] at hk
      exact (h.rows k q hk).stay hs (by simp; omega)
  · intro l hl
    refine ⟨(h.olds l hl).1, fun k o q ho hk => ?_⟩
    have h1 := h.sepo o (List.mem_of_getElem? ho)
    exact ((h.olds l hl).2 k o q ho hk).stay hs (by simp; omega)
  · intro q hq
    rcases List.mem_or_eq_of_mem_set hq with hq | hq
    · exact h.ok.row q hq
    · subst hq; exact ⟨hr, hp⟩
end
end Go.Proofs.Ytohkjopdoejedaa
