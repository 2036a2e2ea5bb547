/- package marks: plain: what is done to stretches. -/
import Derived.Test.YtbnaglkhbgfchaaMrange
namespace Go.Proofs.Ytbnaglkhbgfchaa
open Go.RowKit
/-- a place once bytes are gone -/
def cutP (p at_ del : Int) : Int := if del < p - at_ then p - del else min p at_
/-- does a stretch lie over another one? -/
def overP (x : St) (at_ n : Int) : Bool :=
  if x.b < x.e ∧ 0 < n then decide (at_ < x.e) && decide (x.b - at_ < n)
  else if n = 0 then decide (x.b ≤ at_) && decide (at_ ≤ x.e)
  else decide (at_ ≤ x.b) && decide (x.b - at_ ≤ n)
def St.ok (x : St) : Prop := 0 ≤ x.b ∧ x.b ≤ x.e ∧ x.e ≤ 1152921504606846976
/-- the mark of an entry -/
def markV (id : Int) (x : St) : List Value := [.int .i64 id, .int .i64 x.b, .int .i64 (x.e - x.b), .bool x.g, .int .u16 x.s]
/-- an edit: p the place, d the bytes gone, k the bytes that come -/
def edSt (p d k : Int) (x : St) : St :=
  let b := cutP x.b p d
  let e := cutP x.e p d
  if p < b ∨ (b = p ∧ p < e ∧ x.g = false) then ⟨b + k, e + k, x.g, x.s⟩
  else if (b < p ∧ p < e) ∨ ((b = p ∨ e = p) ∧ x.g = true) then ⟨b, e + k, x.g, x.s⟩
  else ⟨b, e, x.g, x.s⟩
structure SetAt (w : World) (sb mb : Nat) (L : List EN) (ck : Nat) (last : Int) : Prop where
  blk : Blk w sb [.map (some mb), .int .i64 last] 61
  m : MapAt w mb L ck
  id : ∀ x ∈ L, 1 ≤ x.id ∧ x.id ≤ last
  ok : ∀ x ∈ L, x.st.ok
  l0 : 0 ≤ last
theorem MapAt.noBlk {w : World} {mb ck : Nat} {L : List EN} (h : MapAt w mb L ck) {b : Nat} {l : List Value} {t : TypeId} (hb : Blk w b l t) : b ≠ mb := fun e => by
  subst e
  unfold Blk at hb
  rw [h.h] at hb
  cases hb
section
variable {w w' : World} {sb mb ck : Nat} {L : List EN} {last : Int}
theorem SetAt.stay {F : List Nat} (h : SetAt w sb mb L ck last) (hs : Stay F w w') (h1 : sb ∉ F) (h2 : mb ∉ F) : SetAt w' sb mb L ck last := ⟨h.blk.stay hs h1, h.m.stay hs h2, h.id, h.ok, h.l0⟩
theorem SetAt.stay0 (h : SetAt w sb mb L ck last) (hs : Stay [] w w') : SetAt w' sb mb L ck last := h.stay hs (by simp) (by simp)
end
theorem cutP_bounds {p at_ del : Int} (h0 : 0 ≤ p) (ha : 0 ≤ at_) (hd : 0 ≤ del) : 0 ≤ cutP p at_ del ∧ cutP p at_ del ≤ p := by
  unfold cutP
  split
  · omega
  · have := Int.min_def p at_
    split at this <;> omega
theorem cutP_mono {p q at_ del : Int} (h : p ≤ q) (hd : 0 ≤ del) : cutP p at_ del ≤ cutP q at_ del := by
  unfold cutP
  have h1 := Int.min_def p at_
  have h2 := Int.min_def q at_
  split at h1 <;> split at h2 <;> split <;> split <;> omega
end Go.Proofs.Ytbnaglkhbgfchaa
