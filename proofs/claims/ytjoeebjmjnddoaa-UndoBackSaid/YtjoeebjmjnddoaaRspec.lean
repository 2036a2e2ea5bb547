/- layer 18: a text as a tree, plain, and how it lies in memory. -/
import Derived.Test.YtjoeebjmjnddoaaStay
import Derived.Test.YtjoeebjmjnddoaaMinMax2
import Derived.Test.YtjoeebjmjnddoaaShelf
namespace Go.Proofs.Ytjoeebjmjnddoaa
open Go.RowKit
inductive Rp where
  | leaf (s : List UInt8)
  | pair (a b : Rp)
def Rp.text : Rp → List UInt8
  | .leaf s => s
  | .pair a b => a.text ++ b.text
def Rp.deep : Rp → Nat
  | .leaf _ => 0
  | .pair a b => 1 + max a.deep b.deep
def Rp.len (t : Rp) : Nat := t.text.length
def nl (l : List UInt8) : Nat := l.count 10
def Rp.nls (t : Rp) : Nat := nl t.text
theorem nl_app (a b : List UInt8) : nl (a ++ b) = nl a + nl b := List.count_append
theorem nl_le (l : List UInt8) : nl l ≤ l.length := List.count_le_length
def str (l : List UInt8) : ByteArray := ⟨l.toArray⟩
theorem str_list (l : List UInt8) : (str l).data.toList = l := rfl
theorem str_size (l : List UInt8) : (str l).size = l.length := by simp [str, ByteArray.size]
theorem str_of (s : ByteArray) : str s.data.toList = s := rfl
theorem str_ext (l : List UInt8) (a b : Nat) : (str l).extract a b = str ((l.drop a).take (b - a)) := by
  unfold str
  apply ByteArray.ext
  rw [ByteArray.data_extract]
  apply Array.toList_inj.1
  rw [Array.toList_extract]
theorem str_ext' (l : List UInt8) (a b : Nat) (h : b = l.length) : (str l).extract a b = str (l.drop a) := by
  rw [str_ext, List.take_of_length_le (by rw [List.length_drop]; omega)]
def leafV (s : List UInt8) : Value := .iface 108 (.agg #[.string (str s), .int .i64 (nl s)])
/-- a piece in memory: the value v of the interface type holds the tree t -/
def Node (w : World) : Value → Rp → Prop
  | v, .leaf s => v = leafV s
  | v, .pair a b => ∃ g va vb, v = .iface 109 (.pointer (some ⟨g, 0, none⟩)) ∧ w.heap[g]? = some (.cells #[va, vb, .int .i64 ((Rp.pair a b).len), .int .i64 ((Rp.pair a b).nls), .int .i64 ((Rp.pair a b).deep)] 111) ∧ Node w va a ∧ Node w vb b ∧ a.text ≠ [] ∧ b.text ≠ []
/-- no block of F is a pair's -/
def NoPair (w : World) (F : List Nat) : Prop := ∀ f ∈ F, ∀ cs, w.heap[f]? ≠ some (.cells cs 111)
theorem NoPair.nil (w : World) : NoPair w [] := fun f hf => by cases hf
theorem Node.stay {w w' : World} {F : List Nat} (hs : Stay F w w') (hF : NoPair w F) : ∀ {v : Value} {t : Rp}, Node w v t → Node w' v t
  | _, .leaf _, h => h
  | _, .pair _ _, ⟨g, va, vb, h1, h2, h3, h4, h5⟩ => ⟨g, va, vb, h1, (hs.block g (Array.getElem?_eq_some_iff.1 h2).1 (fun hm => hF g hm _ h2)).trans h2, h3.stay hs hF, h4.stay hs hF, h5⟩
theorem Node.below {w w' : World} {v : Value} {t : Rp} (h : Node w v t) (hb : Below w.heap.size w w') : Node w' v t := h.stay (Stay.below (F := []) hb) (NoPair.nil w)
theorem Node.deep_le {w : World} : ∀ {v : Value} {t : Rp}, Node w v t → t.deep ≤ t.len
  | _, .leaf s, _ => Nat.zero_le _
  | _, .pair a b, ⟨g, va, vb, _, _, ha, hb, na, nb⟩ => by
    have h1 := ha.deep_le
    have h2 := hb.deep_le
    have h3 : 0 < a.text.length := List.length_pos_iff.2 na
    have h4 : 0 < b.text.length := List.length_pos_iff.2 nb
    simp only [Rp.len] at h1 h2
    simp only [Rp.deep, Rp.len, Rp.text, List.length_append]
    omega
theorem Node.nls_le (t : Rp) : t.nls ≤ t.len := nl_le _
theorem Rp.len_pair (a b : Rp) : (Rp.pair a b).len = a.len + b.len := List.length_append
theorem Rp.nls_pair (a b : Rp) : (Rp.pair a b).nls = a.nls + b.nls := nl_app _ _
end Go.Proofs.Ytjoeebjmjnddoaa
