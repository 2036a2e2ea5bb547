/- shuttlelaw18: RopeBack: what an edit takes back, plainly; what the law keeps in memory. -/
import Derived.Test.YtjoeebjmjnddoaaRlines0
namespace Go.Proofs.Ytjoeebjmjnddoaa
open Go.RowKit
theorem editL_eq (l : List UInt8) (a d : Nat) (ins : List UInt8) : editL l a d ins = l.take a ++ (ins ++ l.drop (a + d)) := by
  unfold editL cutL
  rw [List.drop_zero, Nat.sub_zero, List.append_assoc]
  congr 2
  exact List.take_of_length_le (by rw [List.length_drop]; omega)
theorem cutL_eq (l : List UInt8) (a d : Nat) : cutL l a (a + d) = (l.drop a).take d := by
  unfold cutL
  congr 1
  omega
theorem editL_back (l : List UInt8) (a d : Nat) (ins : List UInt8) (h : a + d ≤ l.length) :
    editL (editL l a d ins) a ins.length (cutL l a (a + d)) = l ∧ cutL (editL l a d ins) a (a + ins.length) = ins ∧ a + ins.length ≤ (editL l a d ins).length := by
  have ht : (l.take a).length = a := by rw [List.length_take]; omega
  have e1 : (editL l a d ins).drop a = ins ++ l.drop (a + d) := by
    rw [editL_eq, List.drop_append, ht, Nat.sub_self, List.drop_zero, List.drop_of_length_le (by omega), List.nil_append]
  have e2 : (editL l a d ins).take a = l.take a := by
    rw [editL_eq, List.take_append, ht, Nat.sub_self, List.take_zero, List.append_nil, List.take_of_length_le (by omega)]
  have e3 : (editL l a d ins).drop (a + ins.length) = l.drop (a + d) := by
    rw [← List.drop_drop, e1, List.drop_append, Nat.sub_self, List.drop_zero, List.drop_of_length_le (by omega), List.nil_append]
  refine ⟨?_, ?_, ?_⟩
  · rw [editL_eq, e2, e3, cutL_eq, ← List.drop_drop, List.take_append_drop, List.take_append_drop]
  · rw [cutL_eq, e1, List.take_append, Nat.sub_self, List.take_zero, List.append_nil, List.take_of_length_le (by omega)]
  · rw [editL_length _ _ _ _ h]; omega
theorem str_cat (a b : List UInt8) : str a ++ str b = str (a ++ b) := by
  apply ByteArray.ext
  simp [str]
theorem edit_str (T : List UInt8) (a d : Nat) (es : ByteArray) (_h : a + d ≤ T.length) : (str T).extract 0 a ++ es ++ (str T).extract (a + d) (str T).size = str (editL T a d es.data.toList) := by
  rw [str_ext, str_ext' _ _ _ (str_size T), List.drop_zero, Nat.sub_zero, editL_eq, ← str_cat, ← str_cat, str_of]
  apply ByteArray.ext
  simp [Array.append_assoc]
/-- the edit b takes cur back to x -/
def Undoes (b : Ed) (cur x : List UInt8) : Prop := ∃ (a d : Nat) (ins : List UInt8), a + d ≤ x.length ∧ x.length ≤ 1048576 ∧ cur.length ≤ 1048576 ∧ cur = editL x a d ins ∧ b = ⟨a, ins.length, str (cutL x a (a + d))⟩
/-- a call of Do that is no refusal -/
def DoneTo (rb : Nat) (w : World) (b : Ed) (st : Int) (x : List UInt8) (e : Ending) (w' : World) : Prop :=
  e = .returned (.tuple #[b.val, .int .i64 0]) ∧ (∃ t', RopeAt w' rb t' (IntKind.u64.wrap (st + 1)) ∧ t'.text = x) ∧ Stay [rb] w w'
theorem do_undo (rb : Nat) (t : Rp) (st : Int) (b : Ed) (x : List UInt8) (w : World) (h : RopeAt w rb t st) (hst : U64 st) (hu : Undoes b t.text x) :
    ∃ a : Ed, Calls Try.prog 21 #[.pointer (some ⟨rb, 0, none⟩), b.val] w (DoneTo rb w a st x) ∧ Undoes a x t.text ∧
      ∀ (u : World) (t2 : Rp) (st2 : Int), RopeAt u rb t2 st2 → U64 st2 → t2.text = x → Calls Try.prog 21 #[.pointer (some ⟨rb, 0, none⟩), a.val] u (DoneTo rb u b st2 t.text) := by
  obtain ⟨a, d, ins, h1, h2, h3, h4, rfl⟩ := hu
  obtain ⟨b1, b2, b3⟩ := editL_back x a d ins h1
  have hlen := editL_length x a d ins h1
  have hcl : (cutL x a (a + d)).length = d := by rw [cutL_length _ _ _ h1]; omega
  rw [← h4] at b1 b2 b3 hlen
  have hU : Undoes ⟨a, d, str ins⟩ x t.text := by
    refine ⟨a, ins.length, cutL x a (a + d), b3, h3, h2, b1.symm, ?_⟩
    rw [b2, hcl]
  refine ⟨⟨a, d, str ins⟩, ?_, hU, ?_⟩
  · refine (do_ok rb t st a ins.length (cutL x a (a + d)) w h hst b3 (by rw [Rp.len]; omega)).mono ?_
    rintro e w' ⟨e1, ⟨t', e2, e3⟩, e4⟩
    refine ⟨?_, ⟨t', e2, e3.trans b1⟩, e4⟩
    rw [e1, b2, hcl]
    rfl
  · intro u t2 st2 hr hs ht
    refine (do_ok rb t2 st2 a d ins u hr hs (by rw [Rp.len, ht]; exact h1) (by rw [Rp.len, ht]; omega)).mono ?_
    rintro e w' ⟨e1, ⟨t', e2, e3⟩, e4⟩
    refine ⟨?_, ⟨t', e2, ?_⟩, e4⟩
    · rw [e1, ht]; rfl
    · rw [e3, ht, ← h4]
/-- what an edit that fits has told takes the text back -/
theorem fits_undoes (e : Ed) (x : List UInt8) (hx : x.length ≤ 1048576) (hf : Fits e x.length) :
    Undoes ⟨e.a.toNat, (e.s.data.toList).length, str (cutL x e.a.toNat (e.a.toNat + e.d.toNat))⟩ (editL x e.a.toNat e.d.toNat e.s.data.toList) x := by
  obtain ⟨h1, h2, h3, h4⟩ := hf
  have hb := bytes_length e.s
  have h5 : e.a.toNat + e.d.toNat ≤ x.length := by omega
  exact ⟨_, _, _, h5, hx, by rw [editL_length _ _ _ _ h5]; omega, rfl, rfl⟩
/-- the texts and what takes the one behind each back to it -/
inductive Chain (s : List UInt8) : List (List UInt8 × Ed) → List UInt8 → Prop
  | nil : Chain s [] s
  | snoc {h : List (List UInt8 × Ed)} {cur x : List UInt8} {b : Ed} : Chain s h x → Undoes b cur x → Chain s (h ++ [(x, b)]) cur
theorem Chain.last {s : List UInt8} {h : List (List UInt8 × Ed)} {cur x : List UInt8} {b : Ed} (c : Chain s (h ++ [(x, b)]) cur) : Chain s h x ∧ Undoes b cur x := by
  generalize hl : h ++ [(x, b)] = l at c
  cases c with
  | nil => simp at hl
  | snoc c1 c2 =>
    obtain ⟨e1, e2⟩ := List.append_inj' hl rfl
    injection e2 with e2 _
    injection e2 with e2 e3
    subst e1 e2 e3
    exact ⟨c1, c2⟩
theorem Chain.first {s : List UInt8} {cur : List UInt8} (c : Chain s [] cur) : s = cur := by
  generalize hl : ([] : List (List UInt8 × Ed)) = l at c
  cases c with
  | nil => rfl
  | snoc c1 c2 => simp at hl
theorem Chain.at_ {s : List UInt8} {H : List (List UInt8 × Ed)} {cur : List UInt8} (m : Nat) (hm : m < H.length) (c : Chain s (H.take (m + 1)) cur) : Chain s (H.take m) H[m].1 ∧ Undoes H[m].2 cur H[m].1 := by
  rw [List.take_succ_eq_append_getElem hm] at c
  exact c.last
/-- the law's own memory: a rope, the texts, the edits -/
structure RB (B : Nat) (w0 : World) (r : Nat) (t : Rp) (st : Int) (tv : Value) (bv : Value) (H : List (List UInt8 × Ed)) (w : World) : Prop where
  R : RopeAt w r t st
  u : U64 st
  rg : B ≤ r
  T : w.ownsRow B 9 1 tv H.length (H.map fun p => .string (str p.1))
  K : w.ownsRow B 37 3 bv H.length (H.flatMap fun p => p.2.cells)
  d1 : tv.ownBlock ≠ some r
  d2 : bv.ownBlock ≠ some r
  d3 : ∀ g, tv.ownBlock = some g → bv.ownBlock ≠ some g
  bel : Below B w0 w
  sz : B ≤ w.heap.size
section
variable {B : Nat} {w0 w w' : World} {r : Nat} {t t' : Rp} {st st' : Int} {tv bv : Value} {H : List (List UInt8 × Ed)}
theorem RB.stay0 (h : RB B w0 r t st tv bv H w) (hs : Stay [] w w') : RB B w0 r t st tv bv H w' :=
  ⟨h.R.stay0 hs, h.u, h.rg, hs.own h.T (by simp), hs.own h.K (by simp), h.d1, h.d2, h.d3, h.bel.trans (hs.toBelow h.sz (by simp)), Nat.le_trans h.sz hs.size⟩
theorem RB.do_ (h : RB B w0 r t st tv bv H w) (hr : RopeAt w' r t' st') (hu : U64 st') (hs : Stay [r] w w') : RB B w0 r t' st' tv bv H w' :=
  ⟨hr, hu, h.rg, hs.own h.T (fun g hg hm => by rw [List.mem_singleton] at hm; rw [hm] at hg; exact h.d1 hg), hs.own h.K (fun g hg hm => by rw [List.mem_singleton] at hm; rw [hm] at hg; exact h.d2 hg), h.d1, h.d2, h.d3,
    h.bel.trans (hs.toBelow h.sz (fun g hg => by rw [List.mem_singleton] at hg; rw [hg]; exact h.rg)), Nat.le_trans h.sz hs.size⟩
theorem own_noPair {w : World} {e : TypeId} {size n : Nat} {v : Value} {xs : List Value} {g : Nat} (h : w.ownsRow B e size v n xs) (he : e ≠ 111) (hg : v.ownBlock = some g) : NoPair w [g] := fun f hf cs hc => by
  rw [List.mem_singleton] at hf
  subst hf
  rcases h.2 with ⟨rfl, _⟩ | ⟨g', cap, cur, rfl, _, hh, _⟩
  · cases hg
  · injection hg with hg
    subst hg
    rw [hh] at hc
    injection hc with hc
    injection hc with _ h2
    exact he h2
theorem own_noPairs {w : World} {e : TypeId} {size n : Nat} {v : Value} {xs : List Value} (h : w.ownsRow B e size v n xs) (he : e ≠ 111) : NoPair w v.ownBlock.toList := fun f hf => by
  have hg : v.ownBlock = some f := by simpa using hf
  exact own_noPair h he hg f (by simp)
theorem not_own {v : Value} {r : Nat} (h : v.ownBlock ≠ some r) : r ∉ v.ownBlock.toList := fun hm => h (by simpa using hm)
/-- behind the first of the two appends -/
theorem RB.mid (h : RB B w0 r t st tv bv H w) (s1 : Stay tv.ownBlock.toList w w') : RopeAt w' r t st ∧ w'.ownsRow B 37 3 bv H.length (H.flatMap fun p => p.2.cells) :=
  ⟨h.R.stay s1 (own_noPairs h.T (by decide)) (not_own h.d1), s1.own h.K fun g hg hm => h.d3 g (by simpa using hm) hg⟩
theorem RB.push {w2 w3 : World} {tv' bv' : Value} {x : List UInt8} {b : Ed} (h : RB B w0 r t st tv bv H w) (s1 : Stay tv.ownBlock.toList w w2) (v1 : tv'.ownBlock = tv.ownBlock ∨ ∃ g, tv'.ownBlock = some g ∧ w.heap.size ≤ g)
    (T' : w2.ownsRow B 9 1 tv' (H.length + 1) ((H.map fun p => .string (str p.1)) ++ [.string (str x)])) (s2 : Stay bv.ownBlock.toList w2 w3) (v2 : bv'.ownBlock = bv.ownBlock ∨ ∃ g, bv'.ownBlock = some g ∧ w2.heap.size ≤ g)
    (K' : w3.ownsRow B 37 3 bv' (H.length + 1) ((H.flatMap fun p => p.2.cells) ++ b.cells)) : RB B w0 r t st tv' bv' (H ++ [(x, b)]) w3 := by
  obtain ⟨hR, hK⟩ := h.mid s1
  have hrl := h.R.lt
  have d1' : tv'.ownBlock ≠ some r := by
    rcases v1 with e | ⟨g, e, hg⟩
    · rw [e]; exact h.d1
    · rw [e]; intro e2; injection e2 with e2; omega
  have hs1 := s1.size
  have d2' : bv'.ownBlock ≠ some r := by
    rcases v2 with e | ⟨g, e, hg⟩
    · rw [e]; exact h.d2
    · rw [e]; intro e2; injection e2 with e2; omega
  have d3' : ∀ g, tv'.ownBlock = some g → bv.ownBlock ≠ some g := fun g hg hb => by
    have h1 := (h.K.lt g hb).2
    rcases v1 with e | ⟨g', e, hg'⟩
    · exact h.d3 g (e ▸ hg) hb
    · rw [e] at hg; injection hg with hg; omega
  have d4' : ∀ g, tv'.ownBlock = some g → bv'.ownBlock ≠ some g := fun g hg hb => by
    have h1 := (T'.lt g hg).2
    rcases v2 with e | ⟨g', e, hg'⟩
    · exact d3' g hg (e ▸ hb)
    · rw [e] at hb; injection hb with hb; omega
  have fT : ∀ g ∈ tv.ownBlock.toList, B ≤ g := fun g hg => (h.T.lt g (by simpa using hg)).1
  have fK : ∀ g ∈ bv.ownBlock.toList, B ≤ g := fun g hg => (h.K.lt g (by simpa using hg)).1
  exact ⟨hR.stay s2 (own_noPairs hK (by decide)) (not_own h.d2), h.u, h.rg, by simpa using s2.own T' (fun g hg hm => d3' g hg (by simpa using hm)), by simpa using K', d1', d2', d4',
    (h.bel.trans (s1.toBelow h.sz fT)).trans (s2.toBelow (Nat.le_trans h.sz hs1) fK), Nat.le_trans h.sz (Nat.le_trans hs1 s2.size)⟩
theorem blk_ne {b : Nat} {l : List Value} {e e' : TypeId} {size n : Nat} {v : Value} {xs : List Value} (hb : Blk w b l e) (h : w.ownsRow B e' size v n xs) (he : e ≠ e') : b ∉ v.ownBlock.toList := fun hm => by
  have hg : v.ownBlock = some b := by simpa using hm
  rcases h.2 with ⟨rfl, _⟩ | ⟨g', cap, cur, rfl, _, hh, _⟩
  · cases hg
  · injection hg with hg
    have hg' : g' = b := hg
    subst hg'
    unfold Blk at hb
    rw [hh] at hb
    injection hb with hb
    injection hb with _ h2
    exact he h2.symm
end
theorem own_addrN {B : Nat} {w : World} {e : TypeId} {size n : Nat} {A : Option Addr} {c : Nat} {xs : List Value} (h : w.ownsRow B e size (.slice A n c) n xs) (hn : 0 < n) : ∃ g, A = some ⟨g, 0, none⟩ ∧ ∀ j u, xs[j]? = some u → w.cell? ⟨g, j, none⟩ = some u := by
  have hc := fun g => h.cells (g := g)
  rcases h.2 with ⟨_, h0⟩ | ⟨g, cap, cur, hv, _⟩
  · omega
  · injection hv with hA
    subst hA
    refine ⟨g, rfl, fun j u hj => ?_⟩
    have := hc g rfl j u hj
    rw [add_lit', Nat.zero_add] at this
    exact this
theorem info9 : (Try.prog.info? 9).map (fun i => (i.zero, i.size, i.bytes)) = some (some (.string ⟨#[]⟩), 1, 16) := by kernel_rfl
theorem info37 : (Try.prog.info? 37).map (fun i => (i.zero, i.size, i.bytes)) = some (some (.agg #[.int .i64 0, .int .i64 0, .string ⟨#[]⟩]), 3, 32) := by kernel_rfl
end Go.Proofs.Ytjoeebjmjnddoaa
