/- package rope: walk, the iterator's helper. -/
import Derived.Test.YtjoeebjmjnddoaaRpcs
import Derived.RangeFuncKeeps
import Derived.RangeFuncBound
import Derived.RangeFuncLeaves
import Derived.RangeFuncNested
import Derived.RangeFuncCalls
import Derived.Shelf.Abstract
import Derived.Shelf.RegionOpen
import Derived.OwnWalkIn
import Derived.TacticsInMore
import Derived.LoopNIn
import Derived.LoopIn
namespace Go.Proofs.Ytjoeebjmjnddoaa
open Go.RowKit Go.Shelf
attribute [local go_sem] Oper.semAt_some
theorem room_of_none {F : Fence} (hd : F.depth = none) (k : Nat) : F.room k := fun d h => by rw [hd] at h; cases h
theorem roundAny {F : Fence} (hd : F.depth = none) {m m' : Nat} {P : Program} {l : Nat} {f : FuncId} {tmps : Array Value} {assign body : Code} {w : World} {R : Ending → World → Prop}
    (h : RoundIn F m P l f tmps assign body w R) : RoundIn F m' P l f tmps assign body w R := ⟨h.1, fun c cs _ => h.2 c cs (room_of_none hd _)⟩
theorem yieldAny {F : Fence} (hd : F.depth = none) {m : Nat} (m' : Nat) {P : Program} {l : Nat} {args : Array Value} {W : World} {R : Ending → World → Prop} (h : YieldAt F m P l args W R) : YieldAt F m' P l args W R := by
  obtain ⟨fn, tmps, assign, body, hy, hR⟩ := h
  exact ⟨fn, tmps, assign, body, hy, roundAny hd hR⟩
theorem Stay.toGrown {a b : World} (h : Stay [] a b) : a.grownBy b none := ⟨h.os, h.tape, h.output, h.size, fun i hi _ => h.block i hi (by simp)⟩
theorem abides_stay {β : Type} {B : Nat} {J : β → World → Prop} (h : AbidesFrom B J) {s : β} {W W' : World} (hs : J s W) (hk : Stay [] W W') : J s W' := h s W W' none hs hk.toGrown (fun r e => by cases e)
section
variable {l n₀ N : Nat} {J Jx : List (Nat × List UInt8) → World → Prop}
/-- what a round owes -/
def RoundsOk (l n₀ N : Nat) (J Jx : List (Nat × List UInt8) → World → Prop) : Prop := ∀ m pre x W, J pre W → pre.length < N → YieldAt Fence.wide m Try.prog l (encP x) W fun e W' =>
      (e = .returned (.bool true) ∧ J (pre ++ [x]) W' ∧ Below n₀ W W') ∨ (e = .returned (.bool false) ∧ Jx (pre ++ [x]) W')
def WalkPost (J Jx : List (Nat × List UInt8) → World → Prop) (n₀ : Nat) (W : World) (pre ps : List (Nat × List UInt8)) (e : Ending) (W' : World) : Prop :=
  (e = .returned (.bool true) ∧ J (pre ++ ps) W' ∧ Below n₀ W W') ∨ (e = .returned (.bool false) ∧ ∃ q, q <+: ps ∧ Jx (pre ++ q) W')
set_option maxRecDepth 100000 in
set_option maxHeartbeats 2000000 in
theorem walk_none (v : Value) (t : Rp) (W : World) (n at_ fr to_ : Nat) (hle : to_ ≤ fr) (pre : List (Nat × List UInt8)) (hJ : J pre W) :
    CallsIn Fence.wide n Try.prog 42 #[v, .int .i64 at_, .int .i64 fr, .int .i64 to_, .func (.yield l) #[] #[]] W (WalkPost J Jx n₀ W pre (pcs t at_ fr to_)) := by
  have he : pcs t at_ fr to_ = [] := by cases t <;> simp [pcs] <;> omega
  have HM := Lib.hid (show WalkPost J Jx n₀ W pre (pcs t at_ fr to_) (.returned (.bool true)) W from .inl ⟨rfl, by rw [he, List.append_nil]; exact hJ, Below.refl _ _⟩)
  have hle' : (to_ : Int) ≤ fr := by omega
  clear he hJ hle
  refine callsIn_of_wp Try.func42 rfl trivial ?_ rfl
  simp only [Try.ntmps42, List.size_toArray, List.length_cons, List.length_nil, Nat.reduceAdd, Nat.reduceSub, Array.replicate_succ, Array.replicate_zero, List.push_toArray, List.append_toArray, List.nil_append, List.cons_append]
  gi_wp2
  go_ret
  exact HM.out
set_option maxRecDepth 100000 in
set_option maxHeartbeats 2000000 in
theorem walk_leaf (hY : RoundsOk l n₀ N J Jx) (s : List UInt8) (W : World) {B₀ : Nat} (hab : AbidesFrom B₀ J) (hn : n₀ ≤ W.heap.size) (n at_ fr to_ : Nat) (hlt : fr < to_) (hto : to_ ≤ s.length) (hs2 : s.length ≤ 2097152) (hat : at_ + s.length ≤ 2097152) (pre : List (Nat × List UInt8)) (hJ : J pre W) (hN : pre.length < N) :
    CallsIn Fence.wide n Try.prog 42 #[leafV s, .int .i64 at_, .int .i64 fr, .int .i64 to_, .func (.yield l) #[] #[]] W (WalkPost J Jx n₀ W pre (pcs (.leaf s) at_ fr to_)) := by
  have he : pcs (.leaf s) at_ fr to_ = [(at_ + fr, cutL s fr to_)] := by simp [pcs, hlt]
  have hJ1 : J pre (W.alloc (.cells #[.string (str s), .int .i64 (nl s)] 108)) := abides_stay hab hJ (Stay.alloc _ _)
  obtain ⟨fn, tmps, assign, body, hy, hR⟩ := hY (n - 1) pre (at_ + fr, cutL s fr to_) _ hJ1 hN
  have hsz := str_size s
  have hl : (cutL s fr to_).length = to_ - fr := cutL_length _ _ _ hto
  have e1 : encP (at_ + fr, cutL s fr to_) = #[.int .i64 ((at_ : Int) + fr), .string ((str s).extract fr to_)] := by
    unfold encP
    rw [clipA_of _ (show at_ + fr ≤ _ by omega), clipS_of _ (show (cutL s fr to_).length ≤ _ by omega), str_ext]
    rfl
  rw [e1] at hy
  have HB := Lib.hid (show Below n₀ W (W.alloc (.cells #[.string (str s), .int .i64 (nl s)] 108)) from (Stay.alloc (F := []) _ _).toBelow hn (by simp))
  have ha1 := asrt3
  rw [he]
  unfold leafV
  obtain ⟨b, hb⟩ : ∃ b, b = str s := ⟨_, rfl⟩
  rw [← hb] at hy hR HB hsz ⊢
  obtain ⟨q, hq⟩ : ∃ q, q = nl s := ⟨_, rfl⟩
  rw [← hq] at hy hR HB ⊢
  have hlt' : ¬ (to_ : Int) ≤ fr := by omega
  have hf0 : (0 : Int) ≤ fr := by omega
  have hft : (fr : Int) ≤ to_ := by omega
  have htb : (to_ : Int) ≤ b.size := by omega
  have hsum : (at_ : Int) + fr ≤ 2097152 := by omega
  clear e1 hJ1 hl hb hq he hJ hY hab hN hsz
  refine callsIn_of_wp Try.func42 rfl trivial ?_ rfl
  simp only [Try.ntmps42, List.size_toArray, List.length_cons, List.length_nil, Nat.reduceAdd, Nat.reduceSub, Array.replicate_succ, Array.replicate_zero, List.push_toArray, List.append_toArray, List.nil_append, List.cons_append]
  gi_wp2
  refine ⟨fun h => (by simp [Fence.wide] at h), ?_⟩
  refine hR.mono ?_
  rintro e W2 (⟨rfl, hJ2, hb2⟩ | ⟨rfl, hx2⟩)
  · gi_wp2
    go_ret
    exact .inl ⟨rfl, hJ2, HB.out.trans hb2⟩
  · gi_wp2
    go_ret
    exact .inr ⟨rfl, _, List.prefix_refl _, hx2⟩
def WalkOk (w0 : World) (l n₀ N : Nat) (J Jx : List (Nat × List UInt8) → World → Prop) (t : Rp) : Prop :=
  ∀ (v : Value) (W : World) (n at_ fr to_ : Nat) (pre : List (Nat × List UInt8)), Node w0 v t → Below n₀ w0 W → to_ ≤ t.len → at_ + t.len ≤ 2097152 → J pre W → pre.length + (pcs t at_ fr to_).length ≤ N →
    CallsIn Fence.wide n Try.prog 42 #[v, .int .i64 at_, .int .i64 fr, .int .i64 to_, .func (.yield l) #[] #[]] W (WalkPost J Jx n₀ W pre (pcs t at_ fr to_))
set_option maxRecDepth 100000 in
set_option maxHeartbeats 4000000 in
theorem walk_pair (w0 : World) (hn0 : n₀ = w0.heap.size) {B₀ : Nat} (hab : AbidesFrom B₀ J) (v : Value) (a b : Rp) (W : World) (n at_ fr to_ : Nat) (pre : List (Nat × List UInt8)) (hnode : Node w0 v (.pair a b)) (hW : Below n₀ w0 W) (hlt : fr < to_) (hto : to_ ≤ (Rp.pair a b).len) (hat : at_ + (Rp.pair a b).len ≤ 2097152) (hJ : J pre W) (hN : pre.length + (pcs (.pair a b) at_ fr to_).length ≤ N)
    (iha : WalkOk w0 l n₀ N J Jx a) (ihb : WalkOk w0 l n₀ N J Jx b) :
    CallsIn Fence.wide n Try.prog 42 #[v, .int .i64 at_, .int .i64 fr, .int .i64 to_, .func (.yield l) #[] #[]] W (WalkPost J Jx n₀ W pre (pcs (.pair a b) at_ fr to_)) := by
  have he : pcs (.pair a b) at_ fr to_ = pcs a at_ (min fr a.len) (min to_ a.len) ++ pcs b (at_ + a.len) (fr - a.len) (to_ - a.len) := by simp [pcs, hlt]
  rw [he] at hN ⊢
  clear he
  rw [List.length_append] at hN
  rw [Rp.len_pair] at hto hat
  obtain ⟨g, va, vb, rfl, hg, ha, hb, na, nb⟩ := hnode
  have hgl : g < n₀ := by rw [hn0]; exact (Array.getElem?_eq_some_iff.1 hg).1
  obtain ⟨T, p, fb, ff, D⟩ := node_dyn ha
  have hmb := D.mb
  have hcb := D.cb
  have hv := D.val
  subst hv
  have HKc := Lib.hid (show ∀ u, Below n₀ w0 u → u.cell? ⟨g, 0, none⟩ = some (.iface T p) ∧ u.cell? ⟨g, 1, none⟩ = some vb from fun u hs => ⟨(hs.cell (p := ⟨g, 0, none⟩) hgl).trans (by rw [cell_of_row w0 g 0 _ 111 (0, 0) hg]; rfl), (hs.cell (p := ⟨g, 1, none⟩) hgl).trans (by rw [cell_of_row w0 g 1 _ 111 (0, 0) hg]; rfl)⟩)
  have HB := Lib.hid (fun u (hs : Below n₀ w0 u) => D.bytes u (ha.below (by rw [← hn0]; exact hs)))
  have has1 := asrt4
  have has2 := asrt2
  obtain ⟨k, hk⟩ : ∃ k, k = a.len := ⟨_, rfl⟩
  rw [← hk] at HB hN hto hat ⊢
  obtain ⟨ps1, hps1⟩ : ∃ ps, ps = pcs a at_ (min fr k) (min to_ k) := ⟨_, rfl⟩
  obtain ⟨ps2, hps2⟩ : ∃ ps, ps = pcs b (at_ + k) (fr - k) (to_ - k) := ⟨_, rfl⟩
  have HA := Lib.hid (fun n W (hb : Below n₀ w0 W) (hJ : J pre W) => iha _ W n at_ (min fr k) (min to_ k) pre ha hb (by rw [← hk]; omega) (by rw [← hk]; omega) hJ (by omega))
  have HBb := Lib.hid (fun n W (hb' : Below n₀ w0 W) (hJ : J (pre ++ ps1) W) => ihb _ W n (at_ + k) (fr - k) (to_ - k) (pre ++ ps1) hb hb' (by omega) (by omega) hJ (by rw [List.length_append, hps1]; omega))
  rw [← hps1] at HA hN ⊢
  rw [← hps2] at HBb hN ⊢
  have HAb := Lib.hid (fun u (hs : Stay [] W u) => And.intro (abides_stay hab hJ hs) (hW.trans (hs.toBelow (by rw [hn0]; exact hn0 ▸ hW.size) (by simp))))
  have hm1 : ∀ (ts : Array TypeId) (t : TypeId) (w : World), (Builtin.min_ ts t #[.int .i64 fr, .int .i64 k]).run Try.prog w = .ok (.int .i64 ((min fr k : Nat) : Int)) w := fun ts t w => by
    rw [min_ints]; congr 2; omega
  have hm2 : ∀ (ts : Array TypeId) (t : TypeId) (w : World), (Builtin.min_ ts t #[.int .i64 to_, .int .i64 k]).run Try.prog w = .ok (.int .i64 ((min to_ k : Nat) : Int)) w := fun ts t w => by
    rw [min_ints]; congr 2; omega
  have hm3 : ∀ (ts : Array TypeId) (t : TypeId) (w : World), (Builtin.max_ ts t #[.int .i64 ((fr : Int) - k), .int .i64 0]).run Try.prog w = .ok (.int .i64 ((fr - k : Nat) : Int)) w := fun ts t w => by
    rw [max_ints]; congr 2; omega
  have hm4 : ∀ (ts : Array TypeId) (t : TypeId) (w : World), (Builtin.max_ ts t #[.int .i64 ((to_ : Int) - k), .int .i64 0]).run Try.prog w = .ok (.int .i64 ((to_ - k : Nat) : Int)) w := fun ts t w => by
    rw [max_ints]; congr 2; omega
  have c0 := (HKc.out W hW).1
  obtain ⟨m1, hm1e⟩ : ∃ m, m = min fr k := ⟨_, rfl⟩
  obtain ⟨m2, hm2e⟩ : ∃ m, m = min to_ k := ⟨_, rfl⟩
  obtain ⟨m3, hm3e⟩ : ∃ m, m = fr - k := ⟨_, rfl⟩
  obtain ⟨m4, hm4e⟩ : ∃ m, m = to_ - k := ⟨_, rfl⟩
  rw [← hm1e] at hm1 HA
  rw [← hm2e] at hm2 HA
  rw [← hm3e] at hm3 HBb
  rw [← hm4e] at hm4 HBb
  have HWb := Lib.hid hW
  have HAn := Lib.hid hn0.symm
  have hlt' : ¬ (to_ : Int) ≤ fr := by omega
  have hb1 : (to_ : Int) ≤ 2097152 := by omega
  have hb2 : (k : Int) ≤ 2097152 := by omega
  have hb3 : (at_ : Int) + k ≤ 2097152 := by omega
  have hb4 : (fr : Int) ≤ 2097152 := by omega
  clear D ha hb na nb hg hk hps1 hps2 iha ihb hab hJ hW hto hat hN hm1e hm2e hm3e hm4e hlt hn0
  refine callsIn_of_wp Try.func42 rfl trivial ?_ rfl
  simp only [Try.ntmps42, List.size_toArray, List.length_cons, List.length_nil, Nat.reduceAdd, Nat.reduceSub, Array.replicate_succ, Array.replicate_zero, List.push_toArray, List.append_toArray, List.nil_append, List.cons_append]
  gi_wp2
  refine ⟨trivial, fun h => (by simp [Fence.wide] at h), ?_⟩
  refine (callsIn_wide.2 (HB.out W HWb.out)).mono ?_
  rintro e W1 ⟨rfl, hs⟩
  obtain ⟨hJ1, hW1⟩ := HAb.out W1 hs
  have HW1 := Lib.hid hW1
  have HBa := Lib.hid (show Below n₀ W W1 from hs.toBelow (by have := HWb.out.size; have := HW1.out.size; exact HAn.out ▸ HWb.out.size) (by simp))
  have HA1 := Lib.hid (fun n => HA.out n W1 hW1 hJ1)
  have c0 := (HKc.out W1 hW1).1
  clear hs hJ1 hW1 HB HA HAb
  gi_wp2
  refine ⟨trivial, fun h => (by simp [Fence.wide] at h), ?_⟩
  refine (HA1.out _).mono ?_
  rintro e W2 (⟨rfl, hJ2, hb2⟩ | ⟨rfl, q, hq, hx⟩)
  · have HW2 := Lib.hid (HW1.out.trans hb2)
    have HB2 := Lib.hid (HBa.out.trans hb2)
    have c1 := (HKc.out W2 HW2.out).2
    have HBc := Lib.hid (fun n => HBb.out n W2 HW2.out hJ2)
    clear hJ2 hb2 c0 HA1 HBb
    gi_wp2
    refine ⟨trivial, fun h => (by simp [Fence.wide] at h), ?_⟩
    refine (HBc.out _).mono ?_
    rintro e W3 (⟨rfl, hJ3, hb3⟩ | ⟨rfl, q, hq, hx⟩)
    · gi_wp2
      go_ret
      exact .inl ⟨rfl, by rw [← List.append_assoc]; exact hJ3, HB2.out.trans hb3⟩
    · gi_wp2
      go_ret
      obtain ⟨r, hr⟩ := hq
      exact .inr ⟨rfl, ps1 ++ q, ⟨r, by rw [List.append_assoc, hr]⟩, by rw [← List.append_assoc]; exact hx⟩
  · gi_wp2
    refine ⟨trivial, ?_⟩
    gi_wp2
    go_ret
    obtain ⟨r, hr⟩ := hq
    exact .inr ⟨rfl, q, ⟨r ++ ps2, by rw [← List.append_assoc, hr]⟩, hx⟩
theorem walk_any (w0 : World) (hn0 : n₀ = w0.heap.size) {B₀ : Nat} (hab : AbidesFrom B₀ J) (hY : RoundsOk l n₀ N J Jx) : ∀ (t : Rp), t.len ≤ 2097152 → WalkOk w0 l n₀ N J Jx t
  | .leaf s, hs => fun v W n at_ fr to_ pre hnode hW hto hat hJ hN => by
    cases hnode
    by_cases hlt : fr < to_
    · exact walk_leaf hY s W hab (by rw [hn0]; exact hn0 ▸ hW.size) n at_ fr to_ hlt hto hs hat pre hJ (by
        have e : pcs (.leaf s) at_ fr to_ = [(at_ + fr, cutL s fr to_)] := by simp [pcs, hlt]
        rw [e] at hN
        simp at hN
        omega)
    · exact walk_none _ _ W n at_ fr to_ (by omega) pre hJ
  | .pair a b, hs => fun v W n at_ fr to_ pre hnode hW hto hat hJ hN => by
    by_cases hlt : fr < to_
    · rw [Rp.len_pair] at hs
      exact walk_pair w0 hn0 hab v a b W n at_ fr to_ pre hnode hW hlt hto hat hJ hN (walk_any w0 hn0 hab hY a (by omega)) (walk_any w0 hn0 hab hY b (by omega))
    · exact walk_none _ _ W n at_ fr to_ (by omega) pre hJ
end
end Go.Proofs.Ytjoeebjmjnddoaa
