/- package rope: Pieces, and the iterator's contract. -/
import Derived.Test.YtjoeebjmjnddoaaRrope
namespace Go.Proofs.Ytjoeebjmjnddoaa
open Go.RowKit Go.Shelf
attribute [local go_sem] Oper.semAt_some
/-- what Pieces hands back: the three boxes of the function value -/
structure Iter (w w' : World) (b1 b2 b3 : Nat) (v : Value) (fr to_ : Nat) : Prop where
  root : w'.cell? ⟨b1, 0, none⟩ = some v
  fr : w'.cell? ⟨b2, 0, none⟩ = some (.int .i64 fr)
  to_ : w'.cell? ⟨b3, 0, none⟩ = some (.int .i64 to_)
  bel : Below w.heap.size w w'
  lo : w.heap.size ≤ b1 ∧ w.heap.size ≤ b2 ∧ w.heap.size ≤ b3
def Pieced (w : World) (v : Value) (fr to_ : Nat) (e : Ending) (w' : World) : Prop := ∃ b1 b2 b3, e = .returned (.func (.func 41) #[] #[.pointer (some ⟨b1, 0, none⟩), .pointer (some ⟨b2, 0, none⟩), .pointer (some ⟨b3, 0, none⟩)]) ∧ Iter w w' b1 b2 b3 v fr to_
theorem box_1 (w : World) (x : Value) (t : TypeId) : (w.alloc (.cells #[x] t)).cell? ⟨w.heap.size, 0, none⟩ = some x := by
  rw [cell_of_row (w.alloc (.cells #[x] t)) w.heap.size 0 _ t (0, 0) (heap_alloc_new w _)]
  rfl
set_option maxRecDepth 20000 in
set_option maxHeartbeats 4000000 in
theorem pieces_any (rb : Nat) (v : Value) (t : Rp) (st at_ n : Int) (w : World) (h : RopeV w rb v t st) (ha : -9223372036854775808 ≤ at_ ∧ at_ ≤ 9223372036854775807) (hn : -9223372036854775808 ≤ n ∧ n ≤ 9223372036854775807) :
    Calls Try.prog 15 #[.pointer (some ⟨rb, 0, none⟩), .int .i64 at_, .int .i64 n] w (Pieced w v (frL at_ t.len) (toL at_ n t.len)) := by
  have HSt := Lib.hid (fun u (hs : Stay [] w u) => stretch_any rb t st at_ n u (RopeAt.stay0 ⟨v, h⟩ hs) ha hn)
  obtain ⟨hr, hn', hl⟩ := h
  have c0 : w.cell? ⟨rb, 0, none⟩ = some v := by rw [cell_of_row w rb 0 _ 77 (0, 0) hr]; rfl
  obtain ⟨T, p, fb, ff, D⟩ := node_dyn hn'
  have hv := D.val
  subst hv
  clear D
  obtain ⟨f, hf⟩ : ∃ f, f = frL at_ t.len := ⟨_, rfl⟩
  obtain ⟨r, hr'⟩ : ∃ r, r = toL at_ n t.len := ⟨_, rfl⟩
  rw [← hf, ← hr'] at HSt ⊢
  have HA1 := Lib.hid (Stay.alloc (F := []) w (.cells #[.iface T p] 74))
  have HX1 := Lib.hid (box_1 w (.iface T p) 74)
  clear hn' hr hl hf hr' ha hn
  go_enter Try.func15, Try.ntmps15
  go_wp2_with fail
  refine (HSt.out _ HA1.out).mono ?_
  rintro e w1 ⟨rfl, hs⟩
  have HS1 := Lib.hid hs
  clear hs
  have HF := Lib.hid (show ∀ (p q : Value), ∃ u, u = (w1.alloc (.cells #[p] 3)).alloc (.cells #[q] 3) ∧ Stay [] w1 u ∧ u.cell? ⟨w1.heap.size, 0, none⟩ = some p ∧ u.cell? ⟨w1.heap.size + 1, 0, none⟩ = some q from fun p q => by
    refine ⟨_, rfl, (Stay.alloc _ _).alloc', ?_, ?_⟩
    · exact ((Stay.alloc (F := []) (w1.alloc (.cells #[p] 3)) (.cells #[q] 3)).cell_ (a := ⟨w1.heap.size, 0, none⟩) (by simp) (by simp)).trans (box_1 w1 p 3)
    · have := box_1 (w1.alloc (.cells #[p] 3)) q 3
      rw [size_alloc'] at this
      exact this)
  have HZ := Lib.hid (show w.heap.size < w1.heap.size from by have := HS1.out.size; rw [size_alloc'] at this; omega)
  have HV := Lib.hid (show w1.cell? ⟨w.heap.size, 0, none⟩ = some (.iface T p) from (HS1.out.cell_ (a := ⟨w.heap.size, 0, none⟩) (by simp) (by simp)).trans HX1.out)
  go_wp2_with fail
  go_ret
  obtain ⟨u, hu, h1, h2, h3⟩ := HF.out (.int .i64 f) (.int .i64 r)
  refine ⟨w.heap.size, w1.heap.size, w1.heap.size + 1, by simp, ?_⟩
  have hb : Stay [] w u := HA1.out.trans (HS1.out.trans h1)
  have hz := HZ.out
  rw [← hu]
  exact ⟨(h1.cell_ (a := ⟨w.heap.size, 0, none⟩) hz (by simp)).trans HV.out, h2, h3, hb.toBelow (Nat.le_refl _) (by simp), by omega⟩
set_option maxRecDepth 100000 in
set_option maxHeartbeats 2000000 in
theorem pieces_in (w0 : World) (l : Nat) (J Jx : List (Nat × List UInt8) → World → Prop) (W : World) (b1 b2 b3 : Nat) (v : Value) (t : Rp) (fr to_ : Nat) (n : Nat)
    (hw : ∀ (m : Nat) (pre : List (Nat × List UInt8)), J pre W → pre.length + (pcs t 0 fr to_).length ≤ (pcs t 0 fr to_).length → CallsIn Fence.wide m Try.prog 42 #[v, .int .i64 0, .int .i64 fr, .int .i64 to_, .func (.yield l) #[] #[]] W (WalkPost J Jx w0.heap.size W pre (pcs t 0 fr to_)))
    (c1 : W.cell? ⟨b1, 0, none⟩ = some v) (c2 : W.cell? ⟨b2, 0, none⟩ = some (.int .i64 fr)) (c3 : W.cell? ⟨b3, 0, none⟩ = some (.int .i64 to_)) (h0 : J [] W) :
    CallsIn Fence.wide n Try.prog 41 #[.func (.yield l) #[] #[], .pointer (some ⟨b1, 0, none⟩), .pointer (some ⟨b2, 0, none⟩), .pointer (some ⟨b3, 0, none⟩)] W fun e W' => (∃ v, e = .returned v) ∧
      ((∃ ys, ys = pcs t 0 fr to_ ∧ J ys W') ∨ (∃ pre, pre <+: pcs t 0 fr to_ ∧ Jx pre W')) := by
  obtain ⟨ps, hps⟩ : ∃ ps, ps = pcs t 0 fr to_ := ⟨_, rfl⟩
  rw [← hps] at hw ⊢
  have HW := Lib.hid (fun m => hw m [] h0 (by simp))
  clear hw hps h0
  refine callsIn_of_wp Try.func41 rfl trivial ?_ rfl
  simp only [Try.ntmps41, List.size_toArray, List.length_cons, List.length_nil, Nat.reduceAdd, Nat.reduceSub, Array.replicate_succ, Array.replicate_zero, List.push_toArray, List.append_toArray, List.nil_append, List.cons_append]
  gi_wp2
  refine ⟨trivial, fun h => (by simp [Fence.wide] at h), ?_⟩
  refine (HW.out _).mono ?_
  rintro e W1 (⟨rfl, hJ1, _⟩ | ⟨rfl, q, hq, hx⟩)
  · gi_wp2
    go_end0
    exact ⟨⟨_, rfl⟩, .inl ⟨_, rfl, by simpa using hJ1⟩⟩
  · gi_wp2
    go_end0
    exact ⟨⟨_, rfl⟩, .inr ⟨q, hq, by simpa using hx⟩⟩
/-- the iterator's contract -/
theorem pieces_stops (w0 w1 w : World) (b1 b2 b3 : Nat) (v : Value) (t : Rp) (fr to_ : Nat) (n : Nat) (hv : Node w0 v t) (hb : Below w0.heap.size w0 w) (h : Iter w1 w b1 b2 b3 v fr to_) (hl : t.len ≤ 2097152) (hto : to_ ≤ t.len) :
    SeqStopsK Fence.wide n Try.prog 41 #[.pointer (some ⟨b1, 0, none⟩), .pointer (some ⟨b2, 0, none⟩), .pointer (some ⟨b3, 0, none⟩)] encP (Below w0.heap.size) (fun ys => ys = pcs t 0 fr to_) (fun pre => pre <+: pcs t 0 fr to_) (pcs t 0 fr to_).length w := fun l J Jx W hW hab _ hY h0 => by
  obtain ⟨c1, c2, c3, _, _⟩ := h
  have hk : ∀ (b : Nat) (u : Value), w.cell? ⟨b, 0, none⟩ = some u → W.cell? ⟨b, 0, none⟩ = some u := fun b u hu => (hW.cell (p := ⟨b, 0, none⟩) (World.block_lt_of_cell? _ _ hu)).trans hu
  have hb2 : Below w0.heap.size w0 W := hb.trans (hW.mono hb.size)
  refine pieces_in w0 l J Jx W b1 b2 b3 v t fr to_ n (fun m pre hJ hN => ?_) (hk _ _ c1) (hk _ _ c2) (hk _ _ c3) h0
  have h := walk_any (n₀ := w0.heap.size) (l := l) (N := (pcs t 0 fr to_).length) (J := J) (Jx := Jx) w0 rfl hab (fun m' pre x W1 hJ hl => yieldAny rfl m' (hY pre x W1 hJ hl)) t hl v W m 0 fr to_ pre hv hb2 hto (by omega) hJ hN
  rw [Int.natCast_zero] at h
  exact h
end Go.Proofs.Ytjoeebjmjnddoaa
