/- package rope: Slice. -/
import Derived.Test.YtjoeebjmjnddoaaRbuilder
import Derived.RangeFuncFrom
namespace Go.Proofs.Ytjoeebjmjnddoaa
open Go.RowKit Go.Shelf
attribute [local go_sem] Oper.semAt_some
theorem builder_own {B Bl b : Nat} {f : List (Nat × List UInt8) → List Value} : OwnFrom Bl (fun (pre : List (Nat × List UInt8)) W => Lib.IsBuilderF 91 5 B b (f pre) W) := by
  intro pre A A' row hs hg hr
  have key : ∀ p, Lib.BuilderAtF 91 5 B b p (f pre) A → Lib.BuilderAtF 91 5 B b p (f pre) A' := by
    rintro p ⟨hB, v, hb, hown, hne⟩
    have keep : ∀ (k : Nat) (cur : Array Value) (e : TypeId) (fz : Nat × Nat), A.heap[k]? = some (.cells cur e fz) → A'.heap[k]? = some (.cells cur e fz) := fun k cur e fz hk => by
      rw [hg.block k (Array.getElem?_eq_some_iff.1 hk).1 (fun e => by
        obtain ⟨_, o, ho, hc⟩ := hr k e.symm
        rw [hk] at ho
        injection ho with ho
        subst ho
        cases hc)]
      exact hk
    refine ⟨hB, v, keep _ _ _ _ hb, ⟨hown.1, ?_⟩, hne⟩
    rcases hown.2 with h0 | ⟨g, cap, cur, fz, h1, h2, h3, h4⟩
    · exact .inl h0
    · exact .inr ⟨g, cap, cur, fz, h1, h2, keep _ _ _ _ h3, h4⟩
  rcases hs with hs | hs
  · exact .inl (key _ hs)
  · exact .inr (key _ hs)
def joinC (l : List (Nat × List UInt8)) : List UInt8 := (l.map fun x => clipS x.2).flatten
theorem joinC_snoc (l : List (Nat × List UInt8)) (x : Nat × List UInt8) : joinC (l ++ [x]) = joinC l ++ clipS x.2 := by simp [joinC]
theorem joinC_le : ∀ (l : List (Nat × List UInt8)), (joinC l).length ≤ l.length * 2097152
  | [] => Nat.zero_le _
  | x :: l => by
    have h1 := joinC_le l
    have h2 := clipS_le x.2
    have e : (joinC (x :: l)).length = (clipS x.2).length + (joinC l).length := by simp [joinC]
    rw [e, List.length_cons, Nat.succ_mul]
    omega
theorem joinC_eq : ∀ (l : List (Nat × List UInt8)), (∀ q ∈ l, q.2.length ≤ 2097152) → joinC l = joinP l
  | [], _ => rfl
  | x :: l, h => by
    have e1 : joinC (x :: l) = clipS x.2 ++ joinC l := by simp [joinC]
    have e2 : joinP (x :: l) = x.2 ++ joinP l := by simp [joinP]
    rw [e1, e2, clipS_of _ (h x (by simp)), joinC_eq l (fun q hq => h q (by simp [hq]))]
/-- the pieces of a stretch, together -/
theorem pcs_joinC (t : Rp) (fr to_ : Nat) (h : to_ ≤ t.len) (hl : t.len ≤ 2097152) : joinC (pcs t 0 fr to_) = cutL t.text fr to_ ∧ (pcs t 0 fr to_).length ≤ t.len := by
  obtain ⟨h1, h2⟩ := pcs_spec t 0 fr to_ h
  have h3 : (cutL t.text fr to_).length = to_ - fr := cutL_length _ _ _ h
  refine ⟨?_, ?_⟩
  · rw [joinC_eq, h1]
    intro q hq
    have := run_mem _ _ h2 q hq
    rw [h1, h3] at this
    omega
  · have := run_len _ _ h2
    rw [h1, h3] at this
    omega
theorem others_keeps {b : Nat} {w w' : World} (h : Lib.OthersKept 5 (some b) w w') (hb : ∃ cs t f, w.heap[b]? = some (.cells cs t f)) (hs : w.heap.size ≤ w'.heap.size) : KeepsOthers w w' := by
  refine ⟨hs, fun k o hk hc => h k o hk (fun e => ?_) (fun c fz e => ?_)⟩
  · injection e with e
    subst e
    obtain ⟨cs, t, f, hb⟩ := hb
    rw [hb] at hk
    injection hk with hk
    subst hk
    cases hc
  · subst e
    cases hc
set_option maxRecDepth 100000 in
set_option maxHeartbeats 4000000 in
theorem slicer_any (rb : Nat) (t : Rp) (st at_ n : Int) (w : World) (h : RopeAt w rb t st) (ha : -9223372036854775808 ≤ at_ ∧ at_ ≤ 9223372036854775807) (hn : -9223372036854775808 ≤ n ∧ n ≤ 9223372036854775807) :
    Calls Try.prog 25 #[.pointer (some ⟨rb, 0, none⟩), .int .i64 at_, .int .i64 n] w fun e w' => e = .returned (.string (str (cutL t.text (frL at_ t.len) (toL at_ n t.len)))) ∧ Below w.heap.size w w' := by
  obtain ⟨v, hv⟩ := h
  have HP := Lib.hid (fun u (hs : Stay [] w u) => pieces_any rb v t st at_ n u ⟨(hs.block rb (Array.getElem?_eq_some_iff.1 hv.1).1 (by simp)).trans hv.1, hv.2.1.stay hs (NoPair.nil w), hv.2.2⟩ ha hn)
  refine (callsIn_wide (n := 3)).1 ?_
  refine callsIn_of_wp_marks Try.func25 rfl trivial ?_ rfl
  simp only [Try.ntmps25, List.size_toArray, List.length_cons, List.length_nil, Nat.reduceAdd, Nat.reduceSub, Array.replicate_succ, Array.replicate_zero, List.push_toArray, List.append_toArray, List.nil_append, List.cons_append]
  gi_wp2
  refine ⟨trivial, (callsIn_wide.2 (HP.out _ (Stay.alloc _ _))).mono ?_⟩
  rintro e W1 ⟨b1, b2, b3, rfl, hI⟩
  gi_wp2
  obtain ⟨hv1, hnode, hl⟩ := hv
  obtain ⟨_, hto⟩ := toL_bd at_ n t.len
  obtain ⟨hj1, hj2⟩ := pcs_joinC t (frL at_ t.len) (toL at_ n t.len) hto (by omega)
  obtain ⟨fr, hfr⟩ : ∃ fr, fr = frL at_ t.len := ⟨_, rfl⟩
  obtain ⟨to_, hto'⟩ : ∃ to_, to_ = toL at_ n t.len := ⟨_, rfl⟩
  rw [← hfr, ← hto'] at hI hj1 hj2
  rw [← hto'] at hto
  have HJ := Lib.hid hj1
  have hA : Below w.heap.size w (w.alloc (.cells #[.pointer none, .slice none 0 0] 91)) := (Below.refl _ _).alloc (Nat.le_refl _) _
  have hBW : Below w.heap.size w W1 := hA.trans (hI.bel.mono (by simp))
  have hbk : W1.heap[w.heap.size]? = some (.cells #[.pointer none, .slice none 0 0] 91) := (hI.bel.block w.heap.size (by simp)).trans (heap_alloc_new w _)
  have hst := pieces_stops w _ W1 b1 b2 b3 v t fr to_ 2 hnode hBW hI (by omega) hto
  obtain ⟨ps, hps⟩ : ∃ ps, ps = pcs t 0 fr to_ := ⟨_, rfl⟩
  rw [← hps] at hst HJ hj2
  have HF := Lib.hid (And.intro hfr hto')
  clear hj1 hps hfr hto' HP hnode hto
  have HBW := Lib.hid hBW
  have Hlt := Lib.hid (show w.heap.size < W1.heap.size from (Array.getElem?_eq_some_iff.1 hbk).1)
  refine wpIn_rangeFunc_ownF (F := Fence.wide) rfl (by omega) (gf := 41) (lb := #[.pointer (some ⟨b1, 0, none⟩), .pointer (some ⟨b2, 0, none⟩), .pointer (some ⟨b3, 0, none⟩)]) rfl trivial (enters_of Try.func41 (by kernel_rfl) rfl) hst belowK_t (belowK_b hBW.size) (Below.refl _ _) (fun _ => rfl)
    (fun pre W => Lib.IsBuilderF 91 5 w.heap.size w.heap.size (Lib.byteCells (joinC pre)) W ∧ Below w.heap.size w W) (fun _ _ _ => False)
    (OwnFrom.and builder_own (ownFrom_below (Nat.le_refl _) hBW.size)) (fun _ _ _ _ _ hs _ _ => hs)
    ⟨.inl ⟨Nat.le_refl _, .slice none 0 0, hbk, ⟨rfl, .inl ⟨rfl, rfl⟩⟩, by simp [Value.ownBlock]⟩, hBW⟩
    (fun x => { tmps := #[.pointer (some ⟨rb, 0, none⟩), .int .i64 at_, .int .i64 n, undef, undef, undef, .string ⟨#[]⟩, .pointer (some ⟨w.heap.size, 0, none⟩), undef, .string (str (clipS x.2)), .pointer (some ⟨rb, 0, none⟩), .int .i64 at_, .int .i64 n, .func (.func 41) #[] #[.pointer (some ⟨b1, 0, none⟩), .pointer (some ⟨b2, 0, none⟩), .pointer (some ⟨b3, 0, none⟩)], .int .i64 (clipA x.1), .string (str (clipS x.2)), undef, undef, undef], defers := [] }) ?assign ?body ?done ?stop
  case assign =>
    intro l x W K hK
    unfold encP
    gi_wp2
    exact hK
  case body =>
    rintro l pre x W ⟨hb, hB⟩ hpl
    have hcl := clipS_le x.2
    have hjl := joinC_le pre
    have hmul : pre.length * 2097152 ≤ 1048576 * 2097152 := Nat.mul_le_mul_right _ (by omega)
    have HWr := Lib.hid (write_any w.heap.size w.heap.size (Lib.byteCells (joinC pre)) (str (clipS x.2)) W hb (by rw [Lib.byteCells_length, str_size]; omega) hB.size)
    have HB := Lib.hid hB
    have HJs := Lib.hid (joinC_snoc pre x)
    have HC := Lib.hid (show ∃ cs t f, W.heap[w.heap.size]? = some (.cells cs t f) from by
      rcases hb with ⟨_, v, h, _⟩ | ⟨_, v, h, _⟩
      · exact ⟨_, _, _, h⟩
      · exact ⟨_, _, _, h⟩)
    clear hb hB hcl hjl hmul hpl
    gi_wp2
    refine ⟨trivial, (CallsIn.inRound l (callsIn_wide.2 HWr.out)).mono ?_⟩
    rintro e W' ⟨rfl, h1, h2, h3⟩
    have HI := Lib.hid (show Lib.IsBuilderF 91 5 w.heap.size w.heap.size (Lib.byteCells (joinC (pre ++ [x]))) W' from by
      rw [HJs.out, Lib.byteCells, List.map_append]
      exact .inr h1)
    have HK := Lib.hid (others_keeps h3 HC.out h2.size)
    have H2 := Lib.hid h2
    have H3 := Lib.hid (HB.out.trans h2)
    clear h1 h2 h3
    gi_wp2
    exact ⟨HK.out, H2.out, HI.out, H3.out⟩
  case done =>
    rintro D ys W hD rfl ⟨hb, hB⟩ hK
    have HS := Lib.hid (Try.Builder_String_any_k w.heap.size w.heap.size (joinC ys) W hb hB.size)
    have HB := Lib.hid hB
    have HKd := Lib.hid hK
    have hDb : D ≠ w.heap.size := by have := Hlt.out; omega
    clear hb hB hK
    gi_wp2
    refine ⟨trivial, (callsIn_wide.2 HS.out).mono ?_⟩
    rintro e W' ⟨rfl, h1, h2, h3⟩
    have hK' : W'.heap[D]? = some (.deferred (some [])) := h3 D _ HKd.out (fun e => hDb (by injection e)) (fun c fz e => by cases e)
    have H2 := Lib.hid (HB.out.trans h2)
    have HKw := Lib.hid hK'
    clear h1 h2 h3 hK'
    gi_wp2
    refine ⟨by simp, .inl ⟨_, _, rfl, run_takeDeferred HKw.out, ?_⟩⟩
    refine ⟨_, results_tmp rfl _ _ _, ?_, H2.out.trans (belowK_b (w := w) (Nat.le_refl _) W' D _ _ (by have := Hlt.out; omega) HKw.out rfl rfl)⟩
    rw [← HF.out.1, ← HF.out.2, ← HJ.out]
    rfl
  case stop =>
    rintro D c pre W _ _ h _
    exact h.elim
end Go.Proofs.Ytjoeebjmjnddoaa
