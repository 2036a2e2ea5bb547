/- norm: apart: a text's items, taken apart: the walk. -/
import Derived.Test.YtlphmcodajookaaDoorNAuse
import Derived.Test.YtlphmcodajookaaDoorNAlow
import Derived.Test.YtlphmcodajookaaDoorNAordI
import Derived.RangeFuncFrom
namespace Go.Proofs.YtlphmcodajookaaDoor
open Go.RowKit Go.Shelf
attribute [local go_sem] Oper.semAt_some
/-- what lies in memory while a text is taken apart -/
structure AR (w : World) (s : ByteArray) (sb xb lb mb : Nat) (A : Option Addr) (c : Nat) (L : List It) (W : World) : Prop where
  mp : MapT W mb tabN
  ss : Blk W sb [.string s] 9
  mx : Blk W xb [.map (some mb)] 53
  ll : Blk W lb [.slice A L.length c] 62
  wn : Win W w.heap.size 67 4 A L.length c (itC L)
  bel : Below w.heap.size w W
  lo : w.heap.size ≤ lb
theorem AR.ne {w : World} {s : ByteArray} {sb xb lb mb : Nat} {A : Option Addr} {c : Nat} {L : List It} {W : World} (h : AR w s sb xb lb mb A c L W) : lb ∉ Ab A := fun hm => by
  obtain ⟨_, _, M, hM⟩ := h.wn.ab lb hm
  have h1 := h.ll
  unfold Blk at h1 hM
  rw [h1] at hM
  injection hM with hM
  injection hM with _ hM
  cases hM
/-- it stays, where neither the map nor cells are written -/
theorem AR.stay {w : World} {s : ByteArray} {sb xb lb mb : Nat} {A : Option Addr} {c : Nat} {L : List It} {W W' : World} (h : AR w s sb xb lb mb A c L W) {F : List Nat} (hs : Stay F W W') (hm : mb ∉ F) (hF : ∀ g ∈ F, ∀ l t, ¬ Blk W g l t) (hB : ∀ g ∈ F, w.heap.size ≤ g) : AR w s sb xb lb mb A c L W' where
  mp := h.mp.stay hs hm
  ss := h.ss.stay hs (fun hg => hF _ hg _ _ h.ss)
  mx := h.mx.stay hs (fun hg => hF _ hg _ _ h.mx)
  ll := h.ll.stay hs (fun hg => hF _ hg _ _ h.ll)
  wn := h.wn.stay hs (fun g hg hf => by obtain ⟨_, _, M, hM⟩ := h.wn.ab g hg; exact hF _ hf _ _ hM)
  bel := h.bel.trans (hs.toBelow h.bel.size hB)
  lo := h.lo
theorem AR.stay0 {w : World} {s : ByteArray} {sb xb lb mb : Nat} {A : Option Addr} {c : Nat} {L : List It} {W W' : World} (h : AR w s sb xb lb mb A c L W) (hs : Stay [] W W') : AR w s sb xb lb mb A c L W' := h.stay hs (by simp) (by simp) (by simp)
theorem Blk.other {w : World} {g b : Nat} {l l' : List Value} {t t' : TypeId} (h : Blk w g l t) (h' : Blk w b l' t') (ht : t ≠ t') : g ≠ b := fun e => by
  subst e
  unfold Blk at h h'
  rw [h] at h'
  injection h' with h'
  injection h' with _ h'
  exact ht h'
/-- an append to the list, and its store -/
theorem AR.append {w : World} {s : ByteArray} {sb xb lb mb : Nat} {A : Option Addr} {c : Nat} {L : List It} {W W8 : World} (h : AR w s sb xb lb mb A c L W) (hs : Stay (Ab A) W W8) {A' : Option Addr} {c' n' : Nat} {L' : List It} (hn : n' = L'.length) (hw : Win W8 w.heap.size 67 4 A' n' c' (itC L')) :
    AR w s sb xb lb mb A' c' L' (W8.setCell ⟨lb, 0, none⟩ (.slice A' n' c')) ∧ Stay (lb :: Ab A) W (W8.setCell ⟨lb, 0, none⟩ (.slice A' n' c')) := by
  subst hn
  have hA : ∀ g ∈ Ab A, ∃ M, Blk W g M 67 := fun g hg => (h.wn.ab g hg).2.2
  have no : ∀ {b : Nat} {l : List Value} {t : TypeId}, Blk W b l t → t ≠ 67 → b ∉ Ab A := fun hb ht hg => by
    obtain ⟨M, hM⟩ := hA _ hg
    exact Blk.other hb hM ht rfl
  have hl8 : Blk W8 lb [.slice A L.length c] 62 := h.ll.stay hs h.ne
  have hs9 : Stay (lb :: Ab A) W (W8.setCell ⟨lb, 0, none⟩ (.slice A' L'.length c')) := (hs.mono (fun g hg => by simp [hg])).set' (.inl (by simp))
  have ne2 : ∀ {b : Nat} {l : List Value} {t : TypeId}, Blk W b l t → t ≠ 67 → t ≠ 62 → b ∉ lb :: Ab A := fun hb h1 h2 hg => by
    rcases List.mem_cons.1 hg with hg | hg
    · exact Blk.other hb h.ll h2 hg
    · exact no hb h1 hg
  have hm : mb ∉ lb :: Ab A := fun hg => by
    rcases List.mem_cons.1 hg with hg | hg
    · exact h.mp.noBlk h.ll hg.symm
    · obtain ⟨M, hM⟩ := hA _ hg
      exact h.mp.noBlk hM rfl
  have hlA : lb ∉ Ab A' := fun hg => by
    obtain ⟨_, _, M, hM⟩ := hw.ab lb hg
    exact Blk.other hl8 hM (by decide) rfl
  refine ⟨⟨h.mp.stay hs9 hm, h.ss.stay hs9 (ne2 h.ss (by decide) (by decide)), h.mx.stay hs9 (ne2 h.mx (by decide) (by decide)), hl8.set 0 _, hw.stay (Stay.setCell (F := [lb]) _ _ _ (by simp)) (fun g hg => by simp; rintro rfl; exact hlA hg), h.bel.trans (hs9.toBelow h.bel.size (fun g hg => ?_)), h.lo⟩, hs9⟩
  rcases List.mem_cons.1 hg with hg | hg
  · rw [hg]; exact h.lo
  · exact (h.wn.ab g hg).1
theorem AR.cells {w : World} {s : ByteArray} {sb xb lb mb : Nat} {A : Option Addr} {c : Nat} {L : List It} {W : World} (h : AR w s sb xb lb mb A c L W) : ∀ g ∈ lb :: Ab A, ∃ l t, Blk W g l t := fun g hg => by
  rcases List.mem_cons.1 hg with hg | hg
  · rw [hg]; exact ⟨_, _, h.ll⟩
  · obtain ⟨_, _, M, hM⟩ := h.wn.ab g hg
    exact ⟨_, _, hM⟩
theorem info67 : (Tryd.prog.info? 67).map (fun i => (i.zero, i.size, i.bytes)) = some (some (.agg #[.int .i32 0, .int .u8 0, .bool false, .int .u8 0]), 4, 8) := by kernel_rfl
theorem itC_one (l : List It) : ∀ u ∈ itC l, u.oneCell' = true := fun u hu => by
  unfold itC at hu
  obtain ⟨x, _, hx⟩ := List.mem_flatMap.1 hu
  unfold It.cells at hx
  simp only [List.mem_cons, List.not_mem_nil, or_false] at hx
  rcases hx with rfl | rfl | rfl | rfl <;> rfl
def accP (s : ByteArray) (pre : List Nat) : List It := flatI (pre.map (itemP s))
theorem ar_own {β : Type} (w : World) (s : ByteArray) (sb xb lb mb B : Nat) (f : β → List It) (hm : mb < B) (hB : w.heap.size ≤ B) : OwnFrom B (fun (pre : β) W => ∃ A c, AR w s sb xb lb mb A c (f pre) W) := by
  rintro pre W W' row ⟨A, c, h⟩ hg hr
  have key : ∀ g, row = some g → B ≤ g ∧ ∀ l t, ¬ Blk W g l t := fun g e => by
    obtain ⟨h1, o, ho, hc⟩ := hr g e
    refine ⟨h1, fun l t hb => ?_⟩
    unfold Blk at hb
    rw [hb] at ho
    injection ho with ho
    rw [← ho] at hc
    cases hc
  refine ⟨A, c, h.stay (F := row.toList) (Stay.grown hg (fun g e => by simp [e])) (fun hh => ?_) (fun g hh => ?_) (fun g hh => ?_)⟩
  · have := (key mb (by simpa using hh)).1; omega
  · exact (key g (by simpa using hh)).2
  · have := (key g (by simpa using hh)).1; omega
/-- only cells are written: the others stay -/
theorem others_stay {F : List Nat} {W W' : World} (hs : Stay F W W') (hF : ∀ g ∈ F, ∃ l t, Blk W g l t) : KeepsOthers W W' :=
  ⟨hs.size, fun k o hk ho => (hs.block k (Array.getElem?_eq_some_iff.1 hk).1 (fun hg => by
    obtain ⟨l, t, hb⟩ := hF k hg
    unfold Blk at hb
    rw [hk] at hb
    injection hb with hb
    rw [hb] at ho
    cases ho)).trans hk⟩
theorem flat_len : ∀ (l : List It), (flatI l).length ≤ l.length * 8
  | [] => Nat.le_refl _
  | x :: l => by
    have h1 := flat_len l
    have h2 : (splitI x).length ≤ 8 := by
      unfold splitI
      split
      · simp
      · rw [List.length_map]
        exact Nat.le_trans (splitF_len _ _) (by omega)
    rw [flatI_cons, List.length_append, List.length_cons]
    omega
theorem acc_len (s : ByteArray) (pre : List Nat) : (accP s pre).length ≤ pre.length * 8 := by
  have := flat_len (pre.map (itemP s))
  rw [List.length_map] at this
  exact this
theorem acc_snoc (s : ByteArray) (pre : List Nat) (q : Nat) : accP s (pre ++ [q]) = accP s pre ++ splitI (itemP s q) := by simp [accP, flatI]
theorem box_1 (w : World) (x : Value) (t : TypeId) : (w.alloc (.cells #[x] t)).cell? ⟨w.heap.size, 0, none⟩ = some x := (Blk.new w [x] t).cell 0
set_option maxHeartbeats 4000000 in
theorem orderedI_nil (w : World) : Calls Tryd.prog 115 #[.slice none 0 0, .func (.func 116) #[] #[]] w fun e w' => e = .returned (.slice none 0 0) ∧ Stay [] w w' := by
  have HS := Lib.hid (fun o => Stay.alloc (F := []) w o)
  go_enter Tryd.func115, Tryd.ntmps115
  go_upto_region 2 with fail
  refine wp_loop_rounds 1 ?_
  rw [rounds_succ]
  go_wp2_with fail
  go_ret
  exact ⟨rfl, HS.out _⟩
set_option maxRecDepth 100000 in
set_option maxHeartbeats 40000000 in
theorem apart_any (s : ByteArray) (w : World) (hs : s.size ≤ 1099511627776) (hT : Lib.Utf8Tabs 0 1 w) :
    Calls Tryd.prog 74 #[.string s] w fun e w' => ∃ A c, e = .returned (.slice A (apartI s.data.toList).length c) ∧ ItAt w' A (apartI s.data.toList) ∧ Stay [] w w' := by
  obtain ⟨W1, hW1⟩ : ∃ W, W = w.alloc (.cells #[.string s] 9) := ⟨_, rfl⟩
  have HP := Lib.hid (pairs_any W1)
  have HW1 := Lib.hid hW1
  have HT := Lib.hid hT
  have HSz := Lib.hid hs
  clear hW1 hT hs
  refine (callsIn_wide (n := 3)).1 ?_
  refine callsIn_of_wp_marks Tryd.func74 rfl trivial ?_ rfl
  simp only [Tryd.ntmps74, List.size_toArray, List.length_cons, List.length_nil, Nat.reduceAdd, Nat.reduceSub, Array.replicate_succ, Array.replicate_zero, List.push_toArray, List.append_toArray, List.nil_append, List.cons_append]
  gi_wp2
  rw [← HW1.out]
  refine ⟨trivial, (callsIn_wide.2 HP.out).mono ?_⟩
  rintro e W2 ⟨mb, rfl, hmb, hmt, hs2⟩
  obtain ⟨sb, hsb⟩ : ∃ b, b = w.heap.size := ⟨_, rfl⟩
  obtain ⟨xb, hxb⟩ : ∃ b, b = W2.heap.size := ⟨_, rfl⟩
  have hsz2 : sb < W2.heap.size := by have := hs2.size; rw [HW1.out] at this; simp at this; omega
  have hss2 : Blk W2 sb [.string s] 9 := Blk.stay (F := []) (by rw [HW1.out, hsb]; exact Blk.new w [.string s] 9) hs2 (by simp)
  obtain ⟨W4, hW4⟩ : ∃ W, W = (W2.alloc (.cells #[.map (some mb)] 53)).alloc (.cells #[.slice none 0 0] 62) := ⟨_, rfl⟩
  have hs24 : Stay [] W2 W4 := by rw [hW4]; exact (Stay.alloc _ _).alloc'
  have hmx : Blk W4 xb [.map (some mb)] 53 := by rw [hW4, hxb]; exact (Blk.new W2 [.map (some mb)] 53).stay (F := []) (Stay.alloc _ _) (by simp)
  have hll : Blk W4 (xb + 1) [.slice none 0 0] 62 := by
    have := Blk.new (W2.alloc (.cells #[.map (some mb)] 53)) [.slice none 0 0] 62
    rw [size_alloc'] at this
    rw [hW4, hxb]; exact this
  have hss4 := hss2.stay hs24 (by simp)
  have hz4 : W4.heap.size = xb + 2 := by rw [hW4, hxb]; simp
  have hs14 : Stay [] w W4 := (show Stay [] w W1 from by rw [HW1.out]; exact Stay.alloc _ _).trans (hs2.trans hs24)
  have har : AR w s sb xb (xb + 1) mb none 0 [] W4 := ⟨hmt.stay hs24 (by simp), hss4, hmx, hll, Win.nil _ _ _ _, hs14.toBelow (Nat.le_refl _) (by simp), by omega⟩
  have s4 := hss4.cell 0
  simp at s4
  have HA := Lib.hid (all_any s W4)
  have HAR := Lib.hid har
  have HZ := Lib.hid (And.intro hsz2 (And.intro hz4 (And.intro hsb hxb)))
  have HM := Lib.hid (show mb < W4.heap.size from (hmt.stay hs24 (by simp)).lt)
  have hsz4 : ∀ (x y : Obj), ((W2.alloc x).alloc y).cell? ⟨sb, 0, none⟩ = some (.string s) := fun x y => by
    have := ((hss2.stay (F := []) (Stay.alloc W2 x) (by simp)).stay (F := []) (Stay.alloc _ y) (by simp)).cell 0
    simpa using this
  have hx1 : W2.heap.size = xb := hxb.symm
  have HW4 := Lib.hid hW4
  rw [← hsb]
  clear hs2 hss2 hs24 hmx hll hss4 hz4 hs14 har hW4 hsb hmb hmt hsz2 hxb
  gi_wp2
  rw [← HW4.out]
  refine ⟨trivial, (callsIn_wide.2 HA.out).mono ?_⟩
  rintro e W5 ⟨rfl, hW5⟩
  gi_wp2
  have hst := all_stops W5 2 W4.heap.size s (by rw [hW5]; exact box_1 W4 (.string s) 9)
  have hb5 : Stay [] W4 W5 := by rw [hW5]; exact Stay.alloc _ _
  have har5 := HAR.out.stay0 hb5
  rw [← hW5]
  have HM5 := Lib.hid (show mb < W5.heap.size from Nat.lt_of_lt_of_le HM.out hb5.size)
  have HW5 := Lib.hid (show w.heap.size ≤ W5.heap.size from har5.bel.size)
  clear hb5
  refine wpIn_rangeFunc_ownF (F := Fence.wide) rfl (by omega) (gf := 80) (lb := #[.pointer (some ⟨W4.heap.size, 0, none⟩)]) rfl trivial (enters_of Tryd.func80 (by kernel_rfl) rfl) hst walksK_t walksK_b (Below.refl _ _) (fun _ => rfl)
    (fun pre W => ∃ A c, AR w s sb xb (xb + 1) mb A c (accP s pre) W) (fun _ _ _ => False)
    (ar_own w s sb xb (xb + 1) mb W5.heap.size (accP s) HM5.out HW5.out) (fun _ _ _ _ _ hs _ _ => hs)
    ⟨none, 0, har5⟩
    (fun q => { tmps := #[.string s, .pointer (some ⟨sb, 0, none⟩), .slice none 0 0, .pointer (some ⟨xb, 0, none⟩), .pointer (some ⟨xb + 1, 0, none⟩), .int .i64 ((min q s.size : Nat) : Int), .int .i32 (dL (restS s q)).1,
      undef, undef, undef, undef, .map (some mb), .string s, .func (.func 80) #[] #[.pointer (some ⟨W4.heap.size, 0, none⟩)], .int .i64 ((min q s.size : Nat) : Int), .int .i32 (dL (restS s q)).1,
      undef, undef, undef, undef, undef, undef, undef, undef, undef, undef, undef, undef, undef, undef, undef, undef, undef, undef, undef, undef, undef, undef, undef, undef, undef, undef, undef, undef, undef, undef, undef, undef, undef, undef, undef, undef], defers := [] }) ?assign ?body ?done ?stop
  case assign =>
    intro l x W K hK
    unfold encA
    gi_wp2
    exact hK
  case body =>
    rintro l pre q W ⟨A, c, hA⟩ hpl
    obtain ⟨L, hL⟩ : ∃ L, L = accP s pre := ⟨_, rfl⟩
    have hLl : L.length ≤ 8796093022208 := by
      have h1 := acc_len s pre
      rw [← hL] at h1
      have := HSz.out
      omega
    have HL := Lib.hid (And.intro hL hLl)
    rw [← hL] at hA
    have hR := dL_range (restS s q)
    have HRg := Lib.hid (show -2147483648 ≤ (((dL (restS s q)).1 : Nat) : Int) ∧ (((dL (restS s q)).1 : Nat) : Int) ≤ 2147483647 from by unfold okR at hR; omega)
    have hnx := next_any (s.extract (min q s.size) s.size) W (Utf8Tabs_below HT.out hA.bel)
    rw [extract_rest, restS_min] at hnx
    obtain ⟨p, hp⟩ : ∃ p, p = min q s.size := ⟨_, rfl⟩
    have hps : (p : Int) ≤ s.size := by omega
    have hp0 : (0 : Int) ≤ p := by omega
    rw [← hp] at hnx ⊢
    obtain ⟨rs, hrs⟩ : ∃ l, l = restS s q := ⟨_, rfl⟩
    rw [← hrs] at hnx HRg ⊢
    have HNx := Lib.hid hnx
    have HA0 := Lib.hid hA
    have HRs := Lib.hid (And.intro hrs hp)
    have HSp := Lib.hid (acc_snoc s pre q)
    have s1 := hA.ss.cell 0
    simp at s1
    cases hbd : badD (dL rs) with
    | true =>
      obtain ⟨e1, e2, e3⟩ := next_bad rs hbd
      rw [e1] at HNx
      rw [e2]
      have hlt : p < s.size := by
        have := restS_ne.1 (show restS s q ≠ [] from by rw [← hrs]; exact e3)
        omega
      obtain ⟨y, hy⟩ : ∃ y, y = rs.headD 0 := ⟨_, rfl⟩
      have hyp : (s[p]'hlt).toNat = y.toNat := by rw [hy, rest_head hlt, hrs]; rw [HRs.out.2, restS_min]
      have HIt := Lib.hid (show splitI (itemP s q) = [badI y] from by
        have : itemP s q = badI y := by unfold itemP itemD; rw [← hrs, if_pos hbd, hy]
        rw [this]; exact splitI_bad rfl)
      clear hp hps hp0 hrs hnx hA hR hL hLl hpl e1 e2 e3 hbd hy har5 hst hW5
      gi_wp2
      refine ⟨trivial, (CallsIn.inRound l (callsIn_wide.2 HNx.out)).mono ?_⟩
      rintro e W6 ⟨rfl, hs6⟩
      have hA6 := HA0.out.stay0 hs6
      have HK6 := Lib.hid (others_stay hs6 (by simp))
      have HA6 := Lib.hid hA6
      have hA7 := hA6.stay0 (Stay.drew W6)
      have s6 := hA7.ss.cell 0
      have l6 := hA7.ll.cell 0
      have l6f := hA7.ll.free 0
      simp at s6 l6 l6f
      obtain ⟨i67, hi, hz, hsz, hy⟩ := info_parts info67
      have HI := Lib.hid (And.intro hi (And.intro hz (And.intro hsz hy)))
      have HAd := Lib.hid hA7
      clear hs6 hA6 hA7 s1 hi hz hsz hy
      gi_wp2
      obtain ⟨L2, hL2⟩ : ∃ L', L' = L ++ [badI y] := ⟨_, rfl⟩
      have HL2 := Lib.hid (show L.length + 1 = L2.length ∧ itC L2 = itC L ++ itC [badI y] from by rw [hL2]; exact ⟨by simp, itC_app _ _⟩)
      have HL3 := Lib.hid (show accP s (pre ++ [q]) = L2 from by rw [HSp.out, HIt.out, ← HL.out.1, hL2])
      have HLk := Lib.hid HL.out.2
      clear hL2
      have hHeld : (fun w' : World => w'.cell? ⟨xb + 1, 0, none⟩ = some (.slice A L.length c) ∧ w'.cell? ⟨sb, 0, none⟩ = some (.string s)) W6.drew := ⟨by simpa using l6, by simpa using s6⟩
      refine AnyN.round (fun w' : World => w'.cell? ⟨xb + 1, 0, none⟩ = some (.slice A L.length c) ∧ w'.cell? ⟨sb, 0, none⟩ = some (.string s)) [7] (by kernel_rfl) (by kernel_rfl) (by rintro ⟨_, _, h⟩; exact h) ?_
      refine AnyN.take (i := 0) (v := ?_) [6, 7] rfl (by kernel_rfl) (by kernel_rfl) (by kernel_rfl) (by kernel_rfl) (fun _ _ _ h => h) (Or.inl ⟨by rfl, ?_⟩) hHeld ?_
      rotate_left
      · intro w hSw
        obtain ⟨k0, k1⟩ := hSw
        simp only [List.getElem_toArray, List.getElem_cons_zero]
        go_simp
        all_goals with_reducible rfl
      simp only [List.getElem_toArray, List.getElem_cons_zero, Act.put, List.setIfInBounds_toArray, List.set_cons_zero, List.set_cons_succ]
      refine AnyN.take (i := 1) (v := ?_) [3, 4, 5, 6, 7] rfl (by kernel_rfl) (by kernel_rfl) (by kernel_rfl) (by kernel_rfl) (fun _ _ _ h => h) (Or.inl ⟨by rfl, ?_⟩) hHeld ?_
      rotate_left
      · intro w hSw
        obtain ⟨k0, k1⟩ := hSw
        simp only [List.getElem_toArray, List.getElem_cons_zero, List.getElem_cons_succ]
        go_simp
        all_goals with_reducible rfl
      simp only [List.getElem_toArray, List.getElem_cons_zero, List.getElem_cons_succ, Act.put, List.setIfInBounds_toArray, List.set_cons_zero, List.set_cons_succ]
      refine AnyN.take (i := 2) (v := ?_) [3, 4, 5, 6, 7] rfl (by kernel_rfl) (by kernel_rfl) (by kernel_rfl) (by kernel_rfl) (fun _ _ _ h => h) (Or.inl ⟨by rfl, ?_⟩) hHeld ?_
      rotate_left
      · intro w hSw
        obtain ⟨k0, k1⟩ := hSw
        simp only [List.getElem_toArray, List.getElem_cons_zero, List.getElem_cons_succ]
        go_simp
        all_goals with_reducible rfl
      simp only [List.getElem_toArray, List.getElem_cons_zero, List.getElem_cons_succ, Act.put, List.setIfInBounds_toArray, List.set_cons_zero, List.set_cons_succ]
      refine AnyN.take (i := 3) (v := ?_) [4, 5, 6, 7] rfl (by kernel_rfl) (by kernel_rfl) (by kernel_rfl) (by kernel_rfl) (fun _ _ _ h => h) (Or.inl ⟨by rfl, ?_⟩) hHeld ?_
      rotate_left
      · intro w hSw
        obtain ⟨k0, k1⟩ := hSw
        simp only [List.getElem_toArray, List.getElem_cons_zero, List.getElem_cons_succ]
        go_simp
        all_goals with_reducible rfl
      simp only [List.getElem_toArray, List.getElem_cons_zero, List.getElem_cons_succ, Act.put, List.setIfInBounds_toArray, List.set_cons_zero, List.set_cons_succ]
      refine AnyN.take (i := 4) (v := ?_) [5, 6, 7] rfl (by kernel_rfl) (by kernel_rfl) (by kernel_rfl) (by kernel_rfl) (fun _ _ _ h => h) (Or.inl ⟨by rfl, ?_⟩) hHeld ?_
      rotate_left
      · intro w hSw
        obtain ⟨k0, k1⟩ := hSw
        simp only [List.getElem_toArray, List.getElem_cons_zero, List.getElem_cons_succ]
        go_simp
        all_goals with_reducible rfl
      simp only [List.getElem_toArray, List.getElem_cons_zero, List.getElem_cons_succ, Act.put, List.setIfInBounds_toArray, List.set_cons_zero, List.set_cons_succ]
      refine AnyN.next (i := 5) (by kernel_rfl) ?_
      refine wpOp_step rfl (fun K hK => ?_)
      have HK := Lib.hid hK
      clear hK
      simp only [List.getElem_toArray, List.getElem_cons_zero, List.getElem_cons_succ]
      rw [if_pos (by rfl)]
      go_simp
      obtain ⟨Wa, hWa⟩ : ∃ W, W = (W6.alloc (.cells #[.int .i32 0, .int .u8 y.toNat, .bool true, .int .u8 0] 67)).drew := ⟨_, rfl⟩
      have hsa : Stay [] W6 Wa := by rw [hWa]; exact (Stay.alloc _ _).drew'
      have HAa := Lib.hid (HA6.out.stay0 hsa)
      have HCa := Lib.hid (show ∀ j u, (itC [badI y])[j]? = some u → Wa.cell? ((⟨W6.heap.size, 0, none⟩ : Addr).add j) = some u from by rw [hWa]; exact cells_new W6 (itC [badI y]) 67 _ rfl)
      have HKa := Lib.hid (HK6.out.trans (others_stay hsa (by simp)))
      rw [← hWa]
      clear hWa hsa
      have la := HAa.out.ll.cell 0
      have sa := HAa.out.ss.cell 0
      simp at la sa
      have hHeld5 : (fun w' : World => w'.cell? ⟨xb + 1, 0, none⟩ = some (.slice A L.length c) ∧ w'.cell? ⟨sb, 0, none⟩ = some (.string s)) Wa := ⟨la, sa⟩
      refine HK.out _ _ ⟨.inr hHeld5, ?_⟩
      clear HK K
      refine AnyN.next (i := 6) (by kernel_rfl) ?_
      refine wpOp_step rfl (fun K hK => ?_)
      have HK := Lib.hid hK
      clear hK
      simp only [List.getElem_toArray, List.getElem_cons_zero, List.getElem_cons_succ]
      rw [if_pos (by rfl)]
      refine wp_append_win (.tmp 29) (.tmp 34) 62 (by rfl) w.heap.size 67 4 i67 _ 8 Tryd.underlying62 HI.out.1 HI.out.2.1 HI.out.2.2.1 HI.out.2.2.2 (by rfl) (by omega) A L.length c (itC L) (by rfl) HAa.out.wn ⟨W6.heap.size, 0, none⟩ 1 1 (by rfl) (itC [badI y]) (by rfl) (by omega) HCa.out (by intro u hu; exact itC_one [_] u hu) (by have := HLk.out; unfold maxLen; omega) (by have := HLk.out; omega) HAa.out.bel.size ?_
      intro A' c' W8 hw8 hs8 _
      have l8 := (HAa.out.ll.stay hs8 HAa.out.ne).cell 0
      have f8 := (HAa.out.ll.stay hs8 HAa.out.ne).free 0
      simp at l8
      have H9 := Lib.hid (HAa.out.append hs8 (n' := L.length + 1) (L' := L2) HL2.out.1 (A' := A') (c' := c') (by rw [HL2.out.2]; exact hw8))
      have s8 : W8.cell? ⟨sb, 0, none⟩ = some (.string s) := by
        have := (HAa.out.ss.stay hs8 (fun hg => by obtain ⟨_, _, M, hM⟩ := HAa.out.wn.ab _ hg; exact Blk.other HAa.out.ss hM (by decide) rfl)).cell 0
        simpa using this
      have HK9 := Lib.hid (HKa.out.trans (others_stay H9.out.2 HAa.out.cells))
      clear hw8 hs8
      try simp only [Act.put, List.setIfInBounds_toArray, List.set_cons_zero, List.set_cons_succ]
      refine HK.out _ _ ⟨.inr ⟨l8, s8⟩, ?_⟩
      clear HK K
      refine AnyN.next (i := 7) (by kernel_rfl) ?_
      refine wpOp_step rfl (fun K hK => ?_)
      have HK := Lib.hid hK
      clear hK
      simp only [List.getElem_toArray, List.getElem_cons_zero, List.getElem_cons_succ]
      rw [if_pos (by rfl)]
      go_simp
      refine HK.out _ _ ⟨.inl (by simp), ?_⟩
      clear HK K
      refine AnyN.done (by kernel_rfl) ?_ _
      gi_wp2
      exact ⟨HK9.out, HK9.out.walks, A', c', by rw [HL3.out]; exact H9.out.1⟩
    | false =>
      have hnc := next_chr rs hbd
      obtain ⟨r, hr⟩ : ∃ r : Int, r = (((dL rs).1 : Nat) : Int) := ⟨_, rfl⟩
      obtain ⟨r0, hr0⟩ : ∃ r0 : Nat, r0 = (nextD rs).1 := ⟨_, rfl⟩
      obtain ⟨n0, hn0⟩ : ∃ n0 : Nat, n0 = (nextD rs).2 := ⟨_, rfl⟩
      rw [← hr0, ← hn0] at HNx
      rw [← hr] at HRg
      have hnc2 : ¬ (r = 65533 ∧ n0 = 1) := fun ⟨h1, h2⟩ => hnc ⟨by omega, by omega⟩
      have HIt := Lib.hid (show splitI (itemP s q) = (splitN r).map chr from by
        have : itemP s q = chr r := by unfold itemP itemD; rw [← hrs, if_neg (by rw [hbd]; simp), hr]
        rw [this]; exact splitI_chr rfl)
      rw [← hr]
      obtain ⟨zs, hzs⟩ : ∃ zs, zs = splitN r := ⟨_, rfl⟩
      have HSt := Lib.hid (show ∀ W', MapT W' mb tabN → Calls Tryd.prog 63 #[.map (some mb), .int .i32 r] W' (Runes W' zs) from fun W' h => by rw [hzs]; exact split_any r W' mb h HRg.out)
      have HZl := Lib.hid (show zs.length ≤ 8 from by rw [hzs]; exact Nat.le_trans (splitF_len _ _) (by omega))
      have HFin := Lib.hid (show accP s (pre ++ [q]) = L ++ (zs.take zs.length).map chr from by rw [HSp.out, HIt.out, ← HL.out.1, hzs, List.take_length])
      clear hzs
      clear hp hp0 hrs hnx hA hR hL hLl hpl hnc hbd hr hr0 hn0 har5 hst hW5
      rcases (show (r = 65533 ∧ ¬ ((n0 : Int) = 1)) ∨ ¬ r = 65533 from by
        by_cases h65 : r = 65533
        · exact .inl ⟨h65, fun h => hnc2 ⟨h65, by omega⟩⟩
        · exact .inr h65) with ⟨rfl, h65⟩ | h65
      all_goals
        clear hnc2
        gi_wp2
        refine ⟨trivial, (CallsIn.inRound l (callsIn_wide.2 HNx.out)).mono ?_⟩
        rintro e W6 ⟨rfl, hs6⟩
        have HK6 := Lib.hid (others_stay hs6 (by simp))
        have HA6 := Lib.hid (HA0.out.stay0 hs6)
        have x6 := HA6.out.mx.cell 0
        simp at x6
        have HSp6 := Lib.hid (HSt.out W6 HA6.out.mp)
        clear hs6
        gi_wp2
        refine ⟨trivial, (CallsIn.inRound l (callsIn_wide.2 HSp6.out)).mono ?_⟩
        rintro e W7 ⟨Ar, cr, rfl, hw7, hs7⟩
        have HA7 := Lib.hid (HA6.out.stay0 hs7)
        have HK7 := Lib.hid (HK6.out.trans (others_stay hs7 (by simp)))
        have HW7 := Lib.hid hw7
        clear hw7 hs7
        gi_wp2
        gi_loopw [40] (fun v wr => ∃ (j : Nat) (A1 : Option Addr) (c1 : Nat), v = .int .i64 j ∧ j ≤ zs.length ∧ AR w s sb xb (xb + 1) mb A1 c1 (L ++ (zs.take j).map chr) wr ∧ KeepsOthers W wr ∧ Win wr W6.heap.size 21 1 Ar zs.length cr (ints .i32 zs))
          (fun v _ => (zs.length - intOf v).toNat)
        case atStart => exact ⟨0, A, c, rfl, Nat.zero_le _, by simpa using HA7.out, HK7.out, HW7.out⟩
        case round =>
          obtain ⟨j, A1, c1, rfl, hj, hA1, hK1, hW1⟩ := hrel
          have hz64 : (zs.length : Int) ≤ 8 := by have := HZl.out; omega
          by_cases hjz : j = zs.length
          · rw [hjz] at hA1
            have HE := Lib.hid (And.intro hA1 hK1)
            subst hjz
            clear hA1 hK1 hW1 hj
            gi_wp2
            exact ⟨HE.out.2, HE.out.2.walks, A1, c1, by rw [HFin.out]; exact HE.out.1⟩
          · have hjl : j < zs.length := by omega
            have hjl' : (j : Int) < zs.length := by omega
            obtain ⟨z, hz⟩ : ∃ z, zs[j]? = some z := ⟨_, List.getElem?_eq_getElem hjl⟩
            obtain ⟨gr, orr, rfl⟩ := hW1.addr (by omega)
            have c0 := hW1.cell j (.int .i32 z) (by simp [ints, hz])
            obtain ⟨Lj, hLj⟩ : ∃ M, M = L ++ (zs.take j).map chr := ⟨_, rfl⟩
            obtain ⟨L2, hL2⟩ : ∃ M, M = L ++ (zs.take (j + 1)).map chr := ⟨_, rfl⟩
            have hL2' : L2 = Lj ++ [chr z] := by rw [hL2, hLj, List.take_add_one, hz]; simp
            rw [← hLj] at hA1
            obtain ⟨m, hm⟩ : ∃ m, m = keyI (chr z) := ⟨_, rfl⟩
            have hit : itC [chr z] = [.int .i32 z, .int .u8 0, .bool false, .int .u8 m] := by rw [hm]; rfl
            have HIt2 := Lib.hid hit
            have HL2 := Lib.hid (show Lj.length + 1 = L2.length ∧ itC L2 = itC Lj ++ itC [chr z] from by rw [hL2']; exact ⟨by simp, itC_app _ _⟩)
            have HL3 := Lib.hid hL2
            have HLk := Lib.hid (show Lj.length ≤ 8796093022216 from by
              rw [hLj, List.length_append, List.length_map, List.length_take]
              have := HL.out.2
              have := HZl.out
              omega)
            have HOf := Lib.hid (show ∀ W', Calls Tryd.prog 114 #[.int .i32 z] W' fun e w' => e = .returned (.agg #[.int .i32 z, .int .u8 0, .bool false, .int .u8 m]) ∧ Stay [] W' w' from fun W' => by rw [hm, keyI_chr]; exact of_any z W')
            have HA1 := Lib.hid hA1
            have HK1 := Lib.hid hK1
            have HW1' := Lib.hid hW1
            obtain ⟨i67, hi, hzz, hsz, hy⟩ := info_parts info67
            have HI := Lib.hid (And.intro hi (And.intro hzz (And.intro hsz hy)))
            have HZ1 := Lib.hid (And.intro hj hz)
            have hAd := hA1.stay0 (Stay.drew wr)
            have ld := hAd.ll.cell 0
            simp at ld
            have l1 := hA1.ll.cell 0
            simp at l1
            clear hA1 hK1 hW1 hj hit hm hLj hL2 hL2' hz hi hzz hsz hy hAd
            gi_wp2
            have hHeld : (fun w' : World => w'.cell? ⟨xb + 1, 0, none⟩ = some (.slice A1 Lj.length c1)) wr.drew := by simpa using ld
            refine AnyN.round (fun w' : World => w'.cell? ⟨xb + 1, 0, none⟩ = some (.slice A1 Lj.length c1)) [5] (by kernel_rfl) (by kernel_rfl) (by rintro ⟨_, _, h⟩; exact h) ?_
            refine AnyN.take (i := 0) (v := ?_) [4, 5] rfl (by kernel_rfl) (by kernel_rfl) (by kernel_rfl) (by kernel_rfl) (fun _ _ _ h => h) (Or.inl ⟨by rfl, ?_⟩) hHeld ?_
            rotate_left
            · intro w hSw
              have k0 := hSw
              simp only [List.getElem_toArray, List.getElem_cons_zero]
              go_simp
              all_goals with_reducible rfl
            simp only [List.getElem_toArray, List.getElem_cons_zero, Act.put, List.setIfInBounds_toArray, List.set_cons_zero, List.set_cons_succ]
            refine AnyN.take (i := 1) (v := ?_) [2, 4, 5] rfl (by kernel_rfl) (by kernel_rfl) (by kernel_rfl) (by kernel_rfl) (fun _ _ _ h => h) (Or.inl ⟨by rfl, ?_⟩) hHeld ?_
            rotate_left
            · intro w hSw
              have k0 := hSw
              simp only [List.getElem_toArray, List.getElem_cons_zero, List.getElem_cons_succ]
              go_simp
              all_goals with_reducible rfl
            simp only [List.getElem_toArray, List.getElem_cons_zero, List.getElem_cons_succ, Act.put, List.setIfInBounds_toArray, List.set_cons_zero, List.set_cons_succ]
            refine AnyN.next (i := 2) (by kernel_rfl) ?_
            refine wpOp_step rfl (fun K hK => ?_)
            have HK := Lib.hid hK
            clear hK
            simp only [List.getElem_toArray, List.getElem_cons_zero, List.getElem_cons_succ]
            rw [if_pos (by rfl)]
            go_wp2_with (go_at_call 114; refine (HOf.out _).mono ?_; rintro e W9 ⟨rfl, hs9⟩)
            have HA9 := Lib.hid (HA1.out.stay0 ((Stay.drew wr).trans hs9))
            have HK9 := Lib.hid (HK1.out.trans (others_stay ((Stay.drew wr).trans hs9) (by simp)))
            have HW9 := Lib.hid (HW1'.out.stay0 ((Stay.drew wr).trans hs9))
            have l9 := HA9.out.ll.cell 0
            simp at l9
            clear hs9
            refine HK.out _ _ ⟨.inr l9, ?_⟩
            clear HK K
            refine AnyN.next (i := 3) (by kernel_rfl) ?_
            refine wpOp_step rfl (fun K hK => ?_)
            have HK := Lib.hid hK
            clear hK
            simp only [List.getElem_toArray, List.getElem_cons_zero, List.getElem_cons_succ]
            rw [if_pos (by rfl)]
            go_wp2_with fail
            obtain ⟨Wa, hWa⟩ : ∃ W, W = W9.alloc (.cells #[.int .i32 z, .int .u8 0, .bool false, .int .u8 m] 67) := ⟨_, rfl⟩
            have hsa : Stay [] W9 Wa := by rw [hWa]; exact Stay.alloc _ _
            have HAa := Lib.hid (HA9.out.stay0 hsa)
            have HCa := Lib.hid (show ∀ j u, (itC [chr z])[j]? = some u → Wa.cell? ((⟨W9.heap.size, 0, none⟩ : Addr).add j) = some u from by rw [hWa, HIt2.out]; exact cells_new W9 [.int .i32 z, .int .u8 0, .bool false, .int .u8 m] 67 _ rfl)
            have HKa := Lib.hid (HK9.out.trans (others_stay hsa (by simp)))
            have HWa := Lib.hid (HW9.out.stay0 hsa)
            rw [← hWa]
            clear hWa hsa
            have la := HAa.out.ll.cell 0
            simp at la
            refine HK.out _ _ ⟨.inr la, ?_⟩
            clear HK K
            refine AnyN.next (i := 4) (by kernel_rfl) ?_
            refine wpOp_step rfl (fun K hK => ?_)
            have HK := Lib.hid hK
            clear hK
            simp only [List.getElem_toArray, List.getElem_cons_zero, List.getElem_cons_succ]
            rw [if_pos (by rfl)]
            refine wp_append_win (.tmp 44) (.tmp 47) 62 (by rfl) w.heap.size 67 4 i67 _ 8 Tryd.underlying62 HI.out.1 HI.out.2.1 HI.out.2.2.1 HI.out.2.2.2 (by rfl) (by omega) A1 Lj.length c1 (itC Lj) (by rfl) HAa.out.wn ⟨W9.heap.size, 0, none⟩ 1 1 (by rfl) (itC [chr z]) (by rfl) (by omega) HCa.out (by intro u hu; exact itC_one [_] u hu) (by have := HLk.out; unfold maxLen; omega) (by have := HLk.out; omega) HAa.out.bel.size ?_
            intro A' c' W8 hw8 hs8 _
            have l8 := (HAa.out.ll.stay hs8 HAa.out.ne).cell 0
            have f8 := (HAa.out.ll.stay hs8 HAa.out.ne).free 0
            simp at l8
            have H9 := Lib.hid (HAa.out.append hs8 (n' := Lj.length + 1) (L' := L2) HL2.out.1 (A' := A') (c' := c') (by rw [HL2.out.2]; exact hw8))
            have HKb := Lib.hid (HKa.out.trans (others_stay H9.out.2 HAa.out.cells))
            have HWb := Lib.hid (HWa.out.stay H9.out.2 (fun g hg hf => by
              obtain ⟨_, _, M, hM⟩ := HWa.out.ab g hg
              rcases List.mem_cons.1 hf with hf | hf
              · exact Blk.other hM HAa.out.ll (by decide) hf
              · obtain ⟨_, _, M', hM'⟩ := HAa.out.wn.ab g hf
                exact Blk.other hM hM' (by decide) rfl))
            clear hw8 hs8
            try simp only [Act.put, List.setIfInBounds_toArray, List.set_cons_zero, List.set_cons_succ]
            refine HK.out _ _ ⟨.inr l8, ?_⟩
            clear HK K
            refine AnyN.next (i := 5) (by kernel_rfl) ?_
            refine wpOp_step rfl (fun K hK => ?_)
            have HK := Lib.hid hK
            clear hK
            simp only [List.getElem_toArray, List.getElem_cons_zero, List.getElem_cons_succ]
            rw [if_pos (by rfl)]
            go_simp
            refine HK.out _ _ ⟨.inl (by simp), ?_⟩
            clear HK K
            refine AnyN.done (by kernel_rfl) ?_ _
            gi_wp2
            refine ⟨⟨j + 1, A', c', by simp, by omega, by rw [← HL3.out]; exact H9.out.1, HKb.out, HWb.out⟩, by simp [intOf]; omega⟩
  case done =>
    rintro D ys W hD rfl ⟨A, c, hA⟩ hK
    have hfl : accP s (places s 0) = flatI (rawL s.data.toList) := by unfold accP; rw [places_zero]
    rw [hfl] at hA
    have hlen : (flatI (rawL s.data.toList)).length ≤ 8796093022208 := by
      have h1 := acc_len s (places s 0)
      rw [hfl] at h1
      have := places_le s s.size 0 (by omega)
      have := HSz.out
      omega
    have hap : apartI s.data.toList = ordK keyI [] (flatI (rawL s.data.toList)) := rfl
    have hapl : (apartI s.data.toList).length = (flatI (rawL s.data.toList)).length := by rw [hap, ordK_length]
    obtain ⟨L, hL⟩ : ∃ L, L = flatI (rawL s.data.toList) := ⟨_, rfl⟩
    rw [← hL] at hA hlen hap hapl
    have HAp := Lib.hid (And.intro hap hapl)
    have l1 := hA.ll.cell 0
    simp at l1
    have HA := Lib.hid hA
    have HKd := Lib.hid hK
    have HLl := Lib.hid hlen
    clear hA hK hlen hap hapl hfl hst hW5 har5 hL
    have hor : ∃ g o, ∀ {X : Prop}, (Calls Tryd.prog 115 #[.slice A L.length c, .func (.func 116) #[] #[]] W (fun e w' => e = .returned (.slice A L.length c) ∧ (∀ w'', Stay [D] w' w'' → ItAt w'' A (ordK keyI [] L)) ∧ Stay [g] W w') ∧ (w.heap.size ≤ g) ∧ D ≠ g ∧ o = 0 → X) → X := by
      have hA := HA.out
      cases A with
      | none =>
        have h0 := hA.wn
        rcases h0.2.2.2 with ⟨_, hc0⟩ | ⟨_, _, _, h1, _⟩
        · have hn0 : L.length = 0 := by have := h0.2.1; omega
          obtain rfl : L = [] := List.eq_nil_of_length_eq_zero hn0
          subst hc0
          refine ⟨w.heap.size + D + 1, 0, fun {X} k => k ⟨(orderedI_nil W).mono ?_, by omega, by omega, rfl⟩⟩
          rintro e w' ⟨rfl, hs⟩
          exact ⟨rfl, fun _ _ => .inl rfl, hs.mono (by simp)⟩
        · cases h1
      | some a =>
        obtain ⟨g, o, p⟩ := a
        rcases hA.wn.2.2.2 with ⟨h1, _⟩ | ⟨g', o', M, h1, h2, h3, h4, h5⟩
        · cases h1
        · injection h1 with h1
          injection h1 with e1 e2 e3
          subst e1 e2 e3
          have hc := hA.wn.2.1
          have hcm := hA.wn.2.2.1
          have hseg : SegI W g (M.take o) L (M.drop (o + L.length * 4)) := by
            unfold SegI
            rw [← h5, ← List.drop_drop, List.take_append_drop, List.take_append_drop]
            exact h3
          have hto : o = (M.take o).length := by rw [List.length_take]; omega
          have hDg : D ≠ g := fun e => by
            have := HKd.out
            subst e
            unfold Blk at h3
            rw [this] at h3
            cases h3
          refine ⟨g, 0, fun {X} k => k ⟨(orderedI_any W g o c (M.take o) _ L L.length hseg hto rfl hc hcm (by have := HLl.out; omega)).mono ?_, h2, hDg, rfl⟩⟩
          rintro e w' ⟨rfl, hsg, hs⟩
          refine ⟨rfl, fun w'' hs'' => ?_, hs⟩
          have := (hsg.stay hs'' (by simp; exact fun e => hDg e.symm)).items
          rw [← hto] at this
          exact this
    obtain ⟨g, _, hor⟩ := hor
    refine hor fun ⟨hcall, hg, hDg, _⟩ => ?_
    have HOr := Lib.hid hcall
    have HG := Lib.hid (And.intro hg hDg)
    have HBl := Lib.hid HA.out.bel
    clear hcall hg hDg hor
    gi_wp2
    refine ⟨trivial, (callsIn_wide.2 HOr.out).mono ?_⟩
    rintro e W' ⟨rfl, hit, hst2⟩
    have hK' : W'.heap[D]? = some (.deferred (some [])) := (hst2.block D (Array.getElem?_eq_some_iff.1 HKd.out).1 (by simp; exact HG.out.2)).trans HKd.out
    have HIt := Lib.hid hit
    have HS2 := Lib.hid hst2
    have HKw := Lib.hid hK'
    clear hit hst2 hK'
    gi_wp2
    refine ⟨by simp, .inl ⟨_, _, rfl, run_takeDeferred HKw.out, ?_⟩⟩
    refine ⟨_, results_tmp rfl _ _ _, A, c, by rw [HAp.out.2]; rfl, by rw [HAp.out.1]; exact HIt.out _ (Stay.grown (grownBy_putObj' W' D _) (fun g hg => by cases hg; simp)), ?_⟩
    refine ((Stay.below HBl.out).trans' HS2.out (fun g' hg' => .inr (by simp at hg'; rw [hg']; exact HG.out.1))).trans' (Stay.grown (F := [D]) (grownBy_putObj' W' D _) (fun g hg => by cases hg; simp)) (fun g' hg' => .inr (by simp at hg'; rw [hg']; exact Nat.le_trans HW5.out hD))
  case stop =>
    rintro D c pre W _ _ h _
    exact h.elim
end Go.Proofs.YtlphmcodajookaaDoor
