/- shuttlelaw04: NormParts: the walk. -/
import Derived.Test.YtlphmcodajookaaDoorNwakes
import Derived.Test.YtlphmcodajookaaDoorNquietr
namespace Go.Proofs.YtlphmcodajookaaDoor
open Go.RowKit Go.Shelf
attribute [local go_sem] Oper.semAt_some
/-- the boxes of the law -/
structure PB (w : World) (s : ByteArray) (k : Int) (sb kb rb nb : Nat) (n : Nat) (W : World) : Prop where
  ss : Blk W sb [.string s] 9
  kk : Blk W kb [.int .i64 k] 3
  rr : Blk W rb [.bool false] 4
  nn : Blk W nb [.int .i64 n] 3
  bel : Below w.heap.size w W
theorem PB.stay {w : World} {s : ByteArray} {k : Int} {sb kb rb nb n : Nat} {W W' : World} (h : PB w s k sb kb rb nb n W) {F : List Nat} (hs : Stay F W W') (hF : ∀ g ∈ F, ∀ l t, ¬ Blk W g l t) (hB : ∀ g ∈ F, w.heap.size ≤ g) : PB w s k sb kb rb nb n W' where
  ss := h.ss.stay hs (fun hg => hF _ hg _ _ h.ss)
  kk := h.kk.stay hs (fun hg => hF _ hg _ _ h.kk)
  rr := h.rr.stay hs (fun hg => hF _ hg _ _ h.rr)
  nn := h.nn.stay hs (fun hg => hF _ hg _ _ h.nn)
  bel := h.bel.trans (hs.toBelow h.bel.size hB)
theorem PB.stay0 {w : World} {s : ByteArray} {k : Int} {sb kb rb nb n : Nat} {W W' : World} (h : PB w s k sb kb rb nb n W) (hs : Stay [] W W') : PB w s k sb kb rb nb n W' := h.stay hs (by simp) (by simp)
theorem pb_own {β : Type} (w : World) (s : ByteArray) (k : Int) (sb kb rb nb B : Nat) (f : β → Nat) (hB : w.heap.size ≤ B) : OwnFrom B (fun (pre : β) W => PB w s k sb kb rb nb (f pre) W) := by
  rintro pre W W' row h hg hr
  have key : ∀ g, row = some g → B ≤ g ∧ ∀ l t, ¬ Blk W g l t := fun g e => by
    obtain ⟨h1, o, ho, hc⟩ := hr g e
    refine ⟨h1, fun l t hb => ?_⟩
    unfold Blk at hb
    rw [hb] at ho
    injection ho with ho
    rw [← ho] at hc
    cases hc
  refine h.stay (F := row.toList) (Stay.grown hg (fun g e => by simp [e])) (fun g hh => ?_) (fun g hh => ?_)
  · exact (key g (by simpa using hh)).2
  · have := (key g (by simpa using hh)).1; omega
theorem PB.next {w : World} {s : ByteArray} {k : Int} {sb kb rb nb n : Nat} {W : World} (h : PB w s k sb kb rb nb n W) (hB : w.heap.size ≤ nb) (hne : nb ≠ kb) : PB w s k sb kb rb nb (n + 1) (W.setCell ⟨nb, 0, none⟩ (.int .i64 ((n : Int) + 1))) := by
  have hs : Stay [nb] W (W.setCell ⟨nb, 0, none⟩ (.int .i64 ((n : Int) + 1))) := Stay.setCell _ _ _ (by simp)
  have o1 := Blk.other h.ss h.nn (by decide)
  have o3 := Blk.other h.rr h.nn (by decide)
  exact ⟨h.ss.stay hs (by simpa using o1), h.kk.stay hs (by simpa using fun e : kb = nb => hne e.symm), h.rr.stay hs (by simpa using o3), h.nn.set 0 _, h.bel.trans (hs.toBelow h.bel.size (by simpa using hB))⟩
theorem extract_take (s : ByteArray) (p : Nat) : (s.extract 0 p).data.toList = s.data.toList.take p := by
  rw [ByteArray.data_extract, Array.toList_extract]
  simp
theorem key_place (s : ByteArray) (q : Nat) : keyI (itemP s q) = markN (((dL (restS s q)).1 : Nat) : Int) := by
  rw [← mark_rune]
  unfold itemP
  rw [runeI_item]
def PG (s : ByteArray) (q : Nat) : Prop := apartS s.data.toList = apartS (s.data.toList.take (min q s.size)) ++ apartS (restS s q)
instance (s : ByteArray) (q : Nat) : Decidable (PG s q) := by unfold PG; infer_instance
theorem pg_place {s : ByteArray} {a b : List Nat} {q : Nat} (h : places s 0 = a ++ q :: b) (h0 : keyI (itemP s q) = 0) : PG s q := by
  obtain ⟨_, h2, h3, _⟩ := places_at s a 0 q b h
  have hr : rawL s.data.toList = a.map (itemP s) ++ itemP s q :: b.map (itemP s) := by rw [← places_zero, h]; simp
  have := apart_part hr h0
  rw [h3] at this
  unfold PG
  rw [Nat.min_eq_left (by omega), this]
  have hl : ((restS s 0).take (q - 0)).length = q := by
    rw [List.length_take, restS_len]; omega
  rw [hl]
  rfl
set_option maxRecDepth 100000 in
set_option maxHeartbeats 40000000 in
theorem parts_any (s : ByteArray) (k : Int) (w : World) (hs : s.size ≤ 1048576) (hk : -9223372036854775808 ≤ k ∧ k ≤ 9223372036854775807) (hT : Lib.Utf8Tabs 0 1 w) :
    Calls Tryd.prog 9 #[.string s, .int .i64 k] w fun e w' => e = .returned (.bool true) ∧ Stay [] w w' := by
  have tT : ∀ {W'}, Below w.heap.size w W' → Lib.Utf8Tabs 0 1 W' := fun hs => Utf8Tabs_below hT hs
  have hA : ∀ (t : ByteArray), t.size ≤ 1048576 → ∀ W', Below w.heap.size w W' → Calls Tryd.prog 29 #[.string t] W' fun e w' => e = .returned (.string (str (apartS t.data.toList))) ∧ Stay [] W' w' := fun t ht W' h => apartG_any t W' (by omega) (tT h)
  have HA := Lib.hid hA
  have H26 := Lib.hid (fun W' (h : Below w.heap.size w W') => wakes_any W' (tT h))
  have HT := Lib.hid (fun W' (h : Below w.heap.size w W') => tT h)
  have HSz := Lib.hid hs
  obtain ⟨sb, hsb⟩ : ∃ b, b = w.heap.size := ⟨_, rfl⟩
  obtain ⟨W4, hW4⟩ : ∃ W, W = (((w.alloc (.cells #[.string s] 9)).alloc (.cells #[.int .i64 k] 3)).alloc (.cells #[.bool false] 4)).alloc (.cells #[.int .i64 0] 3) := ⟨_, rfl⟩
  have hst : Stay [] w W4 := by rw [hW4]; exact (((Stay.alloc _ _).alloc').alloc').alloc'
  have hz4 : W4.heap.size = sb + 4 := by rw [hW4, hsb]; simp
  have hpb : PB w s k sb (sb + 1) (sb + 2) (sb + 3) 0 W4 := by
    rw [hW4, hsb]
    have b1 := (((Blk.new w [.string s] 9).stay (F := []) (Stay.alloc _ (.cells #[.int .i64 k] 3)) (by simp)).stay (F := []) (Stay.alloc _ (.cells #[.bool false] 4)) (by simp)).stay (F := []) (Stay.alloc _ (.cells #[.int .i64 0] 3)) (by simp)
    have b2 := ((Blk.new (w.alloc (.cells #[.string s] 9)) [.int .i64 k] 3).stay (F := []) (Stay.alloc _ (.cells #[.bool false] 4)) (by simp)).stay (F := []) (Stay.alloc _ (.cells #[.int .i64 0] 3)) (by simp)
    have b3 := (Blk.new ((w.alloc (.cells #[.string s] 9)).alloc (.cells #[.int .i64 k] 3)) [.bool false] 4).stay (F := []) (Stay.alloc _ (.cells #[.int .i64 0] 3)) (by simp)
    have b4 := Blk.new (((w.alloc (.cells #[.string s] 9)).alloc (.cells #[.int .i64 k] 3)).alloc (.cells #[.bool false] 4)) [.int .i64 0] 3
    simp only [size_alloc'] at b1 b2 b3 b4
    refine ⟨b1, b2, b3, b4, ?_⟩
    have := hst.toBelow (Nat.le_refl _) (by simp)
    rw [hW4] at this
    exact this
  have HW4 := Lib.hid hW4
  have HPB := Lib.hid hpb
  have HZ := Lib.hid (And.intro hz4 hsb)
  have HC37 := Lib.hid (all_any s W4)
  have s4 := hpb.ss.cell 0
  simp at s4
  have hsz : w.heap.size = sb := hsb.symm
  have hs4 : ∀ x y z : Obj, ((((w.alloc (.cells #[.string s] 9)).alloc x).alloc y).alloc z).cell? ⟨sb, 0, none⟩ = some (.string s) := fun x y z => by
    have b1 := (((Blk.new w [.string s] 9).stay (F := []) (Stay.alloc _ x) (by simp)).stay (F := []) (Stay.alloc _ y) (by simp)).stay (F := []) (Stay.alloc _ z) (by simp)
    have := b1.cell 0
    rw [← hsb] at this
    simpa using this
  obtain ⟨kb, hkb⟩ : ∃ b, sb + 1 = b := ⟨_, rfl⟩
  obtain ⟨rb, hrb⟩ : ∃ b, kb + 1 = b := ⟨_, rfl⟩
  obtain ⟨nb, hnb⟩ : ∃ b, rb + 1 = b := ⟨_, rfl⟩
  have HNb := Lib.hid (show w.heap.size ≤ nb ∧ nb ≠ kb ∧ w.heap.size ≤ rb from by omega)
  rw [show sb + 3 = nb by omega, show sb + 2 = rb by omega, hkb] at HPB
  clear hst hz4 hpb hW4 hA tT hT hsb
  have heql : ∀ (b : Nat) (W : World), (binOp .eql 37 (.func (.func 80) #[] #[.pointer (some ⟨b, 0, none⟩)]) .nilFunc).run Tryd.prog W = .ok (.bool false) W := fun b W => by kernel_rfl
  refine (callsIn_wide (n := 3)).1 ?_
  refine callsIn_of_wp_marks Tryd.func9 rfl trivial ?_ rfl
  simp only [Tryd.ntmps9, List.size_toArray, List.length_cons, List.length_nil, Nat.reduceAdd, Nat.reduceSub, Array.replicate_succ, Array.replicate_zero, List.push_toArray, List.append_toArray, List.nil_append, List.cons_append]
  gi_wp2
  rw [← HW4.out]
  refine ⟨trivial, (callsIn_wide.2 HC37.out).mono ?_⟩
  rintro e W5 ⟨rfl, hW5⟩
  gi_wp2
  have hst := all_stops W5 2 W4.heap.size s (by rw [hW5]; exact box_1 W4 (.string s) 9)
  have hb5 : Stay [] W4 W5 := by rw [hW5]; exact Stay.alloc _ _
  have hp5 := HPB.out.stay0 hb5
  have HW5 := Lib.hid (show w.heap.size ≤ W5.heap.size from hp5.bel.size)
  rw [← hW5]
  clear hb5 hsz hkb hrb hnb
  refine wpIn_rangeFunc_ownF (F := Fence.wide) rfl (by omega) (gf := 80) (lb := #[.pointer (some ⟨W4.heap.size, 0, none⟩)]) rfl trivial (enters_of Tryd.func80 (by kernel_rfl) rfl) hst walksK_t walksK_b (Below.refl _ _) (fun _ => rfl)
    (fun pre W => PB w s k sb kb rb nb pre.length W)
    (fun c pre W => (c = .ret ∧ ∃ pre' q, pre = pre' ++ [q] ∧ keyI (itemP s q) = 0 ∧ ¬ PG s q) ∨ (c = .exit 0 ∧ ∃ m, PB w s k sb kb rb nb m W))
    (pb_own w s k sb kb rb nb W5.heap.size List.length HW5.out) (fun c pre W W' row h hg hr => by
      rcases h with h | ⟨h1, m, h2⟩
      · exact .inl h
      · exact .inr ⟨h1, m, pb_own w s k sb kb rb nb W5.heap.size (fun _ : Unit => m) HW5.out () W W' row h2 hg hr⟩)
    hp5
    (fun q => { tmps := #[.string s, .int .i64 k, .pointer (some ⟨sb, 0, none⟩), .pointer (some ⟨kb, 0, none⟩), .pointer (some ⟨rb, 0, none⟩), .pointer (some ⟨nb, 0, none⟩), .func (.func 80) #[] #[.pointer (some ⟨W4.heap.size, 0, none⟩)],
      .int .i64 ((min q s.size : Nat) : Int), .int .i32 (dL (restS s q)).1, undef, undef, undef, .string s, .func (.func 80) #[] #[.pointer (some ⟨W4.heap.size, 0, none⟩)], .func (.func 80) #[] #[.pointer (some ⟨W4.heap.size, 0, none⟩)], .bool false, .func (.func 80) #[] #[.pointer (some ⟨W4.heap.size, 0, none⟩)], .int .i64 ((min q s.size : Nat) : Int), .int .i32 (dL (restS s q)).1,
      undef, undef, undef, undef, undef, undef, undef, undef, undef, undef, undef, undef, undef, undef, undef, undef, undef, undef, undef, undef, undef, undef, undef, undef, undef, undef, undef, undef, undef, undef, undef, undef, undef, undef, undef, undef, undef, undef, undef, undef, undef, undef, undef, undef, undef, undef, undef], defers := [] }) ?assign ?body ?done ?stop
  case assign =>
    intro l x W K hK
    unfold encA
    gi_wp2
    exact hK
  case body =>
    rintro l pre q W hP hpl
    have hnx := next_any (s.extract (min q s.size) s.size) W (HT.out W hP.bel)
    rw [extract_rest, restS_min] at hnx
    have hky := key_place s q
    have hpg : PG s q ↔ apartS s.data.toList = apartS (s.data.toList.take (min q s.size)) ++ apartS (restS s q) := Iff.rfl
    have hx1 := HA.out s (by have := HSz.out; omega)
    have hx2 := HA.out (s.extract 0 (min q s.size)) (by have := HSz.out; rw [ByteArray.size_extract]; omega)
    have hx3 := HA.out (s.extract (min q s.size) s.size) (by have := HSz.out; rw [ByteArray.size_extract]; omega)
    rw [extract_take] at hx2
    rw [extract_rest, restS_min] at hx3
    obtain ⟨p, hp⟩ : ∃ p, p = min q s.size := ⟨_, rfl⟩
    have hps : (p : Int) ≤ s.size := by omega
    have hp0 : (0 : Int) ≤ p := by omega
    rw [← hp] at hnx hx2 hx3 hpg ⊢
    have hlb := apartS_len (s.data.toList.take p)
    have hlc := apartS_len (restS s q)
    have hlb2 : (s.data.toList.take p).length ≤ 1048576 := Nat.le_trans (List.length_take_le _ _) (by have := HSz.out; omega)
    have hlc2 : (restS s q).length ≤ 1048576 := by rw [restS_len]; have := HSz.out; omega
    obtain ⟨xa, hxa⟩ : ∃ x, x = apartS s.data.toList := ⟨_, rfl⟩
    obtain ⟨xb, hxb⟩ : ∃ x, x = apartS (s.data.toList.take p) := ⟨_, rfl⟩
    obtain ⟨xc, hxc⟩ : ∃ x, x = apartS (restS s q) := ⟨_, rfl⟩
    rw [← hxa] at hx1 hpg
    rw [← hxb] at hx2 hpg hlb
    rw [← hxc] at hx3 hpg hlc
    have HSum := Lib.hid (show ¬ (9223372036854775807 < (str xb).size + (str xc).size) from by rw [str_size, str_size]; omega)
    obtain ⟨r, hr⟩ : ∃ r : Int, r = (((dL (restS s q)).1 : Nat) : Int) := ⟨_, rfl⟩
    rw [← hr] at hky ⊢
    obtain ⟨r0, hr0⟩ : ∃ r0 : Nat, r0 = (nextD (restS s q)).1 := ⟨_, rfl⟩
    obtain ⟨n0, hn0⟩ : ∃ n0 : Nat, n0 = (nextD (restS s q)).2 := ⟨_, rfl⟩
    have hsame : nextD (restS s q) = (r0, n0) := by rw [hr0, hn0]
    rw [← hr0, ← hn0] at hnx
    have hmk := fun W' => mark_any r W'
    obtain ⟨m, hm⟩ : ∃ m, m = markN r := ⟨_, rfl⟩
    rw [← hm] at hmk hky
    obtain ⟨n, hn⟩ : ∃ n, n = pre.length := ⟨_, rfl⟩
    have hnl : n ≤ 1048576 := by have := HSz.out; omega
    rw [← hn] at hP
    have HNx := Lib.hid hnx
    have HP0 := Lib.hid hP
    have HMk := Lib.hid hmk
    have HX1 := Lib.hid hx1
    have HX2 := Lib.hid hx2
    have HX3 := Lib.hid hx3
    have HPg := Lib.hid hpg
    have HKy := Lib.hid hky
    have HRr := Lib.hid (show r = 65533 → m = 0 from fun h => by rw [hm, h]; exact atom_bad.2)
    have HNn := Lib.hid hn
    have s1 := hP.ss.cell 0
    simp at s1
    clear hlb hlc hlb2 hlc2 hnx hP hmk hx1 hx2 hx3 hpg hky hxa hxb hxc hr hr0 hn0 hsame hm hn hst hW5 hp5 hp
    by_cases hc : m = 0 ∧ k ≤ n
    · obtain ⟨h1, h3⟩ := hc
      subst h1
      have h3b : decide (k ≤ (n : Int)) = true := decide_eq_true h3
      gi_wp2
      refine ⟨trivial, (CallsIn.inRound l (callsIn_wide.2 HNx.out)).mono ?_⟩
      rintro e W6 ⟨rfl, hs6⟩
      have HK6 := Lib.hid (others_stay hs6 (by simp))
      have HP6 := Lib.hid (HP0.out.stay0 hs6)
      clear hs6
      gi_wp2
      refine ⟨trivial, (CallsIn.inRound l (callsIn_wide.2 (HMk.out W6))).mono ?_⟩
      rintro e W7 ⟨rfl, hs7⟩
      have HK7 := Lib.hid (HK6.out.trans (others_stay hs7 (by simp)))
      have HP7 := Lib.hid (HP6.out.stay0 hs7)
      clear hs7
      gi_wp2
      have HD7 := Lib.hid (HP7.out.stay0 (Stay.drew W7))
      have hsum := HSum.out
      have hcat : str xb ++ str xc = str (xb ++ xc) := by
        apply ByteArray.ext
        simp [str]
      obtain ⟨pgb, hpgb⟩ : ∃ b, b = decide (xa = xb ++ xc) := ⟨_, rfl⟩
      have hc1 : ((str xa).toList == (str (xb ++ xc)).toList) = pgb := by rw [str_toList, str_toList, hpgb, Bool.eq_iff_iff]; simp
      have hc2 : ((str xa).toList != (str (xb ++ xc)).toList) = !pgb := by rw [bne, hc1]
      have HPb := Lib.hid hpgb
      have d1 := HD7.out.nn.cell 0
      have d2 := HD7.out.kk.cell 0
      have d3 := HD7.out.ss.cell 0
      simp at d1 d2 d3
      have hHeld : (fun w' : World => w'.cell? ⟨nb, 0, none⟩ = some (.int .i64 n) ∧ w'.cell? ⟨kb, 0, none⟩ = some (.int .i64 k) ∧ w'.cell? ⟨sb, 0, none⟩ = some (.string s)) W7.drew := ⟨by simpa using d1, by simpa using d2, by simpa using d3⟩
      clear hpgb d1 d2 d3
      refine AnyN.round (fun w' : World => w'.cell? ⟨nb, 0, none⟩ = some (.int .i64 n) ∧ w'.cell? ⟨kb, 0, none⟩ = some (.int .i64 k) ∧ w'.cell? ⟨sb, 0, none⟩ = some (.string s)) [] (by kernel_rfl) (by kernel_rfl) (by rintro ⟨_, _, h⟩; exact h) ?_
      refine AnyN.takeS (i := 0) (v := ?_) rfl (by kernel_rfl) (by kernel_rfl) (by kernel_rfl) rfl (fun _ _ _ h => h) (Or.inl ⟨by rfl, ?_⟩) hHeld ?_
      rotate_left
      · intro w hSw
        obtain ⟨k0, k1, k2⟩ := hSw
        simp only [List.getElem_toArray, List.getElem_cons_zero]
        go_simp
        all_goals with_reducible rfl
      simp only [List.getElem_toArray, List.getElem_cons_zero, Act.put, List.setIfInBounds_toArray, List.set_cons_zero, List.set_cons_succ]
      refine AnyN.takeS (i := 1) (v := ?_) rfl (by kernel_rfl) (by kernel_rfl) (by kernel_rfl) rfl (fun _ _ _ h => h) (Or.inl ⟨by rfl, ?_⟩) hHeld ?_
      rotate_left
      · intro w hSw
        obtain ⟨k0, k1, k2⟩ := hSw
        simp only [List.getElem_toArray, List.getElem_cons_zero, List.getElem_cons_succ]
        go_simp
        all_goals with_reducible rfl
      simp only [List.getElem_toArray, List.getElem_cons_zero, List.getElem_cons_succ, Act.put, List.setIfInBounds_toArray, List.set_cons_zero, List.set_cons_succ]
      refine AnyN.takeS (i := 2) (v := ?_) rfl (by kernel_rfl) (by kernel_rfl) (by kernel_rfl) rfl (fun _ _ _ h => h) (Or.inl ⟨by rfl, ?_⟩) hHeld ?_
      rotate_left
      · intro w hSw
        obtain ⟨k0, k1, k2⟩ := hSw
        simp only [List.getElem_toArray, List.getElem_cons_zero, List.getElem_cons_succ]
        go_simp
        all_goals with_reducible rfl
      simp only [List.getElem_toArray, List.getElem_cons_zero, List.getElem_cons_succ, Act.put, List.setIfInBounds_toArray, List.set_cons_zero, List.set_cons_succ]
      refine AnyN.takeS (i := 3) (v := ?_) rfl (by kernel_rfl) (by kernel_rfl) (by kernel_rfl) rfl (fun _ _ _ h => h) (Or.inl ⟨by rfl, ?_⟩) hHeld ?_
      rotate_left
      · intro w hSw
        obtain ⟨k0, k1, k2⟩ := hSw
        simp only [List.getElem_toArray, List.getElem_cons_zero, List.getElem_cons_succ]
        go_simp
        all_goals with_reducible rfl
      simp only [List.getElem_toArray, List.getElem_cons_zero, List.getElem_cons_succ, Act.put, List.setIfInBounds_toArray, List.set_cons_zero, List.set_cons_succ]
      refine AnyN.takeS (i := 4) (v := ?_) rfl (by kernel_rfl) (by kernel_rfl) (by kernel_rfl) rfl (fun _ _ _ h => h) (Or.inl ⟨by rfl, ?_⟩) hHeld ?_
      rotate_left
      · intro w hSw
        obtain ⟨k0, k1, k2⟩ := hSw
        simp only [List.getElem_toArray, List.getElem_cons_zero, List.getElem_cons_succ]
        go_simp
        all_goals with_reducible rfl
      simp only [List.getElem_toArray, List.getElem_cons_zero, List.getElem_cons_succ, Act.put, List.setIfInBounds_toArray, List.set_cons_zero, List.set_cons_succ]
      refine AnyN.takeS (i := 5) (v := ?_) rfl (by kernel_rfl) (by kernel_rfl) (by kernel_rfl) rfl (fun _ _ _ h => h) (Or.inl ⟨by rfl, ?_⟩) hHeld ?_
      rotate_left
      · intro w hSw
        obtain ⟨k0, k1, k2⟩ := hSw
        simp only [List.getElem_toArray, List.getElem_cons_zero, List.getElem_cons_succ]
        go_simp
        all_goals with_reducible rfl
      simp only [List.getElem_toArray, List.getElem_cons_zero, List.getElem_cons_succ, Act.put, List.setIfInBounds_toArray, List.set_cons_zero, List.set_cons_succ]
      refine AnyN.takeS (i := 6) (v := ?_) rfl (by kernel_rfl) (by kernel_rfl) (by kernel_rfl) rfl (fun _ _ _ h => h) (Or.inl ⟨by rfl, ?_⟩) hHeld ?_
      rotate_left
      · intro w hSw
        obtain ⟨k0, k1, k2⟩ := hSw
        simp only [List.getElem_toArray, List.getElem_cons_zero, List.getElem_cons_succ]
        go_simp
        all_goals with_reducible rfl
      simp only [List.getElem_toArray, List.getElem_cons_zero, List.getElem_cons_succ, Act.put, List.setIfInBounds_toArray, List.set_cons_zero, List.set_cons_succ]
      refine AnyN.takeS (i := 7) (v := ?_) rfl (by kernel_rfl) (by kernel_rfl) (by kernel_rfl) rfl (fun _ _ _ h => h) (Or.inl ⟨by rfl, ?_⟩) hHeld ?_
      rotate_left
      · intro w hSw
        obtain ⟨k0, k1, k2⟩ := hSw
        simp only [List.getElem_toArray, List.getElem_cons_zero, List.getElem_cons_succ]
        go_simp
        all_goals with_reducible rfl
      simp only [List.getElem_toArray, List.getElem_cons_zero, List.getElem_cons_succ, Act.put, List.setIfInBounds_toArray, List.set_cons_zero, List.set_cons_succ]
      refine AnyN.takeS (i := 9) (v := ?_) rfl (by kernel_rfl) (by kernel_rfl) (by kernel_rfl) rfl (fun _ _ _ h => h) (Or.inl ⟨by rfl, ?_⟩) hHeld ?_
      rotate_left
      · intro w hSw
        obtain ⟨k0, k1, k2⟩ := hSw
        simp only [List.getElem_toArray, List.getElem_cons_zero, List.getElem_cons_succ]
        go_simp
        all_goals with_reducible rfl
      simp only [List.getElem_toArray, List.getElem_cons_zero, List.getElem_cons_succ, Act.put, List.setIfInBounds_toArray, List.set_cons_zero, List.set_cons_succ]
      refine AnyN.takeS (i := 10) (v := ?_) rfl (by kernel_rfl) (by kernel_rfl) (by kernel_rfl) rfl (fun _ _ _ h => h) (Or.inl ⟨by rfl, ?_⟩) hHeld ?_
      rotate_left
      · intro w hSw
        obtain ⟨k0, k1, k2⟩ := hSw
        simp only [List.getElem_toArray, List.getElem_cons_zero, List.getElem_cons_succ]
        go_simp
        all_goals with_reducible rfl
      simp only [List.getElem_toArray, List.getElem_cons_zero, List.getElem_cons_succ, Act.put, List.setIfInBounds_toArray, List.set_cons_zero, List.set_cons_succ]
      refine AnyN.takeS (i := 11) (v := ?_) rfl (by kernel_rfl) (by kernel_rfl) (by kernel_rfl) rfl (fun _ _ _ h => h) (Or.inl ⟨by rfl, ?_⟩) hHeld ?_
      rotate_left
      · intro w hSw
        obtain ⟨k0, k1, k2⟩ := hSw
        simp only [List.getElem_toArray, List.getElem_cons_zero, List.getElem_cons_succ]
        go_simp
        all_goals with_reducible rfl
      simp only [List.getElem_toArray, List.getElem_cons_zero, List.getElem_cons_succ, Act.put, List.setIfInBounds_toArray, List.set_cons_zero, List.set_cons_succ]
      refine AnyN.takeS (i := 13) (v := ?_) rfl (by kernel_rfl) (by kernel_rfl) (by kernel_rfl) rfl (fun _ _ _ h => h) (Or.inl ⟨by rfl, ?_⟩) hHeld ?_
      rotate_left
      · intro w hSw
        obtain ⟨k0, k1, k2⟩ := hSw
        simp only [List.getElem_toArray, List.getElem_cons_zero, List.getElem_cons_succ]
        go_simp
        all_goals with_reducible rfl
      simp only [List.getElem_toArray, List.getElem_cons_zero, List.getElem_cons_succ, Act.put, List.setIfInBounds_toArray, List.set_cons_zero, List.set_cons_succ]
      refine AnyN.takeS (i := 14) (v := ?_) rfl (by kernel_rfl) (by kernel_rfl) (by kernel_rfl) rfl (fun _ _ _ h => h) (Or.inl ⟨by rfl, ?_⟩) hHeld ?_
      rotate_left
      · intro w hSw
        obtain ⟨k0, k1, k2⟩ := hSw
        simp only [List.getElem_toArray, List.getElem_cons_zero, List.getElem_cons_succ]
        go_simp
        all_goals with_reducible rfl
      simp only [List.getElem_toArray, List.getElem_cons_zero, List.getElem_cons_succ, Act.put, List.setIfInBounds_toArray, List.set_cons_zero, List.set_cons_succ]
      refine AnyN.takeS (i := 15) (v := ?_) rfl (by kernel_rfl) (by kernel_rfl) (by kernel_rfl) rfl (fun _ _ _ h => h) (Or.inl ⟨by rfl, ?_⟩) hHeld ?_
      rotate_left
      · intro w hSw
        obtain ⟨k0, k1, k2⟩ := hSw
        simp only [List.getElem_toArray, List.getElem_cons_zero, List.getElem_cons_succ]
        go_simp
        all_goals with_reducible rfl
      simp only [List.getElem_toArray, List.getElem_cons_zero, List.getElem_cons_succ, Act.put, List.setIfInBounds_toArray, List.set_cons_zero, List.set_cons_succ]
      refine AnyN.next (i := 8) (by kernel_rfl) ?_
      refine wpOp_step rfl (fun K hK => ?_)
      have HK := Lib.hid hK
      clear hK
      simp only [List.getElem_toArray, List.getElem_cons_zero, List.getElem_cons_succ]
      rw [if_pos (by rfl)]
      go_wp2_with (go_at_call 29; refine (HX1.out _ HD7.out.bel).mono ?_; rintro e W8 ⟨rfl, hs8⟩)
      have HPW8 := Lib.hid (HD7.out.stay0 hs8)
      have HKW8 := Lib.hid ((HK7.out.trans (others_stay (Stay.drew (F := []) W7) (by simp))).trans (others_stay hs8 (by simp)))
      have y81 := HPW8.out.nn.cell 0
      have y82 := HPW8.out.kk.cell 0
      have y83 := HPW8.out.ss.cell 0
      simp at y81 y82 y83
      clear hs8
      refine HK.out _ _ ⟨.inr ⟨y81, y82, y83⟩, ?_⟩
      clear HK K
      refine AnyN.next (i := 12) (by kernel_rfl) ?_
      refine wpOp_step rfl (fun K hK => ?_)
      have HK := Lib.hid hK
      clear hK
      simp only [List.getElem_toArray, List.getElem_cons_zero, List.getElem_cons_succ]
      rw [if_pos (by rfl)]
      go_wp2_with (go_at_call 29; refine (HX2.out _ HPW8.out.bel).mono ?_; rintro e W9 ⟨rfl, hs9⟩)
      have HPW9 := Lib.hid (HPW8.out.stay0 hs9)
      have HKW9 := Lib.hid (HKW8.out.trans (others_stay hs9 (by simp)))
      have y91 := HPW9.out.nn.cell 0
      have y92 := HPW9.out.kk.cell 0
      have y93 := HPW9.out.ss.cell 0
      simp at y91 y92 y93
      clear hs9
      refine HK.out _ _ ⟨.inr ⟨y91, y92, y93⟩, ?_⟩
      clear HK K
      refine AnyN.next (i := 16) (by kernel_rfl) ?_
      refine wpOp_step rfl (fun K hK => ?_)
      have HK := Lib.hid hK
      clear hK
      simp only [List.getElem_toArray, List.getElem_cons_zero, List.getElem_cons_succ]
      rw [if_pos (by rfl)]
      go_wp2_with (go_at_call 29; refine (HX3.out _ HPW9.out.bel).mono ?_; rintro e W10 ⟨rfl, hs10⟩)
      have HPW10 := Lib.hid (HPW9.out.stay0 hs10)
      have HKW10 := Lib.hid (HKW9.out.trans (others_stay hs10 (by simp)))
      have y101 := HPW10.out.nn.cell 0
      have y102 := HPW10.out.kk.cell 0
      have y103 := HPW10.out.ss.cell 0
      simp at y101 y102 y103
      clear hs10
      refine HK.out _ _ ⟨.inr ⟨y101, y102, y103⟩, ?_⟩
      clear HK K
      refine AnyN.takeS (i := 17) (v := ?_) rfl (by kernel_rfl) (by kernel_rfl) (by kernel_rfl) rfl (fun _ _ _ h => h) (Or.inl ⟨by rfl, ?_⟩) ⟨y101, y102, y103⟩ ?_
      rotate_left
      · intro w hSw
        obtain ⟨k0, k1, k2⟩ := hSw
        simp only [List.getElem_toArray, List.getElem_cons_zero, List.getElem_cons_succ]
        go_simp
        all_goals with_reducible rfl
      simp only [List.getElem_toArray, List.getElem_cons_zero, List.getElem_cons_succ, Act.put, List.setIfInBounds_toArray, List.set_cons_zero, List.set_cons_succ]
      refine AnyN.takeS (i := 18) (v := ?_) rfl (by kernel_rfl) (by kernel_rfl) (by kernel_rfl) rfl (fun _ _ _ h => h) (Or.inl ⟨by rfl, ?_⟩) ⟨y101, y102, y103⟩ ?_
      rotate_left
      · intro w hSw
        obtain ⟨k0, k1, k2⟩ := hSw
        simp only [List.getElem_toArray, List.getElem_cons_zero, List.getElem_cons_succ]
        go_simp
        all_goals with_reducible rfl
      simp only [List.getElem_toArray, List.getElem_cons_zero, List.getElem_cons_succ, Act.put, List.setIfInBounds_toArray, List.set_cons_zero, List.set_cons_succ]
      refine AnyN.takeS (i := 19) (v := ?_) rfl (by kernel_rfl) (by kernel_rfl) (by kernel_rfl) rfl (fun _ _ _ h => h) (Or.inl ⟨by rfl, ?_⟩) ⟨y101, y102, y103⟩ ?_
      rotate_left
      · intro w hSw
        obtain ⟨k0, k1, k2⟩ := hSw
        simp only [List.getElem_toArray, List.getElem_cons_zero, List.getElem_cons_succ]
        go_simp
        all_goals with_reducible rfl
      simp only [List.getElem_toArray, List.getElem_cons_zero, List.getElem_cons_succ, Act.put, List.setIfInBounds_toArray, List.set_cons_zero, List.set_cons_succ]
      refine AnyN.done (by kernel_rfl) ?_ _
      have f10 := HPW10.out.rr.free 0
      have r10 := HPW10.out.rr.cell 0
      simp at r10
      cases pgb with
      | true =>
        gi_wp2
        exact ⟨HKW10.out, .inr ⟨rfl, n, HPW10.out⟩⟩
      | false =>
        gi_wp2
        exact ⟨HKW10.out.trans (KeepsOthers.setCell _ _ _), .inl ⟨rfl, pre, q, rfl, HKy.out, fun h => by have h1 := HPb.out; rw [decide_eq_true (HPg.out.1 h)] at h1; cases h1⟩⟩
    · rcases (show (m = 0 ∧ ¬ k ≤ n) ∨ (¬ m = 0 ∧ (n0 : Int) = 1 ∧ k ≤ n) ∨ (¬ m = 0 ∧ (n0 : Int) = 1 ∧ ¬ k ≤ n) ∨ (¬ m = 0 ∧ ¬ (n0 : Int) = 1 ∧ k ≤ n) ∨ (¬ m = 0 ∧ ¬ (n0 : Int) = 1 ∧ ¬ k ≤ n) from by
        by_cases h1 : m = 0
        · exact .inl ⟨h1, fun h => hc ⟨h1, h⟩⟩
        · by_cases h2 : (n0 : Int) = 1 <;> by_cases h3 : k ≤ n <;> simp [h1, h2, h3]) with ⟨h1, h3⟩ | ⟨h1, h2, h3⟩ | ⟨h1, h2, h3⟩ | ⟨h1, h2, h3⟩ | ⟨h1, h2, h3⟩
      all_goals
        have hrb : m = 0 ∨ (r == 65533) = false := by
          by_cases h : m = 0
          · exact .inl h
          · exact .inr (by simpa using fun hh => h (HRr.out hh))
        have hrb2 : ¬ m = 0 → (r == 65533) = false := fun h => hrb.resolve_left h
        first | (have hr6 := hrb2 h1) | skip
        clear hc hrb hrb2
        first | (have h3b : decide (k ≤ (n : Int)) = true := decide_eq_true h3) | (have h3b : decide (k ≤ (n : Int)) = false := decide_eq_false h3; have h3c : (k ≤ (n : Int)) = False := eq_false h3; have h3d : (n : Int) < k := by omega)
        gi_wp2
        refine ⟨trivial, (CallsIn.inRound l (callsIn_wide.2 HNx.out)).mono ?_⟩
        rintro e W6 ⟨rfl, hs6⟩
        have HK6 := Lib.hid (others_stay hs6 (by simp))
        have HP6 := Lib.hid (HP0.out.stay0 hs6)
        clear hs6
        gi_wp2
        refine ⟨trivial, (CallsIn.inRound l (callsIn_wide.2 (HMk.out W6))).mono ?_⟩
        rintro e W7 ⟨rfl, hs7⟩
        have HK7 := Lib.hid (HK6.out.trans (others_stay hs7 (by simp)))
        have HP7 := Lib.hid (HP6.out.stay0 hs7)
        have k7 := HP7.out.kk.cell 0
        have n7 := HP7.out.nn.cell 0
        have f7 := HP7.out.nn.free 0
        simp at k7 n7 f7
        clear hs7
        gi_wp2
        have hn64 : wrap64 ((n : Int) + 1) = (n : Int) + 1 := by unfold wrap64; omega
        refine quiet_round (by kernel_rfl) (by kernel_rfl) (by kernel_rfl) (by rintro ⟨_, _, h⟩; exact h) ?_
        iterate 20 (refine quietH_step (fun K HK => ?_); go_simp; refine HK.out _ ?_; clear HK K)
        refine quietH_nil ?_
        intro _ hw'
        obtain ⟨nq, hw''⟩ := hw'
        subst hw''
        have HK8 := Lib.hid (HK7.out.trans (others_stay (Stay.drewN (F := []) W7 nq) (by simp)))
        have HP8 := Lib.hid (HP7.out.stay0 (Stay.drewN (F := []) W7 nq))
        gi_wp2
        have HK9 := Lib.hid (HK8.out.trans (KeepsOthers.setCell _ ⟨nb, 0, none⟩ (.int .i64 ((n : Int) + 1))))
        exact ⟨HK9.out, HK9.out.walks, by show PB w s k sb kb rb nb (pre ++ [q]).length _; rw [List.length_append, List.length_singleton, ← HNn.out]; exact HP8.out.next HNb.out.1 HNb.out.2.1⟩
  case done =>
    rintro D ys W hD rfl hP hK
    have HWk := Lib.hid (H26.out W hP.bel)
    have HP := Lib.hid hP
    have HKd := Lib.hid hK
    clear hP hK hst hW5 hp5
    gi_wp2
    refine ⟨trivial, (callsIn_wide.2 HWk.out).mono ?_⟩
    rintro e W' ⟨rfl, hs'⟩
    have hP2 := HP.out.stay0 hs'
    have hK' : W'.heap[D]? = some (.deferred (some [])) := (hs'.block D (Array.getElem?_eq_some_iff.1 HKd.out).1 (by simp)).trans HKd.out
    have f1 := hP2.rr.free 0
    have r1 := hP2.rr.cell 0
    simp at r1
    obtain ⟨V, hV⟩ : ∃ V, V = W'.setCell ⟨rb, 0, none⟩ (.bool true) := ⟨_, rfl⟩
    have hsv : Stay [rb] W' V := by rw [hV]; exact Stay.setCell _ _ _ (by simp)
    have hDr : D ≠ rb := fun e => by
      have := hP2.rr
      subst e
      unfold Blk at this
      rw [hK'] at this
      cases this
    have hKv : V.heap[D]? = some (.deferred (some [])) := (hsv.block D (Array.getElem?_eq_some_iff.1 hK').1 (by simpa using hDr)).trans hK'
    have hrv : Blk V rb [.bool true] 4 := by rw [hV]; exact hP2.rr.set 0 _
    have HV := Lib.hid hV
    have HRv := Lib.hid hrv
    have HKv := Lib.hid hKv
    have HBv := Lib.hid (hP2.bel.trans (hsv.toBelow hP2.bel.size (by simpa using HNb.out.2.2)))
    have HDr := Lib.hid hDr
    clear hs' hP2 hK' hV hsv hDr hrv hKv
    gi_wp2
    rw [← HV.out]
    refine ⟨by simp, .inl ⟨_, _, rfl, run_takeDeferred HKv.out, ?_⟩⟩
    have hsD : Stay [D] V (V.putObj D (.deferred none)) := Stay.grown (grownBy_putObj' V D _) (fun g hg => by cases hg; simp)
    have hrc := (HRv.out.stay hsD (by simpa using fun e : rb = D => HDr.out e.symm)).cell 0
    simp at hrc
    exact ⟨.bool true, by simp [results, Tryd.results9, go_sem, hrc], rfl, (Stay.below HBv.out).trans' hsD (fun g hg => .inr (by simp at hg; rw [hg]; exact Nat.le_trans HW5.out hD))⟩
  case stop =>
    rintro D c pre W hD ⟨hpre, hne⟩ hIx hK
    rcases hIx with ⟨rfl, pre', q, rfl, h0, hnp⟩ | ⟨rfl, m, hP⟩
    · obtain ⟨rest, hrest⟩ := hpre
      exact absurd (pg_place (a := pre') (b := rest) (q := q) (by rw [← hrest]; simp) h0) hnp
    have HWk := Lib.hid (H26.out W hP.bel)
    have HP := Lib.hid hP
    have HKd := Lib.hid hK
    clear hP hK hst hW5 hp5
    gi_wp2
    refine ⟨trivial, (callsIn_wide.2 HWk.out).mono ?_⟩
    rintro e W' ⟨rfl, hs'⟩
    have hP2 := HP.out.stay0 hs'
    have hK' : W'.heap[D]? = some (.deferred (some [])) := (hs'.block D (Array.getElem?_eq_some_iff.1 HKd.out).1 (by simp)).trans HKd.out
    have f1 := hP2.rr.free 0
    have r1 := hP2.rr.cell 0
    simp at r1
    obtain ⟨V, hV⟩ : ∃ V, V = W'.setCell ⟨rb, 0, none⟩ (.bool true) := ⟨_, rfl⟩
    have hsv : Stay [rb] W' V := by rw [hV]; exact Stay.setCell _ _ _ (by simp)
    have hDr : D ≠ rb := fun e => by
      have := hP2.rr
      subst e
      unfold Blk at this
      rw [hK'] at this
      cases this
    have hKv : V.heap[D]? = some (.deferred (some [])) := (hsv.block D (Array.getElem?_eq_some_iff.1 hK').1 (by simpa using hDr)).trans hK'
    have hrv : Blk V rb [.bool true] 4 := by rw [hV]; exact hP2.rr.set 0 _
    have HV := Lib.hid hV
    have HRv := Lib.hid hrv
    have HKv := Lib.hid hKv
    have HBv := Lib.hid (hP2.bel.trans (hsv.toBelow hP2.bel.size (by simpa using HNb.out.2.2)))
    have HDr := Lib.hid hDr
    clear hs' hP2 hK' hV hsv hDr hrv hKv
    gi_wp2
    rw [← HV.out]
    refine ⟨by simp, .inl ⟨_, _, rfl, run_takeDeferred HKv.out, ?_⟩⟩
    have hsD : Stay [D] V (V.putObj D (.deferred none)) := Stay.grown (grownBy_putObj' V D _) (fun g hg => by cases hg; simp)
    have hrc := (HRv.out.stay hsD (by simpa using fun e : rb = D => HDr.out e.symm)).cell 0
    simp at hrc
    exact ⟨.bool true, by simp [results, Tryd.results9, go_sem, hrc], rfl, (Stay.below HBv.out).trans' hsD (fun g hg => .inr (by simp at hg; rw [hg]; exact Nat.le_trans HW5.out hD))⟩
end Go.Proofs.YtlphmcodajookaaDoor
