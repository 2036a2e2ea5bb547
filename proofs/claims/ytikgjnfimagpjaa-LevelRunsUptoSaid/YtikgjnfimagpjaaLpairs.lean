/- package level: Pairs. -/
import Derived.Test.YtikgjnfimagpjaaLbase2
import Derived.RegionTactic
import Derived.BigRegion
namespace Go.Proofs.Ytikgjnfimagpjaa
open Go.RowKit
def castL (op : List Nat) : List Int := op.map (fun n : Nat => (n : Int))
@[simp] theorem castL_length (op : List Nat) : (castL op).length = op.length := by simp [castL]
/-- one place: what goes with what; the signs that are open, the last one at the end -/
def pstep (i : Nat) (z : Int) (s : List Int × List Nat) : List Int × List Nat :=
  if opensB (clsL z) = true then (s.1.set i (-1), s.2 ++ [i])
  else if clsL z = 10 then (s.1.set i (-1), [])
  else if clsL z = 22 ∧ 0 < s.2.length then (((s.1.set i (-1)).set i (s.2.getD (s.2.length - 1) 0 : Nat)).set (s.2.getD (s.2.length - 1) 0) i, s.2.take (s.2.length - 1))
  else (s.1.set i (-1), s.2)
def pto (zs : List Int) : Nat → List Int × List Nat
  | 0 => (List.replicate zs.length 0, [])
  | k + 1 => pstep k (zs.getD k 0) (pto zs k)
def pairsL (zs : List Int) : List Int := (pto zs zs.length).1
theorem pstep_length (i : Nat) (z : Int) (s : List Int × List Nat) : (pstep i z s).1.length = s.1.length := by
  unfold pstep
  repeat' split
  all_goals simp
theorem pto_length (zs : List Int) (k : Nat) : (pto zs k).1.length = zs.length := by
  induction k with
  | zero => simp [pto]
  | succ k ih => rw [pto, pstep_length, ih]
@[simp] theorem pairsL_length (zs : List Int) : (pairsL zs).length = zs.length := pto_length _ _
theorem pto_open (zs : List Int) (k : Nat) : ∀ t ∈ (pto zs k).2, t < k := by
  induction k with
  | zero => intro t ht; simp [pto] at ht
  | succ k ih =>
    intro t ht
    rw [pto] at ht
    unfold pstep at ht
    split at ht
    · simp only [List.mem_append, List.mem_singleton] at ht
      rcases ht with ht | rfl
      · have := ih t ht; omega
      · omega
    split at ht
    · simp at ht
    split at ht
    · have := ih t (List.mem_of_mem_take ht); omega
    · have := ih t ht; omega
theorem size_setCell' (w : World) (p : Addr) (u : Value) : (w.setCell p u).heap.size = w.heap.size := by simp [World.setCell]
theorem sl_one' (w : World) (u : Value) (t : TypeId) (b : Nat) (hb : b = w.heap.size) : Sl (w.alloc (.cells #[u] t)) (b + 1) (some ⟨b, 0, none⟩) [u] := by subst hb; exact sl_one w u t
theorem info3 : (Try.prog.info? 3).map (fun i => (i.zero, i.size, i.bytes)) = some (some (.int .i64 0), 1, 8) := by kernel_rfl
theorem info23 : (Try.prog.info? 23).map (fun i => (i.zero, i.size, i.bytes)) = some (some (.int .i8 0), 1, 1) := by kernel_rfl
/-- a slice cut off at its end -/
theorem own_short {w : World} {e : TypeId} {B g n c : Nat} {xs : List Value} (h : Own w e B (.slice (some ⟨g, 0, none⟩) n c) xs) (m : Nat) (hm : m ≤ n) : Own w e B (.slice (some ⟨g, 0, none⟩) m c) (xs.take m) := by
  have hn := h.len
  have hl : (xs.take m).length = m := by simp; omega
  unfold Own
  rw [hl]
  refine ⟨by simp; omega, ?_⟩
  rcases h.2 with ⟨h', _⟩ | ⟨g', cap, cur, h', hb, hg, hnc, hcm, hcs, htake⟩
  · cases h'
  · simp only [Value.slice.injEq, Option.some.injEq, Addr.mk.injEq, and_true] at h'
    obtain ⟨rfl, rfl, rfl⟩ := h'
    refine .inr ⟨g, c, cur, rfl, hb, hg, by omega, hcm, hcs, ?_⟩
    rw [← htake, List.take_take]
    congr 1; omega
set_option maxHeartbeats 4000000 in
theorem pairs_any (zs : List Int) (A : Option Addr) (c : Nat) (w : World) (hl : zs.length < 1048576) (h : Sl w w.heap.size A (ints .i8 zs)) :
    Calls Try.prog 12 #[.slice A zs.length c] w fun e w' => e = .returned (.slice (some ⟨w.heap.size, 0, none⟩) zs.length zs.length) ∧ Own w' 3 w.heap.size (.slice (some ⟨w.heap.size, 0, none⟩) zs.length zs.length) (ints .i64 (pairsL zs)) ∧ Below w.heap.size w w' := by
  obtain ⟨i0, hi0, hz0, hz1, hz2⟩ := info_parts info3
  go_enter Try.func12, Try.ntmps12
  go_wp2_with (first
    | (at_make; refine wpList_make_full _ rfl (.tmp 9) (.tmp 9) 25 rfl w.heap.size 3 i0 _ 1 Try.underlying25 hi0 hz0 hz1 .i64 .i64 zs.length zs.length zs.length rfl rfl rfl rfl (by rw [hz2]; omega) (by unfold maxLen; omega) (Nat.le_refl _) ?_; intro w1 hown hg))
  have HW1 := Lib.hid (show w.heap.size < w1.heap.size from by
    rcases hown.2 with ⟨h', _⟩ | ⟨g, cap, cur, h', _, hh, _⟩
    · cases h'
    · simp only [Value.slice.injEq, Option.some.injEq, Addr.mk.injEq, and_true] at h'
      obtain ⟨rfl, _⟩ := h'
      exact (Array.getElem?_eq_some_iff.1 hh).1)
  go_loopw [4, 13] (fun vo i wr => ∃ (k : Nat) (X : Option Addr) (m cx : Nat), k ≤ zs.length ∧ i = .int .i64 k ∧ vo = .slice X m cx ∧ m ≤ k ∧ Hid ((pto zs k).2.length = m) ∧
      Own wr 3 w.heap.size (.slice (some ⟨w.heap.size, 0, none⟩) zs.length zs.length) (ints .i64 (pto zs k).1) ∧ Own wr 3 (w.heap.size + 1) (.slice X m cx) (ints .i64 (castL (pto zs k).2)) ∧ Below w.heap.size w wr ∧ w.heap.size + 1 ≤ wr.heap.size)
    (fun _ i _ => zs.length - (intOf i).toNat)
  case atStart =>
    rw [show (Value.int IntKind.i64 0).cells = #[Value.int .i64 0] from rfl, Nat.mul_one, toList_madeCells_one] at hown
    exact ⟨0, none, 0, 0, by omega, rfl, rfl, by omega, rfl, by simpa [Own, ints, pto] using hown, Own.nil_ _ _ _, (Below.refl _ _).grown hg (Nat.le_refl _) (by simp), HW1.out⟩
  case round =>
    obtain ⟨k, X, m, cx, hk, rfl, rfl, hmk, HM, ho, hx, hb, hsz⟩ := hrel
    by_cases hlt : k < zs.length
    · obtain ⟨ad, rfl, hadb, hcell⟩ := sl_at (h.below hb) hlt
      have hol := pto_length zs k
      have hoc := own_at ho (i := k) (by omega)
      have hfr := ho.free k
      obtain ⟨old, hoc'⟩ : ∃ old, wr.cell? ⟨w.heap.size, k, none⟩ = some (.int .i64 old) := ⟨_, hoc⟩
      have HE : Hid (pto zs (k + 1) = pstep k (zs.getD k 0) (pto zs k)) := rfl
      have HK := Lib.hid (fun w => known_any (zs.getD k 0) w)
      have HMEM := Lib.hid (pto_open zs k)
      have HO := Lib.hid ho
      have HX := Lib.hid hx
      have HB := Lib.hid hb
      have HL := Lib.hid hol
      have HS0 := Lib.hid (show ∀ v : Int, Own (wr.setCell ⟨w.heap.size, k, none⟩ (.int .i64 v)) 3 w.heap.size (.slice (some ⟨w.heap.size, 0, none⟩) zs.length zs.length) (ints .i64 ((pto zs k).1.set k v)) ∧ Own (wr.setCell ⟨w.heap.size, k, none⟩ (.int .i64 v)) 3 (w.heap.size + 1) (.slice X m cx) (ints .i64 (castL (pto zs k).2)) ∧ Below w.heap.size w (wr.setCell ⟨w.heap.size, k, none⟩ (.int .i64 v)) from
        fun v => ⟨own_put ho k v, hx.set_other (p := ⟨w.heap.size, k, none⟩) (by show w.heap.size < _; omega) _, hb.setCell (p := ⟨w.heap.size, k, none⟩) (Nat.le_refl _) _⟩)
      clear ho hx hb h hol hoc hown hg
      obtain ⟨z, hz⟩ : ∃ z, z = zs.getD k 0 := ⟨_, rfl⟩
      rw [← hz] at hcell HE HK
      clear hz
      have hcell2 : (wr.setCell ⟨w.heap.size, k, none⟩ (.int .i64 (-1))).cell? (ad.add k) = some (.int .i8 z) :=
        (World.cell?_setCell_other wr _ _ _ (fun e => by have := congrArg Addr.block e; rw [add_block] at this; simp at this; omega)).trans hcell
      have hdc : ∃ d, d = clsL z := ⟨_, rfl⟩
      obtain ⟨d, hd⟩ := hdc
      rw [← hd] at HK
      have HD := Lib.hid hd
      clear hd
      cases ho : opensB d with
      | true =>
        have HOP := Lib.hid ho
        clear ho
        have HE2 := Lib.hid (HE.out.trans (by unfold pstep; rw [← HD.out, if_pos HOP.out]))
        go_wp2_with (first
          | (go_at_call 35; refine (HK.out _).mono ?_; rintro e w' ⟨rfl, rfl⟩)
          | (go_at_call 36; refine (opens_yes HOP.out _).mono ?_; rintro e w' ⟨rfl, rfl⟩)
          | (at_builtin; refine wpList_append_sl2 _ rfl (.tmp 27) (.tmp 29) 25 rfl (w.heap.size + 1) 3 i0 _ 8 Try.underlying25 hi0 hz0 hz1 hz2 rfl (.slice X m cx) m _ (by simp [HM.out]) rfl ((HS0.out _).2.1.alloc _) _ _ _ 1 [.int .i64 k] rfl rfl (sl_one' _ _ _ _ (size_setCell' _ _ _).symm) (one_int _ _) (by unfold maxLen; omega) (by omega) (by rw [size_alloc', size_setCell']; omega) ?_; intro X2 cx2 w2 hx2 hap))
        have HR := Lib.hid (show Own w2 3 w.heap.size (.slice (some ⟨w.heap.size, 0, none⟩) zs.length zs.length) (ints .i64 ((pto zs k).1.set k (-1))) ∧ Own w2 3 (w.heap.size + 1) (.slice X2 (m + 1) cx2) (ints .i64 (castL ((pto zs k).2 ++ [k]))) ∧ Below w.heap.size w w2 ∧ w.heap.size + 1 ≤ w2.heap.size from by
          have hs := appended_size hap
          refine ⟨(appended_other hap ((HS0.out _).1.alloc _) (fun g hg hx => ?_)).1, by simpa [castL, ints] using hx2, ((HS0.out _).2.2.alloc (by rw [size_setCell']; omega) _).trans (appended_below hap (by rw [size_alloc', size_setCell']; omega) fun g hg => ?_), by rw [size_alloc', size_setCell'] at hs; omega⟩
          · have h1 := ((HS0.out (-1)).2.1.lt g hx).1
            have h2 : g = w.heap.size := by simpa [Value.ownBlock] using hg.symm
            omega
          · have h1 := ((HS0.out (-1)).2.1.lt g hg).1
            omega)
        clear hx2 hap
        go_roundw
        case rel => exact ⟨k + 1, X2, m + 1, cx2, by omega, by go_num, rfl, by omega, by show (pto zs (k + 1)).2.length = m + 1; rw [HE2.out]; simp [HM.out], by rw [HE2.out]; exact HR.out.1, by rw [HE2.out]; exact HR.out.2.1, HR.out.2.2.1, HR.out.2.2.2⟩
        case measure => simp [intOf]; omega
      | false =>
        have HOP := Lib.hid ho
        clear ho
        by_cases h10 : d = 10
        · subst h10
          have HE2 := Lib.hid (HE.out.trans (by unfold pstep; rw [← HD.out, if_neg (by rw [HOP.out]; simp), if_pos rfl]))
          go_wp2_with (first
            | (go_at_call 35; refine (HK.out _).mono ?_; rintro e w' ⟨rfl, rfl⟩)
            | (go_at_call 36; refine (opens_no HOP.out _).mono ?_; rintro e w' ⟨rfl, rfl⟩))
          go_roundw
          case rel => exact ⟨k + 1, none, 0, 0, by omega, by go_num, rfl, by omega, by show (pto zs (k + 1)).2.length = 0; rw [HE2.out]; rfl, by rw [HE2.out]; exact (HS0.out _).1, by rw [HE2.out]; exact Own.nil_ _ _ _, (HS0.out _).2.2, by rw [size_setCell']; omega⟩
          case measure => simp [intOf]; omega
        have b10 : (d == 10) = false := by simpa using h10
        by_cases h22 : d = 22
        · subst h22
          rcases Nat.eq_zero_or_pos m with hm0 | hm0
          · subst hm0
            have HE2 := Lib.hid (HE.out.trans (by unfold pstep; rw [← HD.out, if_neg (by rw [HOP.out]; simp), if_neg (by omega), if_neg (by rw [HM.out]; omega)]))
            go_wp2_with (first
              | (go_at_call 35; refine (HK.out _).mono ?_; rintro e w' ⟨rfl, rfl⟩)
              | (go_at_call 36; refine (opens_no HOP.out _).mono ?_; rintro e w' ⟨rfl, rfl⟩))
            go_roundw
            case rel => exact ⟨k + 1, X, 0, cx, by omega, by go_num, rfl, by omega, by show (pto zs (k + 1)).2.length = 0; rw [HE2.out]; exact HM.out, by rw [HE2.out]; exact (HS0.out _).1, by rw [HE2.out]; exact (HS0.out _).2.1, (HS0.out _).2.2, by rw [size_setCell']; omega⟩
            case measure => simp [intOf]; omega
          · obtain ⟨m', rfl⟩ : ∃ m', m = m' + 1 := ⟨m - 1, by omega⟩
            have em : ((m' + 1 : Nat) : Int) = (m' : Int) + 1 := by omega
            obtain ⟨t, ht⟩ : ∃ t, t = (pto zs k).2.getD m' 0 := ⟨_, rfl⟩
            have HE2 := Lib.hid (HE.out.trans (by unfold pstep; rw [← HD.out, if_neg (by rw [HOP.out]; simp), if_neg (by omega), if_pos ⟨rfl, by rw [HM.out]; omega⟩, HM.out, Nat.add_sub_cancel, ← ht] : _ = ((((pto zs k).1.set k (-1)).set k (t : Int)).set t (k : Int), (pto zs k).2.take m')))
            have htk : t < k := HMEM.out t (by
              rw [ht]
              have h1 : m' < (pto zs k).2.length := by rw [HM.out]; omega
              simp [h1])
            have hx1 := (HS0.out (-1)).2.1
            obtain ⟨gx, rfl, hgx, hgx2⟩ := own_is hx1 (by simp [HM.out])
            have hcx := own_at hx1 (i := m') (by simp [HM.out])
            have hct : (castL (pto zs k).2).getD m' 0 = (t : Int) := by
              rw [ht]
              have h1 : m' < (pto zs k).2.length := by rw [HM.out]; omega
              simp [castL, h1]
            rw [hct] at hcx
            have ho1 := (HS0.out (-1)).1
            have hc1 := own_at ho1 (i := k) (by simp [HL.out]; omega)
            have hc2 := own_at ho1 (i := t) (by simp [HL.out]; omega)
            obtain ⟨v1, hv1⟩ : ∃ v1, (wr.setCell ⟨w.heap.size, k, none⟩ (.int .i64 (-1))).cell? ⟨w.heap.size, k, none⟩ = some (.int .i64 v1) := ⟨_, hc1⟩
            obtain ⟨v2, hv2⟩ : ∃ v2, (wr.setCell ⟨w.heap.size, k, none⟩ (.int .i64 (-1))).cell? ⟨w.heap.size, t, none⟩ = some (.int .i64 v2) := ⟨_, hc2⟩
            have hf1 := ho1.free k
            have hf2 := ho1.free t
            have HX1 := Lib.hid hx1
            have HO1 := Lib.hid ho1
            clear hx1 ho1 hc1 hc2 hct ht
            go_wp2_with (first
              | (go_at_call 35; refine (HK.out _).mono ?_; rintro e w' ⟨rfl, rfl⟩)
              | (go_at_call 36; refine (opens_no HOP.out _).mono ?_; rintro e w' ⟨rfl, rfl⟩))
            have hne1 : ¬ gx = w.heap.size := by omega
            have hne2 : ¬ w.heap.size = gx := by omega
            have hne3 : ¬ t = k := by omega
            have hne4 : ¬ k = t := by omega
            obtain ⟨W, hW⟩ : ∃ W, W = wr.setCell ⟨w.heap.size, k, none⟩ (.int .i64 (-1)) := ⟨_, rfl⟩
            rw [← hW] at hcx hv1 hv2 hf1 hf2 HX1 HO1 ⊢
            have HWW := Lib.hid hW
            clear hW
            have hcap : m' + 1 ≤ cx := by
              have := HX1.out.cap.1
              simp [HM.out] at this
              exact this
            have HR := Lib.hid (show Own ((W.setCell ⟨w.heap.size, k, none⟩ (.int .i64 (t : Int))).setCell ⟨w.heap.size, t, none⟩ (.int .i64 (k : Int))).drew 3 w.heap.size (.slice (some ⟨w.heap.size, 0, none⟩) zs.length zs.length) (ints .i64 ((((pto zs k).1.set k (-1)).set k (t : Int)).set t (k : Int))) ∧
                Own ((W.setCell ⟨w.heap.size, k, none⟩ (.int .i64 (t : Int))).setCell ⟨w.heap.size, t, none⟩ (.int .i64 (k : Int))).drew 3 (w.heap.size + 1) (.slice (some ⟨gx, 0, none⟩) m' cx) (ints .i64 (castL ((pto zs k).2.take m'))) ∧
                Below w.heap.size w ((W.setCell ⟨w.heap.size, k, none⟩ (.int .i64 (t : Int))).setCell ⟨w.heap.size, t, none⟩ (.int .i64 (k : Int))).drew ∧ w.heap.size + 1 ≤ ((W.setCell ⟨w.heap.size, k, none⟩ (.int .i64 (t : Int))).setCell ⟨w.heap.size, t, none⟩ (.int .i64 (k : Int))).drew.heap.size from by
              refine ⟨own_put (own_put HO1.out k _) t _, ?_, ?_, ?_⟩
              · have h1 := own_short (((HX1.out.set_other (p := ⟨w.heap.size, k, none⟩) (by show w.heap.size < _; omega) (.int .i64 (t : Int)))).set_other (p := ⟨w.heap.size, t, none⟩) (by show w.heap.size < _; omega) (.int .i64 (k : Int))) m' (by omega)
                have h2 : ints .i64 (castL ((pto zs k).2.take m')) = (ints .i64 (castL (pto zs k).2)).take m' := by simp [castL, ints, List.map_take]
                rw [h2]
                exact h1
              · have hbW : Below w.heap.size w W := by rw [HWW.out]; exact (HS0.out _).2.2
                exact ((hbW.setCell (p := ⟨w.heap.size, k, none⟩) (Nat.le_refl _) _).setCell (p := ⟨w.heap.size, t, none⟩) (Nat.le_refl _) _).drew
              · show w.heap.size + 1 ≤ ((W.setCell _ _).setCell _ _).heap.size
                rw [size_setCell', size_setCell', HWW.out, size_setCell']; omega)
            have HMT := Lib.hid (show ((pto zs k).2.take m').length = m' from by rw [List.length_take, HM.out]; omega)
            go_region
            go_wp2
            go_roundw
            case rel => exact ⟨k + 1, some ⟨gx, 0, none⟩, m', cx, by omega, by go_num, rfl, by omega, by show (pto zs (k + 1)).2.length = m'; rw [HE2.out]; exact HMT.out, by rw [HE2.out]; exact HR.out.1, by rw [HE2.out]; exact HR.out.2.1, HR.out.2.2.1, HR.out.2.2.2⟩
            case measure => simp [intOf]; omega
        have b22 : (d == 22) = false := by simpa using h22
        have HE2 := Lib.hid (HE.out.trans (by unfold pstep; rw [← HD.out, if_neg (by rw [HOP.out]; simp), if_neg h10, if_neg (fun hh => h22 hh.1)]))
        clear h10 h22
        go_wp2_with (first
          | (go_at_call 35; refine (HK.out _).mono ?_; rintro e w' ⟨rfl, rfl⟩)
          | (go_at_call 36; refine (opens_no HOP.out _).mono ?_; rintro e w' ⟨rfl, rfl⟩))
        go_roundw
        case rel => exact ⟨k + 1, X, m, cx, by omega, by go_num, rfl, by omega, by show (pto zs (k + 1)).2.length = m; rw [HE2.out]; exact HM.out, by rw [HE2.out]; exact (HS0.out _).1, by rw [HE2.out]; exact (HS0.out _).2.1, (HS0.out _).2.2, by rw [size_setCell']; omega⟩
        case measure => simp [intOf]; omega
    · have hk' : k = zs.length := by omega
      subst hk'
      have HO := Lib.hid (show Own wr 3 w.heap.size (.slice (some ⟨w.heap.size, 0, none⟩) zs.length zs.length) (ints .i64 (pairsL zs)) from ho)
      have HB := Lib.hid hb
      clear ho hb hx
      go_wp2
      go_ret
      exact ⟨rfl, HO.out, HB.out⟩
end Go.Proofs.Ytikgjnfimagpjaa
