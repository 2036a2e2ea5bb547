/- package level: the small functions of the law and of the document's answer (printed by gen_ref1.py). -/
import Derived.Test.YtikgjnfimagpjaaLwakes
namespace Go.Proofs.Ytikgjnfimagpjaa
open Go.RowKit
/-- alike as far as place k -/
def Same (xs ys : List Int) (k : Nat) : Prop := ∀ j, j < k → xs.getD j 0 = ys.getD j 0
theorem Same.succ {xs ys : List Int} {k : Nat} (h : Same xs ys k) (hk : xs.getD k 0 = ys.getD k 0) : Same xs ys (k + 1) := fun j hj => by
  by_cases e : j = k
  · subst e; exact hk
  · exact h j (by omega)
theorem Same.all {xs ys : List Int} (hl : xs.length = ys.length) (h : Same xs ys xs.length) : xs = ys := ext_getD hl fun j hj => h j (by omega)
set_option maxHeartbeats 2000000 in
theorem sameints_any (xs ys : List Int) (A A2 : Option Addr) (c c2 : Nat) (w : World) (hl : xs.length ≤ 140737488351232) (hl2 : ys.length ≤ 140737488351232) (h : Sl w w.heap.size A (ints .i64 xs)) (h2 : Sl w w.heap.size A2 (ints .i64 ys)) :
    Calls Try.prog 13 #[.slice A xs.length c, .slice A2 ys.length c2] w fun e w' => e = .returned (.bool (decide (xs = ys))) ∧ Below w.heap.size w w' := by
  by_cases hlen : xs.length = ys.length
  · have HL := Lib.hid hlen
    rw [← hlen]
    clear hlen
    go_enter Try.func13, Try.ntmps13
    go_wp2
    go_loopw [5] (fun i wr => ∃ k : Nat, k ≤ xs.length ∧ i = .int .i64 k ∧ Hid (Same xs ys k) ∧ Below w.heap.size w wr)
      (fun i _ => xs.length - (intOf i).toNat)
    case atStart => exact ⟨0, by omega, rfl, fun j hj => by omega, Below.refl _ _⟩
    case round =>
      obtain ⟨k, hk, rfl, HS, hb⟩ := hrel
      by_cases hlt : k < xs.length
      · obtain ⟨ad, rfl, hadb, hcell⟩ := sl_at (h.below hb) hlt
        obtain ⟨ad2, rfl, hadb2, hcell2⟩ := sl_at (h2.below hb) (i := k) (by rw [← HL.out]; exact hlt)
        have HB := Lib.hid hb
        clear h h2 hb
        obtain ⟨x, hx⟩ : ∃ x, x = xs.getD k 0 := ⟨_, rfl⟩
        obtain ⟨y, hy⟩ : ∃ y, y = ys.getD k 0 := ⟨_, rfl⟩
        rw [← hx] at hcell
        rw [← hy] at hcell2
        have HX := Lib.hid hx
        have HY := Lib.hid hy
        clear hx hy
        go_wp2_with fail
        go_quiet (fail)
        go_wp2
        · go_ret
          refine ⟨?_, below_drewN' HB.out _⟩
          have : xs ≠ ys := by
            rintro rfl
            have := HX.out.trans HY.out.symm
            simp_all
          simp [this]
        · have hxy : x = y := by simp_all
          go_roundw
          case rel => exact ⟨k + 1, by omega, by go_num, HS.out.succ (by rw [← HX.out, ← HY.out]; exact hxy), below_drewN' HB.out _⟩
          case measure => simp [intOf]; omega
      · have hk' : k = xs.length := by omega
        subst hk'
        have he := Lib.hid (HS.out.all HL.out)
        go_wp2
        go_ret
        exact ⟨by simp [he.out], hb⟩
  · have hne : xs ≠ ys := fun e => hlen (by rw [e])
    have HN := Lib.hid hne
    clear hne
    have hb : ((xs.length : Int) != (ys.length : Int)) = true := by simp; omega
    go_enter Try.func13, Try.ntmps13
    go_wp2
    go_ret
    exact ⟨by simp [HN.out], Below.refl _ _⟩
set_option maxHeartbeats 2000000 in
theorem samedirs_any (xs ys : List Int) (A A2 : Option Addr) (c c2 : Nat) (w : World) (hl : xs.length ≤ 140737488351232) (hl2 : ys.length ≤ 140737488351232) (h : Sl w w.heap.size A (ints .i8 xs)) (h2 : Sl w w.heap.size A2 (ints .i8 ys)) :
    Calls Try.prog 21 #[.slice A xs.length c, .slice A2 ys.length c2] w fun e w' => e = .returned (.bool (decide (xs = ys))) ∧ Below w.heap.size w w' := by
  by_cases hlen : xs.length = ys.length
  · have HL := Lib.hid hlen
    rw [← hlen]
    clear hlen
    go_enter Try.func21, Try.ntmps21
    go_wp2
    go_loopw [5] (fun i wr => ∃ k : Nat, k ≤ xs.length ∧ i = .int .i64 k ∧ Hid (Same xs ys k) ∧ Below w.heap.size w wr)
      (fun i _ => xs.length - (intOf i).toNat)
    case atStart => exact ⟨0, by omega, rfl, fun j hj => by omega, Below.refl _ _⟩
    case round =>
      obtain ⟨k, hk, rfl, HS, hb⟩ := hrel
      by_cases hlt : k < xs.length
      · obtain ⟨ad, rfl, hadb, hcell⟩ := sl_at (h.below hb) hlt
        obtain ⟨ad2, rfl, hadb2, hcell2⟩ := sl_at (h2.below hb) (i := k) (by rw [← HL.out]; exact hlt)
        have HB := Lib.hid hb
        clear h h2 hb
        obtain ⟨x, hx⟩ : ∃ x, x = xs.getD k 0 := ⟨_, rfl⟩
        obtain ⟨y, hy⟩ : ∃ y, y = ys.getD k 0 := ⟨_, rfl⟩
        rw [← hx] at hcell
        rw [← hy] at hcell2
        have HX := Lib.hid hx
        have HY := Lib.hid hy
        clear hx hy
        go_wp2_with fail
        go_quiet (fail)
        go_wp2
        · go_ret
          refine ⟨?_, below_drewN' HB.out _⟩
          have : xs ≠ ys := by
            rintro rfl
            have := HX.out.trans HY.out.symm
            simp_all
          simp [this]
        · have hxy : x = y := by simp_all
          go_roundw
          case rel => exact ⟨k + 1, by omega, by go_num, HS.out.succ (by rw [← HX.out, ← HY.out]; exact hxy), below_drewN' HB.out _⟩
          case measure => simp [intOf]; omega
      · have hk' : k = xs.length := by omega
        subst hk'
        have he := Lib.hid (HS.out.all HL.out)
        go_wp2
        go_ret
        exact ⟨by simp [he.out], hb⟩
  · have hne : xs ≠ ys := fun e => hlen (by rw [e])
    have HN := Lib.hid hne
    clear hne
    have hb : ((xs.length : Int) != (ys.length : Int)) = true := by simp; omega
    go_enter Try.func21, Try.ntmps21
    go_wp2
    go_ret
    exact ⟨by simp [HN.out], Below.refl _ _⟩
theorem class_any (z : Int) (w : World) : Calls Try.prog 57 #[.int .i8 z] w fun e w' => e = .returned (.int .i8 (clsL z)) ∧ w = w' := by
  by_cases h : z < 0
  · have e : Hid (clsL z = 13) := by show _ = _; unfold clsL; rw [if_pos (.inl h)]
    go_enter Try.func57, Try.ntmps57
    go_wp2
    go_ret
    exact ⟨ret_int' e.out, rfl⟩
  · by_cases h2 : 22 < z
    · have e : Hid (clsL z = 13) := by show _ = _; unfold clsL; rw [if_pos (.inr h2)]
      go_enter Try.func57, Try.ntmps57
      go_wp2
      go_ret
      exact ⟨ret_int' e.out, rfl⟩
    · have e : Hid (clsL z = z) := by show _ = _; unfold clsL; rw [if_neg (by omega)]
      go_enter Try.func57, Try.ntmps57
      go_wp2
      go_ret
      exact ⟨ret_int' e.out, rfl⟩
theorem begins_any (d : Int) (w : World) : Calls Try.prog 34 #[.int .i8 d] w fun e w' => e = .returned (.bool (opensB d)) ∧ w = w' := by
  by_cases h1 : d = 19
  · subst h1
    go_enter Try.func34, Try.ntmps34
    go_wp2
    go_ret
    exact ⟨rfl, rfl⟩
  by_cases h2 : d = 20
  · subst h2
    go_enter Try.func34, Try.ntmps34
    go_wp2
    go_ret
    exact ⟨rfl, rfl⟩
  have b1 : (d == 19) = false := by simpa using h1
  have b2 : (d == 20) = false := by simpa using h2
  have e : Hid (opensB d = (d == 21)) := by
    show _ = _
    unfold opensB
    by_cases h3 : d = 21
    · subst h3; rfl
    · have : (d == 21) = false := by simpa using h3
      rw [this]
      simp
      omega
  clear h1 h2
  go_enter Try.func34, Try.ntmps34
  go_wp2
  go_ret
  exact ⟨ret_bool' e.out, rfl⟩
theorem out_any (d : Int) (w : World) : Calls Try.prog 65 #[.int .i8 d] w fun e w' => e = .returned (.bool (leftB d)) ∧ w = w' := by
  by_cases h1 : 14 ≤ d
  · have b1 : decide (d ≥ 14) = true := by simpa using h1
    by_cases h2 : d ≤ 18
    · have e : Hid (leftB d = true) := (leftB_iff d).2 (.inr ⟨h1, h2⟩)
      go_enter Try.func65, Try.ntmps65
      go_wp2
      go_ret
      exact ⟨ret_bool' e.out, rfl⟩
    · have b2 : (d == 9) = false := by
        have : d ≠ 9 := by omega
        simpa using this
      have e : Hid (leftB d = false) := by
        show _ = _
        cases h : leftB d with
        | false => rfl
        | true => have := (leftB_iff d).1 h; omega
      go_enter Try.func65, Try.ntmps65
      go_wp2
      go_ret
      exact ⟨ret_bool' e.out, rfl⟩
  · have e : Hid (leftB d = (d == 9)) := by
      show _ = _
      unfold leftB
      rw [show decide (14 ≤ d) = false from by simpa using h1]
      simp
    go_enter Try.func65, Try.ntmps65
    go_wp2
    go_ret
    exact ⟨ret_bool' e.out, rfl⟩
theorem take_map_snoc (zs : List Int) (f : Int → Int) (k : Nat) (hk : k < zs.length) : (zs.take k).map f ++ [f (zs.getD k 0)] = (zs.take (k + 1)).map f := by
  rw [← take_snoc' zs k hk]; simp
set_option maxHeartbeats 2000000 in
theorem classes_any (zs : List Int) (A : Option Addr) (c : Nat) (w : World) (hl : zs.length ≤ 2097152) (h : Sl w w.heap.size A (ints .i8 zs)) :
    Calls Try.prog 33 #[.slice A zs.length c] w fun e w' => ∃ A' c', e = .returned (.slice A' zs.length c') ∧ Own w' 23 w.heap.size (.slice A' zs.length c') (ints .i8 (zs.map clsL)) ∧ Below w.heap.size w w' := by
  obtain ⟨i0, hi0, hz0, hz1, hz2⟩ := info_parts info23
  go_enter Try.func33, Try.ntmps33
  go_wp2
  go_loopw [3, 4] (fun v i wr => ∃ (k : Nat) (A' : Option Addr) (c' : Nat), k ≤ zs.length ∧ v = .slice A' k c' ∧ i = .int .i64 k ∧ Own wr 23 w.heap.size (.slice A' k c') (ints .i8 ((zs.take k).map clsL)) ∧ Below w.heap.size w wr)
    (fun _ i _ => zs.length - (intOf i).toNat)
  case atStart => exact ⟨0, none, 0, by omega, rfl, rfl, Own.nil_ _ _ _, Below.refl _ _⟩
  case round =>
    obtain ⟨k, A', c', hk, rfl, rfl, hown, hb⟩ := hrel
    by_cases hlt : k < zs.length
    · obtain ⟨ad, rfl, hadb, hcell⟩ := sl_at (h.below hb) hlt
      have hsz := hb.size
      have hlk : (ints .i8 ((zs.take k).map clsL)).length = k := by simp; omega
      have HW := Lib.hid (take_map_snoc zs clsL k hlt)
      have HK := Lib.hid (fun w => class_any (zs.getD k 0) w)
      have HO := Lib.hid hown
      have HB := Lib.hid hb
      have HL := Lib.hid hlk
      clear hown hb hlk h
      obtain ⟨z, hz⟩ : ∃ z, z = zs.getD k 0 := ⟨_, rfl⟩
      obtain ⟨d, hd⟩ : ∃ d, d = clsL z := ⟨_, rfl⟩
      rw [← hz, ← hd] at HW HK
      rw [← hz] at hcell
      clear hz hd
      go_wp2_with (first
        | (go_at_call 57; refine (HK.out _).mono ?_; rintro e w' ⟨rfl, rfl⟩)
        | (at_builtin; refine wpList_append_sl _ rfl (.tmp 11) (.tmp 17) 22 rfl w.heap.size 23 i0 _ 1 Try.underlying22 hi0 hz0 hz1 hz2 rfl (.slice A' k c') k _ HL.out rfl (HO.out.alloc _) _ _ _ 1 [.int .i8 d] rfl rfl (sl_one _ _ _) (one_int _ _) (by unfold maxLen; omega) (by omega) (by simp; omega) ?_; intro A2 c2 w2 ho2 hg2 _))
      go_roundw
      case rel => exact ⟨k + 1, A2, c2, by omega, rfl, by go_num, by rw [← HW.out, ← ints_snoc]; exact ho2, app_below HB.out hsz HO.out hg2⟩
      case measure => simp [intOf]; omega
    · have hk' : k = zs.length := by omega
      subst hk'
      rw [List.take_length] at hown
      go_wp2
      go_ret
      exact ⟨_, _, rfl, hown, hb⟩
end Go.Proofs.Ytikgjnfimagpjaa
