/- the law's own helpers: fresh, walked. -/
import Derived.Test.YtlomcnmijfiihaaFresh
namespace Go.Proofs.Ytlomcnmijfiihaa
open Go.RowKit
set_option maxRecDepth 100000 in
set_option maxHeartbeats 8000000 in
theorem fresh_any (n : Nat) (xs ys : List Int) (hxl : xs.length = n) (hyl : ys.length = n) (A A2 : Option Addr) (c c2 B : Nat) (w : World) (hl : n ≤ 140737488351232)
    (ha : Own w 23 B (.slice A n c) (i8s xs)) (hb : Own w 23 B (.slice A2 n c2) (i8s ys)) (hd : ∀ g, (Value.slice A n c).ownBlock = some g → (Value.slice A2 n c2).ownBlock ≠ some g) (hB : B ≤ w.heap.size) :
    Calls Try.prog 14 #[.slice A n c, .slice A2 n c2] w fun e w' => e = .returned (.bool true) ∧ Below B w w' := by
  obtain ⟨i0, hi0, hz0, hz1, hz2⟩ := info_parts info23
  have FA := Lib.hid (own_addr ha)
  have FB := Lib.hid (own_addr hb)
  have HD := Lib.hid hd
  have HXL := Lib.hid hxl
  have HYL := Lib.hid hyl
  clear hxl hyl hd
  go_enter Try.func14, Try.ntmps14
  go_wp2
  go_loopw [13] (fun i wr => ∃ (k : Nat) (ys1 : List Int), k ≤ n ∧ i = .int .i64 k ∧ Hid (Filled n 101 ys1 k) ∧ Own wr 23 B (.slice A n c) (i8s ys1) ∧ Own wr 23 B (.slice A2 n c2) (i8s ys) ∧ Below B w wr)
    (fun i _ => n - (intOf i).toNat)
  case atStart => exact ⟨0, xs, by omega, rfl, ⟨HXL.out, fun j hj => by omega⟩, ha, hb, Below.refl _ _⟩
  case round =>
    obtain ⟨k, ys1, hk, rfl, HF, ho, ho2, hbel⟩ := hrel
    by_cases hlt : k < n
    · obtain ⟨g, rfl, hg1, hg2⟩ := own_form8 ho (by rw [HF.out.1]; omega)
      have hcell := own_getD ho (k := k) (by rw [HF.out.1]; omega)
      have hfr := ho.free k
      have HS := Lib.hid (show Own (wr.setCell ⟨g, k, none⟩ (.int .i8 101)) 23 B (.slice (some ⟨g, 0, none⟩) n c) (i8s (ys1.set k 101)) ∧ Own (wr.setCell ⟨g, k, none⟩ (.int .i8 101)) 23 B (.slice A2 n c2) (i8s ys) ∧ Below B w (wr.setCell ⟨g, k, none⟩ (.int .i8 101)) from
        ⟨own_set ho k 101, ho2.kept (row := some g) (grown_setCell (World.grownBy.refl _ _) rfl _) (.inr (HD.out g rfl)), hbel.setCell (p := ⟨g, k, none⟩) hg1 _⟩)
      clear ho ho2 hbel ha hb
      go_wp2
      go_roundw
      case rel => exact ⟨k + 1, _, by omega, by go_num, HF.out.step hlt, HS.out.1, HS.out.2.1, HS.out.2.2⟩
      case measure => simp [intOf]; omega
    · have hk' : k = n := by omega
      subst hk'
      obtain rfl := HF.out.done
      have HO1 := Lib.hid ho
      have HO2 := Lib.hid ho2
      have HB2 := Lib.hid hbel
      clear ho ho2 hbel ha hb HF
      go_wp2
      go_loopw [22] (fun i wr2 => ∃ (m : Nat) (ys2 : List Int), m ≤ k ∧ i = .int .i64 m ∧ Hid (Filled k 102 ys2 m) ∧ Own wr2 23 B (.slice A k c) (i8s (rep k 101)) ∧ Own wr2 23 B (.slice A2 k c2) (i8s ys2) ∧ Below B w wr2)
        (fun i _ => k - (intOf i).toNat)
      case atStart => exact ⟨0, ys, by omega, rfl, ⟨HYL.out, fun j hj => by omega⟩, HO1.out, HO2.out, HB2.out⟩
      case round =>
        obtain ⟨m, ys2, hm, rfl, HF, ho, ho2, hbel⟩ := hrel
        by_cases hlt2 : m < k
        · obtain ⟨g, rfl, hg1, hg2⟩ := own_form8 ho2 (by rw [HF.out.1]; omega)
          have hcell := own_getD ho2 (k := m) (by rw [HF.out.1]; omega)
          have hfr := ho2.free m
          have HS := Lib.hid (show Own (wr.setCell ⟨g, m, none⟩ (.int .i8 102)) 23 B (.slice (some ⟨g, 0, none⟩) k c2) (i8s (ys2.set m 102)) ∧ Own (wr.setCell ⟨g, m, none⟩ (.int .i8 102)) 23 B (.slice A k c) (i8s (rep k 101)) ∧ Below B w (wr.setCell ⟨g, m, none⟩ (.int .i8 102)) from
            ⟨own_set ho2 m 102, ho.kept (row := some g) (grown_setCell (World.grownBy.refl _ _) rfl _) (.inr (fun e => HD.out g e rfl)), hbel.setCell (p := ⟨g, m, none⟩) hg1 _⟩)
          clear ho ho2 hbel
          go_wp2
          go_roundw
          case rel => exact ⟨m + 1, _, by omega, by go_num, HF.out.step hlt2, HS.out.2.1, HS.out.1, HS.out.2.2⟩
          case measure => simp [intOf]; omega
        · have hm' : m = k := by omega
          subst hm'
          obtain rfl := HF.out.done
          have HFr := Lib.hid (show Fr m A A2 B w m m (.slice A m c) (.slice A2 m c2) wr from
            ⟨ho, ho2, Nat.le_refl _, Nat.le_refl _, HD.out, ho.sl, ho2.sl, FA.out, FB.out,
              fun ad e => by subst e; exact (ho.lt _ rfl).2, fun ad e => by subst e; exact (ho2.lt _ rfl).2, fun ad e h => by subst e; exact HD.out _ h rfl, fun ad e => by subst e; exact HD.out _ rfl, hbel, Nat.le_trans hB hbel.size⟩)
          clear ho ho2 hbel HF HO1 HO2 HB2
          go_wp2
          go_loopw [7, 8, 31] (fun x y i wr3 => ∃ (j : Nat) (X : Option Addr) (cx : Nat) (Y : Option Addr) (cy : Nat), j ≤ 40 ∧ i = .int .i64 j ∧ x = .slice X (m + j) cx ∧ y = .slice Y (m + j) cy ∧ Fr m A A2 B w (m + j) (m + j) (.slice X (m + j) cx) (.slice Y (m + j) cy) wr3)
            (fun _ _ i _ => 40 - (intOf i).toNat)
          case atStart => exact ⟨0, A, c, A2, c2, by omega, rfl, rfl, rfl, HFr.out⟩
          case round =>
            obtain ⟨j, X, cx, Y, cy, hj, rfl, rfl, rfl, hF⟩ := hrel
            by_cases hlj : j < 40
            · have H0 := Lib.hid hF
              have z0 := hF.hB
              clear hF
              go_wp2_with (first
                | (at_builtin; refine wpList_append_sl2 _ rfl (.tmp 33) (.tmp 34) 22 rfl B 23 i0 _ 1 Try.underlying22 hi0 hz0 hz1 hz2 rfl (.slice X (m + j) cx) (m + j) _ (by simp) rfl ((H0.out.alloc _).ox) _ _ _ 1 [.int .i8 101] rfl rfl (sl_one _ _ _) (one_int _ _) (by unfold maxLen; omega) (by omega) (by simp; omega) ?_; intro X2 cx2 w2 hox hax; have H1 := Lib.hid ((H0.out.alloc _).growx hox hax); clear hox hax; have z1 := H1.out.hB)
                | (at_builtin; refine wpList_append_sl2 _ rfl (.tmp 36) (.tmp 37) 22 rfl B 23 i0 _ 1 Try.underlying22 hi0 hz0 hz1 hz2 rfl (.slice Y (m + j) cy) (m + j) _ (by simp) rfl ((H1.out.alloc _).oy) _ _ _ 1 [.int .i8 102] rfl rfl (sl_one _ _ _) (one_int _ _) (by unfold maxLen; omega) (by omega) (by simp; omega) ?_; intro Y2 cy2 w3 hoy hay; have H2 := Lib.hid ((H1.out.alloc _).growy hoy hay); clear hoy hay))
              go_roundw
              case rel => exact ⟨j + 1, X2, cx2, Y2, cy2, by omega, by go_num, rfl, rfl, H2.out⟩
              case measure => simp [intOf]; omega
            · have hj' : j = 40 := by omega
              subst hj'
              have HX := Lib.hid hF.ox.sl
              have HY := Lib.hid hF.oy.sl
              have HRa := Lib.hid hF.ra
              have HRb := Lib.hid hF.rb
              have HBel := Lib.hid hF.bel
              clear hF HFr
              go_wp2
              go_loop [42] (fun i => ∃ q : Nat, q ≤ m + 40 ∧ i = .int .i64 q) (fun i => m + 40 - (intOf i).toNat)
              case atStart => exact ⟨0, by omega, rfl⟩
              case round =>
                obtain ⟨q, hq, rfl⟩ := hrel
                by_cases hlq : q < m + 40
                · obtain ⟨ad, rfl, _, hc1⟩ := sl_get HX.out (k := q) (by simpa using hlq)
                  obtain ⟨ad2, rfl, _, hc2⟩ := sl_get HY.out (k := q) (by simpa using hlq)
                  rw [rep_getD _ _ _ hlq] at hc1 hc2
                  go_wp2
                  go_round
                  case rel => exact ⟨q + 1, by omega, by go_num⟩
                  case measure => simp [intOf]; omega
                · go_wp2
                  go_loop [60] (fun i => ∃ r : Nat, r ≤ m ∧ i = .int .i64 r) (fun i => m - (intOf i).toNat)
                  case atStart => exact ⟨0, by omega, rfl⟩
                  case round =>
                    obtain ⟨r, hr, rfl⟩ := hrel
                    by_cases hlr : r < m
                    · obtain ⟨ad, rfl, _, hc1⟩ := sl_get HRa.out (k := r) (by simpa using hlr)
                      obtain ⟨ad2, rfl, _, hc2⟩ := sl_get HRb.out (k := r) (by simpa using hlr)
                      rw [rep_getD _ _ _ hlr] at hc1 hc2
                      go_wp2
                      go_round
                      case rel => exact ⟨r + 1, by omega, by go_num⟩
                      case measure => simp [intOf]; omega
                    · go_wp2
                      go_ret
                      exact ⟨rfl, HBel.out⟩
end Go.Proofs.Ytlomcnmijfiihaa
