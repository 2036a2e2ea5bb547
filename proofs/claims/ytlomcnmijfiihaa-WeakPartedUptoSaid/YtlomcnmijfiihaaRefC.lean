/- the reference: marks. -/
import Derived.Test.YtlomcnmijfiihaaRefB
namespace Go.Proofs.Ytlomcnmijfiihaa
open Go.RowKit
theorem mid_iso {s st : Int} {zs ys : List Int} {j : Nat} (h : Mid fMarks s zs ys (j + 1) st) (hj : j < zs.length) : st = iso (ys.getD j 0) := by
  obtain ⟨rfl, rfl⟩ := h
  have e : ((scan fMarks s (zs.take (j + 1))).1 ++ zs.drop (j + 1)).getD j 0 = (scan fMarks s (zs.take (j + 1))).1.getD j 0 := getD_app1 _ _ _ (by simp [scan_length]; omega)
  rw [e, scan_snoc fMarks zs s j hj]
  have e2 : ((scan fMarks s (zs.take j)).1 ++ [(fMarks (scan fMarks s (zs.take j)).2 zs[j]).1]).getD j 0 = (fMarks (scan fMarks s (zs.take j)).2 zs[j]).1 := by
    have := getD_app2 (scan fMarks s (zs.take j)).1 [(fMarks (scan fMarks s (zs.take j)).2 zs[j]).1] 0
    rw [Nat.add_zero, scan_length, List.length_take, Nat.min_eq_left (by omega)] at this
    rw [this]; rfl
  rw [e2]
  rfl
set_option maxHeartbeats 4000000 in
theorem rmarks_any (zs : List Int) (A : Option Addr) (c : Nat) (s : Int) (w : World) (B : Nat) (hl : zs.length ≤ 140737488351232) (hown : Own w 23 B (.slice A zs.length c) (i8s zs)) :
    Calls Try.prog 23 #[.slice A zs.length c, .int .i8 s] w fun e w' => e = .returned (.tuple #[]) ∧ Own w' 23 B (.slice A zs.length c) (i8s (scan fMarks (sosL s) zs).1) ∧ w.grownBy w' (Value.slice A zs.length c).ownBlock := by
  go_enter Try.func23, Try.ntmps23
  go_wp2
  go_loopw [4] (fun i wr => ∃ (k : Nat) (ys : List Int) (st : Int), k ≤ zs.length ∧ i = .int .i64 k ∧ Pass fMarks (sosL s) zs B A c w k ys st wr)
    (fun i _ => zs.length - (intOf i).toNat)
  case atStart => exact ⟨0, zs, sosL s, by omega, rfl, Mid.start _ _ _, hown, World.grownBy.refl _ _⟩
  case round =>
    obtain ⟨k, ys, st, hk, rfl, hp⟩ := hrel
    by_cases hlt : k < zs.length
    · obtain ⟨g, rfl⟩ := hp.form hlt
      obtain ⟨hc, hfr⟩ := hp.cell hlt
      have HS := Lib.hid (fun o st' => hp.store (o := o) (st' := st') hlt)
      have HK := Lib.hid (fun st' => hp.skip (st' := st') hlt)
      by_cases hz : zs[k] = 8
      · rcases Nat.eq_zero_or_pos k with h0 | h0
        · subst h0
          have hst : st = sosL s := hp.1.2
          subst hst
          rw [hz] at hc HS
          clear hp hown HK hz
          go_wp2_with (go_at_call 35; refine (begins_any _ _).mono ?_; rintro e w' ⟨rfl, rfl⟩)
          go_roundw
          case rel => exact ⟨1, _, _, by omega, by go_num, HS.out _ _ (by simp [fMarks]; rfl)⟩
          case measure => simp [intOf]; omega
        · obtain ⟨j, rfl⟩ : ∃ j, k = j + 1 := ⟨k - 1, by omega⟩
          have hst := mid_iso hp.1 (by omega)
          have hcj := own_getD hp.2.1 (k := j) (by rw [hp.1.len (by omega)]; omega)
          have HST := Lib.hid hst
          rw [hz] at hc HS
          clear hp hown hst hz HK
          generalize ys.getD j 0 = p at *
          have ej : ((j + 1 : Nat) : Int) = (j : Int) + 1 := by omega
          rw [ej]
          have hb0 : ((j : Int) + 1 == 0) = false := by simp; omega
          clear ej
          by_cases h19 : p = 19
          · subst h19
            go_wp2
            go_roundw
            case rel => exact ⟨j + 2, _, _, by omega, by go_num, HS.out _ _ (by rw [HST.out]; rfl)⟩
            case measure => simp [intOf]; omega
          by_cases h20 : p = 20
          · subst h20
            go_wp2
            go_roundw
            case rel => exact ⟨j + 2, _, _, by omega, by go_num, HS.out _ _ (by rw [HST.out]; rfl)⟩
            case measure => simp [intOf]; omega
          by_cases h21 : p = 21
          · subst h21
            go_wp2
            go_roundw
            case rel => exact ⟨j + 2, _, _, by omega, by go_num, HS.out _ _ (by rw [HST.out]; rfl)⟩
            case measure => simp [intOf]; omega
          by_cases h22 : p = 22
          · subst h22
            go_wp2
            go_roundw
            case rel => exact ⟨j + 2, _, _, by omega, by go_num, HS.out _ _ (by rw [HST.out]; rfl)⟩
            case measure => simp [intOf]; omega
          have b19 : (p == 19) = false := by simpa using h19
          have b20 : (p == 20) = false := by simpa using h20
          have b21 : (p == 21) = false := by simpa using h21
          have b22 : (p == 22) = false := by simpa using h22
          have hiso : Hid (iso p = p) := by show iso p = p; unfold iso; rw [if_neg (by omega)]
          clear h19 h20 h21 h22
          go_wp2
          go_roundw
          case rel => exact ⟨j + 2, _, _, by omega, by go_num, HS.out _ _ (by rw [HST.out, hiso.out]; rfl)⟩
          case measure => simp [intOf]; omega
      · have HZ := Lib.hid hz
        have hbz : (zs[k] != 8) = true := by simpa using hz
        clear hp hown hz HS
        generalize zs[k] = z at *
        go_wp2
        go_roundw
        case rel => exact ⟨k + 1, _, _, by omega, by go_num, HK.out _ (by unfold fMarks; rw [if_neg HZ.out])⟩
        case measure => simp [intOf]; omega
    · have hk' : k = zs.length := by omega
      subst hk'
      obtain ⟨hm, ho, hg⟩ := hp
      obtain ⟨rfl, rfl⟩ := hm.done
      go_wp2
      go_end0
      exact ⟨rfl, ho, hg⟩
end Go.Proofs.Ytlomcnmijfiihaa
