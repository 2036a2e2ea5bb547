/- the reference: Resolve. -/
import Derived.Test.YtlomcnmijfiihaaRefE
import Derived.Test.YtlomcnmijfiihaaByStep
namespace Go.Proofs.Ytlomcnmijfiihaa
open Go.RowKit
theorem own_more {w : World} {e : TypeId} {B B' : Nat} {v : Value} {xs : List Value} (h : Own w e B v xs) (hB : B' ≤ B) : Own w e B' v xs := by
  refine ⟨h.1, ?_⟩
  rcases h.2 with hn | ⟨g, cap, cur, hv, hb, rest⟩
  · exact .inl hn
  · exact .inr ⟨g, cap, cur, hv, by omega, rest⟩
theorem resolveL_cls (zs : List Int) (s : Int) : resolveL (zs.map clsL) s = resolveL zs s := by
  unfold resolveL
  rw [map_cls_range (zs.map clsL) (fun z hz => by
    obtain ⟨y, _, rfl⟩ := List.mem_map.1 hz
    exact clsL_range y)]
set_option maxHeartbeats 2000000 in
theorem rresolve_any (zs : List Int) (A : Option Addr) (c : Nat) (s : Int) (w : World) (hl : zs.length ≤ 140737488351232) (h : Sl w w.heap.size A (i8s zs)) :
    Calls Try.prog 9 #[.slice A zs.length c, .int .i8 s] w fun e w' => ∃ A' c', e = .returned (.slice A' zs.length c') ∧ Own w' 23 w.heap.size (.slice A' zs.length c') (i8s (resolveL zs s)) ∧ Below w.heap.size w w' := by
  go_enter Try.func9, Try.ntmps9
  go_wp2_with fail
  refine (listed_any zs A c w hl h).mono ?_
  rintro e w1 ⟨A1, c1, rfl, ho1, hb1⟩
  have O1 := Lib.hid ho1
  have B1 := Lib.hid hb1
  have EC := Lib.hid (show (zs.map clsL).length = zs.length from by simp)
  clear ho1 hb1 h
  go_wp2_with fail
  go_loopw [5, 6] (fun v i wr => ∃ (k : Nat) (A' : Option Addr) (c' : Nat), k ≤ 7 ∧ v = .slice A' zs.length c' ∧ i = .int .i64 ((k : Int) + 1) ∧ Own wr 23 w.heap.size (.slice A' zs.length c') (i8s (bySteps (zs.map clsL) s k)) ∧ Below w.heap.size w wr)
    (fun _ i _ => 8 - (intOf i).toNat)
  case atStart => exact ⟨0, A1, c1, by omega, rfl, rfl, O1.out, B1.out⟩
  case round =>
    obtain ⟨k, A', c', hk, rfl, rfl, ho, hb⟩ := hrel
    have HB := Lib.hid hb
    have zr := hb.size
    clear hb
    by_cases hlt : k < 7
    · have L := bySteps_length (zs.map clsL) s k
      rw [EC.out] at L
      have SA := rstep_any ((k : Int) + 1) (bySteps (zs.map clsL) s k) A' c' s wr (by rw [L]; exact hl) ho.sl
      rw [L] at SA
      have HSA := Lib.hid SA
      clear ho L SA
      go_wp2_with fail
      refine HSA.out.mono ?_
      rintro e w3 ⟨A3, c3, rfl, ho3, hb3⟩
      have R := Lib.hid (show Own w3 23 w.heap.size (.slice A3 zs.length c3) (i8s (bySteps (zs.map clsL) s (k + 1))) ∧ Below w.heap.size w w3 from ⟨own_more ho3 zr, HB.out.trans (hb3.mono zr)⟩)
      clear ho3 hb3
      go_wp2_with fail
      go_roundw
      case rel => exact ⟨k + 1, A3, c3, by omega, rfl, by go_num, R.out.1, R.out.2⟩
      case measure => simp [intOf]; omega
    · have hk' : k = 7 := by omega
      subst hk'
      rw [bySteps_seven, resolveL_cls] at ho
      have HO := Lib.hid ho
      clear ho
      go_wp2
      go_ret
      exact ⟨_, _, rfl, HO.out, HB.out⟩
end Go.Proofs.Ytlomcnmijfiihaa
