/- shuttlelaw04: NormAlike: the walk. -/
import Derived.Test.YtlphmcodajookaaDoorNwakes
namespace Go.Proofs.YtlphmcodajookaaDoor
open Go.RowKit
set_option maxRecDepth 20000 in
set_option maxHeartbeats 8000000 in
theorem alike_any (a b c : ByteArray) (w : World) (ha : a.size ≤ 1048576) (hb : b.size ≤ 1048576) (hc : c.size ≤ 1048576) (hT : Lib.Utf8Tabs 0 1 w) :
    Calls Tryd.prog 8 #[.string a, .string b, .string c] w fun e w' => e = .returned (.bool true) ∧ Stay [] w w' := by
  have tT : ∀ {W'}, Stay [] w W' → Lib.Utf8Tabs 0 1 W' := fun hs => Utf8Tabs_below hT (hs.toBelow (Nat.le_refl _) (by simp))
  have hA : ∀ (s : ByteArray), s.size ≤ 1048576 → ∀ W', Stay [] w W' → Calls Tryd.prog 29 #[.string s] W' fun e w' => e = .returned (.string (str (apartS s.data.toList))) ∧ Stay [] W' w' := fun s hs W' h => apartG_any s W' (by omega) (tT h)
  have hG : ∀ (s : ByteArray), s.size ≤ 1048576 → ∀ W', Stay [] w W' → Calls Tryd.prog 31 #[.string s] W' fun e w' => e = .returned (.string (str (togetherS s.data.toList))) ∧ Stay [] W' w' := fun s hs W' h => togG_any s W' (by omega) (tT h)
  have hS : ∀ (s t : ByteArray), s.size ≤ 1048576 → t.size ≤ 1048576 → ∀ W', Stay [] w W' → Calls Tryd.prog 33 #[.string s, .string t] W' fun e w' => e = .returned (.bool (decide (apartS s.data.toList = apartS t.data.toList))) ∧ Stay [] W' w' := fun s t hs ht W' h => sameG_any s t W' (by omega) (by omega) (tT h)
  have H26 := Lib.hid (fun W' (h : Stay [] w W') => wakes_any W' (tT h))
  have Haa := hS a a ha ha
  have Hab := hS a b ha hb
  have Hbc := hS b c hb hc
  have Hba := hS b a hb ha
  have Hac := hS a c ha hc
  have HA := hA a ha
  have HB := hA b hb
  have HGa := hG a ha
  have HGb := hG b hb
  have hti := same_iff a.data.toList b.data.toList
  obtain ⟨pa, hpa⟩ : ∃ p, p = apartS a.data.toList := ⟨_, rfl⟩
  obtain ⟨pb, hpb⟩ : ∃ p, p = apartS b.data.toList := ⟨_, rfl⟩
  obtain ⟨pc, hpc⟩ : ∃ p, p = apartS c.data.toList := ⟨_, rfl⟩
  obtain ⟨ta, hta⟩ : ∃ p, p = togetherS a.data.toList := ⟨_, rfl⟩
  obtain ⟨tb, htb⟩ : ∃ p, p = togetherS b.data.toList := ⟨_, rfl⟩
  rw [← hpa, ← hpb, ← hta, ← htb] at hti
  rw [← hpa] at Haa Hab Hba Hac HA
  rw [← hpb] at Hab Hbc Hba HB
  rw [← hpc] at Hbc Hac
  rw [← hta] at HGa
  rw [← htb] at HGb
  have q1 : ((str pa).toList == (str pb).toList) = decide (pa = pb) := by rw [str_toList, str_toList, Bool.eq_iff_iff]; simp
  have q2 : ((str ta).toList == (str tb).toList) = decide (pa = pb) := by rw [str_toList, str_toList, Bool.eq_iff_iff]; simp [hti]
  obtain ⟨x, hx⟩ : ∃ x, x = decide (pa = pb) := ⟨_, rfl⟩
  obtain ⟨y, hy⟩ : ∃ x, x = decide (pb = pc) := ⟨_, rfl⟩
  obtain ⟨z, hz⟩ : ∃ x, x = decide (pa = pc) := ⟨_, rfl⟩
  have hba : decide (pb = pa) = x := by rw [hx, Bool.eq_iff_iff]; simp [eq_comm]
  rw [hba] at Hba
  rw [← hx] at Hab q1 q2
  rw [← hy] at Hbc
  rw [← hz] at Hac
  rw [show decide (pa = pa) = true from by simp] at Haa
  have hxz : x = true → z = y := fun h => by
    rw [hx, decide_eq_true_eq] at h
    rw [hz, hy, h]
  have HAA := Lib.hid Haa
  have HAB := Lib.hid Hab
  have HBC := Lib.hid Hbc
  have HBA := Lib.hid Hba
  have HAC := Lib.hid Hac
  have HPA := Lib.hid HA
  have HPB := Lib.hid HB
  have HTA := Lib.hid HGa
  have HTB := Lib.hid HGb
  clear Haa Hab Hbc Hba Hac HA HB HGa HGb hA hG hS tT hti hpa hpb hpc hta htb hx hy hz hba hT ha hb hc
  go_enter Tryd.func8, Tryd.ntmps8
  go_wp2_with fail
  refine (HAB.out w (Stay.refl _ _)).mono ?_
  rintro e w1 ⟨rfl, hs⟩
  have HS1 := Lib.hid hs
  clear hs
  go_wp2_with fail
  refine (HBC.out w1 HS1.out).mono ?_
  rintro e w2 ⟨rfl, hs⟩
  have HS2 := Lib.hid (HS1.out.trans hs)
  clear hs
  go_wp2_with fail
  refine (HAA.out w2 HS2.out).mono ?_
  rintro e w3 ⟨rfl, hs⟩
  have HS3 := Lib.hid (HS2.out.trans hs)
  clear hs
  go_wp2_with fail
  refine (HBA.out w3 HS3.out).mono ?_
  rintro e w4 ⟨rfl, hs⟩
  have HS4 := Lib.hid (HS3.out.trans hs)
  clear hs
  have fin : x = false ∨ (x = true ∧ z = y) := by cases x <;> simp_all
  rcases fin with rfl | ⟨rfl, rfl⟩
  · clear hxz
    go_wp2_with fail
    refine (HPA.out w4 HS4.out).mono ?_
    rintro e w5 ⟨rfl, hs⟩
    have HS5 := Lib.hid (HS4.out.trans hs)
    clear hs
    go_wp2_with fail
    refine (HPB.out w5 HS5.out).mono ?_
    rintro e w6 ⟨rfl, hs⟩
    have HS6 := Lib.hid (HS5.out.trans hs)
    clear hs
    go_wp2_with fail
    refine (HTA.out w6 HS6.out).mono ?_
    rintro e w7 ⟨rfl, hs⟩
    have HS7 := Lib.hid (HS6.out.trans hs)
    clear hs
    go_wp2_with fail
    refine (HTB.out w7 HS7.out).mono ?_
    rintro e w8 ⟨rfl, hs⟩
    have HS8 := Lib.hid (HS7.out.trans hs)
    clear hs
    go_wp2_with fail
    refine (H26.out w8 HS8.out).mono ?_
    rintro e w9 ⟨rfl, hs⟩
    have HS9 := Lib.hid (HS8.out.trans hs)
    clear hs
    go_wp2_with fail
    go_ret
    exact ⟨rfl, HS9.out⟩
  · clear hxz
    cases z
    all_goals
      go_wp2_with fail
      refine (HAC.out w4 HS4.out).mono ?_
      rintro e w4' ⟨rfl, hs⟩
      have HS4' := Lib.hid (HS4.out.trans hs)
      clear hs
      go_wp2_with fail
      refine (HPA.out w4' HS4'.out).mono ?_
      rintro e w5 ⟨rfl, hs⟩
      have HS5 := Lib.hid (HS4'.out.trans hs)
      clear hs
      go_wp2_with fail
      refine (HPB.out w5 HS5.out).mono ?_
      rintro e w6 ⟨rfl, hs⟩
      have HS6 := Lib.hid (HS5.out.trans hs)
      clear hs
      go_wp2_with fail
      refine (HTA.out w6 HS6.out).mono ?_
      rintro e w7 ⟨rfl, hs⟩
      have HS7 := Lib.hid (HS6.out.trans hs)
      clear hs
      go_wp2_with fail
      refine (HTB.out w7 HS7.out).mono ?_
      rintro e w8 ⟨rfl, hs⟩
      have HS8 := Lib.hid (HS7.out.trans hs)
      clear hs
      go_wp2_with fail
      refine (H26.out w8 HS8.out).mono ?_
      rintro e w9 ⟨rfl, hs⟩
      have HS9 := Lib.hid (HS8.out.trans hs)
      clear hs
      go_wp2_with fail
      go_ret
      exact ⟨rfl, HS9.out⟩
end Go.Proofs.YtlphmcodajookaaDoor
