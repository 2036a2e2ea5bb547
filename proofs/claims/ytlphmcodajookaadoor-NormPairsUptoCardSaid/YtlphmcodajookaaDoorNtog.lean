/- norm: Together: the walk. -/
import Derived.Test.YtlphmcodajookaaDoorNapartg
import Derived.Test.YtlphmcodajookaaDoorNAseg
import Derived.Test.YtlphmcodajookaaDoorNAbase
namespace Go.Proofs.YtlphmcodajookaaDoor
open Go.RowKit
set_option maxRecDepth 100000 in
set_option maxHeartbeats 40000000 in
theorem togG_any (s : ByteArray) (w : World) (hs : s.size ≤ 1099511627776) (hT : Lib.Utf8Tabs 0 1 w) :
    Calls Tryd.prog 31 #[.string s] w fun e w' => e = .returned (.string (str (togetherS s.data.toList))) ∧ Stay [] w w' := by
  have H1 := Lib.hid (apart_any s w hs hT)
  obtain ⟨Ls, hLs⟩ : ∃ L, L = apartI s.data.toList := ⟨_, rfl⟩
  have hlen : Ls.length ≤ 8796093022208 := by rw [hLs]; exact Nat.le_trans (apart_len s.data.toList) (by show s.size * 8 ≤ _; omega)
  have hPt : Parted Ls := by rw [hLs]; exact apartI_parted _
  have hres : togetherS s.data.toList = textI ((Ls.take Ls.length).foldl stepT ⟨[], none, []⟩).out := by rw [List.take_length, hLs]; rfl
  rw [← hLs] at H1
  rw [hres]
  have HLn := Lib.hid hlen
  have HTi := Lib.hid (fun k hk => ti_take hPt k hk)
  have HTl := Lib.hid (fun k hk => tt_len Ls k hk)
  clear hs hT hLs hlen hPt hres
  go_enter Tryd.func31, Tryd.ntmps31
  go_wp2_with fail
  refine H1.out.mono ?_
  rintro e W1 ⟨Ai, ci, rfl, hi, hs1⟩
  have HI1 := Lib.hid hi
  have HS1 := Lib.hid hs1
  obtain ⟨n, hn⟩ : ∃ n, n = Ls.length := ⟨_, rfl⟩
  rw [← hn] at HTi HTl HLn ⊢
  have HN := Lib.hid hn
  clear hi hs1 H1 hn
  go_wp2_with fail
  go_loopw [3, 4, 13] (fun v3 v4 v13 wr => ∃ (k : Nat) (Ao : Option Addr) (co : Nat), v13 = .int .i64 k ∧ k ≤ n ∧ v3 = .slice Ao ((Ls.take k).foldl stepT ⟨[], none, []⟩).out.length co ∧ v4 = .int .i64 (stI ((Ls.take k).foldl stepT ⟨[], none, []⟩)) ∧ Win wr W1.heap.size 67 4 Ao ((Ls.take k).foldl stepT ⟨[], none, []⟩).out.length co (itC ((Ls.take k).foldl stepT ⟨[], none, []⟩).out) ∧ Stay [] W1 wr)
    (fun _ _ v13 _ => (n - intOf v13).toNat)
  case atStart => exact ⟨0, none, 0, rfl, Nat.zero_le _, rfl, rfl, Win.nil _ _ _ _, Stay.refl _ _⟩
  case round =>
    obtain ⟨k, Ao, co, rfl, hk, rfl, rfl, hwin, hst⟩ := hrel
    have hti := HTi.out k hk
    have htl := HTl.out k hk
    by_cases hkn : k = n
    · subst hkn
      obtain ⟨T, hT⟩ : ∃ T, T = (Ls.take k).foldl stepT ⟨[], none, []⟩ := ⟨_, rfl⟩
      rw [← hT] at hti htl hwin ⊢
      have hit : ItAt wr Ao T.out := by
        rcases hwin.2.2.2 with ⟨_, h0⟩ | ⟨g, o, M, hA, h2, h3, h4, h5⟩
        · exact .inl (List.eq_nil_of_length_eq_zero (by have := hwin.2.1; omega))
        · subst hA
          refine .inr ⟨g, o, rfl, h3.lt, fun i x hi => ?_⟩
          obtain ⟨e0, e1, e2, e3⟩ := itC_at T.out i x hi
          exact ⟨hwin.cell _ _ e0, hwin.cell _ _ e1, hwin.cell _ _ e2, hwin.cell _ _ e3⟩
      have HC := Lib.hid (text_any Ao co T.out.length T.out wr rfl hit (by have := HLn.out; omega) (fun x hx => (hti.ok x hx).range))
      have HS := Lib.hid (HS1.out.trans hst)
      have HTe := Lib.hid (show ((Ls.take Ls.length).foldl stepT ⟨[], none, []⟩) = T from by rw [← HN.out, hT])
      clear hti htl hwin hst hit hT
      go_wp2_with (go_at_call 73; refine HC.out.mono ?_; rintro e w2 ⟨rfl, h2⟩; have H2 := Lib.hid h2; clear h2)
      go_ret
      exact ⟨by rw [HTe.out]; rfl, HS.out.trans H2.out⟩
    · have hkl : k < n := by omega
      obtain ⟨x, hx⟩ : ∃ x, Ls[k]? = some x := ⟨_, List.getElem?_eq_getElem (by have := HN.out; omega)⟩
      have hsucc := tt_succ hx
      obtain ⟨T, hT⟩ : ∃ T, T = (Ls.take k).foldl stepT ⟨[], none, []⟩ := ⟨_, rfl⟩
      rw [← hT] at hti htl hwin hsucc ⊢
      have HSucc := Lib.hid hsucc
      have hdr : Ls.drop k = x :: Ls.drop (k + 1) := by
        rw [List.drop_eq_getElem_cons (by have := HN.out; omega)]
        congr 1
        rw [List.getElem?_eq_getElem (by have := HN.out; omega)] at hx
        exact Option.some.inj hx
      have hxok : x.ok := hti.okr x (by rw [hdr]; simp)
      have hxr := hxok.range
      rcases HI1.out.below (hst.toBelow (Nat.le_refl _) (by simp)) with hnil | ⟨gi, oi, rfl, hgi, hci⟩
      · rw [hnil] at hx; simp at hx
      obtain ⟨c0, c1, c2, c3⟩ := hci k x hx
      obtain ⟨q, hq⟩ : ∃ q, q = wr.heap.size := ⟨_, rfl⟩
      obtain ⟨V, hV⟩ : ∃ V, V = wr.alloc (.cells #[.int .i32 x.r, .int .u8 x.b.toNat, .bool x.bad, .int .u8 (keyI x)] 67) := ⟨_, rfl⟩
      have hbv : Blk V q [.int .i32 x.r, .int .u8 x.b.toNat, .bool x.bad, .int .u8 (keyI x)] 67 := by
        rw [hV, hq]
        exact Blk.new wr [.int .i32 x.r, .int .u8 x.b.toNat, .bool x.bad, .int .u8 (keyI x)] 67
      have hsv : Stay [] wr V := by rw [hV]; exact Stay.alloc wr _
      have x0 := hbv.cell 0
      have x1 := hbv.cell 1
      have x2 := hbv.cell 2
      have x3 := hbv.cell 3
      simp at x0 x1 x2 x3
      have hwV := hwin.stay0 hsv
      have HWV := Lib.hid hwV
      have HSV := Lib.hid (hst.trans hsv)
      have HBV := Lib.hid hbv
      have HV := Lib.hid (And.intro hV hq)
      have HXr := Lib.hid hxr
      have HLt := Lib.hid (show T.out.length ≤ 8796093022208 from by have := HLn.out; omega)
      have HTI := Lib.hid hti
      have hkl' : (k : Int) < n := by omega
      have hn64 : n ≤ 35184372088832 := by have := HLn.out; omega
      have HXc := Lib.hid (show It.cells x = [.int .i32 x.r, .int .u8 x.b.toNat, .bool x.bad, .int .u8 (keyI x)] from rfl)
      have hkx0 := keyI_nonneg x
      clear hti htl hwin hst hsucc hdr hxok hxr hci hx hgi hV hq hbv hsv hwV hT
      by_cases hf : ∃ S, T.st = some S ∧ (x.bad = false ∧ S.bad = false)
      · obtain ⟨S, hS, hxb, hSb⟩ := hf
        have hso := HTI.out.ok S (List.mem_of_getElem? (out_at hS))
        have hsk := HTI.out.st0 S hS
        have hsb0 : S.b = 0 := by
          rcases hso with h | h
          · rw [h.1] at hSb; cases hSb
          · exact h.2.1
        have hsr := hso.range
        have hol := out_len hS
        have hsti := stI_some hS
        obtain ⟨g, o, rfl⟩ := HWV.out.addr (by omega)
        obtain ⟨e0, e1, e2, e3⟩ := itC_at T.out _ S (out_at hS)
        have s0 := HWV.out.cell _ _ e0
        have s2 := HWV.out.cell _ _ e2
        rw [hSb, ← Nat.add_assoc] at s2
        rw [hxb] at x2 c2
        obtain ⟨ip, hip⟩ : ∃ ip, ip = T.pre.length := ⟨_, rfl⟩
        rw [← hip] at s0 s2 hol hsti
        obtain ⟨nl, hnl⟩ : ∃ nl, nl = T.out.length - 1 := ⟨_, rfl⟩
        have hn1 : ((T.out.length : Nat) : Int) - 1 = (nl : Int) := by omega
        obtain ⟨y, hy, hcase⟩ : ∃ y : It, T.out[nl]? = some y ∧ ((ip = nl ∧ nearT T.mid x = true) ∨ (ip ≠ nl ∧ ¬ keyI y = 0 ∧ keyI y < keyI x ∧ nearT T.mid x = true) ∨ (ip ≠ nl ∧ ¬ keyI y = 0 ∧ ¬ keyI y < keyI x ∧ nearT T.mid x = false)) := by
          rcases out_last hS with ⟨hm, h1⟩ | ⟨y, hy, hyo, h1⟩
          · refine ⟨S, ?_, .inl ⟨by omega, by rw [hm]; rfl⟩⟩
            have := out_at hS
            rw [show nl = T.pre.length by omega]; exact this
          · refine ⟨y, by rw [hnl]; exact hyo, .inr ?_⟩
            have hky := HTI.out.mid y (List.mem_of_getLast? hy)
            by_cases hlt : keyI y < keyI x
            · exact .inl ⟨by omega, hky, hlt, by unfold nearT; rw [hy]; simp [hky, hlt]⟩
            · exact .inr ⟨by omega, hky, hlt, by unfold nearT; rw [hy]; simp [hlt]⟩
        obtain ⟨_, _, _, y3⟩ := itC_at T.out _ y hy
        have l3 := HWV.out.cell _ _ y3
        rw [← Nat.add_assoc] at l3
        obtain ⟨yk, hyk⟩ : ∃ m, m = keyI y := ⟨_, rfl⟩
        obtain ⟨xk, hxk⟩ : ∃ m, m = keyI x := ⟨_, rfl⟩
        obtain ⟨p, hp⟩ : ∃ p, p = pairN S.r x.r := ⟨_, rfl⟩
        have HCl := Lib.hid (fun W' => pair_any S.r x.r W' hsr HXr.out)
        rw [← hp] at HCl
        have HPm := Lib.hid (show p ≠ 0 → markN p = 0 from fun h => by rw [hp] at h ⊢; exact (pair_split h).2.1)
        have HSf := Lib.hid (And.intro hS (And.intro hxb (And.intro hSb (And.intro hsb0 (And.intro hsk (And.intro hip hp))))))
        rw [← hyk] at hcase l3
        rw [← hxk] at x3 c3 hcase HXc hkx0 HBV HV
        obtain ⟨nb, hnb⟩ : ∃ b, b = nearT T.mid x := ⟨_, rfl⟩
        rw [← hnb] at hcase
        have HNb := Lib.hid hnb
        have HXk := Lib.hid hxk
        have hin : (ip : Int) < T.out.length := by omega
        have hnin : (nl : Int) < T.out.length := by omega
        have hip0 : (0 : Int) ≤ ip := by omega
        have hwl : wrap64 (nl : Int) = nl := by have := HLt.out; unfold wrap64; omega
        rw [hsti]
        rw [hxb] at HXc HBV HV
        obtain ⟨N, hN⟩ : ∃ N, N = T.out.length := ⟨_, rfl⟩
        rw [← hN] at hn1 hin hnin HWV HLt ⊢
        have HNo := Lib.hid hN
        clear hso hsk hsb0 hsr hol hsti e0 e1 e2 e3 hnl hy y3 hyk hxk hp hS hxb hSb hip hnb hN
        have HStI := Lib.hid (show stI T = (ip : Int) from by rw [stI_some HSf.out.1, HSf.out.2.2.2.2.2.1])
        rcases hcase with ⟨rfl, rfl⟩ | ⟨hc1, hc2, hc3, rfl⟩ | ⟨hc1, hc2, hc3, rfl⟩
        · have hb0 : ((ip : Int) == (ip : Int)) = true := by simp
          go_upto_region 6 with fail
          rw [← HV.out.1, ← HV.out.2]
          go_upto_region 9 with fail
          have hHeld : (fun w' : World => w'.cell? ⟨g, o + ip * 4, none⟩ = some (.int .i32 S.r) ∧ w'.cell? ⟨q, 0, none⟩ = some (.int .i32 x.r)) V.drew := ⟨by simpa using s0, by simpa using x0⟩
          refine AnyN.begin_ (S := fun w' : World => w'.cell? ⟨g, o + ip * 4, none⟩ = some (.int .i32 S.r) ∧ w'.cell? ⟨q, 0, none⟩ = some (.int .i32 x.r)) (N := []) (by kernel_rfl) ?_
          refine AnyN.takeS (i := 0) (v := ?_) rfl (by kernel_rfl) (by kernel_rfl) (by kernel_rfl) rfl (fun _ _ _ h => h) (Or.inl ⟨by rfl, ?_⟩) hHeld ?_
          rotate_left
          · intro w hSw
            obtain ⟨k0, k1⟩ := hSw
            simp only [List.getElem_toArray, List.getElem_cons_zero]
            go_simp
            all_goals with_reducible rfl
          simp only [List.getElem_toArray, List.getElem_cons_zero, Act.put, List.setIfInBounds_toArray, List.set_cons_zero, List.set_cons_succ]
          refine AnyN.takeS (i := 1) (v := ?_) rfl (by kernel_rfl) (by kernel_rfl) (by kernel_rfl) rfl (fun _ _ _ h => h) (Or.inl ⟨by rfl, ?_⟩) hHeld ?_
          rotate_left
          · intro w hSw
            obtain ⟨k0, k1⟩ := hSw
            simp only [List.getElem_toArray, List.getElem_cons_zero, List.getElem_cons_succ]
            go_simp
            all_goals with_reducible rfl
          simp only [List.getElem_toArray, List.getElem_cons_zero, List.getElem_cons_succ, Act.put, List.setIfInBounds_toArray, List.set_cons_zero, List.set_cons_succ]
          refine AnyN.takeS (i := 2) (v := ?_) rfl (by kernel_rfl) (by kernel_rfl) (by kernel_rfl) rfl (fun _ _ _ h => h) (Or.inl ⟨by rfl, ?_⟩) hHeld ?_
          rotate_left
          · intro w hSw
            obtain ⟨k0, k1⟩ := hSw
            simp only [List.getElem_toArray, List.getElem_cons_zero, List.getElem_cons_succ]
            go_simp
            all_goals with_reducible rfl
          simp only [List.getElem_toArray, List.getElem_cons_zero, List.getElem_cons_succ, Act.put, List.setIfInBounds_toArray, List.set_cons_zero, List.set_cons_succ]
          refine AnyN.takeS (i := 3) (v := ?_) rfl (by kernel_rfl) (by kernel_rfl) (by kernel_rfl) rfl (fun _ _ _ h => h) (Or.inl ⟨by rfl, ?_⟩) hHeld ?_
          rotate_left
          · intro w hSw
            obtain ⟨k0, k1⟩ := hSw
            simp only [List.getElem_toArray, List.getElem_cons_zero, List.getElem_cons_succ]
            go_simp
            all_goals with_reducible rfl
          simp only [List.getElem_toArray, List.getElem_cons_zero, List.getElem_cons_succ, Act.put, List.setIfInBounds_toArray, List.set_cons_zero, List.set_cons_succ]
          refine AnyN.takeS (i := 4) (v := ?_) rfl (by kernel_rfl) (by kernel_rfl) (by kernel_rfl) rfl (fun _ _ _ h => h) (Or.inl ⟨by rfl, ?_⟩) hHeld ?_
          rotate_left
          · intro w hSw
            obtain ⟨k0, k1⟩ := hSw
            simp only [List.getElem_toArray, List.getElem_cons_zero, List.getElem_cons_succ]
            go_simp
            all_goals with_reducible rfl
          simp only [List.getElem_toArray, List.getElem_cons_zero, List.getElem_cons_succ, Act.put, List.setIfInBounds_toArray, List.set_cons_zero, List.set_cons_succ]
          refine AnyN.takeS (i := 5) (v := ?_) rfl (by kernel_rfl) (by kernel_rfl) (by kernel_rfl) rfl (fun _ _ _ h => h) (Or.inl ⟨by rfl, ?_⟩) hHeld ?_
          rotate_left
          · intro w hSw
            obtain ⟨k0, k1⟩ := hSw
            simp only [List.getElem_toArray, List.getElem_cons_zero, List.getElem_cons_succ]
            go_simp
            all_goals with_reducible rfl
          simp only [List.getElem_toArray, List.getElem_cons_zero, List.getElem_cons_succ, Act.put, List.setIfInBounds_toArray, List.set_cons_zero, List.set_cons_succ]
          refine AnyN.takeS (i := 6) (v := ?_) rfl (by kernel_rfl) (by kernel_rfl) (by kernel_rfl) rfl (fun _ _ _ h => h) (Or.inl ⟨by rfl, ?_⟩) hHeld ?_
          rotate_left
          · intro w hSw
            obtain ⟨k0, k1⟩ := hSw
            simp only [List.getElem_toArray, List.getElem_cons_zero, List.getElem_cons_succ]
            go_simp
            all_goals with_reducible rfl
          simp only [List.getElem_toArray, List.getElem_cons_zero, List.getElem_cons_succ, Act.put, List.setIfInBounds_toArray, List.set_cons_zero, List.set_cons_succ]
          refine AnyN.next (i := 7) (by kernel_rfl) ?_
          refine wpOp_step rfl (fun K hK => ?_)
          have HK := Lib.hid hK
          clear hK
          simp only [List.getElem_toArray, List.getElem_cons_zero, List.getElem_cons_succ]
          rw [if_pos (by rfl)]
          go_wp2_with (go_at_call 24; refine (HCl.out _).mono ?_; rintro e W9 ⟨rfl, hs9⟩)
          have hs9' := (Stay.drew V).trans hs9
          have HW9 := Lib.hid (HWV.out.stay0 hs9')
          have HS9 := Lib.hid (HSV.out.trans hs9')
          have hb9 := HBV.out.stay hs9' (by simp)
          have z0 := hb9.cell 0
          have z1 := hb9.cell 1
          have z2 := hb9.cell 2
          have z3 := hb9.cell 3
          simp at z0 z1 z2 z3
          have w0 := (Stay.cell_ hs9' (HWV.out.lt).2 (by simp)).trans s0
          have f0 := HW9.out.free (o + ip * 4)
          clear hs9 hs9' hb9
          refine HK.out _ _ ⟨.inr ⟨w0, z0⟩, ?_⟩
          clear HK K
          refine AnyN.takeS (i := 8) (v := ?_) rfl (by kernel_rfl) (by kernel_rfl) (by kernel_rfl) rfl (fun _ _ _ h => h) (Or.inl ⟨by rfl, ?_⟩) ⟨w0, z0⟩ ?_
          rotate_left
          · intro w hSw
            obtain ⟨k0, k1⟩ := hSw
            simp only [List.getElem_toArray, List.getElem_cons_zero, List.getElem_cons_succ]
            go_simp
            all_goals with_reducible rfl
          simp only [List.getElem_toArray, List.getElem_cons_zero, List.getElem_cons_succ, Act.put, List.setIfInBounds_toArray, List.set_cons_zero, List.set_cons_succ]
          refine AnyN.done (by kernel_rfl) ?_ _
          clear s0 s2 l3 x0 x1 x2 x3 c0 c1 c2 c3
          by_cases hp0 : p = 0
          · subst hp0
            have HNF := Lib.hid (step_no (T := T) (x := x) (fun S' hS' hh => by have e := HSf.out.1.symm.trans hS'; injection e with e; subst e; exact hh.2.2.2 HSf.out.2.2.2.2.2.2.symm))
            obtain ⟨T2, hT2⟩ : ∃ T2, T2 = stepT T x := ⟨_, rfl⟩
            rw [← hT2] at HSucc HNF
            have HL2 := Lib.hid (show N + 1 = T2.out.length ∧ itC T2.out = itC T.out ++ itC [x] from by rw [HNF.out.1]; exact ⟨by simp [HNo.out], itC_app _ _⟩)
            have HSv := Lib.hid (show stI T2 = if xk = 0 then (N : Int) else (ip : Int) from by rw [HNF.out.2, HXk.out, HNo.out, HStI.out])
            have HXi := Lib.hid (show itC [x] = It.cells x from by simp [itC])
            obtain ⟨i67, hi, hzz, hsz, hy⟩ := info_parts info67
            have HI := Lib.hid (And.intro hi (And.intro hzz (And.intro hsz hy)))
            have hsa : ∀ ob, Stay [] W9 (W9.alloc ob) := fun ob => Stay.alloc _ _
            have HA := Lib.hid (fun ob => HW9.out.stay0 (hsa ob))
            have HB := Lib.hid (show W1.heap.size ≤ W9.heap.size from HS9.out.size)
            have HSa := Lib.hid (fun ob => HS9.out.trans (hsa ob))
            have HNw := Lib.hid (show ∀ j u, (itC [x])[j]? = some u → (W9.alloc (.cells (It.cells x).toArray 67)).cell? ((⟨W9.heap.size, 0, none⟩ : Addr).add j) = some u from by rw [HXi.out]; exact cells_new W9 (It.cells x) 67 _ rfl)
            rw [HXc.out] at HNw
            have hN64 : N ≤ 8796093022208 := HLt.out
            clear hT2 hi hzz hsz hy hsa
            by_cases hk0 : xk = 0
            all_goals
              try subst hk0
              go_wp2_with (refine wpList_append_win rfl (.tmp 77) (.tmp 79) 62 rfl W1.heap.size 67 4 i67 _ 8 Tryd.underlying62 HI.out.1 HI.out.2.1 HI.out.2.2.1 HI.out.2.2.2 rfl (by omega) (some ⟨g, o, none⟩) N co (itC T.out) rfl (HA.out _) ⟨W9.heap.size, 0, none⟩ 1 1 rfl (itC [x]) rfl (by omega) HNw.out (itC_one _) (by unfold maxLen; omega) (by omega) (by rw [size_alloc']; have := HB.out; omega) ?_; intro A' c' W8 hw8 hs8 _; rw [← HL2.out.2] at hw8; have H8 := Lib.hid hw8; have HS8 := Lib.hid ((HSa.out _).trans' hs8 (fun g hg => .inr (HW9.out.ab g hg).1)); clear hw8 hs8)
              go_roundw
              case rel => exact ⟨k + 1, A', c', by simp, by omega, by rw [HSucc.out, ← HL2.out.1], by rw [HSucc.out, HSv.out]; first | rw [if_pos rfl] | rw [if_neg hk0], by rw [HSucc.out, ← HL2.out.1]; exact H8.out, HS8.out⟩
              case measure => simp [intOf]; omega
          ·
            have HNF := Lib.hid (step_yes (T := T) (x := x) HSf.out.1 ⟨HSf.out.2.1, HSf.out.2.2.1, HNb.out.symm, by rw [← HSf.out.2.2.2.2.2.2]; exact hp0⟩)
            obtain ⟨T2, hT2⟩ : ∃ T2, T2 = stepT T x := ⟨_, rfl⟩
            rw [← hT2] at HSucc HNF
            have hset := HW9.out.set (ip * 4) (.int .i32 p) (by omega)
            have hturn := itC_turn T.out T.pre.length S p (out_at HSf.out.1) HSf.out.2.2.1 HSf.out.2.2.2.1 HSf.out.2.2.2.2.1 (HPm.out hp0)
            rw [← HSf.out.2.2.2.2.2.1] at hturn
            rw [hturn] at hset
            have H8 := Lib.hid hset
            have HE2 := Lib.hid (show T2.out = T.out.set ip (chr p) ∧ stI T2 = (ip : Int) from by rw [HSf.out.2.2.2.2.2.1, HSf.out.2.2.2.2.2.2]; exact HNF.out)
            have HL2 := Lib.hid (show T2.out.length = N from by rw [HE2.out.1, List.length_set, HNo.out])
            have HS8 := Lib.hid (show Stay [] W1 (W9.setCell ⟨g, o + ip * 4, none⟩ (.int .i32 p)) from HS9.out.set' (.inr (HW9.out.lt).1))
            clear hset hturn hT2
            go_wp2_with fail
            go_roundw
            case rel => exact ⟨k + 1, some ⟨g, o, none⟩, co, by simp, by omega, by rw [HSucc.out, HL2.out], by rw [HSucc.out, HE2.out.2], by rw [HSucc.out, HL2.out, HE2.out.1]; exact H8.out, HS8.out⟩
            case measure => simp [intOf]; omega
        · have hb1 : ((ip : Int) == (nl : Int)) = false := by simp; omega
          have hb2 : (yk != 0) = true := by simpa using hc2
          go_upto_region 6 with fail
          rw [← HV.out.1, ← HV.out.2]
          go_upto_region 9 with fail
          have hHeld : (fun w' : World => w'.cell? ⟨g, o + ip * 4, none⟩ = some (.int .i32 S.r) ∧ w'.cell? ⟨q, 0, none⟩ = some (.int .i32 x.r)) V.drew := ⟨by simpa using s0, by simpa using x0⟩
          refine AnyN.begin_ (S := fun w' : World => w'.cell? ⟨g, o + ip * 4, none⟩ = some (.int .i32 S.r) ∧ w'.cell? ⟨q, 0, none⟩ = some (.int .i32 x.r)) (N := []) (by kernel_rfl) ?_
          refine AnyN.takeS (i := 0) (v := ?_) rfl (by kernel_rfl) (by kernel_rfl) (by kernel_rfl) rfl (fun _ _ _ h => h) (Or.inl ⟨by rfl, ?_⟩) hHeld ?_
          rotate_left
          · intro w hSw
            obtain ⟨k0, k1⟩ := hSw
            simp only [List.getElem_toArray, List.getElem_cons_zero]
            go_simp
            all_goals with_reducible rfl
          simp only [List.getElem_toArray, List.getElem_cons_zero, Act.put, List.setIfInBounds_toArray, List.set_cons_zero, List.set_cons_succ]
          refine AnyN.takeS (i := 1) (v := ?_) rfl (by kernel_rfl) (by kernel_rfl) (by kernel_rfl) rfl (fun _ _ _ h => h) (Or.inl ⟨by rfl, ?_⟩) hHeld ?_
          rotate_left
          · intro w hSw
            obtain ⟨k0, k1⟩ := hSw
            simp only [List.getElem_toArray, List.getElem_cons_zero, List.getElem_cons_succ]
            go_simp
            all_goals with_reducible rfl
          simp only [List.getElem_toArray, List.getElem_cons_zero, List.getElem_cons_succ, Act.put, List.setIfInBounds_toArray, List.set_cons_zero, List.set_cons_succ]
          refine AnyN.takeS (i := 2) (v := ?_) rfl (by kernel_rfl) (by kernel_rfl) (by kernel_rfl) rfl (fun _ _ _ h => h) (Or.inl ⟨by rfl, ?_⟩) hHeld ?_
          rotate_left
          · intro w hSw
            obtain ⟨k0, k1⟩ := hSw
            simp only [List.getElem_toArray, List.getElem_cons_zero, List.getElem_cons_succ]
            go_simp
            all_goals with_reducible rfl
          simp only [List.getElem_toArray, List.getElem_cons_zero, List.getElem_cons_succ, Act.put, List.setIfInBounds_toArray, List.set_cons_zero, List.set_cons_succ]
          refine AnyN.takeS (i := 3) (v := ?_) rfl (by kernel_rfl) (by kernel_rfl) (by kernel_rfl) rfl (fun _ _ _ h => h) (Or.inl ⟨by rfl, ?_⟩) hHeld ?_
          rotate_left
          · intro w hSw
            obtain ⟨k0, k1⟩ := hSw
            simp only [List.getElem_toArray, List.getElem_cons_zero, List.getElem_cons_succ]
            go_simp
            all_goals with_reducible rfl
          simp only [List.getElem_toArray, List.getElem_cons_zero, List.getElem_cons_succ, Act.put, List.setIfInBounds_toArray, List.set_cons_zero, List.set_cons_succ]
          refine AnyN.takeS (i := 4) (v := ?_) rfl (by kernel_rfl) (by kernel_rfl) (by kernel_rfl) rfl (fun _ _ _ h => h) (Or.inl ⟨by rfl, ?_⟩) hHeld ?_
          rotate_left
          · intro w hSw
            obtain ⟨k0, k1⟩ := hSw
            simp only [List.getElem_toArray, List.getElem_cons_zero, List.getElem_cons_succ]
            go_simp
            all_goals with_reducible rfl
          simp only [List.getElem_toArray, List.getElem_cons_zero, List.getElem_cons_succ, Act.put, List.setIfInBounds_toArray, List.set_cons_zero, List.set_cons_succ]
          refine AnyN.takeS (i := 5) (v := ?_) rfl (by kernel_rfl) (by kernel_rfl) (by kernel_rfl) rfl (fun _ _ _ h => h) (Or.inl ⟨by rfl, ?_⟩) hHeld ?_
          rotate_left
          · intro w hSw
            obtain ⟨k0, k1⟩ := hSw
            simp only [List.getElem_toArray, List.getElem_cons_zero, List.getElem_cons_succ]
            go_simp
            all_goals with_reducible rfl
          simp only [List.getElem_toArray, List.getElem_cons_zero, List.getElem_cons_succ, Act.put, List.setIfInBounds_toArray, List.set_cons_zero, List.set_cons_succ]
          refine AnyN.takeS (i := 6) (v := ?_) rfl (by kernel_rfl) (by kernel_rfl) (by kernel_rfl) rfl (fun _ _ _ h => h) (Or.inl ⟨by rfl, ?_⟩) hHeld ?_
          rotate_left
          · intro w hSw
            obtain ⟨k0, k1⟩ := hSw
            simp only [List.getElem_toArray, List.getElem_cons_zero, List.getElem_cons_succ]
            go_simp
            all_goals with_reducible rfl
          simp only [List.getElem_toArray, List.getElem_cons_zero, List.getElem_cons_succ, Act.put, List.setIfInBounds_toArray, List.set_cons_zero, List.set_cons_succ]
          refine AnyN.next (i := 7) (by kernel_rfl) ?_
          refine wpOp_step rfl (fun K hK => ?_)
          have HK := Lib.hid hK
          clear hK
          simp only [List.getElem_toArray, List.getElem_cons_zero, List.getElem_cons_succ]
          rw [if_pos (by rfl)]
          go_wp2_with (go_at_call 24; refine (HCl.out _).mono ?_; rintro e W9 ⟨rfl, hs9⟩)
          have hs9' := (Stay.drew V).trans hs9
          have HW9 := Lib.hid (HWV.out.stay0 hs9')
          have HS9 := Lib.hid (HSV.out.trans hs9')
          have hb9 := HBV.out.stay hs9' (by simp)
          have z0 := hb9.cell 0
          have z1 := hb9.cell 1
          have z2 := hb9.cell 2
          have z3 := hb9.cell 3
          simp at z0 z1 z2 z3
          have w0 := (Stay.cell_ hs9' (HWV.out.lt).2 (by simp)).trans s0
          have f0 := HW9.out.free (o + ip * 4)
          clear hs9 hs9' hb9
          refine HK.out _ _ ⟨.inr ⟨w0, z0⟩, ?_⟩
          clear HK K
          refine AnyN.takeS (i := 8) (v := ?_) rfl (by kernel_rfl) (by kernel_rfl) (by kernel_rfl) rfl (fun _ _ _ h => h) (Or.inl ⟨by rfl, ?_⟩) ⟨w0, z0⟩ ?_
          rotate_left
          · intro w hSw
            obtain ⟨k0, k1⟩ := hSw
            simp only [List.getElem_toArray, List.getElem_cons_zero, List.getElem_cons_succ]
            go_simp
            all_goals with_reducible rfl
          simp only [List.getElem_toArray, List.getElem_cons_zero, List.getElem_cons_succ, Act.put, List.setIfInBounds_toArray, List.set_cons_zero, List.set_cons_succ]
          refine AnyN.done (by kernel_rfl) ?_ _
          clear s0 s2 l3 x0 x1 x2 x3 c0 c1 c2 c3
          by_cases hp0 : p = 0
          · subst hp0
            have HNF := Lib.hid (step_no (T := T) (x := x) (fun S' hS' hh => by have e := HSf.out.1.symm.trans hS'; injection e with e; subst e; exact hh.2.2.2 HSf.out.2.2.2.2.2.2.symm))
            obtain ⟨T2, hT2⟩ : ∃ T2, T2 = stepT T x := ⟨_, rfl⟩
            rw [← hT2] at HSucc HNF
            have HL2 := Lib.hid (show N + 1 = T2.out.length ∧ itC T2.out = itC T.out ++ itC [x] from by rw [HNF.out.1]; exact ⟨by simp [HNo.out], itC_app _ _⟩)
            have HSv := Lib.hid (show stI T2 = if xk = 0 then (N : Int) else (ip : Int) from by rw [HNF.out.2, HXk.out, HNo.out, HStI.out])
            have HXi := Lib.hid (show itC [x] = It.cells x from by simp [itC])
            obtain ⟨i67, hi, hzz, hsz, hy⟩ := info_parts info67
            have HI := Lib.hid (And.intro hi (And.intro hzz (And.intro hsz hy)))
            have hsa : ∀ ob, Stay [] W9 (W9.alloc ob) := fun ob => Stay.alloc _ _
            have HA := Lib.hid (fun ob => HW9.out.stay0 (hsa ob))
            have HB := Lib.hid (show W1.heap.size ≤ W9.heap.size from HS9.out.size)
            have HSa := Lib.hid (fun ob => HS9.out.trans (hsa ob))
            have HNw := Lib.hid (show ∀ j u, (itC [x])[j]? = some u → (W9.alloc (.cells (It.cells x).toArray 67)).cell? ((⟨W9.heap.size, 0, none⟩ : Addr).add j) = some u from by rw [HXi.out]; exact cells_new W9 (It.cells x) 67 _ rfl)
            rw [HXc.out] at HNw
            have hN64 : N ≤ 8796093022208 := HLt.out
            clear hT2 hi hzz hsz hy hsa
            by_cases hk0 : xk = 0
            all_goals
              try subst hk0
              go_wp2_with (refine wpList_append_win rfl (.tmp 77) (.tmp 79) 62 rfl W1.heap.size 67 4 i67 _ 8 Tryd.underlying62 HI.out.1 HI.out.2.1 HI.out.2.2.1 HI.out.2.2.2 rfl (by omega) (some ⟨g, o, none⟩) N co (itC T.out) rfl (HA.out _) ⟨W9.heap.size, 0, none⟩ 1 1 rfl (itC [x]) rfl (by omega) HNw.out (itC_one _) (by unfold maxLen; omega) (by omega) (by rw [size_alloc']; have := HB.out; omega) ?_; intro A' c' W8 hw8 hs8 _; rw [← HL2.out.2] at hw8; have H8 := Lib.hid hw8; have HS8 := Lib.hid ((HSa.out _).trans' hs8 (fun g hg => .inr (HW9.out.ab g hg).1)); clear hw8 hs8)
              go_roundw
              case rel => exact ⟨k + 1, A', c', by simp, by omega, by rw [HSucc.out, ← HL2.out.1], by rw [HSucc.out, HSv.out]; first | rw [if_pos rfl] | rw [if_neg hk0], by rw [HSucc.out, ← HL2.out.1]; exact H8.out, HS8.out⟩
              case measure => simp [intOf]; omega
          ·
            have HNF := Lib.hid (step_yes (T := T) (x := x) HSf.out.1 ⟨HSf.out.2.1, HSf.out.2.2.1, HNb.out.symm, by rw [← HSf.out.2.2.2.2.2.2]; exact hp0⟩)
            obtain ⟨T2, hT2⟩ : ∃ T2, T2 = stepT T x := ⟨_, rfl⟩
            rw [← hT2] at HSucc HNF
            have hset := HW9.out.set (ip * 4) (.int .i32 p) (by omega)
            have hturn := itC_turn T.out T.pre.length S p (out_at HSf.out.1) HSf.out.2.2.1 HSf.out.2.2.2.1 HSf.out.2.2.2.2.1 (HPm.out hp0)
            rw [← HSf.out.2.2.2.2.2.1] at hturn
            rw [hturn] at hset
            have H8 := Lib.hid hset
            have HE2 := Lib.hid (show T2.out = T.out.set ip (chr p) ∧ stI T2 = (ip : Int) from by rw [HSf.out.2.2.2.2.2.1, HSf.out.2.2.2.2.2.2]; exact HNF.out)
            have HL2 := Lib.hid (show T2.out.length = N from by rw [HE2.out.1, List.length_set, HNo.out])
            have HS8 := Lib.hid (show Stay [] W1 (W9.setCell ⟨g, o + ip * 4, none⟩ (.int .i32 p)) from HS9.out.set' (.inr (HW9.out.lt).1))
            clear hset hturn hT2
            go_wp2_with fail
            go_roundw
            case rel => exact ⟨k + 1, some ⟨g, o, none⟩, co, by simp, by omega, by rw [HSucc.out, HL2.out], by rw [HSucc.out, HE2.out.2], by rw [HSucc.out, HL2.out, HE2.out.1]; exact H8.out, HS8.out⟩
            case measure => simp [intOf]; omega
        · have hb1 : ((ip : Int) == (nl : Int)) = false := by simp; omega
          have hb2 : (yk != 0) = true := by simpa using hc2
          go_upto_region 6 with fail
          rw [← HV.out.1, ← HV.out.2]
          go_upto_region 9 with fail
          have hHeld : (fun w' : World => w'.cell? ⟨g, o + ip * 4, none⟩ = some (.int .i32 S.r) ∧ w'.cell? ⟨q, 0, none⟩ = some (.int .i32 x.r)) V.drew := ⟨by simpa using s0, by simpa using x0⟩
          refine AnyN.begin_ (S := fun w' : World => w'.cell? ⟨g, o + ip * 4, none⟩ = some (.int .i32 S.r) ∧ w'.cell? ⟨q, 0, none⟩ = some (.int .i32 x.r)) (N := []) (by kernel_rfl) ?_
          refine AnyN.takeS (i := 0) (v := ?_) rfl (by kernel_rfl) (by kernel_rfl) (by kernel_rfl) rfl (fun _ _ _ h => h) (Or.inl ⟨by rfl, ?_⟩) hHeld ?_
          rotate_left
          · intro w hSw
            obtain ⟨k0, k1⟩ := hSw
            simp only [List.getElem_toArray, List.getElem_cons_zero]
            go_simp
            all_goals with_reducible rfl
          simp only [List.getElem_toArray, List.getElem_cons_zero, Act.put, List.setIfInBounds_toArray, List.set_cons_zero, List.set_cons_succ]
          refine AnyN.takeS (i := 1) (v := ?_) rfl (by kernel_rfl) (by kernel_rfl) (by kernel_rfl) rfl (fun _ _ _ h => h) (Or.inl ⟨by rfl, ?_⟩) hHeld ?_
          rotate_left
          · intro w hSw
            obtain ⟨k0, k1⟩ := hSw
            simp only [List.getElem_toArray, List.getElem_cons_zero, List.getElem_cons_succ]
            go_simp
            all_goals with_reducible rfl
          simp only [List.getElem_toArray, List.getElem_cons_zero, List.getElem_cons_succ, Act.put, List.setIfInBounds_toArray, List.set_cons_zero, List.set_cons_succ]
          refine AnyN.takeS (i := 2) (v := ?_) rfl (by kernel_rfl) (by kernel_rfl) (by kernel_rfl) rfl (fun _ _ _ h => h) (Or.inl ⟨by rfl, ?_⟩) hHeld ?_
          rotate_left
          · intro w hSw
            obtain ⟨k0, k1⟩ := hSw
            simp only [List.getElem_toArray, List.getElem_cons_zero, List.getElem_cons_succ]
            go_simp
            all_goals with_reducible rfl
          simp only [List.getElem_toArray, List.getElem_cons_zero, List.getElem_cons_succ, Act.put, List.setIfInBounds_toArray, List.set_cons_zero, List.set_cons_succ]
          refine AnyN.takeS (i := 3) (v := ?_) rfl (by kernel_rfl) (by kernel_rfl) (by kernel_rfl) rfl (fun _ _ _ h => h) (Or.inl ⟨by rfl, ?_⟩) hHeld ?_
          rotate_left
          · intro w hSw
            obtain ⟨k0, k1⟩ := hSw
            simp only [List.getElem_toArray, List.getElem_cons_zero, List.getElem_cons_succ]
            go_simp
            all_goals with_reducible rfl
          simp only [List.getElem_toArray, List.getElem_cons_zero, List.getElem_cons_succ, Act.put, List.setIfInBounds_toArray, List.set_cons_zero, List.set_cons_succ]
          refine AnyN.takeS (i := 4) (v := ?_) rfl (by kernel_rfl) (by kernel_rfl) (by kernel_rfl) rfl (fun _ _ _ h => h) (Or.inl ⟨by rfl, ?_⟩) hHeld ?_
          rotate_left
          · intro w hSw
            obtain ⟨k0, k1⟩ := hSw
            simp only [List.getElem_toArray, List.getElem_cons_zero, List.getElem_cons_succ]
            go_simp
            all_goals with_reducible rfl
          simp only [List.getElem_toArray, List.getElem_cons_zero, List.getElem_cons_succ, Act.put, List.setIfInBounds_toArray, List.set_cons_zero, List.set_cons_succ]
          refine AnyN.takeS (i := 5) (v := ?_) rfl (by kernel_rfl) (by kernel_rfl) (by kernel_rfl) rfl (fun _ _ _ h => h) (Or.inl ⟨by rfl, ?_⟩) hHeld ?_
          rotate_left
          · intro w hSw
            obtain ⟨k0, k1⟩ := hSw
            simp only [List.getElem_toArray, List.getElem_cons_zero, List.getElem_cons_succ]
            go_simp
            all_goals with_reducible rfl
          simp only [List.getElem_toArray, List.getElem_cons_zero, List.getElem_cons_succ, Act.put, List.setIfInBounds_toArray, List.set_cons_zero, List.set_cons_succ]
          refine AnyN.takeS (i := 6) (v := ?_) rfl (by kernel_rfl) (by kernel_rfl) (by kernel_rfl) rfl (fun _ _ _ h => h) (Or.inl ⟨by rfl, ?_⟩) hHeld ?_
          rotate_left
          · intro w hSw
            obtain ⟨k0, k1⟩ := hSw
            simp only [List.getElem_toArray, List.getElem_cons_zero, List.getElem_cons_succ]
            go_simp
            all_goals with_reducible rfl
          simp only [List.getElem_toArray, List.getElem_cons_zero, List.getElem_cons_succ, Act.put, List.setIfInBounds_toArray, List.set_cons_zero, List.set_cons_succ]
          refine AnyN.next (i := 7) (by kernel_rfl) ?_
          refine wpOp_step rfl (fun K hK => ?_)
          have HK := Lib.hid hK
          clear hK
          simp only [List.getElem_toArray, List.getElem_cons_zero, List.getElem_cons_succ]
          rw [if_pos (by rfl)]
          go_wp2_with (go_at_call 24; refine (HCl.out _).mono ?_; rintro e W9 ⟨rfl, hs9⟩)
          have hs9' := (Stay.drew V).trans hs9
          have HW9 := Lib.hid (HWV.out.stay0 hs9')
          have HS9 := Lib.hid (HSV.out.trans hs9')
          have hb9 := HBV.out.stay hs9' (by simp)
          have z0 := hb9.cell 0
          have z1 := hb9.cell 1
          have z2 := hb9.cell 2
          have z3 := hb9.cell 3
          simp at z0 z1 z2 z3
          have w0 := (Stay.cell_ hs9' (HWV.out.lt).2 (by simp)).trans s0
          have f0 := HW9.out.free (o + ip * 4)
          clear hs9 hs9' hb9
          refine HK.out _ _ ⟨.inr ⟨w0, z0⟩, ?_⟩
          clear HK K
          refine AnyN.takeS (i := 8) (v := ?_) rfl (by kernel_rfl) (by kernel_rfl) (by kernel_rfl) rfl (fun _ _ _ h => h) (Or.inl ⟨by rfl, ?_⟩) ⟨w0, z0⟩ ?_
          rotate_left
          · intro w hSw
            obtain ⟨k0, k1⟩ := hSw
            simp only [List.getElem_toArray, List.getElem_cons_zero, List.getElem_cons_succ]
            go_simp
            all_goals with_reducible rfl
          simp only [List.getElem_toArray, List.getElem_cons_zero, List.getElem_cons_succ, Act.put, List.setIfInBounds_toArray, List.set_cons_zero, List.set_cons_succ]
          refine AnyN.done (by kernel_rfl) ?_ _
          clear s0 s2 l3 x0 x1 x2 x3 c0 c1 c2 c3
          have HNF := Lib.hid (step_no (T := T) (x := x) (fun S' hS' hh => by have e := HSf.out.1.symm.trans hS'; injection e with e; subst e; have := hh.2.2.1; rw [← HNb.out] at this; cases this))
          obtain ⟨T2, hT2⟩ : ∃ T2, T2 = stepT T x := ⟨_, rfl⟩
          rw [← hT2] at HSucc HNF
          have HL2 := Lib.hid (show N + 1 = T2.out.length ∧ itC T2.out = itC T.out ++ itC [x] from by rw [HNF.out.1]; exact ⟨by simp [HNo.out], itC_app _ _⟩)
          have HSv := Lib.hid (show stI T2 = if xk = 0 then (N : Int) else (ip : Int) from by rw [HNF.out.2, HXk.out, HNo.out, HStI.out])
          have HXi := Lib.hid (show itC [x] = It.cells x from by simp [itC])
          obtain ⟨i67, hi, hzz, hsz, hy⟩ := info_parts info67
          have HI := Lib.hid (And.intro hi (And.intro hzz (And.intro hsz hy)))
          have hsa : ∀ ob, Stay [] W9 (W9.alloc ob) := fun ob => Stay.alloc _ _
          have HA := Lib.hid (fun ob => HW9.out.stay0 (hsa ob))
          have HB := Lib.hid (show W1.heap.size ≤ W9.heap.size from HS9.out.size)
          have HSa := Lib.hid (fun ob => HS9.out.trans (hsa ob))
          have HNw := Lib.hid (show ∀ j u, (itC [x])[j]? = some u → (W9.alloc (.cells (It.cells x).toArray 67)).cell? ((⟨W9.heap.size, 0, none⟩ : Addr).add j) = some u from by rw [HXi.out]; exact cells_new W9 (It.cells x) 67 _ rfl)
          rw [HXc.out] at HNw
          have hN64 : N ≤ 8796093022208 := HLt.out
          clear hT2 hi hzz hsz hy hsa
          by_cases hk0 : xk = 0
          all_goals
            try subst hk0
            go_wp2_with (refine wpList_append_win rfl (.tmp 77) (.tmp 79) 62 rfl W1.heap.size 67 4 i67 _ 8 Tryd.underlying62 HI.out.1 HI.out.2.1 HI.out.2.2.1 HI.out.2.2.2 rfl (by omega) (some ⟨g, o, none⟩) N co (itC T.out) rfl (HA.out _) ⟨W9.heap.size, 0, none⟩ 1 1 rfl (itC [x]) rfl (by omega) HNw.out (itC_one _) (by unfold maxLen; omega) (by omega) (by rw [size_alloc']; have := HB.out; omega) ?_; intro A' c' W8 hw8 hs8 _; rw [← HL2.out.2] at hw8; have H8 := Lib.hid hw8; have HS8 := Lib.hid ((HSa.out _).trans' hs8 (fun g hg => .inr (HW9.out.ab g hg).1)); clear hw8 hs8)
            go_roundw
            case rel => exact ⟨k + 1, A', c', by simp, by omega, by rw [HSucc.out, ← HL2.out.1], by rw [HSucc.out, HSv.out]; first | rw [if_pos rfl] | rw [if_neg hk0], by rw [HSucc.out, ← HL2.out.1]; exact H8.out, HS8.out⟩
            case measure => simp [intOf]; omega
      · have hcs : T.st = none ∨ (∃ S, T.st = some S ∧ x.bad = true) ∨ ∃ S, T.st = some S ∧ x.bad = false ∧ S.bad = true := by
          cases hS : T.st with
          | none => exact .inl rfl
          | some S =>
            cases hxb : x.bad with
            | true => exact .inr (.inl ⟨S, rfl, rfl⟩)
            | false =>
              cases hSb : S.bad with
              | true => exact .inr (.inr ⟨S, rfl, rfl, hSb⟩)
              | false => exact absurd ⟨S, hS, hxb, hSb⟩ hf
        obtain ⟨xk, hxk⟩ : ∃ m, m = keyI x := ⟨_, rfl⟩
        rw [← hxk] at x3 c3 HXc hkx0 HBV HV
        have HXk := Lib.hid hxk
        obtain ⟨N, hN⟩ : ∃ N, N = T.out.length := ⟨_, rfl⟩
        rw [← hN] at HWV HLt ⊢
        have HNo := Lib.hid hN
        clear hxk hN
        clear hf
        rcases hcs with hS | ⟨S, hS, hxb⟩ | ⟨S, hS, hxb, hSb⟩
        · have hsti := stI_none hS
          rw [hsti]
          have HStI := Lib.hid hsti
          have HSn := Lib.hid hS
          clear hS hsti
          go_upto_region 6 with fail
          rw [← HV.out.1, ← HV.out.2]
          clear c0 c1 c2 c3
          have HNF := Lib.hid (step_no (T := T) (x := x) (fun S' hS' => by rw [HSn.out] at hS'; cases hS'))
          obtain ⟨T2, hT2⟩ : ∃ T2, T2 = stepT T x := ⟨_, rfl⟩
          rw [← hT2] at HSucc HNF
          have HL2 := Lib.hid (show N + 1 = T2.out.length ∧ itC T2.out = itC T.out ++ itC [x] from by rw [HNF.out.1]; exact ⟨by simp [HNo.out], itC_app _ _⟩)
          have HSv := Lib.hid (show stI T2 = if xk = 0 then (N : Int) else (-1 : Int) from by rw [HNF.out.2, HXk.out, HNo.out, HStI.out])
          have HXi := Lib.hid (show itC [x] = It.cells x from by simp [itC])
          obtain ⟨i67, hi, hzz, hsz, hy⟩ := info_parts info67
          have HI := Lib.hid (And.intro hi (And.intro hzz (And.intro hsz hy)))
          have hsa : ∀ ob, Stay [] V (V.alloc ob) := fun ob => Stay.alloc _ _
          have HA := Lib.hid (fun ob => HWV.out.stay0 (hsa ob))
          have HB := Lib.hid (show W1.heap.size ≤ V.heap.size from HSV.out.size)
          have HSa := Lib.hid (fun ob => HSV.out.trans (hsa ob))
          have HNw := Lib.hid (show ∀ j u, (itC [x])[j]? = some u → (V.alloc (.cells (It.cells x).toArray 67)).cell? ((⟨V.heap.size, 0, none⟩ : Addr).add j) = some u from by rw [HXi.out]; exact cells_new V (It.cells x) 67 _ rfl)
          rw [HXc.out] at HNw
          have hN64 : N ≤ 8796093022208 := HLt.out
          clear hT2 hi hzz hsz hy hsa
          by_cases hk0 : xk = 0
          all_goals
            try subst hk0
            go_wp2_with (refine wpList_append_win rfl (.tmp 77) (.tmp 79) 62 rfl W1.heap.size 67 4 i67 _ 8 Tryd.underlying62 HI.out.1 HI.out.2.1 HI.out.2.2.1 HI.out.2.2.2 rfl (by omega) Ao N co (itC T.out) rfl (HA.out _) ⟨V.heap.size, 0, none⟩ 1 1 rfl (itC [x]) rfl (by omega) HNw.out (itC_one _) (by unfold maxLen; omega) (by omega) (by rw [size_alloc']; have := HB.out; omega) ?_; intro A' c' W8 hw8 hs8 _; rw [← HL2.out.2] at hw8; have H8 := Lib.hid hw8; have HS8 := Lib.hid ((HSa.out _).trans' hs8 (fun g hg => .inr (HWV.out.ab g hg).1)); clear hw8 hs8)
            go_roundw
            case rel => exact ⟨k + 1, A', c', by simp, by omega, by rw [HSucc.out, ← HL2.out.1], by rw [HSucc.out, HSv.out]; first | rw [if_pos rfl] | rw [if_neg hk0], by rw [HSucc.out, ← HL2.out.1]; exact H8.out, HS8.out⟩
            case measure => simp [intOf]; omega
        ·
          have hsti := stI_some hS
          obtain ⟨ip, hip⟩ : ∃ ip, ip = T.pre.length := ⟨_, rfl⟩
          rw [← hip] at hsti
          have hip0 : (0 : Int) ≤ ip := by omega
          rw [hsti]
          have HStI := Lib.hid hsti
          rw [hxb] at x2 c2 HXc HBV HV
          have HSf := Lib.hid (And.intro hS hxb)
          clear hS hsti hip hxb
          go_upto_region 6 with fail
          rw [← HV.out.1, ← HV.out.2]
          clear c0 c1 c2 c3
          have HNF := Lib.hid (step_no (T := T) (x := x) (fun S' hS' hh => by rw [HSf.out.2] at hh; cases hh.1))
          obtain ⟨T2, hT2⟩ : ∃ T2, T2 = stepT T x := ⟨_, rfl⟩
          rw [← hT2] at HSucc HNF
          have HL2 := Lib.hid (show N + 1 = T2.out.length ∧ itC T2.out = itC T.out ++ itC [x] from by rw [HNF.out.1]; exact ⟨by simp [HNo.out], itC_app _ _⟩)
          have HSv := Lib.hid (show stI T2 = if xk = 0 then (N : Int) else (ip : Int) from by rw [HNF.out.2, HXk.out, HNo.out, HStI.out])
          have HXi := Lib.hid (show itC [x] = It.cells x from by simp [itC])
          obtain ⟨i67, hi, hzz, hsz, hy⟩ := info_parts info67
          have HI := Lib.hid (And.intro hi (And.intro hzz (And.intro hsz hy)))
          have hsa : ∀ ob, Stay [] V (V.alloc ob) := fun ob => Stay.alloc _ _
          have HA := Lib.hid (fun ob => HWV.out.stay0 (hsa ob))
          have HB := Lib.hid (show W1.heap.size ≤ V.heap.size from HSV.out.size)
          have HSa := Lib.hid (fun ob => HSV.out.trans (hsa ob))
          have HNw := Lib.hid (show ∀ j u, (itC [x])[j]? = some u → (V.alloc (.cells (It.cells x).toArray 67)).cell? ((⟨V.heap.size, 0, none⟩ : Addr).add j) = some u from by rw [HXi.out]; exact cells_new V (It.cells x) 67 _ rfl)
          rw [HXc.out] at HNw
          have hN64 : N ≤ 8796093022208 := HLt.out
          clear hT2 hi hzz hsz hy hsa
          by_cases hk0 : xk = 0
          all_goals
            try subst hk0
            go_wp2_with (refine wpList_append_win rfl (.tmp 77) (.tmp 79) 62 rfl W1.heap.size 67 4 i67 _ 8 Tryd.underlying62 HI.out.1 HI.out.2.1 HI.out.2.2.1 HI.out.2.2.2 rfl (by omega) Ao N co (itC T.out) rfl (HA.out _) ⟨V.heap.size, 0, none⟩ 1 1 rfl (itC [x]) rfl (by omega) HNw.out (itC_one _) (by unfold maxLen; omega) (by omega) (by rw [size_alloc']; have := HB.out; omega) ?_; intro A' c' W8 hw8 hs8 _; rw [← HL2.out.2] at hw8; have H8 := Lib.hid hw8; have HS8 := Lib.hid ((HSa.out _).trans' hs8 (fun g hg => .inr (HWV.out.ab g hg).1)); clear hw8 hs8)
            go_roundw
            case rel => exact ⟨k + 1, A', c', by simp, by omega, by rw [HSucc.out, ← HL2.out.1], by rw [HSucc.out, HSv.out]; first | rw [if_pos rfl] | rw [if_neg hk0], by rw [HSucc.out, ← HL2.out.1]; exact H8.out, HS8.out⟩
            case measure => simp [intOf]; omega
        ·
          have hsti := stI_some hS
          obtain ⟨ip, hip⟩ : ∃ ip, ip = T.pre.length := ⟨_, rfl⟩
          rw [← hip] at hsti
          have hip0 : (0 : Int) ≤ ip := by omega
          rw [hsti]
          have HStI := Lib.hid hsti
          have hol := out_len hS
          obtain ⟨g, o, rfl⟩ := HWV.out.addr (by rw [HNo.out]; omega)
          obtain ⟨_, _, e2, _⟩ := itC_at T.out _ S (out_at hS)
          have s2 := HWV.out.cell _ _ e2
          rw [hSb, ← Nat.add_assoc, ← hip] at s2
          have hin : (ip : Int) < N := by rw [HNo.out]; omega
          rw [hxb] at x2 c2 HXc HBV HV
          have HSf := Lib.hid (And.intro hS hSb)
          clear hS hsti hip hxb hol e2 hSb
          go_upto_region 6 with fail
          rw [← HV.out.1, ← HV.out.2]
          clear c0 c1 c2 c3
          have HNF := Lib.hid (step_no (T := T) (x := x) (fun S' hS' hh => by have e := HSf.out.1.symm.trans hS'; injection e with e; subst e; have := hh.2.1; rw [HSf.out.2] at this; cases this))
          obtain ⟨T2, hT2⟩ : ∃ T2, T2 = stepT T x := ⟨_, rfl⟩
          rw [← hT2] at HSucc HNF
          have HL2 := Lib.hid (show N + 1 = T2.out.length ∧ itC T2.out = itC T.out ++ itC [x] from by rw [HNF.out.1]; exact ⟨by simp [HNo.out], itC_app _ _⟩)
          have HSv := Lib.hid (show stI T2 = if xk = 0 then (N : Int) else (ip : Int) from by rw [HNF.out.2, HXk.out, HNo.out, HStI.out])
          have HXi := Lib.hid (show itC [x] = It.cells x from by simp [itC])
          obtain ⟨i67, hi, hzz, hsz, hy⟩ := info_parts info67
          have HI := Lib.hid (And.intro hi (And.intro hzz (And.intro hsz hy)))
          have hsa : ∀ ob, Stay [] V (V.alloc ob) := fun ob => Stay.alloc _ _
          have HA := Lib.hid (fun ob => HWV.out.stay0 (hsa ob))
          have HB := Lib.hid (show W1.heap.size ≤ V.heap.size from HSV.out.size)
          have HSa := Lib.hid (fun ob => HSV.out.trans (hsa ob))
          have HNw := Lib.hid (show ∀ j u, (itC [x])[j]? = some u → (V.alloc (.cells (It.cells x).toArray 67)).cell? ((⟨V.heap.size, 0, none⟩ : Addr).add j) = some u from by rw [HXi.out]; exact cells_new V (It.cells x) 67 _ rfl)
          rw [HXc.out] at HNw
          have hN64 : N ≤ 8796093022208 := HLt.out
          clear hT2 hi hzz hsz hy hsa
          by_cases hk0 : xk = 0
          all_goals
            try subst hk0
            go_wp2_with (refine wpList_append_win rfl (.tmp 77) (.tmp 79) 62 rfl W1.heap.size 67 4 i67 _ 8 Tryd.underlying62 HI.out.1 HI.out.2.1 HI.out.2.2.1 HI.out.2.2.2 rfl (by omega) (some ⟨g, o, none⟩) N co (itC T.out) rfl (HA.out _) ⟨V.heap.size, 0, none⟩ 1 1 rfl (itC [x]) rfl (by omega) HNw.out (itC_one _) (by unfold maxLen; omega) (by omega) (by rw [size_alloc']; have := HB.out; omega) ?_; intro A' c' W8 hw8 hs8 _; rw [← HL2.out.2] at hw8; have H8 := Lib.hid hw8; have HS8 := Lib.hid ((HSa.out _).trans' hs8 (fun g hg => .inr (HWV.out.ab g hg).1)); clear hw8 hs8)
            go_roundw
            case rel => exact ⟨k + 1, A', c', by simp, by omega, by rw [HSucc.out, ← HL2.out.1], by rw [HSucc.out, HSv.out]; first | rw [if_pos rfl] | rw [if_neg hk0], by rw [HSucc.out, ← HL2.out.1]; exact H8.out, HS8.out⟩
            case measure => simp [intOf]; omega
end Go.Proofs.YtlphmcodajookaaDoor
