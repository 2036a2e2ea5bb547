/- shuttlelaw20: UndoBack (8): the walk. -/
import Derived.Test.YtjoeebjmjnddoaaUlost
import Derived.Deep.CutBlock
namespace Go.Proofs.Ytjoeebjmjnddoaa
open Go.RowKit
/-- what the first loop keeps: the texts lie in a slice of s + 1 -/
def TS (w0 : World) (B bb rb : Nat) (SA : Option Addr) (s sc k : Nat) (w : World) : Prop :=
  ∃ (DA : Option Addr) (dc : Nat) (D : List MG) (rs st gv : Int) (T : List (List UInt8)), BS w0 w B bb rb DA dc D none 0 [] rs st 0 gv (T.getD (T.length - 1) []) ∧ DT D T ∧ (∀ g ∈ D, GI g) ∧ chg D ≤ 1024 ∧ (0 ≤ gv ∧ gv ≤ k) ∧ T.length = s + 1 ∧ Win w B 9 1 SA (s + 1) sc (strs T)
theorem strs_set (T : List (List UInt8)) (j : Nat) (z : List UInt8) : (strs T).set j (.string (str z)) = strs (T.set j z) := by
  unfold strs
  rw [List.map_set]
theorem strs_app (T : List (List UInt8)) (z : List UInt8) : strs T ++ [.string (str z)] = strs (T ++ [z]) := by simp [strs]
theorem strs_drop (T : List (List UInt8)) (j : Nat) : (strs T).drop j = strs (T.drop j) := by simp [strs, List.map_drop]
theorem strs_at (T : List (List UInt8)) (j : Nat) (hj : j < T.length) : (strs T)[j]? = some (.string (str (T.getD j []))) := by
  simp [strs, hj]
theorem nonempty_str {s : ByteArray} (h : s ≠ ⟨#[]⟩) : s.toList.isEmpty = false := nonempty_of (e := ⟨0, 0, s⟩) (fun hh => h hh.2) rfl
theorem strs_cell {w : World} {B : Nat} {SA : Option Addr} {m sc : Nat} {T : List (List UInt8)} (h : Win w B 9 1 SA m sc (strs T)) (j : Nat) (hj : j < T.length) : ∃ g o, SA = some ⟨g, o, none⟩ ∧ w.cell? ⟨g, o + j, none⟩ = some (.string (str (T.getD j []))) := by
  have hl := h.1
  rw [strs_len] at hl
  obtain ⟨g, o, rfl⟩ := h.addr (by omega)
  exact ⟨g, o, rfl, h.cell j _ (strs_at T j hj)⟩
theorem BS.win9 {w0 w w' : World} {B bb rb : Nat} {DA : Option Addr} {dc : Nat} {D : List MG} {UA : Option Addr} {uc : Nat} {U : List MG} {rs st sv gv : Int} {tx : List UInt8} (h : BS w0 w B bb rb DA dc D UA uc U rs st sv gv tx) {SA : Option Addr} {m sc : Nat} {xs : List Value} (hw : Win w B 9 1 SA m sc xs) (hs : Stay (Ab SA) w w') : BS w0 w' B bb rb DA dc D UA uc U rs st sv gv tx := by
  obtain ⟨t', h1, h2⟩ := h.R
  obtain ⟨L, hL⟩ := h1.blk
  have n1 : ∀ {f : Nat} {l : List Value} {ty : TypeId}, Blk w f l ty → ty ≠ 9 → f ∉ Ab SA := fun {f l ty} hf hn => win_types hw hf hn
  exact ⟨h.bbk.stay hs (n1 h.bbk (by decide)), h.dW.stay hs (fun f hf => by
    obtain ⟨_, _, L2, hL2⟩ := h.dW.ab f hf
    exact n1 hL2 (by decide)), h.uW.stay hs (fun f hf => by
    obtain ⟨_, _, L2, hL2⟩ := h.uW.ab f hf
    exact n1 hL2 (by decide)), fun g hg => (h.dE g hg).stay hs (fun f hf L hL => n1 hL (by decide) hf), fun g hg => (h.uE g hg).stay hs (fun f hf L hL => n1 hL (by decide) hf), h.ap, ⟨t', h1.stay hs (noPair_of fun f hf L hL => n1 hL (by decide) hf) (n1 hL (by decide)), h2⟩, h.u, h.hbb, h.hrb,
    h.bel.trans (hs.toBelow h.sz (fun g hg => (hw.ab g hg).1)), Nat.le_trans h.sz hs.size⟩
theorem getD_drop (T : List (List UInt8)) (q i : Nat) : (T.drop q).getD i [] = T.getD (q + i) [] := by
  rw [List.getD_eq_getElem?_getD, List.getElem?_drop, ← List.getD_eq_getElem?_getD]
/-- all groups are done: the second part begins -/
theorem sb_begin {w0 w : World} {B bb rb : Nat} {DA : Option Addr} {dc : Nat} {D : List MG} {rs st sv gv : Int} {T : List (List UInt8)} {q m sc so sg : Nat} (h : BS w0 w B bb rb DA dc D none 0 [] rs st sv gv (T.getD (T.length - 1) [])) (hdt : DT D T) (hG : ∀ g ∈ D, GI g) (hc : chg D ≤ 1024) (hm : D.length = m) (hT : T.length = q + m + 1) (hW : Win w B 9 1 (some ⟨sg, so, none⟩) (q + m + 1) sc (strs T)) :
    SB w0 B bb rb m (T.drop q) (some ⟨sg, so + q, none⟩) (sc - q) m w := by
  have h1 := Win.drop q so _ hW (by omega)
  rw [Nat.mul_one, show q + m + 1 - q = m + 1 by omega, strs_drop] at h1
  have hl := Nat.le_trans (chg_ge D hG) hc
  refine ⟨DA, dc, D, none, 0, [], rs, st, sv, gv, ?_, hm, Nat.le_refl _, by simp, by omega, fun i hi => ?_, fun i hi => absurd hi (by simp), h1⟩
  · rw [getD_drop]
    rw [show T.length - 1 = q + m by omega] at h
    exact h
  · have h2 := hdt.2 i hi
    rw [show T.length - 1 - D.length + i = q + i by omega, show T.length - D.length + i = q + (i + 1) by omega] at h2
    rw [getD_drop, getD_drop]
    exact ⟨h2, hG _ (List.getElem_mem hi)⟩
theorem SB.bs_ {w0 w : World} {B bb rb n k sc : Nat} {T : List (List UInt8)} {SA : Option Addr} (h : SB w0 B bb rb n T SA sc k w) : Below B w0 w ∧ B ≤ w.heap.size ∧ (∃ t rs, RopeAt w rb t rs ∧ t.text = T.getD k []) ∧ Win w B 9 1 SA (n + 1) sc (strs T) ∧ k ≤ n ∧ n ≤ 1024 := by
  obtain ⟨DA, dc, D, UA, uc, U, rs, st, sv, gv, h1, h2, h3, h4, h5, h6, h7, h8⟩ := h
  obtain ⟨t, h9, h10⟩ := h1.R
  exact ⟨h1.bel, h1.sz, ⟨t, rs, h9, h10⟩, h8, h3, h5⟩
theorem sb_undo_none {w0 w : World} {B bb rb n sc : Nat} {T : List (List UInt8)} {SA : Option Addr} (h : SB w0 B bb rb n T SA sc 0 w) : Calls Try.prog 33 #[.pointer (some ⟨bb, 0, none⟩)] w fun e w' => e = .returned (.tuple #[.slice none 0 0, .int .i64 200]) ∧ Stay [] w w' := by
  obtain ⟨DA, dc, D, UA, uc, U, rs, st, sv, gv, h1, h2, h3, h4, h5, h6, h7, h8⟩ := h
  obtain rfl := List.length_eq_zero_iff.1 h2
  exact bs_undo_none h1
theorem sb_redo_none {w0 w : World} {B bb rb n sc : Nat} {T : List (List UInt8)} {SA : Option Addr} (h : SB w0 B bb rb n T SA sc n w) : Calls Try.prog 34 #[.pointer (some ⟨bb, 0, none⟩)] w fun e w' => e = .returned (.tuple #[.slice none 0 0, .int .i64 200]) ∧ Stay [] w w' := by
  obtain ⟨DA, dc, D, UA, uc, U, rs, st, sv, gv, h1, h2, h3, h4, h5, h6, h7, h8⟩ := h
  rw [Nat.sub_self] at h4
  obtain rfl := List.length_eq_zero_iff.1 h4
  exact bs_redo_none h1
theorem sb_back {w0 w : World} {B bb rb n k sc : Nat} {T : List (List UInt8)} {SA : Option Addr} (h : SB w0 B bb rb n T SA sc (k + 1) w) (S : ByteArray) (hS : S = str (T.getD k [])) :
    Calls Try.prog 32 #[.pointer (some ⟨rb, 0, none⟩), .func (.func 33) #[.pointer (some ⟨bb, 0, none⟩)] #[], .string S] w fun e w' => e = .returned (.bool true) ∧ SB w0 B bb rb n T SA sc k w' := by
  obtain ⟨_, h1, ⟨t, rs, h2, h3⟩, _⟩ := h.bs_
  subst hS
  exact back_undo (SB w0 B bb rb n T SA sc k) B bb rb (T.getD (k + 1) []) (T.getD k []) t rs w h2 h3 (fun u v xb t s hk hx hne hxb hs => hk.rope hx hne hxb hs) h1 (sb_undo h)
theorem sb_fore {w0 w : World} {B bb rb n k sc : Nat} {T : List (List UInt8)} {SA : Option Addr} (h : SB w0 B bb rb n T SA sc k w) (hk : k < n) (S : ByteArray) (hS : S = str (T.getD (k + 1) [])) :
    Calls Try.prog 32 #[.pointer (some ⟨rb, 0, none⟩), .func (.func 34) #[.pointer (some ⟨bb, 0, none⟩)] #[], .string S] w fun e w' => e = .returned (.bool true) ∧ SB w0 B bb rb n T SA sc (k + 1) w' := by
  obtain ⟨_, h1, ⟨t, rs, h2, h3⟩, _⟩ := h.bs_
  subst hS
  exact back_redo (SB w0 B bb rb n T SA sc (k + 1)) B bb rb (T.getD k []) (T.getD (k + 1) []) t rs w h2 h3 (fun u v xb t s hk hx hne hxb hs => hk.rope hx hne hxb hs) h1 (sb_redo h hk)
theorem TS.stay0 {w0 w w' : World} {B bb rb s sc k : Nat} {SA : Option Addr} (h : TS w0 B bb rb SA s sc k w) (hs : Stay [] w w') : TS w0 B bb rb SA s sc k w' := by
  obtain ⟨DA, dc, D, rs, st, gv, T, h1, h2, h3, h4, h5, h6, h7⟩ := h
  exact ⟨DA, dc, D, rs, st, gv, T, h1.stay0 hs, h2, h3, h4, h5, h6, h7.stay0 hs⟩
theorem TS.bel {w0 w : World} {B bb rb s sc k : Nat} {SA : Option Addr} (h : TS w0 B bb rb SA s sc k w) : Below B w0 w := by
  obtain ⟨DA, dc, D, rs, st, gv, T, h1, _⟩ := h
  exact h1.bel
set_option maxRecDepth 20000 in
set_option maxHeartbeats 64000000 in
theorem ulaw_any (text : ByteArray) (A : Option Addr) (c : Nat) (L : List USt) (w : World) (htx : text.size ≤ maxLen) (hsl : Sl w w.heap.size A (L.flatMap USt.cells)) (hlc : L.length ≤ c) (hc : c ≤ maxLen) (hok : ∀ e ∈ L, e.OK) (_ : L.length * 48 ≤ reachBytes) :
    Calls Try.prog 8 #[.string text, .slice A L.length c] w fun e w' => e = .returned (.bool true) ∧ Below w.heap.size w w' := by
  have HNl := Lib.hid (fun (u : World) (h : 1048576 < text.size) => new_long text.data.toList u (by rw [bytes_length]; exact h) (by rw [bytes_length]; simpa [maxLen] using htx))
  have HN := Lib.hid (fun (u : World) (h : text.size ≤ 1048576) => new_any text.data.toList u (by rw [bytes_length]; exact h))
  rw [str_of] at HN HNl
  have HBy := Lib.hid (beyond_any text A c L w hsl (Nat.le_trans hlc hc))
  have HCl := Lib.hid (steps_cells hsl hok)
  obtain ⟨n, hn⟩ : ∃ n, n = L.length := ⟨_, rfl⟩
  rw [← hn] at HBy HCl hlc ⊢
  have hnm : (n : Int) ≤ 9223372036854775807 := by simp only [maxLen] at hc; omega
  obtain ⟨B, hBe⟩ : ∃ B, B = w.heap.size := ⟨_, rfl⟩
  rw [← hBe] at HCl ⊢
  have HBe := Lib.hid hBe
  clear hsl hok hn hlc hc htx hBe
  go_enter Try.func8, Try.ntmps8
  go_wp2_with fail
  refine HBy.out.mono ?_
  rintro e w2 ⟨b, rfl, hbf, hs2⟩
  have HS2 := Lib.hid hs2
  have HWk := Lib.hid (works_any w2)
  clear hs2 HBy
  cases b with
  | true =>
    clear hbf
    go_wp2_with fail
    refine HWk.out.mono ?_
    rintro e w3 ⟨rfl, hb3⟩
    have HF := Lib.hid (show Below B w w3 from by
      rw [HBe.out]
      exact (HS2.out.toBelow (Nat.le_refl _) (by simp)).trans ((Stay.below (F := []) hb3).toBelow HS2.out.size (by simp)))
    clear hb3
    go_wp2_with fail
    go_ret
    exact ⟨rfl, HF.out⟩
  | false =>
    have hn13 := hbf rfl
    clear hbf
    go_wp2_with fail
    refine HWk.out.mono ?_
    rintro e w3 ⟨rfl, hb3⟩
    have HS3 := Lib.hid (HS2.out.trans (Stay.below (F := []) hb3))
    clear hb3 HWk HS2
    by_cases hlong : 1048576 < text.size
    · have HN3 := Lib.hid (HNl.out w3 hlong)
      have HF := Lib.hid (show Below B w w3 from by
        rw [HBe.out]
        exact HS3.out.toBelow (Nat.le_refl _) (by simp))
      go_wp2_with fail
      refine HN3.out.mono ?_
      rintro e w4 ⟨rfl, rfl⟩
      go_wp2_with fail
      go_ret
      exact ⟨rfl, HF.out⟩
    · have HN3 := Lib.hid (HN.out w3 (by omega))
      clear HN HNl hlong
      go_wp2_with fail
      refine HN3.out.mono ?_
      rintro e w4 ⟨rb, t, rfl, hrb, hR, hx, hb4⟩
      have HU := Lib.hid (unew_any rb t 0 w4 hR)
      have HS4 := Lib.hid (HS3.out.trans (Stay.below (F := []) hb4))
      have HB4 := Lib.hid (And.intro hR (And.intro hx (show w.heap.size ≤ rb from Nat.le_trans HS3.out.size hrb)))
      clear hR hx hrb hb4 HN3
      go_wp2_with fail
      refine HU.out.mono ?_
      rintro e w5 ⟨rfl, hb5, hs5⟩
      obtain ⟨W6, hW6⟩ : ∃ W, W = w5.alloc (.cells #[.string text] 9) := ⟨_, rfl⟩
      have HTS := Lib.hid (show TS w B w4.heap.size rb (some ⟨w5.heap.size, 0, none⟩) 0 1 0 W6 from by
        have h9 := bs_first HB4.out.1 HB4.out.2.1 HB4.out.2.2 (HS4.out.toBelow (Nat.le_refl _) (by simp)) hb5 hs5
        rw [← HBe.out] at h9
        have h8 := win_new w5 B 9 1 1 [.string text] rfl h9.sz (by decide)
        rw [hW6]
        exact ⟨none, 0, [], 0, 0, 0, [text.data.toList], h9.stay0 (Stay.alloc _ _), ⟨by simp, fun i hi => absurd hi (by simp)⟩, (fun g hg => by cases hg), by simp [chg], ⟨Int.le_refl _, by simp⟩, rfl, by unfold strs; rw [List.map_cons, str_of]; exact h8⟩)
      obtain ⟨bb, hbb⟩ : ∃ b, b = w4.heap.size := ⟨_, rfl⟩
      rw [← hbb] at HTS ⊢
      have HW6 := Lib.hid hW6
      clear hb5 hs5 hbb HB4 HU hW6
      go_upto_region 8 with fail
      rw [← HW6.out]
      go_wp2_with fail
      go_loopw [8, 46] (fun tv iv wr => ∃ (k s sc : Nat) (SA : Option Addr), k ≤ n ∧ iv = .int .i64 k ∧ tv = .slice SA (s + 1) sc ∧ s ≤ k ∧ Hid (TS w B bb rb SA s sc k wr)) (fun _ iv _ => n - (intOf iv).toNat)
      case atStart => exact ⟨0, 0, 1, _, by omega, rfl, rfl, by omega, HTS⟩
      case round =>
        clear HTS
        obtain ⟨k, s, sc, SA, hk, rfl, rfl, hsk, HL⟩ := hrel
        by_cases hlt : k < n
        · have hlt' : (k : Int) < n := by omega
          have hk0 : (0 : Int) ≤ k := by omega
          obtain ⟨b, o, ⟨ea, ed, es⟩, mo, rfl, eok, hce⟩ := HCl.out k hlt
          have HCe := Lib.hid (show ∀ u, Below B w u → u.cell? ⟨b, o + k * 5 + 1, none⟩ = some (.int .i64 ea) ∧ u.cell? ⟨b, o + k * 5 + 1 + 1, none⟩ = some (.int .i64 ed) ∧ u.cell? ⟨b, o + k * 5 + 1 + 2, none⟩ = some (.string es) ∧ u.cell? ⟨b, o + k * 5 + 4, none⟩ = some (.bool mo) from hce)
          obtain ⟨DA, dc, D, rs, st, gv, T, h1, hdt, hgi, hch, hgv, hTs, hst⟩ := HL.out
          have HT0 := Lib.hid (And.intro hdt (And.intro hgi (And.intro hch (And.intro hgv hTs))))
          have HDp := Lib.hid (show Calls Try.prog 30 #[.pointer (some ⟨bb, 0, none⟩)] wr fun e w' => e = .returned (.tuple #[.int .i64 D.length, .int .i64 0]) ∧ Stay [] wr w' from bs_depth h1)
          have H1 := Lib.hid h1
          have HSt1 := Lib.hid hst
          have HEok := Lib.hid eok
          obtain ⟨dn, hdn⟩ : ∃ n, n = D.length := ⟨_, rfl⟩
          rw [← hdn] at HDp
          have HDn := Lib.hid hdn
          have hdn1 : dn ≤ 1024 := by rw [hdn]; exact Nat.le_trans (chg_ge D hgi) hch
          clear hce eok HCl h1 hdt hgi hch hgv hTs hst HL hdn
          go_wp2_with fail
          refine HDp.out.mono ?_
          rintro e w2 ⟨rfl, hs2⟩
          have H2 := Lib.hid ((H1.out.stay0 hs2).stay0 (Stay.drew w2))
          have HSt := Lib.hid ((HSt1.out.stay0 hs2).stay0 (Stay.drew w2))
          have c4 := (HCe.out w2 (H1.out.stay0 hs2).bel).2.2.2
          clear hs2 HDp H1 HSt1
          go_upto_region 12 with fail
          go_cut [12] (fun v wx => v = .bool (mo2 mo D []) ∧ wx = w2)
          case first =>
            cases mo with
            | false =>
              have hv : mo2 false D [] = false := rfl
              go_wp2_with fail
              go_meet
              exact ⟨by rw [hv], rfl⟩
            | true =>
              by_cases h0 : 0 < dn
              · have h0i : (0 : Int) < dn := by omega
                have hv : mo2 true D [] = true := by unfold mo2; rw [← HDn.out]; simp [h0]
                go_wp2_with fail
                go_meet
                exact ⟨by rw [hv], rfl⟩
              · have h0i : ¬ (0 : Int) < dn := by omega
                have hv : mo2 true D [] = false := by unfold mo2; rw [← HDn.out]; simp [h0]
                go_wp2_with fail
                go_meet
                exact ⟨by rw [hv], rfl⟩
          case rest =>
            obtain ⟨rfl, hwc⟩ := hcut
            rw [hwc]
            clear hwc c4
            obtain ⟨m2, hm2⟩ : ∃ m, m = mo2 mo D [] := ⟨_, rfl⟩
            rw [← hm2]
            have HM2 := Lib.hid hm2
            clear hm2
            have hHeld := HCe.out w2.drew H2.out.bel
            have HDo := Lib.hid (show Calls Try.prog 31 #[.pointer (some ⟨bb, 0, none⟩), .agg #[.int .i64 ea, .int .i64 ed, .string es], .bool mo] w2.drew (DoneB w w2.drew B bb rb mo D ⟨ea, ed, es⟩ 0 gv T) from bs_do H2.out HT0.out.1 ⟨ea, ed, es⟩ HEok.out mo HT0.out.2.1 HT0.out.2.2.1 ⟨HT0.out.2.2.2.1.1, by have := HT0.out.2.2.2.1.2; omega⟩)
            go_upto_region 13 with fail
            refine AnyL.begin_ (S := fun w' : World => w'.cell? ⟨b, o + k * 5 + 1, none⟩ = some (.int .i64 ea) ∧ w'.cell? ⟨b, o + k * 5 + 1 + 1, none⟩ = some (.int .i64 ed) ∧ w'.cell? ⟨b, o + k * 5 + 1 + 2, none⟩ = some (.string es) ∧ w'.cell? ⟨b, o + k * 5 + 4, none⟩ = some (.bool mo)) (n := 99) (by kernel_rfl) ?_
            refine AnyL.takeS (i := 0) (v := ?_) rfl (by kernel_rfl) (by kernel_rfl) (by kernel_rfl) (by kernel_rfl) (fun _ _ _ h => h) (Or.inl ⟨by rfl, ?_⟩) hHeld ?_
            rotate_left
            · intro w hSw
              obtain ⟨k0, k1, k2, k3⟩ := hSw
              simp only [List.getElem_toArray, List.getElem_cons_zero]
              go_simp
              all_goals with_reducible rfl
            simp only [List.getElem_toArray, List.getElem_cons_zero, Act.put, List.setIfInBounds_toArray, List.set_cons_zero, List.set_cons_succ]
            refine AnyL.takeS (i := 1) (v := ?_) rfl (by kernel_rfl) (by kernel_rfl) (by kernel_rfl) (by kernel_rfl) (fun _ _ _ h => h) (Or.inl ⟨by rfl, ?_⟩) hHeld ?_
            rotate_left
            · intro w hSw
              obtain ⟨k0, k1, k2, k3⟩ := hSw
              simp only [List.getElem_toArray, List.getElem_cons_zero, List.getElem_cons_succ]
              go_simp
              all_goals with_reducible rfl
            simp only [List.getElem_toArray, List.getElem_cons_zero, List.getElem_cons_succ, Act.put, List.setIfInBounds_toArray, List.set_cons_zero, List.set_cons_succ]
            refine AnyL.takeS (i := 2) (v := ?_) rfl (by kernel_rfl) (by kernel_rfl) (by kernel_rfl) (by kernel_rfl) (fun _ _ _ h => h) (Or.inl ⟨by rfl, ?_⟩) hHeld ?_
            rotate_left
            · intro w hSw
              obtain ⟨k0, k1, k2, k3⟩ := hSw
              simp only [List.getElem_toArray, List.getElem_cons_zero, List.getElem_cons_succ]
              go_simp
              all_goals with_reducible rfl
            simp only [List.getElem_toArray, List.getElem_cons_zero, List.getElem_cons_succ, Act.put, List.setIfInBounds_toArray, List.set_cons_zero, List.set_cons_succ]
            refine AnyL.takeS (i := 3) (v := ?_) rfl (by kernel_rfl) (by kernel_rfl) (by kernel_rfl) (by kernel_rfl) (fun _ _ _ h => h) (Or.inl ⟨by rfl, ?_⟩) hHeld ?_
            rotate_left
            · intro w hSw
              obtain ⟨k0, k1, k2, k3⟩ := hSw
              simp only [List.getElem_toArray, List.getElem_cons_zero, List.getElem_cons_succ]
              go_simp
              all_goals with_reducible rfl
            simp only [List.getElem_toArray, List.getElem_cons_zero, List.getElem_cons_succ, Act.put, List.setIfInBounds_toArray, List.set_cons_zero, List.set_cons_succ]
            refine AnyL.takeS (i := 4) (v := ?_) rfl (by kernel_rfl) (by kernel_rfl) (by kernel_rfl) (by kernel_rfl) (fun _ _ _ h => h) (Or.inl ⟨by rfl, ?_⟩) hHeld ?_
            rotate_left
            · intro w hSw
              obtain ⟨k0, k1, k2, k3⟩ := hSw
              simp only [List.getElem_toArray, List.getElem_cons_zero, List.getElem_cons_succ]
              go_simp
              all_goals with_reducible rfl
            simp only [List.getElem_toArray, List.getElem_cons_zero, List.getElem_cons_succ, Act.put, List.setIfInBounds_toArray, List.set_cons_zero, List.set_cons_succ]
            refine AnyL.takeS (i := 5) (v := ?_) rfl (by kernel_rfl) (by kernel_rfl) (by kernel_rfl) (by kernel_rfl) (fun _ _ _ h => h) (Or.inl ⟨by rfl, ?_⟩) hHeld ?_
            rotate_left
            · intro w hSw
              obtain ⟨k0, k1, k2, k3⟩ := hSw
              simp only [List.getElem_toArray, List.getElem_cons_zero, List.getElem_cons_succ]
              go_simp
              all_goals with_reducible rfl
            simp only [List.getElem_toArray, List.getElem_cons_zero, List.getElem_cons_succ, Act.put, List.setIfInBounds_toArray, List.set_cons_zero, List.set_cons_succ]
            refine AnyL.takeS (i := 6) (v := ?_) rfl (by kernel_rfl) (by kernel_rfl) (by kernel_rfl) (by kernel_rfl) (fun _ _ _ h => h) (Or.inl ⟨by rfl, ?_⟩) hHeld ?_
            rotate_left
            · intro w hSw
              obtain ⟨k0, k1, k2, k3⟩ := hSw
              simp only [List.getElem_toArray, List.getElem_cons_zero, List.getElem_cons_succ]
              go_simp
              all_goals with_reducible rfl
            simp only [List.getElem_toArray, List.getElem_cons_zero, List.getElem_cons_succ, Act.put, List.setIfInBounds_toArray, List.set_cons_zero, List.set_cons_succ]
            refine AnyL.takeS (i := 7) (v := ?_) rfl (by kernel_rfl) (by kernel_rfl) (by kernel_rfl) (by kernel_rfl) (fun _ _ _ h => h) (Or.inl ⟨by rfl, ?_⟩) hHeld ?_
            rotate_left
            · intro w hSw
              obtain ⟨k0, k1, k2, k3⟩ := hSw
              simp only [List.getElem_toArray, List.getElem_cons_zero, List.getElem_cons_succ]
              go_simp
              all_goals with_reducible rfl
            simp only [List.getElem_toArray, List.getElem_cons_zero, List.getElem_cons_succ, Act.put, List.setIfInBounds_toArray, List.set_cons_zero, List.set_cons_succ]
            refine AnyL.takeS (i := 8) (v := ?_) rfl (by kernel_rfl) (by kernel_rfl) (by kernel_rfl) (by kernel_rfl) (fun _ _ _ h => h) (Or.inl ⟨by rfl, ?_⟩) hHeld ?_
            rotate_left
            · intro w hSw
              obtain ⟨k0, k1, k2, k3⟩ := hSw
              simp only [List.getElem_toArray, List.getElem_cons_zero, List.getElem_cons_succ]
              go_simp
              all_goals with_reducible rfl
            simp only [List.getElem_toArray, List.getElem_cons_zero, List.getElem_cons_succ, Act.put, List.setIfInBounds_toArray, List.set_cons_zero, List.set_cons_succ]
            refine AnyL.takeS (i := 9) (v := ?_) rfl (by kernel_rfl) (by kernel_rfl) (by kernel_rfl) (by kernel_rfl) (fun _ _ _ h => h) (Or.inl ⟨by rfl, ?_⟩) hHeld ?_
            rotate_left
            · intro w hSw
              obtain ⟨k0, k1, k2, k3⟩ := hSw
              simp only [List.getElem_toArray, List.getElem_cons_zero, List.getElem_cons_succ]
              go_simp
              all_goals with_reducible rfl
            simp only [List.getElem_toArray, List.getElem_cons_zero, List.getElem_cons_succ, Act.put, List.setIfInBounds_toArray, List.set_cons_zero, List.set_cons_succ]
            refine AnyL.takeS (i := 10) (v := ?_) rfl (by kernel_rfl) (by kernel_rfl) (by kernel_rfl) (by kernel_rfl) (fun _ _ _ h => h) (Or.inl ⟨by rfl, ?_⟩) hHeld ?_
            rotate_left
            · intro w hSw
              obtain ⟨k0, k1, k2, k3⟩ := hSw
              simp only [List.getElem_toArray, List.getElem_cons_zero, List.getElem_cons_succ]
              go_simp
              all_goals with_reducible rfl
            simp only [List.getElem_toArray, List.getElem_cons_zero, List.getElem_cons_succ, Act.put, List.setIfInBounds_toArray, List.set_cons_zero, List.set_cons_succ]
            refine AnyL.next (i := 11) (by kernel_rfl) ?_
            refine wpOp_step rfl (fun K hK => ?_)
            have HK := Lib.hid hK
            clear hK
            simp only [List.getElem_toArray, List.getElem_cons_zero, List.getElem_cons_succ]
            rw [if_pos (by rfl)]
            go_simp
            refine HDo.out.mono ?_
            rintro e' w5 ⟨er, DA5, dc5, D5, rs5, st5, gv5, T5, F5, rfl, hB5, hdt5, hgi5, hch5, hgv5, hs5, hF5, htn⟩
            have H5 := Lib.hid hB5
            have HD5 := Lib.hid (And.intro hdt5 (And.intro hgi5 (And.intro hch5 hgv5)))
            have HTN := Lib.hid htn
            have HS5 := Lib.hid (hF5.win H2.out.rblk HSt.out ⟨by decide, by decide, by decide⟩ hs5)
            clear hB5 hdt5 hgi5 hch5 hgv5 hs5 hF5 htn
            have hq5 := HCe.out w5 H5.out.bel
            refine HK.out _ _ ⟨.inr hq5, ?_⟩
            clear HK K
            refine AnyL.takeS (i := 12) (v := ?_) rfl (by kernel_rfl) (by kernel_rfl) (by kernel_rfl) (by kernel_rfl) (fun _ _ _ h => h) (Or.inl ⟨by rfl, ?_⟩) hq5 ?_
            rotate_left
            · intro w hSw
              obtain ⟨k0, k1, k2, k3⟩ := hSw
              simp only [List.getElem_toArray, List.getElem_cons_zero, List.getElem_cons_succ]
              go_simp
              all_goals with_reducible rfl
            simp only [List.getElem_toArray, List.getElem_cons_zero, List.getElem_cons_succ, Act.put, List.setIfInBounds_toArray, List.set_cons_zero, List.set_cons_succ]
            refine AnyL.done (by kernel_rfl) ?_ _
            have HGv := Lib.hid (show 0 ≤ gv5 ∧ gv5 ≤ ((k + 1 : Nat) : Int) from by
              obtain ⟨_, _, _, g1, g2⟩ := HD5.out
              have g3 := HT0.out.2.2.2.1.2
              push_cast
              omega)
            have hTl := HT0.out.2.2.2.2
            rcases HTN.out with ⟨her, hTT⟩ | ⟨her, hem, hTT, hDD⟩ | ⟨her, hne, hD0, z, hTT⟩
            · subst hTT
              have q0 : decide (er = 0) = false := decide_eq_false her
              have HTSn := Lib.hid (show TS w B bb rb SA s sc (k + 1) w5 from ⟨DA5, dc5, D5, rs5, st5, gv5, T5, H5.out, HD5.out.1, HD5.out.2.1, HD5.out.2.2.1, HGv.out, hTl, HS5.out⟩)
              clear hTl
              go_wp2_with fail
              go_roundw
              case rel => exact ⟨k + 1, s, sc, SA, by omega, by go_num, rfl, by omega, HTSn⟩
              case measure => simp [intOf]; omega
            · subst hTT her
              obtain ⟨hem1, hem2⟩ := hem
              simp only at hem1 hem2
              subst hem1 hem2
              have HTSn := Lib.hid (show TS w B bb rb SA s sc (k + 1) w5 from ⟨DA5, dc5, D5, rs5, st5, gv5, T5, H5.out, HD5.out.1, HD5.out.2.1, HD5.out.2.2.1, HGv.out, hTl, HS5.out⟩)
              have HDp := Lib.hid (show Calls Try.prog 30 #[.pointer (some ⟨bb, 0, none⟩)] w5 fun e w' => e = .returned (.tuple #[.int .i64 dn, .int .i64 0]) ∧ Stay [] w5 w' from by rw [HDn.out, ← hDD]; exact bs_depth H5.out)
              clear hTl hDD
              go_wp2_with fail
              refine HDp.out.mono ?_
              rintro e w6 ⟨rfl, hs6⟩
              have HTS6 := Lib.hid (HTSn.out.stay0 hs6)
              obtain ⟨c1, c2, c3, c4⟩ := HCe.out w6 HTS6.out.bel
              clear hs6 HDp HTSn
              go_wp2_with fail
              go_roundw
              case rel => exact ⟨k + 1, s, sc, SA, by omega, by go_num, rfl, by omega, HTS6⟩
              case measure => simp [intOf]; omega
            · subst her
              have HDp := Lib.hid (show Calls Try.prog 30 #[.pointer (some ⟨bb, 0, none⟩)] w5 fun e w' => e = .returned (.tuple #[.int .i64 D5.length, .int .i64 0]) ∧ Stay [] w5 w' from bs_depth H5.out)
              obtain ⟨d5, hd5⟩ : ∃ d, d = D5.length := ⟨_, rfl⟩
              rw [← hd5] at HDp hD0
              have HD5n := Lib.hid hd5
              have hd51 : d5 ≤ 1024 := by rw [hd5]; exact Nat.le_trans (chg_ge D5 HD5.out.2.1) HD5.out.2.2.1
              have hd52 : d5 + 1 ≤ T5.length := by rw [hd5]; exact HD5.out.1.1
              have HNe := Lib.hid hne
              have HTT := Lib.hid hTT
              have HTl := Lib.hid hTl
              clear hd5 hne hTT hTl
              go_wp2_with fail
              refine HDp.out.mono ?_
              rintro e w6 ⟨rfl, hs6⟩
              have H6 := Lib.hid (H5.out.stay0 hs6)
              have HS6 := Lib.hid (HS5.out.stay0 hs6)
              obtain ⟨c1, c2, c3, c4⟩ := HCe.out w6 H6.out.bel
              clear hs6 HDp
              go_upto_region 15 with fail
              go_cut [100] (fun v wx => v = .bool false ∧ wx = w6)
              case first =>
                by_cases hd0 : ed = 0
                · have hs0 : es.toList.isEmpty = false := nonempty_of (e := ⟨ea, ed, es⟩) HNe.out hd0
                  subst hd0
                  go_wp2_with fail
                  go_meet
                  exact ⟨rfl, rfl⟩
                · have q1 : decide (ed = 0) = false := decide_eq_false hd0
                  go_wp2_with fail
                  go_meet
                  exact ⟨rfl, rfl⟩
              case rest =>
                obtain ⟨rfl, hwc⟩ := hcut
                rw [hwc]
                clear hwc c1 c2 c3 c4
                cases m2 with
                | false =>
                  have hT5 : T5 = T ++ [z] := by
                    have h9 := HTT.out
                    rw [← HM2.out] at h9
                    exact h9
                  have HTx := Lib.hid (bs_text H6.out)
                  subst hT5
                  have hl9 : (T ++ [z]).getD ((T ++ [z]).length - 1) [] = z := by simp
                  rw [hl9] at HTx
                  obtain ⟨X, hX⟩ : ∃ X, X = str z := ⟨_, rfl⟩
                  rw [← hX] at HTx
                  have HX := Lib.hid hX
                  have hsd : d5 ≤ s + 1 := by
                    have h8 := HTl.out
                    rw [List.length_append, List.length_singleton] at hd52
                    omega
                  clear hX hd52 hl9
                  go_wp2_with fail
                  refine HTx.out.mono ?_
                  rintro e w7 ⟨rfl, hs7⟩
                  have hsa : Stay [] w7 (w7.alloc (.cells #[.string X] 9)) := Stay.alloc _ _
                  have H7 := Lib.hid ((H6.out.stay0 hs7).stay0 hsa)
                  have HS7 := Lib.hid ((HS6.out.stay0 hs7).stay0 hsa)
                  have HNw := Lib.hid (cells_new w7 [.string X] 9 w7.heap.size rfl)
                  have HSz := Lib.hid (H7.out.sz)
                  obtain ⟨i9, hi9, hz9, hs9, hy9⟩ := info_parts info9
                  have HI9 := Lib.hid (And.intro hi9 (And.intro hz9 (And.intro hs9 hy9)))
                  have h63 : s + 1 + 1 ≤ maxLen := by simp only [maxLen]; omega
                  have h16 : (s + 1 + 1) * 16 ≤ 140737488355328 := by omega
                  have HMx := Lib.hid (And.intro h63 h16)
                  clear hs7 hsa hi9 hz9 hs9 hy9 h63 h16 HTx
                  have hw1 : IntKind.i64.wrap ((s : Int) + 1 + 1 - 1) = (s : Int) + 1 := by simp only [IntKind.wrap, IntKind.bits, IntKind.signed]; simp; omega
                  have r1 : decide ((s : Int) + 1 < (d5 : Int)) = false := decide_eq_false (by omega)
                  have r2 : decide ((1024 : Int) < (d5 : Int)) = false := decide_eq_false (by omega)
                  have r3 : decide ((d5 : Int) < 1) = false := decide_eq_false (by omega)
                  go_wp2_with (refine wpList_append_win rfl (.tmp 112) (.tmp 115) 45 rfl B 9 1 i9 _ 16 Try.underlying45 HI9.out.1 HI9.out.2.1 HI9.out.2.2.1 HI9.out.2.2.2 rfl (by omega) SA (s + 1) sc (strs T) rfl HS7.out ⟨w7.heap.size, 0, none⟩ 1 1 rfl [.string X] rfl (by omega) HNw.out (by simp [Value.oneCell']) HMx.out.1 HMx.out.2 HSz.out ?_
                               intro A' c' w8 hw8 hs8 ha8
                               have HTS8 := Lib.hid (show TS w B bb rb A' (s + 1) c' (k + 1) w8 from ⟨DA5, dc5, D5, rs5, st5, gv5, T ++ [z], H7.out.win9 HS7.out hs8, HD5.out.1, HD5.out.2.1, HD5.out.2.2.1, HGv.out, by rw [List.length_append, HTl.out]; rfl, by rw [HX.out, strs_app] at hw8; exact hw8⟩)
                               clear hw8 hs8 ha8)
                  go_roundw
                  case rel => exact ⟨k + 1, s + 1, c', A', by omega, by go_num, by rfl, by omega, HTS8⟩
                  case measure => simp [intOf]; omega
                | true =>
                  have hT5 : T5 = T.set (T.length - 1) z := by
                    have h9 := HTT.out
                    rw [← HM2.out] at h9
                    exact h9
                  have HTx := Lib.hid (bs_text H6.out)
                  subst hT5
                  have hTl := HTl.out
                  have hl9 : (T.set (T.length - 1) z).getD ((T.set (T.length - 1) z).length - 1) [] = z := by
                    rw [List.length_set, List.getD_eq_getElem?_getD, List.getElem?_set_self (by omega)]
                    rfl
                  rw [hl9] at HTx
                  obtain ⟨X, hX⟩ : ∃ X, X = str z := ⟨_, rfl⟩
                  rw [← hX] at HTx
                  have HX := Lib.hid hX
                  have hsd : d5 ≤ s := by
                    rw [List.length_set] at hd52
                    omega
                  obtain ⟨sg, so, rfl⟩ := HS6.out.addr (by omega)
                  clear hX hd52 hl9
                  have hw1 : IntKind.i64.wrap ((s : Int) + 1 - 1) = (s : Int) := by simp only [IntKind.wrap, IntKind.bits, IntKind.signed]; simp; omega
                  have r0 : (0 : Int) ≤ (s : Int) := by omega
                  have r00 : (s : Int) < (s : Int) + 1 := by omega
                  have r1 : decide ((s : Int) < (d5 : Int)) = false := decide_eq_false (by omega)
                  have r2 : decide ((1024 : Int) < (d5 : Int)) = false := decide_eq_false (by omega)
                  have r3 : decide ((d5 : Int) < 1) = false := decide_eq_false (by omega)
                  clear hTl
                  go_wp2_with fail
                  refine HTx.out.mono ?_
                  rintro e w7 ⟨rfl, hs7⟩
                  have H7 := Lib.hid (H6.out.stay0 hs7)
                  have HS7 := Lib.hid (HS6.out.stay0 hs7)
                  have hc7 : w7.cell? ⟨sg, so + s, none⟩ = some (.string (str (T.getD s []))) := HS7.out.cell s _ (strs_at T s (by rw [HTl.out]; omega))
                  have hf7 : w7.frozen? ⟨sg, so + s, none⟩ = false := HS7.out.free _
                  have HTS8 := Lib.hid (show TS w B bb rb (some ⟨sg, so, none⟩) s sc (k + 1) (w7.setCell ⟨sg, so + s, none⟩ (.string X)) from by
                    have h8 := HS7.out.set s (.string X) (by omega)
                    rw [HX.out, strs_set] at h8
                    have h9 := H7.out.win9 HS7.out (Stay.setCell (F := Ab (some ⟨sg, so, none⟩)) w7 ⟨sg, so + s, none⟩ (.string X) (by simp [Ab]))
                    rw [HX.out] at h9 ⊢
                    exact ⟨DA5, dc5, D5, rs5, st5, gv5, T.set (T.length - 1) z, h9, HD5.out.1, HD5.out.2.1, HD5.out.2.2.1, HGv.out, by rw [List.length_set, HTl.out], by rw [show T.length - 1 = s by rw [HTl.out]; omega]; exact h8⟩)
                  clear hs7 HTx
                  go_wp2_with fail
                  go_roundw
                  case rel => exact ⟨k + 1, s, sc, _, by omega, by go_num, rfl, by omega, HTS8⟩
                  case measure => simp [intOf]; omega
        · have hk' : k = n := by omega
          subst hk'
          obtain ⟨DA, dc, D, rs, st, gv, T, h1, hdt, hgi, hch, _, hTl, hst⟩ := HL.out
          have H1 := Lib.hid h1
          obtain ⟨m, hm⟩ : ∃ m, m = D.length := ⟨_, rfl⟩
          have hd1 := hdt.1
          obtain ⟨q, rfl⟩ : ∃ q, s = q + m := ⟨s - m, by omega⟩
          obtain ⟨sg, so, rfl⟩ := hst.addr (by omega)
          have hsb := sb_begin h1 hdt hgi hch hm.symm hTl hst
          have HDp := Lib.hid (show Calls Try.prog 30 #[.pointer (some ⟨bb, 0, none⟩)] wr fun e w' => e = .returned (.tuple #[.int .i64 m, .int .i64 0]) ∧ Stay [] wr w' from by rw [hm]; exact bs_depth h1)
          have HSB := Lib.hid hsb
          obtain ⟨T2, hT2⟩ : ∃ T2, T2 = T.drop q := ⟨_, rfl⟩
          have hT2l : T2.length = m + 1 := by rw [hT2, List.length_drop]; omega
          rw [← hT2] at HSB
          have HT2 := Lib.hid hT2l
          have hm1 : m ≤ 1024 := HSB.out.bs_.2.2.2.2.2
          have hqm : q + m ≤ 1300 := by omega
          have hscl := hst.2.1
          have hscm := hst.2.2.1
          simp only [maxLen] at hscm
          clear h1 hdt hgi hch hTl hst hm hd1 hsb hT2 hT2l HL HCl H1
          go_wp2_with fail
          refine HDp.out.mono ?_
          rintro e w7 ⟨rfl, hs7⟩
          have HSB7 := Lib.hid (HSB.out.stay0 hs7)
          clear hs7 HDp HSB
          have v1 : IntKind.i64.wrap ((q : Int) + m + 1 - 1) = (q : Int) + m := by simp only [IntKind.wrap, IntKind.bits, IntKind.signed]; simp; omega
          have v2 : IntKind.i64.wrap ((q : Int) + m - m) = (q : Int) := by simp only [IntKind.wrap, IntKind.bits, IntKind.signed]; simp; omega
          have v3 : (0 : Int) ≤ (q : Int) := by omega
          have v4 : (q : Int) ≤ (q : Int) + m + 1 := by omega
          have v5 : (q : Int) + m + 1 ≤ (sc : Int) := by omega
          have v6 : q + m + 1 - q = m + 1 := by omega
          go_wp2_with fail
          go_loopw [143] (fun rv wr => ∃ r : Nat, r ≤ 2 ∧ rv = .int .i64 r ∧ Hid (SB w B bb rb m T2 (some ⟨sg, so + q, none⟩) (sc - q) m wr)) (fun rv _ => 2 - (intOf rv).toNat)
          case atStart => exact ⟨0, by omega, rfl, HSB7⟩
          case round =>
            clear HSB7
            obtain ⟨r, hr, rfl, HSr⟩ := hrel
            by_cases hr2 : r < 2
            · have hr2' : (r : Int) < 2 := by omega
              go_wp2_with fail
              go_loopw [17] (fun kv wr2 => ∃ k2 : Nat, k2 ≤ m ∧ kv = .int .i64 k2 ∧ Hid (SB w B bb rb m T2 (some ⟨sg, so + q, none⟩) (sc - q) k2 wr2)) (fun kv _ => (intOf kv).toNat)
              case atStart => exact ⟨m, Nat.le_refl _, rfl, HSr⟩
              case round =>
                clear HSr
                obtain ⟨k2, hk2, rfl, HSk⟩ := hrel
                cases k2 with
                | zero =>
                  have HUn := Lib.hid (sb_undo_none HSk.out)
                  go_wp2_with fail
                  refine HUn.out.mono ?_
                  rintro e w9 ⟨rfl, hs9⟩
                  have HS9 := Lib.hid (HSk.out.stay0 hs9)
                  clear hs9 HUn HSk
                  go_wp2_with fail
                  go_loopw [168] (fun kv wr3 => ∃ k3 : Nat, k3 ≤ m ∧ kv = .int .i64 k3 ∧ Hid (SB w B bb rb m T2 (some ⟨sg, so + q, none⟩) (sc - q) k3 wr3)) (fun kv _ => m - (intOf kv).toNat)
                  case atStart => exact ⟨0, by omega, rfl, HS9⟩
                  case round =>
                    clear HS9
                    obtain ⟨k3, hk3, rfl, HS3⟩ := hrel
                    by_cases h3 : k3 < m
                    · obtain ⟨g3, o3, he3, hc3⟩ := strs_cell HS3.out.bs_.2.2.2.1 (k3 + 1) (by rw [HT2.out]; omega)
                      injection he3 with he3
                      injection he3 with he4 he5
                      subst he4 he5
                      obtain ⟨X, hX⟩ : ∃ X, X = str (T2.getD (k3 + 1) []) := ⟨_, rfl⟩
                      rw [← hX] at hc3
                      have HFo := Lib.hid (sb_fore HS3.out h3 X hX)
                      have h3' : (k3 : Int) < m := by omega
                      have hp1 : IntKind.i64.wrap ((k3 : Int) + 1) = (k3 : Int) + 1 := by simp only [IntKind.wrap, IntKind.bits, IntKind.signed]; simp; omega
                      have hp2 : (0 : Int) ≤ (k3 : Int) + 1 := by omega
                      have hp3 : (k3 : Int) + 1 < (m : Int) + 1 := by omega
                      clear hX
                      go_wp2_with fail
                      refine HFo.out.mono ?_
                      rintro e w10 ⟨rfl, h10⟩
                      have H10 := Lib.hid h10
                      clear h10 HFo
                      go_wp2_with fail
                      go_roundw
                      case rel => exact ⟨k3 + 1, by omega, by go_num, H10⟩
                      case measure => simp [intOf]; omega
                    · have hk' : k3 = m := by omega
                      subst hk'
                      have HRn := Lib.hid (sb_redo_none HS3.out)
                      go_wp2_with fail
                      refine HRn.out.mono ?_
                      rintro e w11 ⟨rfl, hs11⟩
                      have H11 := Lib.hid (HS3.out.stay0 hs11)
                      clear hs11 HRn
                      go_wp2_with fail
                      go_roundw
                      case rel => exact ⟨r + 1, by omega, by go_num, H11⟩
                      case measure => simp [intOf]; omega
                | succ j =>
                  obtain ⟨g3, o3, he3, hc3⟩ := strs_cell HSk.out.bs_.2.2.2.1 j (by rw [HT2.out]; omega)
                  injection he3 with he3
                  injection he3 with he4 he5
                  subst he4 he5
                  obtain ⟨X, hX⟩ : ∃ X, X = str (T2.getD j []) := ⟨_, rfl⟩
                  rw [← hX] at hc3
                  have HBa := Lib.hid (sb_back HSk.out X hX)
                  have hj1 : (0 : Int) < (j : Int) + 1 := by omega
                  have hp1 : IntKind.i64.wrap ((j : Int) + 1 - 1) = (j : Int) := by simp only [IntKind.wrap, IntKind.bits, IntKind.signed]; simp; omega
                  have hp2 : (0 : Int) ≤ (j : Int) := by omega
                  have hp3 : (j : Int) < (m : Int) + 1 := by omega
                  clear hX
                  go_wp2_with fail
                  refine HBa.out.mono ?_
                  rintro e w10 ⟨rfl, h10⟩
                  have H10 := Lib.hid h10
                  clear h10 HBa
                  go_wp2_with fail
                  go_roundw
                  case rel => exact ⟨j, by omega, by go_num, H10⟩
                  case measure => simp [intOf]
            · have hk' : r = 2 := by omega
              subst hk'
              have HF := Lib.hid HSr.out.bs_.1
              go_wp2_with fail
              go_ret
              exact ⟨rfl, HF.out⟩
end Go.Proofs.Ytjoeebjmjnddoaa
