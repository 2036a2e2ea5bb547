/- shuttlelaw18: RopeLines: the walk. -/
import Derived.Test.YtjoeebjmjnddoaaRlines0
import Derived.Deep.CutBlock
import Derived.Deep.DeepCutAuto
namespace Go.Proofs.Ytjoeebjmjnddoaa
open Go.RowKit
/-- the two ropes -/
structure K2 (w0 : World) (r q : Nat) (t tq : Rp) (st : Int) (w : World) : Prop where
  R1 : RopeAt w r t st
  R2 : RopeAt w q tq 0
  bel : Below w0.heap.size w0 w
theorem K2.stay0 {w0 w w' : World} {r q : Nat} {t tq : Rp} {st : Int} (h : K2 w0 r q t tq st w) (hs : Stay [] w w') : K2 w0 r q t tq st w' :=
  ⟨h.R1.stay0 hs, h.R2.stay0 hs, h.bel.trans (hs.toBelow h.bel.size (by simp))⟩
/-- an edit of a slice of edits -/
theorem edits_at {w : World} {B : Nat} {A : Option Addr} {L : List Ed} (h : Sl w B A (L.flatMap Ed.cells)) (k : Nat) (hk : k < L.length) : ∃ b o, A = some ⟨b, o, none⟩ ∧ b < B ∧ ∀ j u, L[k].cells[j]? = some u → w.cell? ⟨b, o + (k * 3 + j), none⟩ = some u := by
  have key : ∀ j u, L[k].cells[j]? = some u → (L.flatMap Ed.cells)[k * 3 + j]? = some u := fun j u hj => by
    have hj3 : j < 3 := by
      have := (List.getElem?_eq_some_iff.1 hj).1
      rwa [Ed.len] at this
    rw [flat_at Ed.cells 3 Ed.len L k hk j hj3]; exact hj
  obtain ⟨ad, e, hb, hc⟩ := h _ _ (key 0 _ rfl)
  have : ∃ b o, ad = ⟨b, o, none⟩ := by
    obtain ⟨b', o', sp⟩ := ad
    cases sp with
    | none => exact ⟨b', o', rfl⟩
    | some x =>
      obtain ⟨ad0, e0, hb0, hc0⟩ := h 0 ((L[0]'(by omega)).cells[0]'(by rw [Ed.len]; omega)) (by
        have := flat_at Ed.cells 3 Ed.len L 0 (by omega) 0 (by omega)
        rw [Nat.zero_mul, Nat.add_zero] at this
        rw [this]; simp)
      rw [e] at e0
      injection e0 with e0
      subst e0
      exact plain_addr (show w.cell? ⟨b', o', some x⟩ = some _ from hc0)
  obtain ⟨b, o, rfl⟩ := this
  subst e
  refine ⟨b, o, rfl, hb, fun j u hj => ?_⟩
  obtain ⟨ad2, e2, _, hc2⟩ := h _ _ (key j u hj)
  injection e2 with e2
  subst e2
  rw [add_lit'] at hc2
  exact hc2
/-- where the i-th line begins; behind the last: one behind the end -/
def nxL (l : List UInt8) (i : Nat) : Nat := if i ≤ nl l then feedL i l else l.length + 1
theorem nx_facts (l : List UInt8) (i : Nat) (h : i ≤ nl l) : ∃ d : Nat, nxL l i + d ≤ l.length ∧ lineL l i = ((nxL l i : Int), (d : Int)) ∧ nl (cutL l 0 (nxL l i)) = i ∧ nl (cutL l 0 (nxL l i + d)) = i ∧ nxL l (i + 1) = nxL l i + d + 1 ∧
    (nxL l i + d = l.length ∨ (nxL l i + d < l.length ∧ l[nxL l i + d]? = some 10)) := by
  obtain ⟨a, z, ha, haz, hz, h1, h2, h3, h4⟩ := line_facts l i h
  have e : nxL l i = a := by unfold nxL; rw [if_pos h, ha]
  have ez : a + (z - a) = z := by omega
  refine ⟨z - a, ?_⟩
  rw [e, ez]
  refine ⟨hz, by rw [h1]; congr 1; omega, h2, h3, ?_, ?_⟩
  · rcases h4 with ⟨h5, h6⟩ | ⟨h5, h6, _⟩
    · unfold nxL
      rw [if_neg (by omega), h6]
    · unfold nxL
      rw [if_pos (by omega), h6]
  · rcases h4 with ⟨_, h6⟩ | ⟨h5, h6, h7⟩
    · exact .inl h6
    · have := (List.getElem?_eq_some_iff.1 h7).1
      exact .inr ⟨this, h7⟩
theorem nx_zero (l : List UInt8) : nxL l 0 = 0 := by unfold nxL; rw [if_pos (Nat.zero_le _), feedL_zero]
theorem nx_end (l : List UInt8) : nxL l (nl l + 1) = l.length + 1 := by unfold nxL; rw [if_neg (by omega)]
set_option maxRecDepth 20000 in
set_option maxHeartbeats 16000000 in
theorem lines_long (text : ByteArray) (A : Option Addr) (c n : Nat) (w : World) (htx : text.size ≤ maxLen) (hl : 1048576 < text.size) :
    Calls Try.prog 5 #[.string text, .slice A n c] w fun e w' => e = .returned (.bool true) ∧ Below w.heap.size w w' := by
  have HN := Lib.hid (new_long text.data.toList w (by rw [bytes_length]; exact hl) (by rw [bytes_length]; simpa [maxLen] using htx))
  rw [str_of] at HN
  have HA := Lib.hid (alive_any w)
  have h1 : (1048576 : Int) < text.size := by omega
  clear htx hl
  go_enter Try.func5, Try.ntmps5
  go_wp2_with fail
  refine HN.out.mono ?_
  rintro e w' ⟨rfl, rfl⟩
  go_wp2_with fail
  refine HA.out.mono ?_
  rintro e w' ⟨rfl, h2⟩
  have HB := Lib.hid h2
  clear h2
  go_wp2_with fail
  exact bodyPost_ret (v := .bool true) (by simp [results, Try.results5, go_sem]) rfl ⟨rfl, HB.out⟩
theorem str_get (T : List UInt8) (k : Nat) (c : UInt8) (h : T[k]? = some c) (hk : k < (str T).size) : (str T)[k]'hk = c := by
  have e := (List.getElem?_eq_some_iff.1 h).2
  rw [← e]
  rfl
theorem index_str (T : List UInt8) (k : Nat) (h : T[k]? = some 10) (u : World) : (Instr.index 9 (.string (str T)) (.int .i64 k)).run Try.prog u = .ok (.int .u8 10) u := by
  have hk : k < (str T).size := by rw [str_size]; exact (List.getElem?_eq_some_iff.1 h).1
  rw [run_index_string _ _ _ _ _ Try.underlying9, dif_pos (by omega)]
  simp only [Int.toNat_natCast]
  rw [str_get T k 10 h hk]
  rfl
theorem K2.txt {w0 w : World} {r q : Nat} {t tq : Rp} {st : Int} (h : K2 w0 r q t tq st w) : Hid (RopeAt w r t st) ∧ Hid (RopeAt w q tq 0) := ⟨h.R1, h.R2⟩
set_option maxRecDepth 20000 in
set_option maxHeartbeats 32000000 in
theorem lines_fits (text : ByteArray) (A : Option Addr) (c : Nat) (L : List Ed) (w : World) (htx : text.size ≤ 1048576) (hsl : Sl w w.heap.size A (L.flatMap Ed.cells)) (hlc : L.length ≤ maxLen) (hok : ∀ e ∈ L, e.OK) :
    Calls Try.prog 5 #[.string text, .slice A L.length c] w fun e w' => e = .returned (.bool true) ∧ Below w.heap.size w w' := by
  have HN := Lib.hid (new_any text.data.toList w (by rw [bytes_length]; exact htx))
  rw [str_of] at HN
  obtain ⟨B, hB⟩ : ∃ B, B = w.heap.size := ⟨_, rfl⟩
  have HSl := Lib.hid hsl
  have HOk := Lib.hid hok
  rw [← hB] at HSl ⊢
  have HBe := Lib.hid hB
  obtain ⟨N, hN⟩ : ∃ N, N = L.length := ⟨_, rfl⟩
  have HNe := Lib.hid hN
  have hnm : (N : Int) ≤ 9223372036854775807 := by rw [hN]; simp only [maxLen] at hlc; omega
  rw [← hN]
  clear hsl hok hB hN hlc htx
  go_enter Try.func5, Try.ntmps5
  go_wp2_with fail
  refine HN.out.mono ?_
  rintro e w1 ⟨rb, t0, rfl, hrb, hR, -, hb⟩
  rw [← HBe.out] at hrb hb
  have HR := Lib.hid (And.intro hR (And.intro (show U64 0 by unfold U64; omega) hb))
  have HRb := Lib.hid hrb
  clear hR hb hrb HN
  go_upto_block 0 with fail
  go_cut [7] (fun v wx => ∃ (t : Rp) (st : Int), Hid (RopeAt wx rb t st ∧ U64 st ∧ Below B w wx))
  case first =>
    go_wp2_with fail
    go_loopw [7] (fun iv wr => ∃ (k : Nat) (t : Rp) (st : Int), k ≤ N ∧ iv = .int .i64 k ∧ Hid (RopeAt wr rb t st ∧ U64 st ∧ Below B w wr)) (fun iv _ => N - (intOf iv).toNat)
    case atStart => exact ⟨0, t0, 0, by omega, rfl, HR.out⟩
    case round =>
      obtain ⟨k, t, st, hk, rfl, HRk⟩ := hrel
      by_cases h1 : k < N
      · have h1' : (k : Int) < N := by omega
        by_cases h2 : k < 2000
        · have h2' : (k : Int) < 2000 := by omega
          have hk0 : (0 : Int) ≤ k := by omega
          have hkl : k < L.length := by rw [← HNe.out]; exact h1
          obtain ⟨b, o, rfl, hbB, key⟩ := edits_at HSl.out k hkl
          have hOk := HOk.out _ (List.getElem_mem hkl)
          obtain ⟨ed, hed⟩ : ∃ ed, ed = L[k] := ⟨_, rfl⟩
          rw [← hed] at key hOk
          have HD := Lib.hid (do_any rb t st ed wr HRk.out.1 HRk.out.2.1 hOk)
          have hcl : ∀ j u, ed.cells[j]? = some u → wr.cell? ⟨b, o + k * 3 + j, none⟩ = some u := fun j u hj => by rw [Nat.add_assoc]; exact (World.cell?_of_block (HRk.out.2.2.block b hbB)).trans (key j u hj)
          clear key hOk hed
          obtain ⟨ea, eb, es⟩ := ed
          have c0 := hcl 0 _ rfl
          have c1 := hcl 1 _ rfl
          have c2 := hcl 2 _ rfl
          rw [Nat.add_zero] at c0
          clear hcl
          simp only [Ed.val] at HD
          simp only at c0 c1 c2
          go_wp2_with fail
          refine HD.out.mono ?_
          rintro e w2 ⟨v2, t2, st2, rfl, hR2, hst2, hs2⟩
          have HR2 := Lib.hid (And.intro hR2 (And.intro hst2 (HRk.out.2.2.trans (hs2.toBelow (by rw [HBe.out]; exact HRk.out.2.2.size) (fun g hg => by rw [List.mem_singleton] at hg; rw [hg]; exact HRb.out)))))
          clear hR2 hst2 hs2 HD c0 c1 c2 HRk
          go_wp2_with fail
          go_roundw
          case rel => exact ⟨k + 1, t2, st2, by omega, by go_num, HR2⟩
          case measure => simp [intOf]; omega
        · have h2' : ¬ (k : Int) < 2000 := by omega
          go_wp2_with fail
          go_meet
          exact ⟨t, st, HRk⟩
      · have h1' : ¬ (k : Int) < N := by omega
        go_wp2_with fail
        go_meet
        exact ⟨t, st, HRk⟩
  case rest =>
    obtain ⟨t, st, HRk⟩ := hcut
    have HR2 := Lib.hid HRk.out.1
    have HBw := Lib.hid (show Below w.heap.size w wc from by rw [← HBe.out]; exact HRk.out.2.2)
    have HT := Lib.hid (text_any rb t st wc HRk.out.1)
    have hTl := HRk.out.1.len
    clear HR hnm HRk HSl HOk HNe HRb
    obtain ⟨T, hT⟩ : ∃ T, T = t.text := ⟨_, rfl⟩
    have HTe := Lib.hid hT
    rw [← hT] at HT
    have hTl2 : T.length ≤ 1048576 := by rw [hT]; exact hTl
    have HNq := Lib.hid (fun u => new_any T u hTl2)
    obtain ⟨S, hS⟩ : ∃ S, S = str T := ⟨_, rfl⟩
    have hSz : T.length = S.size := by rw [hS, str_size]
    have hSi : (S.size : Int) ≤ 1048576 := by omega
    have HSz := Lib.hid hSz
    have HSe := Lib.hid hS
    rw [← hS] at HT HNq
    clear hT hTl hTl2 hS hSz
    go_wp2_with fail
    refine HT.out.mono ?_
    rintro e w2 ⟨rfl, hb⟩
    have HR3 := Lib.hid (HR2.out.below hb)
    have HB3 := Lib.hid (HBw.out.trans (hb.mono HBw.out.size))
    clear hb HT HR2 HBw
    go_wp2_with fail
    refine (HNq.out _).mono ?_
    rintro e w3 ⟨q, tq, rfl, hq, hRq, hxq, hb3⟩
    have hK0 : K2 w rb q t tq st w3 := ⟨HR3.out.below hb3, hRq, HB3.out.trans (hb3.mono HB3.out.size)⟩
    have hTt : t.text = T := HTe.out.symm
    have hTl : t.len = S.size := by rw [Rp.len, hTt]; exact HSz.out
    have hql : tq.len = S.size := by rw [Rp.len, hxq]; exact HSz.out
    obtain ⟨M, hM⟩ : ∃ M, M = nl T := ⟨_, rfl⟩
    have hMt : t.nls = M := by rw [Rp.nls, hTt, hM]
    have hMq : tq.nls = M := by rw [Rp.nls, hxq, hM]
    obtain ⟨nx, hnx⟩ : ∃ nx, nx = nxL T := ⟨_, rfl⟩
    obtain ⟨KP, hKP⟩ : ∃ KP, KP = K2 w rb q t tq st := ⟨_, rfl⟩
    have HK := Lib.hid (show KP w3 from by rw [hKP]; exact hK0)
    have HKB := Lib.hid (show ∀ u, KP u → Below B w u from fun u h => by rw [hKP] at h; rw [HBe.out]; exact h.bel)
    have HKD := Lib.hid (show ∀ u, KP u → KP u.drew from fun u h => by rw [hKP] at h ⊢; exact h.stay0 (Stay.drew u))
    have HKN := Lib.hid (show ∀ u n, KP u → KP (u.drewN n) from fun u n h => by rw [hKP] at h ⊢; exact h.stay0 (Stay.drewN u n))
    have HLr := Lib.hid (show ∀ u, KP u → Calls Try.prog 22 #[.pointer (some ⟨rb, 0, none⟩)] u fun e w' => e = .returned (.int .i64 ((M : Int) + 1)) ∧ KP w' from fun u h => by
      rw [hKP] at h ⊢
      refine (lines_any rb t st u h.R1).mono ?_
      rintro e w' ⟨h1, h2⟩
      exact ⟨by rw [h1, hMt], h.stay0 h2⟩)
    have HLq := Lib.hid (show ∀ u, KP u → Calls Try.prog 22 #[.pointer (some ⟨q, 0, none⟩)] u fun e w' => e = .returned (.int .i64 ((M : Int) + 1)) ∧ KP w' from fun u h => by
      rw [hKP] at h ⊢
      refine (lines_any q tq 0 u h.R2).mono ?_
      rintro e w' ⟨h1, h2⟩
      exact ⟨by rw [h1, hMq], h.stay0 h2⟩)
    have HEr := Lib.hid (show ∀ u, KP u → Calls Try.prog 23 #[.pointer (some ⟨rb, 0, none⟩)] u fun e w' => e = .returned (.int .i64 S.size) ∧ KP w' from fun u h => by
      rw [hKP] at h ⊢
      refine (len_any rb t st u h.R1).mono ?_
      rintro e w' ⟨h1, h2⟩
      exact ⟨by rw [h1, hTl], h.stay0 h2⟩)
    have HEq := Lib.hid (show ∀ u, KP u → Calls Try.prog 23 #[.pointer (some ⟨q, 0, none⟩)] u fun e w' => e = .returned (.int .i64 S.size) ∧ KP w' from fun u h => by
      rw [hKP] at h ⊢
      refine (len_any q tq 0 u h.R2).mono ?_
      rintro e w' ⟨h1, h2⟩
      exact ⟨by rw [h1, hql], h.stay0 h2⟩)
    have HAl := Lib.hid (show ∀ u, KP u → Calls Try.prog 14 #[] u fun e w' => e = .returned (.bool true) ∧ KP w' from fun u h => by
      rw [hKP] at h ⊢
      refine (alive_any u).mono ?_
      rintro e w' ⟨h1, h2⟩
      exact ⟨h1, h.stay0 (Stay.below h2)⟩)
    have HF := Lib.hid (show ∀ i, i ≤ M → ∃ d : Nat, nx i + d ≤ S.size ∧ (∀ u, KP u → Calls Try.prog 24 #[.pointer (some ⟨rb, 0, none⟩), .int .i64 i] u fun e w' => e = .returned (.tuple #[.int .i64 (nx i), .int .i64 d]) ∧ KP w') ∧
        (∀ u, KP u → Calls Try.prog 24 #[.pointer (some ⟨q, 0, none⟩), .int .i64 i] u fun e w' => e = .returned (.tuple #[.int .i64 (nx i), .int .i64 d]) ∧ KP w') ∧
        (∀ u, KP u → Calls Try.prog 25 #[.pointer (some ⟨rb, 0, none⟩), .int .i64 (nx i), .int .i64 d] u fun e w' => e = .returned (.string (S.extract (nx i) (nx i + d))) ∧ KP w') ∧
        (∀ u, KP u → Calls Try.prog 26 #[.pointer (some ⟨rb, 0, none⟩), .int .i64 (nx i)] u fun e w' => e = .returned (.int .i64 i) ∧ KP w') ∧
        (∀ u, KP u → Calls Try.prog 26 #[.pointer (some ⟨rb, 0, none⟩), .int .i64 ((nx i + d : Nat) : Int)] u fun e w' => e = .returned (.int .i64 i) ∧ KP w') ∧ nx (i + 1) = nx i + d + 1 ∧
        (nx i + d = S.size ∨ (nx i + d < S.size ∧ ∀ u, (Instr.index 9 (.string S) (.int .i64 ((nx i + d : Nat) : Int))).run Try.prog u = .ok (.int .u8 10) u)) from fun i hi => by
      obtain ⟨d, h1, h2, h3, h4, h5, h6⟩ := nx_facts T i (by rw [← hM]; exact hi)
      rw [← hnx] at h1 h2 h3 h4 h5 h6
      rw [HSz.out] at h1 h6
      have hL1 : S.size ≤ 1048576 := by omega
      refine ⟨d, h1, fun u h => ?_, fun u h => ?_, fun u h => ?_, fun u h => ?_, fun u h => ?_, h5, ?_⟩
      · rw [hKP] at h ⊢
        refine (line_in rb t st i u h.R1 (by rw [hMt]; exact hi)).mono ?_
        rintro e w' ⟨e1, e2⟩
        exact ⟨by rw [e1, hTt, h2], h.stay0 e2⟩
      · rw [hKP] at h ⊢
        refine (line_in q tq 0 i u h.R2 (by rw [hMq]; exact hi)).mono ?_
        rintro e w' ⟨e1, e2⟩
        exact ⟨by rw [e1, hxq, h2], h.stay0 e2⟩
      · rw [hKP] at h ⊢
        refine (slicer_any rb t st (nx i) d u h.R1 (by omega) (by omega)).mono ?_
        rintro e w' ⟨e1, e2⟩
        rw [hTl, frL_nat _ _ (show nx i ≤ S.size by omega), toL_nat _ _ _ h1, hTt] at e1
        refine ⟨?_, h.stay0 (Stay.below e2)⟩
        rw [e1, HSe.out, str_ext]
        rfl
      · rw [hKP] at h ⊢
        refine (lineat_any rb t st (nx i) u h.R1).mono ?_
        rintro e w' ⟨e1, e2⟩
        rw [hTl, frL_nat _ _ (show nx i ≤ S.size by omega), hTt, h3] at e1
        exact ⟨e1, h.stay0 (Stay.below e2)⟩
      · rw [hKP] at h ⊢
        refine (lineat_any rb t st ((nx i + d : Nat) : Int) u h.R1).mono ?_
        rintro e w' ⟨e1, e2⟩
        rw [hTl, frL_nat _ _ h1, hTt, h4] at e1
        exact ⟨e1, h.stay0 (Stay.below e2)⟩
      · rcases h6 with h6 | ⟨h6, h7⟩
        · exact .inl h6
        · refine .inr ⟨h6, fun u => ?_⟩
          rw [HSe.out]
          exact index_str T _ h7 u)
    have HN0 := Lib.hid (show nx 0 = 0 from by rw [hnx]; exact nx_zero T)
    have HN1 := Lib.hid (show nx (M + 1) = S.size + 1 from by rw [hnx, hM, nx_end, HSz.out])
    have hMb : (M : Int) ≤ 1048576 := by
      have := nl_le T
      rw [← hM, HSz.out] at this
      omega
    clear hq hRq hxq hb3 hK0 hTt hTl hql hM hMt hMq hnx hKP HR3 HB3 HTe HNq HSz HSe
    have call : ∀ (f : Nat), True := fun _ => trivial
    clear call
    go_wp2_with fail
    refine (HLq.out _ HK.out).mono ?_
    rintro e w4 ⟨rfl, hk⟩
    have HK4 := Lib.hid hk
    clear hk HK
    go_wp2_with fail
    refine (HLr.out _ HK4.out).mono ?_
    rintro e w5 ⟨rfl, hk⟩
    have HK5 := Lib.hid hk
    clear hk HK4
    go_wp2_with fail
    refine (HEq.out _ HK5.out).mono ?_
    rintro e w6 ⟨rfl, hk⟩
    have HK6 := Lib.hid hk
    clear hk HK5
    go_wp2_with fail
    refine (HEr.out _ HK6.out).mono ?_
    rintro e w7 ⟨rfl, hk⟩
    have HK7 := Lib.hid hk
    clear hk HK6
    go_wp2_with fail
    refine (HAl.out _ HK7.out).mono ?_
    rintro e w8 ⟨rfl, hk⟩
    have HK8 := Lib.hid hk
    clear hk HK7 HAl HEq HEr HLq
    go_wp2_with fail
    go_loopw [11, 12] (fun nv iv wr => ∃ i : Nat, i ≤ M + 1 ∧ iv = .int .i64 i ∧ nv = .int .i64 (nx i) ∧ Hid (KP wr)) (fun _ iv _ => M + 1 - (intOf iv).toNat)
    case atStart => exact ⟨0, by omega, rfl, by rw [HN0.out]; rfl, HK8⟩
    case round =>
      obtain ⟨i, hi, rfl, rfl, HKi⟩ := hrel
      obtain ⟨n1, hn1⟩ : ∃ n1, n1 = S.size + 1 := ⟨_, rfl⟩
      have hs4 : IntKind.i64.wrap ((S.size : Int) + 1) = (n1 : Int) := by simp only [IntKind.wrap, IntKind.bits, IntKind.signed]; simp; omega
      have HNn := Lib.hid hn1
      clear hn1
      go_wp2_with fail
      refine (HLr.out _ HKi.out).mono ?_
      rintro e u1 ⟨rfl, hk⟩
      have HK1 := Lib.hid hk
      clear hk HKi
      by_cases hl : i ≤ M
      · have hl' : (i : Int) < (M : Int) + 1 := by omega
        obtain ⟨d, hd1, c1, c2, c3, c4, c5, hnx, h6⟩ := HF.out i hl
        obtain ⟨a, ha⟩ : ∃ a, a = nx i := ⟨_, rfl⟩
        rw [← ha] at hd1 c1 c2 c3 c4 c5 hnx h6 ⊢
        obtain ⟨z, hz⟩ : ∃ z, z = a + d := ⟨_, rfl⟩
        rw [← hz] at hd1 c3 c5 hnx h6
        obtain ⟨z1, hz1⟩ : ∃ z1, z1 = z + 1 := ⟨_, rfl⟩
        rw [← hz1] at hnx
        have HNx := Lib.hid hnx
        have Hc1 := Lib.hid c1
        have Hc2 := Lib.hid c2
        have Hc3 := Lib.hid c3
        have Hc4 := Lib.hid c4
        have Hc5 := Lib.hid c5
        have H6 := Lib.hid h6
        have hs1 : IntKind.i64.wrap ((a : Int) + d) = (z : Int) := by simp only [IntKind.wrap, IntKind.bits, IntKind.signed]; simp; omega
        have hs2 : IntKind.i64.wrap ((z : Int) + 1) = (z1 : Int) := by simp only [IntKind.wrap, IntKind.bits, IntKind.signed]; simp; omega
        have hs3 : IntKind.i64.wrap ((z1 : Int) - 1) = (z : Int) := by simp only [IntKind.wrap, IntKind.bits, IntKind.signed]; simp; omega
        have hb1 : ¬ (d : Int) < 0 := by omega
        have hb2 : ¬ (S.size : Int) < z := by omega
        have hb3 : (0 : Int) ≤ a := by omega
        have hb4 : (a : Int) ≤ z := by omega
        have hb5 : (z : Int) ≤ S.size := by omega
        have HZ := Lib.hid (And.intro hz hz1)
        clear c1 c2 c3 c4 c5 hnx h6 ha hz hz1 hd1
        go_wp2_with fail
        refine (Hc1.out _ HK1.out).mono ?_
        rintro e u2 ⟨rfl, hk⟩
        have HK2 := Lib.hid hk
        clear hk HK1 Hc1
        go_wp2_with fail
        refine (Hc2.out _ HK2.out).mono ?_
        rintro e u3 ⟨rfl, hk⟩
        have HK3 := Lib.hid hk
        clear hk HK2 Hc2
        have HKd := Lib.hid (HKD.out _ HK3.out)
        go_upto_region 18 with fail
        go_cut [143] (fun v wx => v = .bool false ∧ Hid (KP wx))
        case first =>
          by_cases h3 : i < 3000
          · have h3' : (i : Int) < 3000 := by omega
            have q1 : decide ((d : Int) < 0) = false := decide_eq_false (by omega)
            have q2 : decide ((S.size : Int) < z) = false := decide_eq_false (by omega)
            have q3 : decide (S.size < z) = false := decide_eq_false (by omega)
            have q4 : decide ((i : Int) < 3000) = true := decide_eq_true h3'
            have q5 : decide (i < 3000) = true := decide_eq_true h3
            go_region_held3 (fun _ => True) (exact trivial)
              (first
                | (go_at_call 25; ((with_reducible refine (Hc3.out _ HKd.out).mono ?_); rintro e u4 ⟨rfl, hk⟩); have HK4 := Lib.hid hk; clear hk))
            all_goals
              go_wp2_with fail
              go_meet
              exact ⟨rfl, HK4⟩
          · have h3' : ¬ (i : Int) < 3000 := by omega
            have q1 : decide ((d : Int) < 0) = false := decide_eq_false (by omega)
            have q2 : decide ((S.size : Int) < z) = false := decide_eq_false (by omega)
            have q3 : decide (S.size < z) = false := decide_eq_false (by omega)
            have q4 : decide ((i : Int) < 3000) = false := decide_eq_false h3'
            have q5 : decide (i < 3000) = false := decide_eq_false h3
            go_quiet (fail)
            all_goals
              go_wp2_with fail
              go_meet
              first | exact ⟨rfl, HKd⟩ | exact ⟨rfl, HKN.out _ _ HK3.out⟩
        case rest =>
          obtain ⟨rfl, HK4⟩ := hcut
          go_upto_region 21 with fail
          go_cut [165] (fun v wx => v = .bool false ∧ Hid (KP wx))
          case first =>
            by_cases hzz : z < S.size
            · have hr1 : (z1 : Int) ≤ S.size := by have := HZ.out.2; omega
              have hr2 : ¬ (n1 : Int) < z1 := by have := HZ.out.2; have := HNn.out; omega
              have hix := (H6.out.resolve_left (by omega)).2
              have q1 : decide ((z1 : Int) ≤ S.size) = true := decide_eq_true hr1
              have q2 : decide (z1 ≤ S.size) = true := decide_eq_true (by omega)
              go_wp2_with fail
              go_meet
              exact ⟨rfl, HK4⟩
            · have hr1 : ¬ (z1 : Int) ≤ S.size := by have := HZ.out.2; omega
              have hr2 : ¬ (n1 : Int) < z1 := by have := HZ.out.2; have := HNn.out; omega
              go_wp2_with fail
              go_meet
              exact ⟨rfl, HK4⟩
          case rest =>
            obtain ⟨rfl, HK5⟩ := hcut
            by_cases h3 : i < 300
            · have h3' : (i : Int) < 300 := by omega
              go_wp2_with fail
              refine (Hc4.out _ HK5.out).mono ?_
              rintro e u6 ⟨rfl, hk⟩
              have HK6 := Lib.hid hk
              clear hk
              go_wp2_with fail
              refine (Hc5.out _ HK6.out).mono ?_
              rintro e u7 ⟨rfl, hk⟩
              have HK7 := Lib.hid hk
              clear hk
              go_wp2_with fail
              go_roundw
              case rel => exact ⟨i + 1, by omega, by go_num, by rw [HNx.out], HK7⟩
              case measure => simp [intOf]; omega
            · have h3' : ¬ (i : Int) < 300 := by omega
              go_wp2_with fail
              go_roundw
              case rel => exact ⟨i + 1, by omega, by go_num, by rw [HNx.out], HK5⟩
              case measure => simp [intOf]; omega
      · have hl' : ¬ (i : Int) < (M : Int) + 1 := by omega
        have HE := Lib.hid (show nx i = n1 from by rw [show i = M + 1 by omega, HN1.out, HNn.out])
        obtain ⟨a, ha⟩ : ∃ a, a = nx i := ⟨_, rfl⟩
        rw [← ha] at HE ⊢
        have HBl := Lib.hid (HKB.out _ HK1.out)
        have ha1 := HE.out
        clear ha HE
        subst ha1
        go_wp2_with fail
        exact bodyPost_ret (v := .bool true) (by simp [results, Try.results5, go_sem]) rfl ⟨rfl, HBl.out⟩
theorem lineslaw_any (text : ByteArray) (A : Option Addr) (c : Nat) (L : List Ed) (w : World) (htx : text.size ≤ maxLen) (hsl : Sl w w.heap.size A (L.flatMap Ed.cells)) (hlc : L.length ≤ c) (hc : c ≤ maxLen) (hok : ∀ e ∈ L, e.OK) (_ : L.length * 32 ≤ reachBytes) :
    Calls Try.prog 5 #[.string text, .slice A L.length c] w fun e w' => e = .returned (.bool true) ∧ Below w.heap.size w w' := by
  by_cases h : text.size ≤ 1048576
  · exact lines_fits text A c L w h hsl (Nat.le_trans hlc hc) hok
  · exact lines_long text A c L.length w htx (by omega)
end Go.Proofs.Ytjoeebjmjnddoaa
