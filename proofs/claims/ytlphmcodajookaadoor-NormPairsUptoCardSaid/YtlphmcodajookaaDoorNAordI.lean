/- NAordI: several texts, one behind another: NstabI, NordI. -/
import Derived.Test.YtlphmcodajookaaDoorNsymI3
import Derived.Test.YtlphmcodajookaaDoorNinsI
import Derived.Test.YtlphmcodajookaaDoorNAplain
/- slices' stable sort at items: stable, SortStableFunc: the walk. -/
namespace Go.Proofs.YtlphmcodajookaaDoor
open Go.RowKit
theorem symI_any (g o c pb N : Nat) (pre post : List Value) (ho : o = pre.length) (hL : N ≤ 2305843009213693952) (hne : pb ≠ g) : ∀ (n : Nat) (A B : List It), A.length + B.length ≤ n → 0 < A.length → 0 < B.length → Ord keyI A → Ord keyI B → SymI g o c pb N pre post A B
  | 0, A, B, hn, h1, _, _, _ => by omega
  | n + 1, A, B, hn, h1, h2, hA, hB => by
    by_cases e1 : A.length = 1
    · obtain ⟨x, rfl⟩ : ∃ x, A = [x] := by
        match A, e1 with
        | [x], _ => exact ⟨x, rfl⟩
      intro w P Q a m b h hN ha hm hb hp
      exact symI_left w g o c pb pre post P B Q x N a m b h ho hN ha hm hb hL hp hne hB
    · by_cases e2 : B.length = 1
      · obtain ⟨y, rfl⟩ : ∃ y, B = [y] := by
          match B, e2 with
          | [y], _ => exact ⟨y, rfl⟩
        intro w P Q a m b h hN ha hm hb hp
        exact symI_right w g o c pb pre post P A Q y N a m b h ho hN ha hm hb e1 hL hp hne hA
      · exact symI_both g o c pb N pre post A B ho hL hne hA hB (by omega) (by omega) (fun A' B' hl k1 k2 k3 k4 => symI_any g o c pb N pre post ho hL hne n A' B' (by omega) k1 k2 k3 k4)
set_option maxRecDepth 20000 in
set_option maxHeartbeats 16000000 in
theorem stableI_any (w : World) (g o c pb : Nat) (pre post : List Value) (L : List It) (N : Nat) (h : SegI w g pre L post) (ho : o = pre.length) (hN : N = L.length) (hL : N ≤ 1152921504606846976) (hp : w.cell? ⟨pb, 0, none⟩ = some (.func (.func 116) #[] #[])) (hne : pb ≠ g) :
    Calls Tryd.prog 139 #[.slice (some ⟨g, o, none⟩) N c, .int .i64 N, cmpFnI pb] w fun e w' => e = .returned (.tuple #[]) ∧ (∃ C, Stab keyI L C ∧ SegI w' g pre C post) ∧ Stay [g] w w' := by
  have HCell := Lib.hid (show ∀ u, Stay [g] w u → u.cell? ⟨pb, 0, none⟩ = some (.func (.func 116) #[] #[]) from fun u hu => (hu.cell_ (a := ⟨pb, 0, none⟩) (World.block_lt_of_cell? _ _ hp) (by simpa using hne)).trans hp)
  have HIns := Lib.hid (fun (u : World) (P A Q : List It) (a b : Nat) (k : SegI u g pre (P ++ (A ++ Q)) post) (k1 : N = (P ++ (A ++ Q)).length) (k2 : a = P.length) (k3 : b = P.length + A.length) (ku : Stay [g] w u) => insI_any u g o c pb pre post P A Q N a b k ho k1 k2 k3 (by omega) (HCell.out u ku) hne)
  have HSym := Lib.hid (show ∀ (A B : List It), 0 < A.length → 0 < B.length → Ord keyI A → Ord keyI B → ∀ (w : World) (P Q : List It) (a m b : Nat), SegI w g pre (P ++ (A ++ (B ++ Q))) post → N = (P ++ (A ++ (B ++ Q))).length → a = P.length → m = P.length + A.length → b = P.length + A.length + B.length →
    w.cell? ⟨pb, 0, none⟩ = some (.func (.func 116) #[] #[]) →
    Calls Tryd.prog 144 #[.slice (some ⟨g, o, none⟩) N c, .int .i64 a, .int .i64 m, .int .i64 b, cmpFnI pb] w fun e w' => e = .returned (.tuple #[]) ∧ (∃ C, Stab keyI (A ++ B) C ∧ SegI w' g pre (P ++ (C ++ Q)) post) ∧ Stay [g] w w' from
    fun A B k1 k2 k3 k4 => symI_any g o c pb N pre post ho (by omega) hne (A.length + B.length) A B (Nat.le_refl _) k1 k2 k3 k4)
  have HS := Lib.hid h
  have HR := Lib.hid (Stay.refl [g] w)
  have HN := Lib.hid hN
  have HL := Lib.hid hL
  generalize hfv : cmpFnI pb = fv at *
  clear h ho hN hp hne hfv
  go_enter Tryd.func139, Tryd.ntmps139
  go_wp2_with fail
  go_loopw [7, 8] (fun av bv wr => ∃ (a b t : Nat) (P R : List It), av = .int .i64 a ∧ bv = .int .i64 b ∧ Hid (a = t * 20 ∧ b = a + 20 ∧ P.length = a ∧ FEq keyI L (P ++ R) ∧ COrd keyI 20 P) ∧ Hid (SegI wr g pre (P ++ R) post) ∧ Hid (Stay [g] w wr))
    (fun av _ _ => N - (intOf av).toNat)
  case atStart => exact ⟨0, 20, 0, [], L, rfl, rfl, ⟨rfl, rfl, rfl, FEq.refl _, COrd.nil _⟩, HS, HR⟩
  case round =>
    clear HS HR
    obtain ⟨a, b, t, P, R, rfl, rfl, HI, HS, HR⟩ := hrel
    have hi := HI.out
    have hl := hi.2.2.2.1.length
    rw [List.length_append] at hl
    have hN := HN.out
    have hL := HL.out
    by_cases hb : b ≤ N
    · have hbz : (b : Int) ≤ N := by omega
      obtain ⟨A, R', hR, hA⟩ := cut_at R 20 (by omega)
      subst hR
      have hcall := HIns.out wr P A R' a b HS.out (by rw [List.length_append] at hl; simp only [List.length_append]; omega) (by omega) (by omega) HR.out
      have HCall := Lib.hid hcall
      have w1 : IntKind.i64.wrap ((b : Int) + 20) = ((b + 20 : Nat) : Int) := by simp only [IntKind.wrap, IntKind.bits, IntKind.signed]; simp; omega
      obtain ⟨b2, hb2⟩ : ∃ b2, b2 = b + 20 := ⟨_, rfl⟩
      rw [← hb2] at w1
      have HB2 := Lib.hid (And.intro hb2 (And.intro hA (And.intro hb hi.2.1)))
      clear hcall hi hl hN hL hb hA hb2
      go_wp2_with fail
      refine HCall.out.mono ?_
      rintro e w2 ⟨rfl, ⟨C, hst, hs⟩, hr⟩
      have HR2 := Lib.hid (HR.out.trans hr)
      have HI2 := Lib.hid (show b = (t + 1) * 20 ∧ b2 = b + 20 ∧ (P ++ C).length = b ∧ FEq keyI L ((P ++ C) ++ R') ∧ COrd keyI 20 (P ++ C) from by
        have hi := HI.out
        have h2 := HB2.out
        have hc : C.length = 20 := by rw [hst.perm.length_eq]; exact h2.2.1
        refine ⟨by omega, h2.1, by rw [List.length_append]; omega, ?_, hi.2.2.2.2.snoc (t := t) (by omega) (by omega) hst.1⟩
        rw [List.append_assoc]
        exact hi.2.2.2.1.part hst)
      have HS2 := Lib.hid (show SegI w2 g pre ((P ++ C) ++ R') post from by rw [List.append_assoc]; exact hs)
      clear hs hr hst HCall
      go_wp2_with fail
      go_roundw
      case rel => exact ⟨b, b2, t + 1, P ++ C, R', rfl, rfl, HI2, HS2, HR2⟩
      case measure => have := HB2.out; simp [intOf]; omega
    · have hbz : ¬ (b : Int) ≤ N := by omega
      have hcall := HIns.out wr P R [] a N (by rw [List.append_nil]; exact HS.out) (by simp only [List.length_append, List.length_nil]; omega) (by omega) (by omega) HR.out
      have HCall := Lib.hid hcall
      have HRl := Lib.hid (show R.length < 20 from by omega)
      clear hcall hi hl hN hL hb
      go_wp2_with fail
      refine HCall.out.mono ?_
      rintro e w2 ⟨rfl, ⟨C, hst, hs⟩, hr⟩
      have HR2 := Lib.hid (HR.out.trans hr)
      have HI2 := Lib.hid (show FEq keyI L (P ++ C) ∧ COrd keyI 20 (P ++ C) from by
        have hi := HI.out
        have h2 := HRl.out
        have hc : C.length = R.length := hst.perm.length_eq
        refine ⟨?_, hi.2.2.2.2.snoc (t := t) (by omega) (by omega) hst.1⟩
        have h3 : FEq keyI L (P ++ (R ++ [])) := by rw [List.append_nil]; exact hi.2.2.2.1
        have := h3.part hst
        rwa [List.append_nil] at this)
      have HS2 := Lib.hid (show SegI w2 g pre (P ++ C) post from by rw [List.append_nil] at hs; exact hs)
      generalize P ++ C = D at HI2 HS2
      clear hs hr hst HCall HS HR HI HRl
      go_wp2_with fail
      go_loopw [6] (fun sv wr => ∃ (s : Nat) (D : List It), sv = .int .i64 s ∧ 0 < s ∧ s ≤ 2 * N + 20 ∧ Hid (FEq keyI L D ∧ COrd keyI s D) ∧ Hid (SegI wr g pre D post) ∧ Hid (Stay [g] w wr)) (fun sv _ => N - (intOf sv).toNat)
      case atStart => exact ⟨20, D, rfl, by omega, by omega, HI2, HS2, HR2⟩
      case round =>
        clear HI2 HS2 HR2
        obtain ⟨s, D, rfl, hs0, hs1, HI, HS, HR⟩ := hrel
        by_cases hsn : s < N
        · have hsz : (s : Int) < N := by omega
          have HD := Lib.hid (And.intro hs0 hsn)
          obtain ⟨d, hd⟩ : ∃ d, d = 2 * s := ⟨_, rfl⟩
          have w1 : IntKind.i64.wrap (2 * (s : Int)) = (d : Int) := by have := HL.out; rw [hd]; simp only [IntKind.wrap, IntKind.bits, IntKind.signed]; simp; omega
          have hdz : IntKind.i64.wrap ((s : Int) * 2) = (d : Int) := by rw [Int.mul_comm]; exact w1
          have HDd := Lib.hid hd
          clear hd hs0 hs1 hsn
          go_wp2_with fail
          go_loopw [7, 8] (fun av bv wr => ∃ (a b t : Nat) (P R : List It), av = .int .i64 a ∧ bv = .int .i64 b ∧ Hid (a = t * d ∧ b = a + d ∧ P.length = a ∧ FEq keyI L (P ++ R) ∧ COrd keyI d P ∧ COrd keyI s R) ∧ Hid (SegI wr g pre (P ++ R) post) ∧ Hid (Stay [g] w wr))
            (fun av _ _ => N - (intOf av).toNat)
          case atStart => exact ⟨0, d, 0, [], D, rfl, rfl, ⟨by omega, by omega, rfl, HI.out.1, COrd.nil _, HI.out.2⟩, HS, HR⟩
          case round =>
            clear HI HS HR
            obtain ⟨a, b, t, P, R, rfl, rfl, HI, HS, HR⟩ := hrel
            have hi := HI.out
            have hl := hi.2.2.2.1.length
            rw [List.length_append] at hl
            have hN := HN.out
            have hL := HL.out
            have hs := HD.out
            have hd := HDd.out
            by_cases hb : b ≤ N
            · have hbz : (b : Int) ≤ N := by omega
              obtain ⟨A, R1, hR, hA⟩ := cut_at R s (by omega)
              subst hR
              obtain ⟨B, R', hR, hB⟩ := cut_at R1 s (by rw [List.length_append] at hl; omega)
              subst hR
              have hc1 := hi.2.2.2.2.2.head hA
              have hc2 := hc1.2.head hB
              obtain ⟨m, hm⟩ : ∃ m, m = a + s := ⟨_, rfl⟩
              have w2 : IntKind.i64.wrap ((a : Int) + s) = (m : Int) := by rw [hm]; simp only [IntKind.wrap, IntKind.bits, IntKind.signed]; simp; omega
              have hcall := HSym.out A B (by omega) (by omega) hc1.1 hc2.1 wr P R' a m b HS.out (by simp only [List.length_append] at hl ⊢; omega) (by omega) (by omega) (by omega) (HCell.out wr HR.out)
              have HCall := Lib.hid hcall
              obtain ⟨b2, hb2⟩ : ∃ b2, b2 = b + d := ⟨_, rfl⟩
              have w3 : IntKind.i64.wrap ((b : Int) + d) = (b2 : Int) := by rw [hb2]; simp only [IntKind.wrap, IntKind.bits, IntKind.signed]; simp; omega
              have HB2 := Lib.hid (And.intro hb2 (And.intro hA (And.intro hB (And.intro hb (And.intro hi.2.1 hc2.2)))))
              clear hcall hi hl hN hL hb hA hB hb2 hc1 hc2 hs hd hm
              go_wp2_with fail
              refine HCall.out.mono ?_
              rintro e w2 ⟨rfl, ⟨C, hst, hs⟩, hr⟩
              have HR2 := Lib.hid (HR.out.trans hr)
              have HI2 := Lib.hid (show b = (t + 1) * d ∧ b2 = b + d ∧ (P ++ C).length = b ∧ FEq keyI L ((P ++ C) ++ R') ∧ COrd keyI d (P ++ C) ∧ COrd keyI s R' from by
                have hi := HI.out
                have h2 := HB2.out
                have hd := HDd.out
                have hc : C.length = s + s := by rw [hst.perm.length_eq, List.length_append]; omega
                refine ⟨by rw [Nat.add_mul]; omega, h2.1, by rw [List.length_append]; omega, ?_, hi.2.2.2.2.1.snoc (t := t) (by omega) (by omega) hst.1, h2.2.2.2.2.2⟩
                rw [List.append_assoc]
                refine FEq.part (A := A ++ B) ?_ hst
                rw [List.append_assoc]
                exact hi.2.2.2.1)
              have HS2 := Lib.hid (show SegI w2 g pre ((P ++ C) ++ R') post from by rw [List.append_assoc]; exact hs)
              clear hs hr hst HCall
              go_wp2_with fail
              go_roundw
              case rel => exact ⟨b, b2, t + 1, P ++ C, R', rfl, rfl, HI2, HS2, HR2⟩
              case measure => have := HB2.out; have := HD.out; have := HDd.out; simp [intOf]; omega
            · have hbz : ¬ (b : Int) ≤ N := by omega
              obtain ⟨m, hm⟩ : ∃ m, m = a + s := ⟨_, rfl⟩
              have w2 : IntKind.i64.wrap ((a : Int) + s) = (m : Int) := by rw [hm]; simp only [IntKind.wrap, IntKind.bits, IntKind.signed]; simp; omega
              have hd3 : d ≤ 2 * N + 20 := by omega
              have hd4 : 0 < d := by omega
              by_cases hmn : m < N
              · have hmz : (m : Int) < N := by omega
                obtain ⟨A, B, hR, hA⟩ := cut_at R s (by omega)
                subst hR
                have hc1 := hi.2.2.2.2.2.head hA
                have hc2 := hc1.2.short (by rw [List.length_append] at hl; omega)
                rw [List.length_append] at hl
                have hcall := HSym.out A B (by omega) (by omega) hc1.1 hc2 wr P [] a m N (by rw [List.append_nil]; exact HS.out) (by simp only [List.length_append, List.length_nil]; omega) (by omega) (by omega) (by omega) (HCell.out wr HR.out)
                have HCall := Lib.hid hcall
                have HRl := Lib.hid (show A.length + B.length ≤ d ∧ s < d from by omega)
                have HD3 := Lib.hid (And.intro hd4 hd3)
                clear hcall hi hl hN hL hb hmn hA hc1 hc2 hs hd hm hd3 hd4
                go_wp2_with fail
                refine HCall.out.mono ?_
                rintro e w2 ⟨rfl, ⟨C, hst, hs⟩, hr⟩
                have HR2 := Lib.hid (HR.out.trans hr)
                have HI2 := Lib.hid (show FEq keyI L (P ++ C) ∧ COrd keyI d (P ++ C) from by
                  have hi := HI.out
                  have h2 := HRl.out
                  have hc : C.length = A.length + B.length := by rw [hst.perm.length_eq, List.length_append]
                  refine ⟨?_, hi.2.2.2.2.1.snoc (t := t) (by omega) (by omega) hst.1⟩
                  have h3 : FEq keyI L (P ++ ((A ++ B) ++ [])) := by rw [List.append_nil]; exact hi.2.2.2.1
                  have := h3.part hst
                  rwa [List.append_nil] at this)
                have HS2 := Lib.hid (show SegI w2 g pre (P ++ C) post from by rw [List.append_nil] at hs; exact hs)
                clear hs hr hst HCall
                go_wp2_with fail
                go_roundw
                case rel => exact ⟨d, P ++ C, rfl, HD3.out.1, HD3.out.2, HI2, HS2, HR2⟩
                case measure => have := HRl.out; have := HD.out; simp [intOf]; omega
              · have hmz : ¬ (m : Int) < N := by omega
                have HI2 := Lib.hid (show FEq keyI L (P ++ R) ∧ COrd keyI d (P ++ R) ∧ s < d from
                  ⟨hi.2.2.2.1, hi.2.2.2.2.1.snoc (t := t) (by omega) (by omega) (hi.2.2.2.2.2.short (by omega)), by omega⟩)
                have HD3 := Lib.hid (And.intro hd4 hd3)
                clear hi hl hN hL hb hmn hs hd hm hd3 hd4
                go_wp2_with fail
                go_roundw
                case rel => exact ⟨d, P ++ R, rfl, HD3.out.1, HD3.out.2, ⟨HI2.out.1, HI2.out.2.1⟩, HS, HR⟩
                case measure => have := HI2.out; have := HD.out; simp [intOf]; omega
        · have hsz : ¬ (s : Int) < N := by omega
          have HDn := Lib.hid hsn
          clear hsn hs0 hs1
          go_wp2_with fail
          refine bodyPost_end (v := .tuple #[]) (by simp [results, Tryd.results139, go_sem]) rfl ⟨rfl, ⟨D, ⟨?_, HI.out.1⟩, HS.out⟩, HR.out⟩
          refine HI.out.2.short ?_
          have := HI.out.1.length
          have := HN.out
          have := HDn.out
          omega
end Go.Proofs.YtlphmcodajookaaDoor
/- norm: items in order: the walk. -/
namespace Go.Proofs.YtlphmcodajookaaDoor
open Go.RowKit Go.Sort
set_option maxRecDepth 20000 in
set_option maxHeartbeats 4000000 in
theorem sortI_any (w : World) (g o c pb : Nat) (pre post : List Value) (L : List It) (N : Nat) (h : SegI w g pre L post) (ho : o = pre.length) (hN : N = L.length) (hL : N ≤ 1152921504606846976) (hp : w.cell? ⟨pb, 0, none⟩ = some (.func (.func 116) #[] #[])) (hne : pb ≠ g) :
    Calls Tryd.prog 130 #[.slice (some ⟨g, o, none⟩) N c, cmpFnI pb] w fun e w' => e = .returned (.tuple #[]) ∧ SegI w' g pre (isortK keyI L) post ∧ Stay [g] w w' := by
  have H := Lib.hid (stableI_any w g o c pb pre post L N h ho hN hL hp hne)
  unfold cmpFnI at H ⊢
  clear h ho hN hL hp hne
  go_enter Tryd.func130, Tryd.ntmps130
  go_wp2_with fail
  refine H.out.mono ?_
  rintro e w1 ⟨rfl, ⟨C, hst, hs⟩, hr⟩
  have hs2 : SegI w1 g pre (isortK keyI L) post := by rw [isortK_of hst]; exact hs
  have HS := Lib.hid hs2
  have HR := Lib.hid hr
  clear hs hs2 hst hr H
  go_wp2_with fail
  go_end0
  exact ⟨rfl, HS.out, HR.out⟩
set_option maxRecDepth 20000 in
set_option maxHeartbeats 16000000 in
theorem orderedI_any (w : World) (g o c : Nat) (pre post : List Value) (L : List It) (N : Nat) (h : SegI w g pre L post) (ho : o = pre.length) (hN : N = L.length) (hc : N ≤ c) (hcm : c ≤ maxLen) (hL : N ≤ 1152921504606846976) :
    Calls Tryd.prog 115 #[.slice (some ⟨g, o, none⟩) N c, .func (.func 116) #[] #[]] w fun e w' => e = .returned (.slice (some ⟨g, o, none⟩) N c) ∧ SegI w' g pre (ordK keyI [] L) post ∧ Stay [g] w w' := by
  obtain ⟨pb, hpb⟩ : ∃ pb, pb = w.heap.size := ⟨_, rfl⟩
  obtain ⟨W, hW⟩ : ∃ W, W = w.alloc (.cells #[.func (.func 116) #[] #[]] 117) := ⟨_, rfl⟩
  have hne : pb ≠ g := by have := h.lt; omega
  have hp : W.cell? ⟨pb, 0, none⟩ = some (.func (.func 116) #[] #[]) := by rw [hW, hpb]; exact cells_new w [Value.func (.func 116) #[] #[]] 117 w.heap.size rfl 0 _ rfl
  have HRW := Lib.hid (show Stay [g] w W from by rw [hW]; exact Stay.alloc _ _)
  have HS0 := Lib.hid (h.stay (F := []) (by rw [hW]; exact Stay.alloc _ _) (by simp) : SegI W g pre L post)
  have HCell := Lib.hid (show ∀ u, Stay [g] W u → u.cell? ⟨pb, 0, none⟩ = some (.func (.func 116) #[] #[]) from fun u hu => (hu.cell_ (a := ⟨pb, 0, none⟩) (World.block_lt_of_cell? _ _ hp) (by simpa using hne)).trans hp)
  have HSort := Lib.hid (fun (u : World) (P M R : List It) (q n d : Nat) (k : SegI u g pre (P ++ (M ++ R)) post) (k1 : q = o + P.length * 4) (k2 : n = M.length) (k3 : n ≤ N) (ku : Stay [g] W u) => sortI_any u g q d pb (pre ++ itC P) (itC R ++ post) M n k.mid (by rw [k1, ho]; simp [itC_length]) k2 (by omega) (HCell.out u ku) hne)
  have HR := Lib.hid (Stay.refl [g] W)
  have HN := Lib.hid (And.intro hN (And.intro hL (And.intro hc hcm)))
  have HO := Lib.hid ho
  have HM := Lib.hid (fun r b m bad w => number_grow r b m bad w)
  have HWe := Lib.hid (And.intro hW hpb)
  have hnn : (0 : Int) ≤ N := by omega
  clear h ho hN hL hp hne hc hcm
  have mixed : Tryd.prog.follows Departure.mixedOrders = true := by kernel_rfl
  go_enter Tryd.func115, Tryd.ntmps115
  go_upto_region 1 with fail
  rw [← hW, ← hpb]
  clear hW hpb
  go_wp2_with fail
  go_loopw [5] (fun av wr => ∃ (a : Nat) (P R : List It), av = .int .i64 a ∧ Hid ((P.length = a ∨ (R = [] ∧ a = N + 1)) ∧ (P ++ R).length = N ∧ ordK keyI [] L = P ++ ordK keyI [] R) ∧ Hid (SegI wr g pre (P ++ R) post) ∧ Hid (Stay [g] W wr)) (fun av _ => N + 1 - (intOf av).toNat)
  case atStart => exact ⟨0, [], L, rfl, ⟨.inl rfl, HN.out.1.symm, rfl⟩, HS0, HR⟩
  case round =>
    clear HS0 HR
    obtain ⟨a, P, R, rfl, HI, HS, HR⟩ := hrel
    by_cases haN : a < N
    · have hz : (a : Int) < N := by omega
      have HaN := Lib.hid haN
      have HI2 := Lib.hid (show P.length = a ∧ P.length + R.length = N ∧ ordK keyI [] L = P ++ ordK keyI [] R from by
        have := HI.out
        rw [List.length_append] at this
        exact ⟨by omega, this.2.1, this.2.2⟩)
      clear haN HI
      go_wp2_with fail
      go_loopw [6] (fun bv wr => ∃ (b : Nat) (M R' : List It), bv = .int .i64 b ∧ Hid (b = a + M.length ∧ b + R'.length = N ∧ (∀ x ∈ M, keyI x ≠ 0) ∧ ordK keyI [] R = ordK keyI M R') ∧ Hid (SegI wr g pre (P ++ (M ++ R')) post) ∧ Hid (Stay [g] W wr)) (fun bv _ => N - (intOf bv).toNat)
      case atStart => exact ⟨a, [], R, rfl, ⟨rfl, by have := HI2.out; omega, by simp, rfl⟩, HS, HR⟩
      case round =>
        clear HS HR
        obtain ⟨b, M, R', rfl, HJ, HS, HR⟩ := hrel
        have HEnd := Lib.hid (show ∀ (u : World), SegI u g pre (P ++ (M ++ R')) post → Stay [g] W u → Calls Tryd.prog 130 #[.slice (some ⟨g, o + a * 4, none⟩) (b - a : Nat) (c - a : Nat), cmpFnI pb] u fun e w' => e = .returned (.tuple #[]) ∧ SegI w' g pre (P ++ (isortK keyI M ++ R')) post ∧ Stay [g] u w' from fun u k ku =>
          (HSort.out u P M R' (o + a * 4) (b - a) (c - a) k (by rw [HI2.out.1]) (by have := HJ.out; omega) (by have := HJ.out; omega) ku).mono fun _ _ ⟨h1, h2, h3⟩ => ⟨h1, h2.out, h3⟩)
        unfold cmpFnI at HEnd
        have hab : (a : Int) ≤ b := by have := HJ.out; omega
        have hbN : (b : Int) ≤ N := by have := HJ.out; omega
        have hbc : (b : Int) ≤ c := by have := HJ.out; have := HN.out; omega
        have hac : ¬ (c - a = 0) := by have := HaN.out; have := HN.out; omega
        have hac2 : a < c := by omega
        have hac3 : 0 < c - a := by omega
        have hac4 : ¬ c = a := by omega
        have ha0 : (0 : Int) ≤ a := by omega
        have hb0 : (0 : Int) ≤ b := by omega
        obtain ⟨b1, hb1⟩ : ∃ b1, b1 = b + 1 := ⟨_, rfl⟩
        have v1 : IntKind.i64.wrap ((b : Int) + 1) = (b1 : Int) := by have := HN.out; rw [hb1]; simp only [IntKind.wrap, IntKind.bits, IntKind.signed]; simp; omega
        have HB1 := Lib.hid hb1
        clear hb1
        cases R' with
        | nil =>
          have hbd : decide ((b : Int) < N) = false := decide_eq_false (by have := HJ.out; simp at this; omega)
          have hbd2 : decide (b < N) = false := decide_eq_false (by have := HJ.out; simp at this; omega)
          go_upto_region 5 with fail
          go_quiet (fail)
          obtain ⟨W2, hW2⟩ : ∃ W2, W2 = wr.drewN nq := ⟨_, rfl⟩
          rw [← hW2]
          have HS2 := Lib.hid (show SegI W2 g pre (P ++ (M ++ [])) post from by rw [hW2]; exact HS.out.stay (F := []) (Stay.drewN _ _) (by simp))
          have HR2 := Lib.hid (show Stay [g] W W2 from by rw [hW2]; exact HR.out.drewN')
          have HCall := Lib.hid (HEnd.out W2 HS2.out HR2.out)
          clear hW2 hbd hbd2
          go_wp2_with fail
          refine HCall.out.mono ?_
          rintro e w3 ⟨rfl, hs3, hr3⟩
          have HS3 := Lib.hid (show SegI w3 g pre ((P ++ isortK keyI M) ++ ([] : List It)) post from by
            have := hs3
            simpa using this)
          have HR3 := Lib.hid (HR2.out.trans hr3)
          have HF := Lib.hid (show ((((P ++ isortK keyI M)).length = b1 ∨ (([] : List It) = [] ∧ b1 = N + 1)) ∧ ((P ++ isortK keyI M) ++ ([] : List It)).length = N ∧ ordK keyI [] L = (P ++ isortK keyI M) ++ ordK keyI [] ([] : List It)) ∧ a < b1 from by
            have hj := HJ.out
            have hi := HI2.out
            have h1 := HB1.out
            have hl := (isortK_perm keyI M).length_eq
            refine ⟨⟨.inr ⟨rfl, by simp at hj; omega⟩, by simp [hl] at hj ⊢; omega, ?_⟩, by omega⟩
            rw [hi.2.2, hj.2.2.2]
            simp [ordK_nil, isortK])
          clear hs3 hr3 HCall HS2 HR2
          go_wp2_with fail
          go_roundw
          case rel => exact ⟨b1, (P ++ isortK keyI M), ([] : List It), rfl, ⟨HF.out.1.1.imp id (fun h => ⟨rfl, h.2⟩), HF.out.1.2⟩, HS3, HR3⟩
          case measure => have := HF.out; have := HaN.out; simp [intOf]; omega
        | cons y R' =>
          have hlt : b < N := by have := HJ.out; simp at this; omega
          have hltz : (b : Int) < N := by omega
          have hbd : decide ((b : Int) < N) = true := decide_eq_true hltz
          have hbd2 : decide (b < N) = true := decide_eq_true hlt
          have hbn2 : decide (N ≤ b) = false := decide_eq_false (by omega)
          have h1 : (P ++ (M ++ y :: R'))[b]? = some y := by
            have := HJ.out; have := HI2.out
            rw [List.getElem?_append_right (by omega), List.getElem?_append_right (by omega), show b - P.length - M.length = 0 by omega]; rfl
          obtain ⟨c0, c1, c2, c3⟩ := HS.out.cell h1
          rw [← HO.out] at c0 c1 c2 c3
          obtain ⟨k, hk⟩ : ∃ k, k = keyI y := ⟨_, rfl⟩
          rw [← hk] at c3
          have p0 : ∀ n os, (grow (wr.drewN n) os).cell? ⟨g, o + b * 4, none⟩ = some (.int .i32 y.r) := fun n os => cell_grown HS.out.lt c0 n os
          have p1 : ∀ n os, (grow (wr.drewN n) os).cell? ⟨g, o + b * 4 + 1, none⟩ = some (.int .u8 y.b.toNat) := fun n os => cell_grown HS.out.lt c1 n os
          have p2 : ∀ n os, (grow (wr.drewN n) os).cell? ⟨g, o + b * 4 + 2, none⟩ = some (.bool y.bad) := fun n os => cell_grown HS.out.lt c2 n os
          have p3 : ∀ n os, (grow (wr.drewN n) os).cell? ⟨g, o + b * 4 + 3, none⟩ = some (.int .u8 k) := fun n os => cell_grown HS.out.lt c3 n os
          have pf : ∀ n os, (grow (wr.drewN n) os).cell? ⟨pb, 0, none⟩ = some (.func (.func 116) #[] #[]) := fun n os => HCell.out _ (HR.out.trans (Stay.grow_ wr n os))
          have HMy := Lib.hid (show ∀ u, Calls Tryd.prog 116 #[.agg #[.int .i32 y.r, .int .u8 y.b.toNat, .bool y.bad, .int .u8 k]] u fun e w' => e = .returned (.int .u8 k) ∧ ∃ q os, w' = grow (u.drewN q) os from fun u => HM.out _ _ _ _ u)
          have Hk := Lib.hid hk
          have HLt := Lib.hid hlt
          clear c0 c1 c2 c3 h1 hk hlt
          by_cases hk0 : k = 0
          · have hy0 : keyI y = 0 := Hk.out ▸ hk0
            have Hy0 := Lib.hid hy0
            subst hk0
            clear hy0
            go_upto_region 5 with fail
            go_quiet_grown (first | (go_at_call 116; exact Calls.grown_of (HMy.out _)))
            obtain ⟨W2, hW2⟩ : ∃ W2, W2 = grow (wr.drewN nq) osq := ⟨_, rfl⟩
            rw [← hW2]
            have HS2 := Lib.hid (show SegI W2 g pre (P ++ (M ++ y :: R')) post from by rw [hW2]; exact HS.out.stay (F := []) (Stay.grow_ _ _ _) (by simp))
            have HR2 := Lib.hid (show Stay [g] W W2 from by rw [hW2]; exact HR.out.trans (Stay.grow_ _ _ _))
            have HCall := Lib.hid (HEnd.out W2 HS2.out HR2.out)
            clear hW2 hbd hbd2 p0 p1 p2 p3 pf hltz hbn2
            go_wp2_with fail
            refine HCall.out.mono ?_
            rintro e w3 ⟨rfl, hs3, hr3⟩
            have HS3 := Lib.hid (show SegI w3 g pre ((P ++ isortK keyI M ++ [y]) ++ R') post from by
              have := hs3
              simpa using this)
            have HR3 := Lib.hid (HR2.out.trans hr3)
            have HF := Lib.hid (show ((((P ++ isortK keyI M ++ [y])).length = b1 ∨ (R' = [] ∧ b1 = N + 1)) ∧ ((P ++ isortK keyI M ++ [y]) ++ R').length = N ∧ ordK keyI [] L = (P ++ isortK keyI M ++ [y]) ++ ordK keyI [] R') ∧ a < b1 from by
              have hj := HJ.out
              have hi := HI2.out
              have h1 := HB1.out
              have hy0 := Hy0.out; have hl := (isortK_perm keyI M).length_eq
              refine ⟨⟨.inl (by simp [hl]; omega), by simp [hl] at hj ⊢; omega, ?_⟩, by omega⟩
              rw [hi.2.2, hj.2.2.2]
              rw [ordK_zero M R' hy0]; simp)
            clear hs3 hr3 HCall HS2 HR2
            go_wp2_with fail
            go_roundw
            case rel => exact ⟨b1, (P ++ isortK keyI M ++ [y]), R', rfl, HF.out.1, HS3, HR3⟩
            case measure => have := HF.out; have := HaN.out; simp [intOf]; omega
          · have hkb : (k == 0) = false := by simpa using hk0
            have hkd : decide (k = 0) = false := decide_eq_false hk0
            have Hk0 := Lib.hid hk0
            go_upto_region 5 with fail
            go_quiet_grown (first | (go_at_call 116; exact Calls.grown_of (HMy.out _)))
            obtain ⟨W2, hW2⟩ : ∃ W2, W2 = grow (wr.drewN nq) osq := ⟨_, rfl⟩
            rw [← hW2]
            have HS2 := Lib.hid (show SegI W2 g pre (P ++ ((M ++ [y]) ++ R')) post from by rw [hW2, List.append_assoc]; exact HS.out.stay (F := []) (Stay.grow_ _ _ _) (by simp))
            have HR2 := Lib.hid (show Stay [g] W W2 from by rw [hW2]; exact HR.out.trans (Stay.grow_ _ _ _))
            have HJ2 := Lib.hid (show b1 = a + (M ++ [y]).length ∧ b1 + R'.length = N ∧ (∀ x ∈ M ++ [y], keyI x ≠ 0) ∧ ordK keyI [] R = ordK keyI (M ++ [y]) R' from by
              have hj := HJ.out
              have h1 := HB1.out
              have hy : keyI y ≠ 0 := Hk.out ▸ Hk0.out
              refine ⟨by simp; omega, by simp at hj; omega, ?_, by rw [hj.2.2.2, ordK_mark M R' hy]⟩
              intro x hx
              rcases List.mem_append.1 hx with e | e
              · exact hj.2.2.1 x e
              · rw [List.mem_singleton.1 e]; exact hy)
            clear hW2 hbd hbd2 p0 p1 p2 p3 pf hbn2
            go_wp2_with fail
            go_roundw
            case rel => exact ⟨b1, M ++ [y], R', rfl, HJ2, HS2, HR2⟩
            case measure => have := HB1.out; have := HLt.out; simp [intOf]; omega
    · have hz : ¬ (a : Int) < N := by omega
      have HD := Lib.hid (show R = [] ∧ ordK keyI [] L = P from by
        have := HI.out
        rw [List.length_append] at this
        have hR : R = [] := by
          apply List.eq_nil_of_length_eq_zero
          rcases this.1 with h | h
          · omega
          · rw [h.1]; rfl
        refine ⟨hR, ?_⟩
        rw [this.2.2, hR]
        simp [ordK_nil, isortK])
      have HSd := Lib.hid (show SegI wr g pre (ordK keyI [] L) post from by
        have := HS.out
        rw [HD.out.1, List.append_nil] at this
        rw [HD.out.2]; exact this)
      have HRd := Lib.hid (HRW.out.trans HR.out)
      clear haN HS HR HI
      go_wp2_with fail
      go_ret
      exact ⟨rfl, HSd.out, HRd.out⟩
end Go.Proofs.YtlphmcodajookaaDoor
