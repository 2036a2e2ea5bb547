/- NAordR: several texts, one behind another: NstabR, NordR, Norder. -/
import Derived.Test.YtlphmcodajookaaDoorNsymR3
import Derived.Test.YtlphmcodajookaaDoorNinsR
import Derived.Test.YtlphmcodajookaaDoorNAplain
import Derived.Test.YtlphmcodajookaaDoorNAlow
import Derived.Test.YtlphmcodajookaaDoorNAbase
/- slices' stable sort at runes: stable, SortStableFunc: the walk. -/
namespace Go.Proofs.YtlphmcodajookaaDoor
open Go.RowKit
theorem symR_any (g o c pb N : Nat) (pre post : List Value) (ho : o = pre.length) (hL : N ≤ 2305843009213693952) (hne : pb ≠ g) : ∀ (n : Nat) (A B : List Int), A.length + B.length ≤ n → 0 < A.length → 0 < B.length → Ord markN A → Ord markN B → SymR g o c pb N pre post A B
  | 0, A, B, hn, h1, _, _, _ => by omega
  | n + 1, A, B, hn, h1, h2, hA, hB => by
    by_cases e1 : A.length = 1
    · obtain ⟨x, rfl⟩ : ∃ x, A = [x] := by
        match A, e1 with
        | [x], _ => exact ⟨x, rfl⟩
      intro w P Q a m b h hN ha hm hb hp
      exact symR_left w g o c pb pre post P B Q x N a m b h ho hN ha hm hb hL hp hne hB
    · by_cases e2 : B.length = 1
      · obtain ⟨y, rfl⟩ : ∃ y, B = [y] := by
          match B, e2 with
          | [y], _ => exact ⟨y, rfl⟩
        intro w P Q a m b h hN ha hm hb hp
        exact symR_right w g o c pb pre post P A Q y N a m b h ho hN ha hm hb e1 hL hp hne hA
      · exact symR_both g o c pb N pre post A B ho hL hne hA hB (by omega) (by omega) (fun A' B' hl k1 k2 k3 k4 => symR_any g o c pb N pre post ho hL hne n A' B' (by omega) k1 k2 k3 k4)
set_option maxRecDepth 20000 in
set_option maxHeartbeats 16000000 in
theorem stableR_any (w : World) (g o c pb : Nat) (pre post : List Value) (L : List Int) (N : Nat) (h : SegR w g pre L post) (ho : o = pre.length) (hN : N = L.length) (hL : N ≤ 1152921504606846976) (hp : w.cell? ⟨pb, 0, none⟩ = some (.func (.func 39) #[] #[])) (hne : pb ≠ g) :
    Calls Tryd.prog 128 #[.slice (some ⟨g, o, none⟩) N c, .int .i64 N, cmpFn pb] w fun e w' => e = .returned (.tuple #[]) ∧ (∃ C, Stab markN L C ∧ SegR w' g pre C post) ∧ Stay [g] w w' := by
  have HCell := Lib.hid (show ∀ u, Stay [g] w u → u.cell? ⟨pb, 0, none⟩ = some (.func (.func 39) #[] #[]) from fun u hu => (hu.cell_ (a := ⟨pb, 0, none⟩) (World.block_lt_of_cell? _ _ hp) (by simpa using hne)).trans hp)
  have HIns := Lib.hid (fun (u : World) (P A Q : List Int) (a b : Nat) (k : SegR u g pre (P ++ (A ++ Q)) post) (k1 : N = (P ++ (A ++ Q)).length) (k2 : a = P.length) (k3 : b = P.length + A.length) (ku : Stay [g] w u) => insR_any u g o c pb pre post P A Q N a b k ho k1 k2 k3 (by omega) (HCell.out u ku) hne)
  have HSym := Lib.hid (show ∀ (A B : List Int), 0 < A.length → 0 < B.length → Ord markN A → Ord markN B → ∀ (w : World) (P Q : List Int) (a m b : Nat), SegR w g pre (P ++ (A ++ (B ++ Q))) post → N = (P ++ (A ++ (B ++ Q))).length → a = P.length → m = P.length + A.length → b = P.length + A.length + B.length →
    w.cell? ⟨pb, 0, none⟩ = some (.func (.func 39) #[] #[]) →
    Calls Tryd.prog 138 #[.slice (some ⟨g, o, none⟩) N c, .int .i64 a, .int .i64 m, .int .i64 b, cmpFn pb] w fun e w' => e = .returned (.tuple #[]) ∧ (∃ C, Stab markN (A ++ B) C ∧ SegR w' g pre (P ++ (C ++ Q)) post) ∧ Stay [g] w w' from
    fun A B k1 k2 k3 k4 => symR_any g o c pb N pre post ho (by omega) hne (A.length + B.length) A B (Nat.le_refl _) k1 k2 k3 k4)
  have HS := Lib.hid h
  have HR := Lib.hid (Stay.refl [g] w)
  have HN := Lib.hid hN
  have HL := Lib.hid hL
  generalize hfv : cmpFn pb = fv at *
  clear h ho hN hp hne hfv
  go_enter Tryd.func128, Tryd.ntmps128
  go_wp2_with fail
  go_loopw [7, 8] (fun av bv wr => ∃ (a b t : Nat) (P R : List Int), av = .int .i64 a ∧ bv = .int .i64 b ∧ Hid (a = t * 20 ∧ b = a + 20 ∧ P.length = a ∧ FEq markN L (P ++ R) ∧ COrd markN 20 P) ∧ Hid (SegR wr g pre (P ++ R) post) ∧ Hid (Stay [g] w wr))
    (fun av _ _ => N - (intOf av).toNat)
  case atStart => exact ⟨0, 20, 0, [], L, rfl, rfl, ⟨rfl, rfl, rfl, FEq.refl _, COrd.nil _⟩, HS, HR⟩
  case round =>
    clear HS HR
    obtain ⟨a, b, t, P, R, rfl, rfl, HI, HS, HR⟩ := hrel
    have hi := HI.out
    have hl := hi.2.2.2.1.length
    rw [List.length_append] at hl
    have hN := HN.out
    have hL := HL.out
    by_cases hb : b ≤ N
    · have hbz : (b : Int) ≤ N := by omega
      obtain ⟨A, R', hR, hA⟩ := cut_at R 20 (by omega)
      subst hR
      have hcall := HIns.out wr P A R' a b HS.out (by rw [List.length_append] at hl; simp only [List.length_append]; omega) (by omega) (by omega) HR.out
      have HCall := Lib.hid hcall
      have w1 : IntKind.i64.wrap ((b : Int) + 20) = ((b + 20 : Nat) : Int) := by simp only [IntKind.wrap, IntKind.bits, IntKind.signed]; simp; omega
      obtain ⟨b2, hb2⟩ : ∃ b2, b2 = b + 20 := ⟨_, rfl⟩
      rw [← hb2] at w1
      have HB2 := Lib.hid (And.intro hb2 (And.intro hA (And.intro hb hi.2.1)))
      clear hcall hi hl hN hL hb hA hb2
      go_wp2_with fail
      refine HCall.out.mono ?_
      rintro e w2 ⟨rfl, ⟨C, hst, hs⟩, hr⟩
      have HR2 := Lib.hid (HR.out.trans hr)
      have HI2 := Lib.hid (show b = (t + 1) * 20 ∧ b2 = b + 20 ∧ (P ++ C).length = b ∧ FEq markN L ((P ++ C) ++ R') ∧ COrd markN 20 (P ++ C) from by
        have hi := HI.out
        have h2 := HB2.out
        have hc : C.length = 20 := by rw [hst.perm.length_eq]; exact h2.2.1
        refine ⟨by omega, h2.1, by rw [List.length_append]; omega, ?_, hi.2.2.2.2.snoc (t := t) (by omega) (by omega) hst.1⟩
        rw [List.append_assoc]
        exact hi.2.2.2.1.part hst)
      have HS2 := Lib.hid (show SegR w2 g pre ((P ++ C) ++ R') post from by rw [List.append_assoc]; exact hs)
      clear hs hr hst HCall
      go_wp2_with fail
      go_roundw
      case rel => exact ⟨b, b2, t + 1, P ++ C, R', rfl, rfl, HI2, HS2, HR2⟩
      case measure => have := HB2.out; simp [intOf]; omega
    · have hbz : ¬ (b : Int) ≤ N := by omega
      have hcall := HIns.out wr P R [] a N (by rw [List.append_nil]; exact HS.out) (by simp only [List.length_append, List.length_nil]; omega) (by omega) (by omega) HR.out
      have HCall := Lib.hid hcall
      have HRl := Lib.hid (show R.length < 20 from by omega)
      clear hcall hi hl hN hL hb
      go_wp2_with fail
      refine HCall.out.mono ?_
      rintro e w2 ⟨rfl, ⟨C, hst, hs⟩, hr⟩
      have HR2 := Lib.hid (HR.out.trans hr)
      have HI2 := Lib.hid (show FEq markN L (P ++ C) ∧ COrd markN 20 (P ++ C) from by
        have hi := HI.out
        have h2 := HRl.out
        have hc : C.length = R.length := hst.perm.length_eq
        refine ⟨?_, hi.2.2.2.2.snoc (t := t) (by omega) (by omega) hst.1⟩
        have h3 : FEq markN L (P ++ (R ++ [])) := by rw [List.append_nil]; exact hi.2.2.2.1
        have := h3.part hst
        rwa [List.append_nil] at this)
      have HS2 := Lib.hid (show SegR w2 g pre (P ++ C) post from by rw [List.append_nil] at hs; exact hs)
      generalize P ++ C = D at HI2 HS2
      clear hs hr hst HCall HS HR HI HRl
      go_wp2_with fail
      go_loopw [6] (fun sv wr => ∃ (s : Nat) (D : List Int), sv = .int .i64 s ∧ 0 < s ∧ s ≤ 2 * N + 20 ∧ Hid (FEq markN L D ∧ COrd markN s D) ∧ Hid (SegR wr g pre D post) ∧ Hid (Stay [g] w wr)) (fun sv _ => N - (intOf sv).toNat)
      case atStart => exact ⟨20, D, rfl, by omega, by omega, HI2, HS2, HR2⟩
      case round =>
        clear HI2 HS2 HR2
        obtain ⟨s, D, rfl, hs0, hs1, HI, HS, HR⟩ := hrel
        by_cases hsn : s < N
        · have hsz : (s : Int) < N := by omega
          have HD := Lib.hid (And.intro hs0 hsn)
          obtain ⟨d, hd⟩ : ∃ d, d = 2 * s := ⟨_, rfl⟩
          have w1 : IntKind.i64.wrap (2 * (s : Int)) = (d : Int) := by have := HL.out; rw [hd]; simp only [IntKind.wrap, IntKind.bits, IntKind.signed]; simp; omega
          have hdz : IntKind.i64.wrap ((s : Int) * 2) = (d : Int) := by rw [Int.mul_comm]; exact w1
          have HDd := Lib.hid hd
          clear hd hs0 hs1 hsn
          go_wp2_with fail
          go_loopw [7, 8] (fun av bv wr => ∃ (a b t : Nat) (P R : List Int), av = .int .i64 a ∧ bv = .int .i64 b ∧ Hid (a = t * d ∧ b = a + d ∧ P.length = a ∧ FEq markN L (P ++ R) ∧ COrd markN d P ∧ COrd markN s R) ∧ Hid (SegR wr g pre (P ++ R) post) ∧ Hid (Stay [g] w wr))
            (fun av _ _ => N - (intOf av).toNat)
          case atStart => exact ⟨0, d, 0, [], D, rfl, rfl, ⟨by omega, by omega, rfl, HI.out.1, COrd.nil _, HI.out.2⟩, HS, HR⟩
          case round =>
            clear HI HS HR
            obtain ⟨a, b, t, P, R, rfl, rfl, HI, HS, HR⟩ := hrel
            have hi := HI.out
            have hl := hi.2.2.2.1.length
            rw [List.length_append] at hl
            have hN := HN.out
            have hL := HL.out
            have hs := HD.out
            have hd := HDd.out
            by_cases hb : b ≤ N
            · have hbz : (b : Int) ≤ N := by omega
              obtain ⟨A, R1, hR, hA⟩ := cut_at R s (by omega)
              subst hR
              obtain ⟨B, R', hR, hB⟩ := cut_at R1 s (by rw [List.length_append] at hl; omega)
              subst hR
              have hc1 := hi.2.2.2.2.2.head hA
              have hc2 := hc1.2.head hB
              obtain ⟨m, hm⟩ : ∃ m, m = a + s := ⟨_, rfl⟩
              have w2 : IntKind.i64.wrap ((a : Int) + s) = (m : Int) := by rw [hm]; simp only [IntKind.wrap, IntKind.bits, IntKind.signed]; simp; omega
              have hcall := HSym.out A B (by omega) (by omega) hc1.1 hc2.1 wr P R' a m b HS.out (by simp only [List.length_append] at hl ⊢; omega) (by omega) (by omega) (by omega) (HCell.out wr HR.out)
              have HCall := Lib.hid hcall
              obtain ⟨b2, hb2⟩ : ∃ b2, b2 = b + d := ⟨_, rfl⟩
              have w3 : IntKind.i64.wrap ((b : Int) + d) = (b2 : Int) := by rw [hb2]; simp only [IntKind.wrap, IntKind.bits, IntKind.signed]; simp; omega
              have HB2 := Lib.hid (And.intro hb2 (And.intro hA (And.intro hB (And.intro hb (And.intro hi.2.1 hc2.2)))))
              clear hcall hi hl hN hL hb hA hB hb2 hc1 hc2 hs hd hm
              go_wp2_with fail
              refine HCall.out.mono ?_
              rintro e w2 ⟨rfl, ⟨C, hst, hs⟩, hr⟩
              have HR2 := Lib.hid (HR.out.trans hr)
              have HI2 := Lib.hid (show b = (t + 1) * d ∧ b2 = b + d ∧ (P ++ C).length = b ∧ FEq markN L ((P ++ C) ++ R') ∧ COrd markN d (P ++ C) ∧ COrd markN s R' from by
                have hi := HI.out
                have h2 := HB2.out
                have hd := HDd.out
                have hc : C.length = s + s := by rw [hst.perm.length_eq, List.length_append]; omega
                refine ⟨by rw [Nat.add_mul]; omega, h2.1, by rw [List.length_append]; omega, ?_, hi.2.2.2.2.1.snoc (t := t) (by omega) (by omega) hst.1, h2.2.2.2.2.2⟩
                rw [List.append_assoc]
                refine FEq.part (A := A ++ B) ?_ hst
                rw [List.append_assoc]
                exact hi.2.2.2.1)
              have HS2 := Lib.hid (show SegR w2 g pre ((P ++ C) ++ R') post from by rw [List.append_assoc]; exact hs)
              clear hs hr hst HCall
              go_wp2_with fail
              go_roundw
              case rel => exact ⟨b, b2, t + 1, P ++ C, R', rfl, rfl, HI2, HS2, HR2⟩
              case measure => have := HB2.out; have := HD.out; have := HDd.out; simp [intOf]; omega
            · have hbz : ¬ (b : Int) ≤ N := by omega
              obtain ⟨m, hm⟩ : ∃ m, m = a + s := ⟨_, rfl⟩
              have w2 : IntKind.i64.wrap ((a : Int) + s) = (m : Int) := by rw [hm]; simp only [IntKind.wrap, IntKind.bits, IntKind.signed]; simp; omega
              have hd3 : d ≤ 2 * N + 20 := by omega
              have hd4 : 0 < d := by omega
              by_cases hmn : m < N
              · have hmz : (m : Int) < N := by omega
                obtain ⟨A, B, hR, hA⟩ := cut_at R s (by omega)
                subst hR
                have hc1 := hi.2.2.2.2.2.head hA
                have hc2 := hc1.2.short (by rw [List.length_append] at hl; omega)
                rw [List.length_append] at hl
                have hcall := HSym.out A B (by omega) (by omega) hc1.1 hc2 wr P [] a m N (by rw [List.append_nil]; exact HS.out) (by simp only [List.length_append, List.length_nil]; omega) (by omega) (by omega) (by omega) (HCell.out wr HR.out)
                have HCall := Lib.hid hcall
                have HRl := Lib.hid (show A.length + B.length ≤ d ∧ s < d from by omega)
                have HD3 := Lib.hid (And.intro hd4 hd3)
                clear hcall hi hl hN hL hb hmn hA hc1 hc2 hs hd hm hd3 hd4
                go_wp2_with fail
                refine HCall.out.mono ?_
                rintro e w2 ⟨rfl, ⟨C, hst, hs⟩, hr⟩
                have HR2 := Lib.hid (HR.out.trans hr)
                have HI2 := Lib.hid (show FEq markN L (P ++ C) ∧ COrd markN d (P ++ C) from by
                  have hi := HI.out
                  have h2 := HRl.out
                  have hc : C.length = A.length + B.length := by rw [hst.perm.length_eq, List.length_append]
                  refine ⟨?_, hi.2.2.2.2.1.snoc (t := t) (by omega) (by omega) hst.1⟩
                  have h3 : FEq markN L (P ++ ((A ++ B) ++ [])) := by rw [List.append_nil]; exact hi.2.2.2.1
                  have := h3.part hst
                  rwa [List.append_nil] at this)
                have HS2 := Lib.hid (show SegR w2 g pre (P ++ C) post from by rw [List.append_nil] at hs; exact hs)
                clear hs hr hst HCall
                go_wp2_with fail
                go_roundw
                case rel => exact ⟨d, P ++ C, rfl, HD3.out.1, HD3.out.2, HI2, HS2, HR2⟩
                case measure => have := HRl.out; have := HD.out; simp [intOf]; omega
              · have hmz : ¬ (m : Int) < N := by omega
                have HI2 := Lib.hid (show FEq markN L (P ++ R) ∧ COrd markN d (P ++ R) ∧ s < d from
                  ⟨hi.2.2.2.1, hi.2.2.2.2.1.snoc (t := t) (by omega) (by omega) (hi.2.2.2.2.2.short (by omega)), by omega⟩)
                have HD3 := Lib.hid (And.intro hd4 hd3)
                clear hi hl hN hL hb hmn hs hd hm hd3 hd4
                go_wp2_with fail
                go_roundw
                case rel => exact ⟨d, P ++ R, rfl, HD3.out.1, HD3.out.2, ⟨HI2.out.1, HI2.out.2.1⟩, HS, HR⟩
                case measure => have := HI2.out; have := HD.out; simp [intOf]; omega
        · have hsz : ¬ (s : Int) < N := by omega
          have HDn := Lib.hid hsn
          clear hsn hs0 hs1
          go_wp2_with fail
          refine bodyPost_end (v := .tuple #[]) (by simp [results, Tryd.results128, go_sem]) rfl ⟨rfl, ⟨D, ⟨?_, HI.out.1⟩, HS.out⟩, HR.out⟩
          refine HI.out.2.short ?_
          have := HI.out.1.length
          have := HN.out
          have := HDn.out
          omega
end Go.Proofs.YtlphmcodajookaaDoor
/- norm: Order: the walk. -/
namespace Go.Proofs.YtlphmcodajookaaDoor
open Go.RowKit Go.Sort
theorem SegR.mid {w : World} {g : Nat} {pre post : List Value} {P M R : List Int} (h : SegR w g pre (P ++ (M ++ R)) post) : SegR w g (pre ++ ints .i32 P) M (ints .i32 R ++ post) := by
  have e : (pre ++ ints .i32 P) ++ (ints .i32 M ++ (ints .i32 R ++ post)) = pre ++ (ints .i32 (P ++ (M ++ R)) ++ post) := by simp [ints]
  show Blk _ _ _ _
  rw [e]; exact h
theorem SegR.out {w : World} {g : Nat} {pre post : List Value} {P M R : List Int} (h : SegR w g (pre ++ ints .i32 P) M (ints .i32 R ++ post)) : SegR w g pre (P ++ (M ++ R)) post := by
  have e : (pre ++ ints .i32 P) ++ (ints .i32 M ++ (ints .i32 R ++ post)) = pre ++ (ints .i32 (P ++ (M ++ R)) ++ post) := by simp [ints]
  show Blk _ _ _ _
  rw [← e]; exact h
set_option maxRecDepth 20000 in
set_option maxHeartbeats 4000000 in
theorem sortR_any (w : World) (g o c pb : Nat) (pre post : List Value) (L : List Int) (N : Nat) (h : SegR w g pre L post) (ho : o = pre.length) (hN : N = L.length) (hL : N ≤ 1152921504606846976) (hp : w.cell? ⟨pb, 0, none⟩ = some (.func (.func 39) #[] #[])) (hne : pb ≠ g) :
    Calls Tryd.prog 109 #[.slice (some ⟨g, o, none⟩) N c, cmpFn pb] w fun e w' => e = .returned (.tuple #[]) ∧ SegR w' g pre (isortK markN L) post ∧ Stay [g] w w' := by
  have H := Lib.hid (stableR_any w g o c pb pre post L N h ho hN hL hp hne)
  unfold cmpFn at H ⊢
  clear h ho hN hL hp hne
  go_enter Tryd.func109, Tryd.ntmps109
  go_wp2_with fail
  refine H.out.mono ?_
  rintro e w1 ⟨rfl, ⟨C, hst, hs⟩, hr⟩
  have hs2 : SegR w1 g pre (isortK markN L) post := by rw [isortK_of hst]; exact hs
  have HS := Lib.hid hs2
  have HR := Lib.hid hr
  clear hs hs2 hst hr H
  go_wp2_with fail
  go_end0
  exact ⟨rfl, HS.out, HR.out⟩
set_option maxRecDepth 20000 in
set_option maxHeartbeats 16000000 in
theorem orderedR_any (w : World) (g o c : Nat) (pre post : List Value) (L : List Int) (N : Nat) (h : SegR w g pre L post) (ho : o = pre.length) (hN : N = L.length) (hc : N ≤ c) (hcm : c ≤ maxLen) (hL : N ≤ 1152921504606846976) :
    Calls Tryd.prog 71 #[.slice (some ⟨g, o, none⟩) N c, .func (.func 39) #[] #[]] w fun e w' => e = .returned (.slice (some ⟨g, o, none⟩) N c) ∧ SegR w' g pre (ordK markN [] L) post ∧ Stay [g] w w' := by
  obtain ⟨pb, hpb⟩ : ∃ pb, pb = w.heap.size := ⟨_, rfl⟩
  obtain ⟨W, hW⟩ : ∃ W, W = w.alloc (.cells #[.func (.func 39) #[] #[]] 41) := ⟨_, rfl⟩
  have hne : pb ≠ g := by have := h.lt; omega
  have hp : W.cell? ⟨pb, 0, none⟩ = some (.func (.func 39) #[] #[]) := by rw [hW, hpb]; exact cells_new w [Value.func (.func 39) #[] #[]] 41 w.heap.size rfl 0 _ rfl
  have HRW := Lib.hid (show Stay [g] w W from by rw [hW]; exact Stay.alloc _ _)
  have HS0 := Lib.hid (h.stay (F := []) (by rw [hW]; exact Stay.alloc _ _) (by simp) : SegR W g pre L post)
  have HCell := Lib.hid (show ∀ u, Stay [g] W u → u.cell? ⟨pb, 0, none⟩ = some (.func (.func 39) #[] #[]) from fun u hu => (hu.cell_ (a := ⟨pb, 0, none⟩) (World.block_lt_of_cell? _ _ hp) (by simpa using hne)).trans hp)
  have HSort := Lib.hid (fun (u : World) (P M R : List Int) (q n d : Nat) (k : SegR u g pre (P ++ (M ++ R)) post) (k1 : q = o + P.length) (k2 : n = M.length) (k3 : n ≤ N) (ku : Stay [g] W u) => sortR_any u g q d pb (pre ++ ints .i32 P) (ints .i32 R ++ post) M n k.mid (by rw [k1, ho]; simp [ints]) k2 (by omega) (HCell.out u ku) hne)
  have HR := Lib.hid (Stay.refl [g] W)
  have HN := Lib.hid (And.intro hN (And.intro hL (And.intro hc hcm)))
  have HO := Lib.hid ho
  have HM := Lib.hid (fun z w => mark_grow z w)
  have HWe := Lib.hid (And.intro hW hpb)
  have hnn : (0 : Int) ≤ N := by omega
  clear h ho hN hL hp hne hc hcm
  have mixed : Tryd.prog.follows Departure.mixedOrders = true := by kernel_rfl
  go_enter Tryd.func71, Tryd.ntmps71
  go_upto_region 1 with fail
  rw [← hW, ← hpb]
  clear hW hpb
  go_wp2_with fail
  go_loopw [5] (fun av wr => ∃ (a : Nat) (P R : List Int), av = .int .i64 a ∧ Hid ((P.length = a ∨ (R = [] ∧ a = N + 1)) ∧ (P ++ R).length = N ∧ ordK markN [] L = P ++ ordK markN [] R) ∧ Hid (SegR wr g pre (P ++ R) post) ∧ Hid (Stay [g] W wr)) (fun av _ => N + 1 - (intOf av).toNat)
  case atStart => exact ⟨0, [], L, rfl, ⟨.inl rfl, HN.out.1.symm, rfl⟩, HS0, HR⟩
  case round =>
    clear HS0 HR
    obtain ⟨a, P, R, rfl, HI, HS, HR⟩ := hrel
    by_cases haN : a < N
    · have hz : (a : Int) < N := by omega
      have HaN := Lib.hid haN
      have HI2 := Lib.hid (show P.length = a ∧ P.length + R.length = N ∧ ordK markN [] L = P ++ ordK markN [] R from by
        have := HI.out
        rw [List.length_append] at this
        exact ⟨by omega, this.2.1, this.2.2⟩)
      clear haN HI
      go_wp2_with fail
      go_loopw [6] (fun bv wr => ∃ (b : Nat) (M R' : List Int), bv = .int .i64 b ∧ Hid (b = a + M.length ∧ b + R'.length = N ∧ (∀ x ∈ M, markN x ≠ 0) ∧ ordK markN [] R = ordK markN M R') ∧ Hid (SegR wr g pre (P ++ (M ++ R')) post) ∧ Hid (Stay [g] W wr)) (fun bv _ => N - (intOf bv).toNat)
      case atStart => exact ⟨a, [], R, rfl, ⟨rfl, by have := HI2.out; omega, by simp, rfl⟩, HS, HR⟩
      case round =>
        clear HS HR
        obtain ⟨b, M, R', rfl, HJ, HS, HR⟩ := hrel
        have HEnd := Lib.hid (show ∀ (u : World), SegR u g pre (P ++ (M ++ R')) post → Stay [g] W u → Calls Tryd.prog 109 #[.slice (some ⟨g, o + a, none⟩) (b - a : Nat) (c - a : Nat), cmpFn pb] u fun e w' => e = .returned (.tuple #[]) ∧ SegR w' g pre (P ++ (isortK markN M ++ R')) post ∧ Stay [g] u w' from fun u k ku =>
          (HSort.out u P M R' (o + a) (b - a) (c - a) k (by rw [HI2.out.1]) (by have := HJ.out; omega) (by have := HJ.out; omega) ku).mono fun _ _ ⟨h1, h2, h3⟩ => ⟨h1, h2.out, h3⟩)
        unfold cmpFn at HEnd
        have hab : (a : Int) ≤ b := by have := HJ.out; omega
        have hbN : (b : Int) ≤ N := by have := HJ.out; omega
        have hbc : (b : Int) ≤ c := by have := HJ.out; have := HN.out; omega
        have hac : ¬ (c - a = 0) := by have := HaN.out; have := HN.out; omega
        have hac2 : a < c := by omega
        have hac3 : 0 < c - a := by omega
        have hac4 : ¬ c = a := by omega
        have ha0 : (0 : Int) ≤ a := by omega
        have hb0 : (0 : Int) ≤ b := by omega
        obtain ⟨b1, hb1⟩ : ∃ b1, b1 = b + 1 := ⟨_, rfl⟩
        have v1 : IntKind.i64.wrap ((b : Int) + 1) = (b1 : Int) := by have := HN.out; rw [hb1]; simp only [IntKind.wrap, IntKind.bits, IntKind.signed]; simp; omega
        have HB1 := Lib.hid hb1
        clear hb1
        cases R' with
        | nil =>
          have hbd : decide ((b : Int) < N) = false := decide_eq_false (by have := HJ.out; simp at this; omega)
          have hbd2 : decide (b < N) = false := decide_eq_false (by have := HJ.out; simp at this; omega)
          go_upto_region 5 with fail
          go_quiet (fail)
          obtain ⟨W2, hW2⟩ : ∃ W2, W2 = wr.drewN nq := ⟨_, rfl⟩
          rw [← hW2]
          have HS2 := Lib.hid (show SegR W2 g pre (P ++ (M ++ [])) post from by rw [hW2]; exact HS.out.stay (F := []) (Stay.drewN _ _) (by simp))
          have HR2 := Lib.hid (show Stay [g] W W2 from by rw [hW2]; exact HR.out.drewN')
          have HCall := Lib.hid (HEnd.out W2 HS2.out HR2.out)
          clear hW2 hbd hbd2
          go_wp2_with fail
          refine HCall.out.mono ?_
          rintro e w3 ⟨rfl, hs3, hr3⟩
          have HS3 := Lib.hid (show SegR w3 g pre ((P ++ isortK markN M) ++ ([] : List Int)) post from by
            have := hs3
            simpa using this)
          have HR3 := Lib.hid (HR2.out.trans hr3)
          have HF := Lib.hid (show ((((P ++ isortK markN M)).length = b1 ∨ (([] : List Int) = [] ∧ b1 = N + 1)) ∧ ((P ++ isortK markN M) ++ ([] : List Int)).length = N ∧ ordK markN [] L = (P ++ isortK markN M) ++ ordK markN [] ([] : List Int)) ∧ a < b1 from by
            have hj := HJ.out
            have hi := HI2.out
            have h1 := HB1.out
            have hl := (isortK_perm markN M).length_eq
            refine ⟨⟨.inr ⟨rfl, by simp at hj; omega⟩, by simp [hl] at hj ⊢; omega, ?_⟩, by omega⟩
            rw [hi.2.2, hj.2.2.2]
            simp [ordK_nil, isortK])
          clear hs3 hr3 HCall HS2 HR2
          go_wp2_with fail
          go_roundw
          case rel => exact ⟨b1, (P ++ isortK markN M), ([] : List Int), rfl, ⟨HF.out.1.1.imp id (fun h => ⟨rfl, h.2⟩), HF.out.1.2⟩, HS3, HR3⟩
          case measure => have := HF.out; have := HaN.out; simp [intOf]; omega
        | cons y R' =>
          have hlt : b < N := by have := HJ.out; simp at this; omega
          have hltz : (b : Int) < N := by omega
          have hbd : decide ((b : Int) < N) = true := decide_eq_true hltz
          have hbd2 : decide (b < N) = true := decide_eq_true hlt
          have hbn2 : decide (N ≤ b) = false := decide_eq_false (by omega)
          have hcy : wr.cell? ⟨g, o + b, none⟩ = some (.int .i32 y) := by
            have h1 : (P ++ (M ++ y :: R'))[b]? = some y := by
              have := HJ.out; have := HI2.out
              rw [List.getElem?_append_right (by omega), List.getElem?_append_right (by omega), show b - P.length - M.length = 0 by omega]; rfl
            rw [HO.out]
            exact HS.out.cell h1
          have py : ∀ n os, (grow (wr.drewN n) os).cell? ⟨g, o + b, none⟩ = some (.int .i32 y) := fun n os => cell_grown HS.out.lt hcy n os
          have pf : ∀ n os, (grow (wr.drewN n) os).cell? ⟨pb, 0, none⟩ = some (.func (.func 39) #[] #[]) := fun n os => HCell.out _ (HR.out.trans (Stay.grow_ wr n os))
          obtain ⟨k, hk⟩ : ∃ k, k = markN y := ⟨_, rfl⟩
          have HMy := Lib.hid (show ∀ u, Calls Tryd.prog 39 #[.int .i32 y] u fun e w' => e = .returned (.int .u8 k) ∧ ∃ q os, w' = grow (u.drewN q) os from fun u => by rw [hk]; exact HM.out y u)
          have Hk := Lib.hid hk
          have HLt := Lib.hid hlt
          clear hcy hk hlt
          by_cases hk0 : k = 0
          · have hy0 : markN y = 0 := Hk.out ▸ hk0
            have Hy0 := Lib.hid hy0
            subst hk0
            clear hy0
            go_upto_region 5 with fail
            go_quiet_grown (first | (go_at_call 39; exact Calls.grown_of (HMy.out _)))
            obtain ⟨W2, hW2⟩ : ∃ W2, W2 = grow (wr.drewN nq) osq := ⟨_, rfl⟩
            rw [← hW2]
            have HS2 := Lib.hid (show SegR W2 g pre (P ++ (M ++ y :: R')) post from by rw [hW2]; exact HS.out.stay (F := []) (Stay.grow_ _ _ _) (by simp))
            have HR2 := Lib.hid (show Stay [g] W W2 from by rw [hW2]; exact HR.out.trans (Stay.grow_ _ _ _))
            have HCall := Lib.hid (HEnd.out W2 HS2.out HR2.out)
            clear hW2 hbd hbd2 py pf hltz hbn2
            go_wp2_with fail
            refine HCall.out.mono ?_
            rintro e w3 ⟨rfl, hs3, hr3⟩
            have HS3 := Lib.hid (show SegR w3 g pre ((P ++ isortK markN M ++ [y]) ++ R') post from by
              have := hs3
              simpa using this)
            have HR3 := Lib.hid (HR2.out.trans hr3)
            have HF := Lib.hid (show ((((P ++ isortK markN M ++ [y])).length = b1 ∨ (R' = [] ∧ b1 = N + 1)) ∧ ((P ++ isortK markN M ++ [y]) ++ R').length = N ∧ ordK markN [] L = (P ++ isortK markN M ++ [y]) ++ ordK markN [] R') ∧ a < b1 from by
              have hj := HJ.out
              have hi := HI2.out
              have h1 := HB1.out
              have hy0 := Hy0.out; have hl := (isortK_perm markN M).length_eq
              refine ⟨⟨.inl (by simp [hl]; omega), by simp [hl] at hj ⊢; omega, ?_⟩, by omega⟩
              rw [hi.2.2, hj.2.2.2]
              rw [ordK_zero M R' hy0]; simp)
            clear hs3 hr3 HCall HS2 HR2
            go_wp2_with fail
            go_roundw
            case rel => exact ⟨b1, (P ++ isortK markN M ++ [y]), R', rfl, HF.out.1, HS3, HR3⟩
            case measure => have := HF.out; have := HaN.out; simp [intOf]; omega
          · have hkb : (k == 0) = false := by simpa using hk0
            have hkd : decide (k = 0) = false := decide_eq_false hk0
            have Hk0 := Lib.hid hk0
            go_upto_region 5 with fail
            go_quiet_grown (first | (go_at_call 39; exact Calls.grown_of (HMy.out _)))
            obtain ⟨W2, hW2⟩ : ∃ W2, W2 = grow (wr.drewN nq) osq := ⟨_, rfl⟩
            rw [← hW2]
            have HS2 := Lib.hid (show SegR W2 g pre (P ++ ((M ++ [y]) ++ R')) post from by rw [hW2, List.append_assoc]; exact HS.out.stay (F := []) (Stay.grow_ _ _ _) (by simp))
            have HR2 := Lib.hid (show Stay [g] W W2 from by rw [hW2]; exact HR.out.trans (Stay.grow_ _ _ _))
            have HJ2 := Lib.hid (show b1 = a + (M ++ [y]).length ∧ b1 + R'.length = N ∧ (∀ x ∈ M ++ [y], markN x ≠ 0) ∧ ordK markN [] R = ordK markN (M ++ [y]) R' from by
              have hj := HJ.out
              have h1 := HB1.out
              have hy : markN y ≠ 0 := Hk.out ▸ Hk0.out
              refine ⟨by simp; omega, by simp at hj; omega, ?_, by rw [hj.2.2.2, ordK_mark M R' hy]⟩
              intro x hx
              rcases List.mem_append.1 hx with e | e
              · exact hj.2.2.1 x e
              · rw [List.mem_singleton.1 e]; exact hy)
            clear hW2 hbd hbd2 py pf hbn2
            go_wp2_with fail
            go_roundw
            case rel => exact ⟨b1, M ++ [y], R', rfl, HJ2, HS2, HR2⟩
            case measure => have := HB1.out; have := HLt.out; simp [intOf]; omega
    · have hz : ¬ (a : Int) < N := by omega
      have HD := Lib.hid (show R = [] ∧ ordK markN [] L = P from by
        have := HI.out
        rw [List.length_append] at this
        have hR : R = [] := by
          apply List.eq_nil_of_length_eq_zero
          rcases this.1 with h | h
          · omega
          · rw [h.1]; rfl
        refine ⟨hR, ?_⟩
        rw [this.2.2, hR]
        simp [ordK_nil, isortK])
      have HSd := Lib.hid (show SegR wr g pre (ordK markN [] L) post from by
        have := HS.out
        rw [HD.out.1, List.append_nil] at this
        rw [HD.out.2]; exact this)
      have HRd := Lib.hid (HRW.out.trans HR.out)
      clear haN HS HR HI
      go_wp2_with fail
      go_ret
      exact ⟨rfl, HSd.out, HRd.out⟩
end Go.Proofs.YtlphmcodajookaaDoor
/- norm: Order: the walk. -/
namespace Go.Proofs.YtlphmcodajookaaDoor
open Go.RowKit Go.Sort
/-- an owned row as a segment of its block -/
theorem Own.seg {w : World} {B n c : Nat} {A : Option Addr} {L : List Int} (h : Own w 21 B (.slice A n c) (ints .i32 L)) :
    (L = [] ∧ A = none ∧ n = 0 ∧ c = 0) ∨ ∃ g post, A = some ⟨g, 0, none⟩ ∧ n = L.length ∧ n ≤ c ∧ c ≤ maxLen ∧ B ≤ g ∧ SegR w g [] L post ∧ c ≤ L.length + post.length := by
  rcases h.2 with ⟨h1, h2⟩ | ⟨g, cap, cur, h1, h2, h3, h4, h5, h6, h7⟩
  · simp only [Value.slice.injEq] at h1
    exact .inl ⟨by simpa [ints] using h2, h1⟩
  · simp only [Value.slice.injEq] at h1
    obtain ⟨rfl, rfl, rfl⟩ := h1
    have hl : (ints .i32 L).length = L.length := by simp [ints]
    refine .inr ⟨g, cur.toList.drop L.length, rfl, hl, h4, h5, h2, ?_, ?_⟩
    · show w.heap[g]? = some (.cells _ _ _)
      have e : ([] ++ (ints .i32 L ++ cur.toList.drop L.length)).toArray = cur := by
        rw [List.nil_append, ← h7, hl, Nat.mul_one, List.take_append_drop]
      rw [e]; exact h3
    · rw [Nat.mul_one] at h6
      rw [hl] at h4
      have h8 : cur.toList.length = c := by rw [Array.length_toList]; exact h6
      rw [List.length_drop, h8]; omega
/-- a segment as a window -/
theorem SegR.win {w : World} {g B c : Nat} {L : List Int} {post : List Value} (h : SegR w g [] L post) (hB : B ≤ g) (hc : L.length ≤ c) (hm : c ≤ maxLen) (hp : c ≤ L.length + post.length) : Win w B 21 1 (some ⟨g, 0, none⟩) L.length c (ints .i32 L) := by
  have h' : Blk w g (ints .i32 L ++ post) 21 := by have := h; unfold SegR at this; rwa [List.nil_append] at this
  refine ⟨by simp [ints], hc, hm, .inr ⟨g, 0, _, rfl, hB, h', by simp [ints]; omega, ?_⟩⟩
  rw [List.drop_zero, Nat.mul_one, show L.length = (ints .i32 L).length by simp [ints], List.take_left]
theorem own_empty (w : World) (e : TypeId) : Own (w.alloc (.cells #[] e)) e w.heap.size (.slice (some ⟨w.heap.size, 0, none⟩) 0 0) [] :=
  ⟨rfl, .inr ⟨w.heap.size, 0, #[], rfl, Nat.le_refl _, heap_alloc_new w _, Nat.le_refl _, Nat.zero_le _, rfl, rfl⟩⟩
set_option maxRecDepth 20000 in
set_option maxHeartbeats 4000000 in
theorem cloneR_any (xs : List Int) (A : Option Addr) (c : Nat) (w : World) (hl : xs.length ≤ 35184372088832) (h : Sl w w.heap.size A (ints .i32 xs)) :
    Calls Tryd.prog 72 #[.slice A xs.length c] w fun e w' => ∃ v, e = .returned v ∧ Own w' 21 w.heap.size v (ints .i32 xs) ∧ Below w.heap.size w w' := by
  obtain ⟨i3, hi3, hz30, hz31, hz32⟩ := info_parts info21
  have hq0 := fun (w : World) (A : Option Addr) (n c : Nat) => Lib.run_eql_slice_nil (P := Tryd.prog) w 22 21 A n c 0 0 Tryd.underlying22
  cases A with
  | none =>
    have hx : xs = [] := by
      cases xs with
      | nil => rfl
      | cons z r =>
        obtain ⟨ad, h, _⟩ := h 0 _ rfl
        cases h
    subst hx
    go_enter Tryd.func72, Tryd.ntmps72
    go_wp2
    exact bodyPost_ret (v := .slice none 0 0) (by simp [results, Tryd.results72, go_sem]) rfl ⟨_, rfl, Own.nil_ _ _ _, Below.refl _ _⟩
  | some ad =>
    have HA := Lib.hid (h.alloc (Nat.le_refl _) (.cells #[] 21))
    have HE := Lib.hid (own_empty w 21)
    go_enter Tryd.func72, Tryd.ntmps72
    go_wp2_with (first
      | (at_builtin; refine wpList_append_sl2 _ rfl (.tmp 5) (.tmp 6) 22 rfl w.heap.size 21 i3 _ 4 Tryd.underlying22 hi3 hz30 hz31 hz32 rfl (.slice (some ⟨w.heap.size, 0, none⟩) 0 0) 0 [] rfl rfl HE.out w.heap.size (some ad) c xs.length (ints .i32 xs) (by simp [ints]) rfl HA.out (ints_one _ _) (by unfold maxLen; omega) (by omega) (by simp) ?_; intro A2 c2 w8 ho8 ha8
         have HB := Lib.hid (((Below.refl w.heap.size w).alloc (Nat.le_refl _) (.cells #[] 21)).trans (appended_below ha8 (by simp) (fun g hg => Nat.le_of_eq (by simpa [Value.ownBlock] using hg))))
         have HO := Lib.hid ho8
         clear ho8 ha8))
    exact bodyPost_ret (v := .slice A2 xs.length c2) (by simp [results, Tryd.results72, go_sem]) rfl ⟨_, rfl, by simpa using HO.out, HB.out⟩
set_option maxRecDepth 20000 in
set_option maxHeartbeats 4000000 in
theorem orderedR_nil (w : World) : Calls Tryd.prog 71 #[.slice none 0 0, .func (.func 39) #[] #[]] w fun e w' => e = .returned (.slice none 0 0) ∧ Stay [] w w' := by
  have HS := Lib.hid (fun o => Stay.alloc (F := []) w o)
  go_enter Tryd.func71, Tryd.ntmps71
  go_upto_region 2 with fail
  refine wp_loop_rounds 1 ?_
  rw [rounds_succ]
  go_wp2_with fail
  go_ret
  exact ⟨rfl, HS.out _⟩
/-- Order -/
theorem order_any (xs : List Int) (A : Option Addr) (c : Nat) (w : World) (hl : xs.length ≤ 35184372088832) (h : Sl w w.heap.size A (ints .i32 xs)) :
    Calls Tryd.prog 28 #[.slice A xs.length c] w (Runes w (ordK markN [] xs)) := by
  have H1 := Lib.hid (cloneR_any xs A c w hl h)
  have HL := Lib.hid hl
  clear h hl
  go_enter Tryd.func28, Tryd.ntmps28
  go_wp2_with fail
  refine H1.out.mono ?_
  rintro e w1 ⟨v, rfl, ho, hb⟩
  obtain ⟨A1, c1, rfl⟩ := ho.slice
  have HB := Lib.hid (Stay.below (F := []) hb)
  rw [show (ints .i32 xs).length = xs.length by simp [ints]] at ho ⊢
  rcases ho.seg with ⟨hx, rfl, hn, rfl⟩ | ⟨g, post, rfl, hn, hc, hcm, hBg, hs, hp⟩
  · subst hx
    have H2 := Lib.hid (orderedR_nil w1)
    clear hn ho hb H1
    go_wp2_with fail
    refine H2.out.mono ?_
    rintro e w2 ⟨rfl, hr⟩
    have HR := Lib.hid (HB.out.trans hr)
    clear hr
    go_wp2_with fail
    go_ret
    exact ⟨none, 0, rfl, Win.nil _ _ _ _, HR.out⟩
  · have H2 := Lib.hid (orderedR_any w1 g 0 c1 [] post xs xs.length hs rfl rfl hc hcm (by have := HL.out; omega))
    have HC := Lib.hid (And.intro hc (And.intro hcm (And.intro hBg hp)))
    clear hn hc hcm hBg hs hp ho hb H1
    go_wp2_with fail
    refine H2.out.mono ?_
    rintro e w2 ⟨rfl, hs, hr⟩
    have hlen : (ordK markN [] xs).length = xs.length := ordK_length _ _
    have HW := Lib.hid (show Win w2 w.heap.size 21 1 (some ⟨g, 0, none⟩) (ordK markN [] xs).length c1 (ints .i32 (ordK markN [] xs)) from hs.win HC.out.2.2.1 (by rw [hlen]; exact HC.out.1) HC.out.2.1 (by rw [hlen]; exact HC.out.2.2.2))
    have HR := Lib.hid (show Stay [] w w2 from HB.out.trans' hr (fun g' hg => .inr (by simp at hg; rw [hg]; exact HC.out.2.2.1)))
    rw [← hlen]
    clear hs hr hlen
    go_wp2_with fail
    go_ret
    exact ⟨some ⟨g, 0, none⟩, c1, rfl, HW.out, HR.out⟩
end Go.Proofs.YtlphmcodajookaaDoor
