/- package weak: rule 5, in place: rows of terminators, one behind the other, by a goto. -/
import Derived.Test.YtlomcnmijfiihaaSep
import Derived.WalkMore
import Derived.ScopeJumps
namespace Go.Proofs.Ytlomcnmijfiihaa
open Go.RowKit
/-- what holds at the label: all places below i are done; i is no place within a row of terminators -/
def TRel (zs : List Int) (B : Nat) (A : Option Addr) (c : Nat) (w : World) (i : Nat) (wr : World) : Prop :=
  ∃ ys : List Int, i ≤ zs.length ∧ TermTo zs ys i ∧ (i = 0 ∨ i = zs.length ∨ zs.getD i 0 ≠ 5) ∧ Own wr 23 B (.slice A zs.length c) (i8s ys) ∧ w.grownBy wr (Value.slice A zs.length c).ownBlock
def TJ (zs : List Int) (B : Nat) (A : Option Addr) (c : Nat) (s : Int) (w : World) (a' : Act) (w' : World) : Prop :=
  ∃ (i : Nat) (u2 u3 u5 u6 u7 u8 u9 u10 u11 u12 u13 u14 u15 u16 u17 u18 u19 u20 u21 u22 u23 u24 u25 u26 u27 u28 u29 u30 u31 u32 u33 u34 u35 u36 u37 u38 u39 u40 u41 u42 u43 u44 u45 u46 u47 u48 u49 u50 u51 u52 u53 u54 u55 u56 u57 u58 u59 u60 u61 u62 u63 u64 u65 u66 u67 u68 u69 u70 u71 u72 u73 u74 : Value), a' = ⟨#[(.slice A zs.length c), .int .i8 s, u2, u3, .int .i64 (i : Int), u5, u6, u7, u8, u9, u10, u11, u12, u13, u14, u15, u16, u17, u18, u19, u20, u21, u22, u23, u24, u25, u26, u27, u28, u29, u30, u31, u32, u33, u34, u35, u36, u37, u38, u39, u40, u41, u42, u43, u44, u45, u46, u47, u48, u49, u50, u51, u52, u53, u54, u55, u56, u57, u58, u59, u60, u61, u62, u63, u64, u65, u66, u67, u68, u69, u70, u71, u72, u73, u74], []⟩ ∧ TRel zs B A c w i w'
/-- a scope's code -/
def scopeOf : Code → Code
  | .scope c => c
  | c => c
def tailOf : Code → Code
  | .seq _ b => b
  | c => c
/-- what loop 2 and the test leave: the next row of terminators -/
theorem row_next {zs ys : List Int} {i m : Nat} (h : TermTo zs ys i) (him : i ≤ m) (hm : ∀ j, i ≤ j → j < m → zs.getD j 0 ≠ 5) : TermTo zs ys m :=
  h.skips m him fun j h1 h2 => (termAt_other (hm j h1 h2)).symm
set_option maxRecDepth 100000 in
set_option maxHeartbeats 4000000 in
theorem term_pass (zs : List Int) (B g c : Nat) (s : Int) (w wr : World) (hl : zs.length ≤ 140737488351232) (i : Nat) (v4 : Value) (hv : v4 = .int .i64 i) (rest : Code) (hrest : tailOf ((findLabel (scopeOf ((Try.f32.body).getD .skip)) 0).getD .skip) = rest) (hi : i ≤ zs.length) (ys : List Int) (hT : TermTo zs ys i) (hi5 : i = 0 ∨ i = zs.length ∨ zs.getD i 0 ≠ 5)
    (ho : Own wr 23 B (.slice (some ⟨g, 0, none⟩) zs.length c) (i8s ys)) (hg : w.grownBy wr (some g)) (u2 u3 u5 u6 u7 u8 u9 u10 u11 u12 u13 u14 u15 u16 u17 u18 u19 u20 u21 u22 u23 u24 u25 u26 u27 u28 u29 u30 u31 u32 u33 u34 u35 u36 u37 u38 u39 u40 u41 u42 u43 u44 u45 u46 u47 u48 u49 u50 u51 u52 u53 u54 u55 u56 u57 u58 u59 u60 u61 u62 u63 u64 u65 u66 u67 u68 u69 u70 u71 u72 u73 u74 : Value) (Q : Exit → Act → World → Prop)
    (hret : ∀ a' w', a'.defers = [] → Own w' 23 B (.slice (some ⟨g, 0, none⟩) zs.length c) (i8s (termL zs)) → w.grownBy w' (some g) → Q .ret a' w')
    (hgo : ∀ a' w', TJ zs B (some ⟨g, 0, none⟩) c s w a' w' → i < (intOf (a'.tmps.getD 4 undef)).toNat → Q (.goto 0) a' w') :
    Code.wp Try.prog rest Q ⟨#[(.slice (some ⟨g, 0, none⟩) zs.length c), .int .i8 s, u2, u3, v4, u5, u6, u7, u8, u9, u10, u11, u12, u13, u14, u15, u16, u17, u18, u19, u20, u21, u22, u23, u24, u25, u26, u27, u28, u29, u30, u31, u32, u33, u34, u35, u36, u37, u38, u39, u40, u41, u42, u43, u44, u45, u46, u47, u48, u49, u50, u51, u52, u53, u54, u55, u56, u57, u58, u59, u60, u61, u62, u63, u64, u65, u66, u67, u68, u69, u70, u71, u72, u73, u74], []⟩ wr := by
  subst hv
  subst hrest
  conv => arg 2; whnf
  have hcell : ∀ j, j < zs.length → wr.cell? ⟨g, j, none⟩ = some (.int .i8 (ys.getD j 0)) := fun j hj => own_getD ho (by rw [hT.1]; exact hj)
  have HC := Lib.hid hcell
  have HT := Lib.hid hT
  have HO := Lib.hid ho
  have HG := Lib.hid hg
  have HR := Lib.hid hret
  have HGO := Lib.hid hgo
  have ho2 := ho.cap
  simp only [i8s_length, hT.1] at ho2
  clear hcell hT ho hg hret hgo
  go_wp2
  go_loop [4] (fun t => ∃ m : Nat, i ≤ m ∧ m ≤ zs.length ∧ Hid (∀ j, i ≤ j → j < m → zs.getD j 0 ≠ 5) ∧ t = .int .i64 m) (fun t => zs.length - (intOf t).toNat)
  case atStart => exact ⟨i, by omega, hi, fun j h1 h2 => by omega, rfl⟩
  case round =>
    obtain ⟨m, him, hm, H5, rfl⟩ := hrel
    by_cases hlt : m < zs.length
    · have hc := HC.out m hlt
      rw [HT.out.2 m hlt, if_neg (by omega)] at hc
      by_cases h5 : zs.getD m 0 = 5
      · rw [h5] at hc
        have H5m := Lib.hid h5
        clear h5
        have hm0 : Hid (m = 0 ∨ zs.getD (m - 1) 0 ≠ 5) := by
          by_cases e : m = i
          · subst e
            rcases hi5 with h | h | h
            · exact .inl h
            · omega
            · exact absurd H5m.out h
          · exact .inr (H5.out (m - 1) (by omega) (by omega))
        have HTm := Lib.hid (row_next HT.out him H5.out)
        go_wp2
        go_loop [4] (fun t => ∃ r : Nat, m ≤ r ∧ r ≤ zs.length ∧ Hid (Row5 zs m r) ∧ t = .int .i64 r) (fun t => zs.length - (intOf t).toNat)
        case atStart => exact ⟨m, by omega, hm, fun j h1 h2 => by omega, rfl⟩
        case round =>
          obtain ⟨r, hmr, hr, HR5, rfl⟩ := hrel
          by_cases hlr : r < zs.length ∧ zs.getD r 0 = 5
          · obtain ⟨hlr, h5r⟩ := hlr
            have hc := HC.out r hlr
            rw [HT.out.2 r hlr, if_neg (by omega), h5r] at hc
            have HR5' : Hid (Row5 zs m (r + 1)) := fun j h1 h2 => by
              by_cases e : j = r
              · subst e; exact h5r
              · exact HR5.out j h1 (by omega)
            clear h5r
            go_wp2
            go_round
            case rel => exact ⟨r + 1, by omega, by omega, HR5', by go_num⟩
            case measure => simp [intOf]; omega
          · have hmr' : m < r := by
              rcases Nat.lt_or_ge m r with h | h
              · exact h
              · have : r = m := by omega
                subst this
                exact absurd ⟨hlt, H5m.out⟩ hlr
            have H1 : Hid (r = zs.length ∨ zs.getD r 0 ≠ 5) := by
              by_cases e : r = zs.length
              · exact .inl e
              · exact .inr (fun h => hlr ⟨by omega, h⟩)
            have HAT := Lib.hid (fun (j : Nat) (h1 : m ≤ j) (h2 : j < r) => termAt_row hmr' hr HR5.out hm0.out H1.out h1 h2)
            have hcr : r < zs.length → wr.cell? ⟨g, r, none⟩ = some (.int .i8 (zs.getD r 0)) := fun h => by
              have := HC.out r h
              rwa [HT.out.2 r h, if_neg (by omega)] at this
            have hcm : 0 < m → wr.cell? ⟨g, m - 1, none⟩ = some (.int .i8 (zs.getD (m - 1) 0)) := fun h => by
              have h2 := HC.out (m - 1) (by omega)
              rw [HTm.out.2 (m - 1) (by omega), if_pos (by omega), termAt_other (by rcases hm0.out with h3 | h3; (· omega); (· exact h3))] at h2
              exact h2
            clear hlr
            have hcap := ho2.1
            obtain ⟨a, ha⟩ : ∃ a, a = zs.getD (m - 1) 0 := ⟨_, rfl⟩
            obtain ⟨b, hb⟩ : ∃ b, b = zs.getD r 0 := ⟨_, rfl⟩
            rw [← ha] at hcm
            rw [← hb] at hcr
            have Ha := Lib.hid ha
            have Hb := Lib.hid hb
            clear ha hb
            by_cases hrn : r < zs.length
            · have hb5 : (b == 5) = false := by
                rw [Hb.out]
                rcases H1.out with h | h
                · omega
                · simpa using h
              go_wp2
              all_goals
                first
                  | (go_step3
                     have HTr : TermTo zs ys r := HTm.out.skips r (by omega) (fun j h1 h2 => by rw [HAT.out j h1 h2, if_neg (by rw [← Ha.out, ← Hb.out]; simp_all <;> omega)]; exact HR5.out j h1 h2)
                     refine HGO.out _ _ (by refine ⟨r, ?_⟩; (repeat apply Exists.intro); exact ⟨rfl, ys, hr, HTr, .inr H1.out, HO.out, HG.out⟩) (by simp [intOf]; omega))
                  | (have HAT2 := Lib.hid (fun j h1 h2 => (HAT.out j h1 h2).trans (if_pos (by rw [← Ha.out, ← Hb.out]; simp_all <;> omega)))
                     have hrm : m + (r - m) = r := by omega
                     have HRM := Lib.hid hrm
                     clear hrm HAT
                     go_loopw [66] (fun t wr2 => ∃ (k : Nat) (zs2 : List Int), k ≤ r - m ∧ t = .int .i64 k ∧ TermTo zs zs2 (m + k) ∧ Own wr2 23 B (.slice (some ⟨g, 0, none⟩) zs.length c) (i8s zs2) ∧ w.grownBy wr2 (some g))
                       (fun t _ => r - m - (intOf t).toNat)
                     case atStart => exact ⟨0, ys, by omega, rfl, HTm.out, HO.out, HG.out⟩
                     case round =>
                       obtain ⟨k, zs2, hk, rfl, hT2, ho3, hg3⟩ := hrel
                       by_cases hlk : k < r - m
                       · have hfr := ho3.free (m + k)
                         have hcl := own_getD ho3 (k := m + k) (by rw [hT2.1]; omega)
                         have HS := Lib.hid (hT2.store (x := 3) (show m + k < zs.length by omega) (HAT2.out (m + k) (by omega) (by omega)).symm)
                         have HO3 := Lib.hid (own_set ho3 (m + k) 3)
                         have HG3 := Lib.hid (grown_setCell (g := g) (p := ⟨g, m + k, none⟩) hg3 rfl (.int .i8 3))
                         clear hT2 ho3 hg3
                         go_wp2
                         go_roundw
                         case rel => exact ⟨k + 1, _, by omega, by go_num, HS.out, HO3.out, HG3.out⟩
                         case measure => simp [intOf]; omega
                       · go_wp2
                         go_step3
                         have ek : m + k = r := by omega
                         rw [ek] at hT2
                         refine HGO.out _ _ (by refine ⟨r, ?_⟩; (repeat apply Exists.intro); exact ⟨rfl, zs2, hr, hT2, .inr H1.out, ho3, hg3⟩) (by simp [intOf]; omega))
            · go_wp2
              all_goals
                first
                  | (go_step3
                     have HTr : TermTo zs ys r := HTm.out.skips r (by omega) (fun j h1 h2 => by rw [HAT.out j h1 h2, if_neg (by rw [← Ha.out, ← Hb.out]; simp_all <;> omega)]; exact HR5.out j h1 h2)
                     refine HGO.out _ _ (by refine ⟨r, ?_⟩; (repeat apply Exists.intro); exact ⟨rfl, ys, hr, HTr, .inr H1.out, HO.out, HG.out⟩) (by simp [intOf]; omega))
                  | (have HAT2 := Lib.hid (fun j h1 h2 => (HAT.out j h1 h2).trans (if_pos (by rw [← Ha.out, ← Hb.out]; simp_all <;> omega)))
                     have hrm : m + (r - m) = r := by omega
                     have HRM := Lib.hid hrm
                     clear hrm HAT
                     go_loopw [66] (fun t wr2 => ∃ (k : Nat) (zs2 : List Int), k ≤ r - m ∧ t = .int .i64 k ∧ TermTo zs zs2 (m + k) ∧ Own wr2 23 B (.slice (some ⟨g, 0, none⟩) zs.length c) (i8s zs2) ∧ w.grownBy wr2 (some g))
                       (fun t _ => r - m - (intOf t).toNat)
                     case atStart => exact ⟨0, ys, by omega, rfl, HTm.out, HO.out, HG.out⟩
                     case round =>
                       obtain ⟨k, zs2, hk, rfl, hT2, ho3, hg3⟩ := hrel
                       by_cases hlk : k < r - m
                       · have hfr := ho3.free (m + k)
                         have hcl := own_getD ho3 (k := m + k) (by rw [hT2.1]; omega)
                         have HS := Lib.hid (hT2.store (x := 3) (show m + k < zs.length by omega) (HAT2.out (m + k) (by omega) (by omega)).symm)
                         have HO3 := Lib.hid (own_set ho3 (m + k) 3)
                         have HG3 := Lib.hid (grown_setCell (g := g) (p := ⟨g, m + k, none⟩) hg3 rfl (.int .i8 3))
                         clear hT2 ho3 hg3
                         go_wp2
                         go_roundw
                         case rel => exact ⟨k + 1, _, by omega, by go_num, HS.out, HO3.out, HG3.out⟩
                         case measure => simp [intOf]; omega
                       · go_wp2
                         go_step3
                         have ek : m + k = r := by omega
                         rw [ek] at hT2
                         refine HGO.out _ _ (by refine ⟨r, ?_⟩; (repeat apply Exists.intro); exact ⟨rfl, zs2, hr, hT2, .inr H1.out, ho3, hg3⟩) (by simp [intOf]; omega))
      · have H5' : Hid (∀ j, i ≤ j → j < m + 1 → zs.getD j 0 ≠ 5) := fun j h1 h2 => by
          by_cases e : j = m
          · subst e; exact h5
          · exact H5.out j h1 (by omega)
        generalize zs.getD m 0 = z at *
        go_wp2
        go_round
        case rel => exact ⟨m + 1, by omega, by omega, H5', by go_num⟩
        case measure => simp [intOf]; omega
    · have hk' : m = zs.length := by omega
      have hd := (row_next HT.out him H5.out)
      rw [hk'] at hd
      obtain rfl := hd.done
      subst hk'
      have HF := HR.out
      go_wp2
      exact HF _ _ rfl HO.out HG.out
end Go.Proofs.Ytlomcnmijfiihaa
