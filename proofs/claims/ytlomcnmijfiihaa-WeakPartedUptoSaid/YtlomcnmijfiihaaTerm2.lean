/- package weak: rule 5, whole. -/
import Derived.Test.YtlomcnmijfiihaaTerm
namespace Go.Proofs.Ytlomcnmijfiihaa
open Go.RowKit
set_option maxRecDepth 100000 in
set_option maxHeartbeats 2000000 in
theorem terminators_rule : Rule 32 (fun zs _ => termL zs) := by
  intro zs A c s w B hl hown
  rcases Nat.eq_zero_or_pos zs.length with h0 | h0
  · have hz : zs = [] := List.eq_nil_of_length_eq_zero h0
    subst hz
    go_enter Try.func32, Try.ntmps32
    go_wp2
    refine wp_scope_jumps 0 (fun _ _ => False) (fun _ _ => 0) rfl ?_ (fun _ _ h => h.elim)
    go_wp2
    go_step3
    go_wp2
    refine wp_loop_rounds 1 ?_
    rw [rounds_succ]
    go_wp2
    simp only [Exit.jump]
    refine bodyPost_ret (results_none rfl _ _ _) rfl ?_
    exact ⟨rfl, hown, World.grownBy.refl _ _⟩
  · obtain ⟨-, g, rfl, -⟩ := hown.form (by simpa using h0)
    go_enter Try.func32, Try.ntmps32
    go_wp2
    refine wp_scope_jumps 0 (TJ zs B (some ⟨g, 0, none⟩) c s w) (fun a' _ => zs.length - (intOf (a'.tmps.getD 4 undef)).toNat) rfl ?_ ?_
    · go_wp2
      go_step3
      go_step
      go_step
      refine term_pass zs B g c s w w hl 0 _ rfl _ rfl (by omega) zs (TermTo.start zs) (.inl rfl) hown (World.grownBy.refl _ _) _ _ _ _ _ _ _ _ _ _ _ _ _ _ _ _ _ _ _ _ _ _ _ _ _ _ _ _ _ _ _ _ _ _ _ _ _ _ _ _ _ _ _ _ _ _ _ _ _ _ _ _ _ _ _ _ _ _ _ _ _ _ _ _ _ _ _ _ _ _ _ _  _ ?_ ?_
      · intro a' w' hd ho hg
        simp +zetaDelta only [Exit.jump]
        refine bodyPost_ret (P := Try.prog) (fn := Try.f32) (results_none rfl _ _ _) hd ?_
        exact ⟨rfl, ho, hg⟩
      · intro a' w' hj _
        exact ⟨rfl, hj⟩
    · rintro a' w' ⟨i, hj⟩
      obtain ⟨u2, u3, u5, u6, u7, u8, u9, u10, u11, u12, u13, u14, u15, u16, u17, u18, u19, u20, u21, u22, u23, u24, u25, u26, u27, u28, u29, u30, u31, u32, u33, u34, u35, u36, u37, u38, u39, u40, u41, u42, u43, u44, u45, u46, u47, u48, u49, u50, u51, u52, u53, u54, u55, u56, u57, u58, u59, u60, u61, u62, u63, u64, u65, u66, u67, u68, u69, u70, u71, u72, u73, u74, rfl, ys, hi, hT, h5, ho, hg⟩ := hj
      go_step
      go_step
      go_step
      go_step
      go_step
      refine term_pass zs B g c s w w' hl i _ rfl _ rfl hi ys hT h5 ho hg _ _ _ _ _ _ _ _ _ _ _ _ _ _ _ _ _ _ _ _ _ _ _ _ _ _ _ _ _ _ _ _ _ _ _ _ _ _ _ _ _ _ _ _ _ _ _ _ _ _ _ _ _ _ _ _ _ _ _ _ _ _ _ _ _ _ _ _ _ _ _ _  _ ?_ ?_
      · intro a' w' hd ho hg
        simp +zetaDelta only [Exit.jump]
        refine bodyPost_ret (P := Try.prog) (fn := Try.f32) (results_none rfl _ _ _) hd ?_
        exact ⟨rfl, ho, hg⟩
      · intro a2 w2 hj hlt
        refine ⟨rfl, hj, ?_⟩
        obtain ⟨i2, hj⟩ := hj
        (iterate 72 (obtain ⟨_, hj⟩ := hj))
        obtain ⟨rfl, ys2, hi2, -⟩ := hj
        simp [intOf] at hlt ⊢
        omega
end Go.Proofs.Ytlomcnmijfiihaa
