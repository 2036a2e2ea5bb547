/- shuttlelaw20: the rope's answers to a call of Do. -/
import Derived.Test.YtjoeebjmjnddoaaUdo0
import Derived.Test.YtjoeebjmjnddoaaUhelp
namespace Go.Proofs.Ytjoeebjmjnddoaa
open Go.RowKit
theorem rdo_cases (rb : Nat) (t : Rp) (rs : Int) (e : Ed) (w : World) (hr : RopeAt w rb t rs) (hu : U64 rs) (ok : e.OK) :
    (∃ er, er ≠ 0 ∧ ∀ u, Stay [] w u → RDo rb e.a e.d e.s 0 0 ⟨#[]⟩ er rs t.text u) ∨
    (∃ b z, Undoes b z t.text ∧ b.s.size ≤ 1048576 ∧ (e.d = 0 → e.s = ⟨#[]⟩ → z = t.text) ∧ ∀ u, Stay [] w u → RDo rb e.a e.d e.s b.a b.d b.s 0 (IntKind.u64.wrap (rs + 1)) z u) := by
  have hl := hr.len
  by_cases hf : Fits e t.len
  · refine .inr ⟨_, _, fits_undoes e t.text hl hf, undoes_size (fits_undoes e t.text hl hf), ?_, fun u hs => ?_⟩
    · intro h1 h2
      rw [h1, h2, editL_eq]
      simp
    · refine (do_fits rb t rs e u (hr.stay0 hs) hu hf).mono ?_
      rintro e' w' ⟨h1, h2, h3⟩
      exact ⟨h1, h2, h3⟩
  · have hr' : ∀ er, (((e.a < 0 ∨ (t.len : Int) < e.a ∨ e.d < 0 ∨ (t.len : Int) - e.a < e.d) ∧ er = 180) ∨ ((0 ≤ e.a ∧ e.a ≤ t.len ∧ 0 ≤ e.d ∧ e.d ≤ (t.len : Int) - e.a ∧ 1048576 - ((t.len : Int) - e.d) < e.s.size) ∧ er = 3)) → ∀ u, Stay [] w u → RDo rb e.a e.d e.s 0 0 ⟨#[]⟩ er rs t.text u := fun er hb u hs => by
      refine (do_refused rb t rs e.a e.d e.s u (hr.stay0 hs) ok.a ok.d er hb).mono ?_
      rintro e' w' ⟨h1, h2⟩
      have h3 := Stay.below h2 (F := [])
      exact ⟨h1, ⟨t, (hr.stay0 hs).stay0 h3, rfl⟩, h3.mono (by simp)⟩
    by_cases h1 : e.a < 0 ∨ (t.len : Int) < e.a ∨ e.d < 0 ∨ (t.len : Int) - e.a < e.d
    · exact .inl ⟨180, by omega, hr' 180 (.inl ⟨h1, rfl⟩)⟩
    · refine .inl ⟨3, by omega, hr' 3 (.inr ⟨⟨by omega, by omega, by omega, by omega, ?_⟩, rfl⟩)⟩
      unfold Fits at hf
      omega
end Go.Proofs.Ytjoeebjmjnddoaa
