/- The rules of package weak that pass once over a list: each leaves what 'scan' says. -/
import Derived.Test.YtlomcnmijfiihaaProg
import Derived.Test.YtlomcnmijfiihaaSpec
namespace Go.Proofs.Ytlomcnmijfiihaa
open Go.RowKit

/-- what holds behind k rounds of a pass in place -/
def Pass (f : Int → Int → Int × Int) (s : Int) (zs : List Int) (B : Nat) (A : Option Addr) (c : Nat) (w : World) (k : Nat) (ys : List Int) (st : Int) (wr : World) : Prop :=
  Mid f s zs ys k st ∧ Own wr 23 B (.slice A zs.length c) (i8s ys) ∧ w.grownBy wr (Value.slice A zs.length c).ownBlock
theorem Pass.store {f : Int → Int → Int × Int} {s : Int} {zs : List Int} {B g c : Nat} {w wr : World} {k : Nat} {ys : List Int} {st o st' : Int}
    (h : Pass f s zs B (some ⟨g, 0, none⟩) c w k ys st wr) (hk : k < zs.length) (hf : f st zs[k] = (o, st')) :
    Pass f s zs B (some ⟨g, 0, none⟩) c w (k + 1) (ys.set k o) st' (wr.setCell ⟨g, k, none⟩ (.int .i8 o)) := by
  refine ⟨h.1.store hk hf, ?_, grown_setCell (g := g) (p := ⟨g, k, none⟩) h.2.2 rfl _⟩
  have := h.2.1.stored k (.int .i8 o)
  simpa [i8s, List.map_set] using this
theorem Pass.skip {f : Int → Int → Int × Int} {s : Int} {zs : List Int} {B c : Nat} {A : Option Addr} {w wr : World} {k : Nat} {ys : List Int} {st st' : Int}
    (h : Pass f s zs B A c w k ys st wr) (hk : k < zs.length) (hf : f st zs[k] = (zs[k], st')) :
    Pass f s zs B A c w (k + 1) ys st' wr := ⟨h.1.skip hk hf, h.2⟩
theorem Pass.form {f : Int → Int → Int × Int} {s : Int} {zs : List Int} {B c : Nat} {A : Option Addr} {w wr : World} {k : Nat} {ys : List Int} {st : Int}
    (h : Pass f s zs B A c w k ys st wr) (hk : k < zs.length) : ∃ g, A = some ⟨g, 0, none⟩ := by
  have hl := h.1.len (by omega)
  obtain ⟨_, g, e, _⟩ := h.2.1.form (by simp [i8s]; omega)
  exact ⟨g, e⟩
theorem Pass.cell {f : Int → Int → Int × Int} {s : Int} {zs : List Int} {B c g : Nat} {w wr : World} {k : Nat} {ys : List Int} {st : Int}
    (h : Pass f s zs B (some ⟨g, 0, none⟩) c w k ys st wr) (hk : k < zs.length) : wr.cell? ⟨g, k, none⟩ = some (.int .i8 zs[k]) ∧ wr.frozen? ⟨g, k, none⟩ = false := by
  have hl := h.1.len (by omega)
  have h1 := h.2.1.cell k (by simp [i8s]; omega)
  have h2 := h.1.at_ hk
  refine ⟨?_, h.2.1.free k⟩
  rw [h1]
  have h3 : ys[k]'(by omega) = zs[k] := by
    obtain ⟨h5, h6⟩ := List.getElem?_eq_some_iff.1 h2
    exact h6
  simp [i8s, h3]
/-- what a rule does -/
def Rule (n : FuncId) (F : List Int → Int → List Int) : Prop := ∀ (zs : List Int) (A : Option Addr) (c : Nat) (s : Int) (w : World) (B : Nat), zs.length ≤ 140737488351232 →
  Own w 23 B (.slice A zs.length c) (i8s zs) → Calls Try.prog n #[.slice A zs.length c, .int .i8 s] w fun e w' =>
    e = .returned (.tuple #[]) ∧ Own w' 23 B (.slice A zs.length c) (i8s (F zs s)) ∧ w.grownBy w' (Value.slice A zs.length c).ownBlock

set_option maxHeartbeats 1000000 in
theorem marks_rule : Rule 28 (fun zs s => (scan fMarks s zs).1) := by
  intro zs A c s w B hl hown
  go_enter Try.func28, Try.ntmps28
  go_wp2
  go_loopw [1, 8] (fun t i wr => ∃ (k : Nat) (ys : List Int) (st : Int), k ≤ zs.length ∧ i = .int .i64 k ∧ t = .int .i8 st ∧ Pass fMarks s zs B A c w k ys st wr)
    (fun _ i _ => zs.length - (intOf i).toNat)
  case atStart => exact ⟨0, zs, s, by omega, rfl, rfl, Mid.start _ _ _, hown, World.grownBy.refl _ _⟩
  case round =>
    obtain ⟨k, ys, st, hk, rfl, rfl, hp⟩ := hrel
    by_cases hlt : k < zs.length
    · obtain ⟨g, rfl⟩ := hp.form hlt
      obtain ⟨hc, hfr⟩ := hp.cell hlt
      have HS := Lib.hid (fun o st' => hp.store (o := o) (st' := st') hlt)
      have HK := Lib.hid (fun st' => hp.skip (st' := st') hlt)
      clear hp hown
      generalize zs[k] = z at *
      go_wp2
      all_goals
        go_roundw
        case rel => exact ⟨k + 1, _, _, by omega, by go_num, rfl, by first | exact HS.out _ _ (by simp_all [fMarks, iso]) | exact HK.out _ (by simp_all [fMarks, iso])⟩
        case measure => simp [intOf]; omega
    · have hk' : k = zs.length := by omega
      subst hk'
      obtain ⟨hm, ho, hg⟩ := hp
      obtain ⟨rfl, rfl⟩ := hm.done
      go_wp2
      go_end0
      exact ⟨rfl, ho, hg⟩

set_option maxHeartbeats 1000000 in
theorem arabic_rule : Rule 29 (fun zs s => (scan fArabic s zs).1) := by
  intro zs A c s w B hl hown
  go_enter Try.func29, Try.ntmps29
  go_wp2
  go_loopw [1, 8] (fun t i wr => ∃ (k : Nat) (ys : List Int) (st : Int), k ≤ zs.length ∧ i = .int .i64 k ∧ t = .int .i8 st ∧ Pass fArabic s zs B A c w k ys st wr)
    (fun _ i _ => zs.length - (intOf i).toNat)
  case atStart => exact ⟨0, zs, s, by omega, rfl, rfl, Mid.start _ _ _, hown, World.grownBy.refl _ _⟩
  case round =>
    obtain ⟨k, ys, st, hk, rfl, rfl, hp⟩ := hrel
    by_cases hlt : k < zs.length
    · obtain ⟨g, rfl⟩ := hp.form hlt
      obtain ⟨hc, hfr⟩ := hp.cell hlt
      have HS := Lib.hid (fun o st' => hp.store (o := o) (st' := st') hlt)
      have HK := Lib.hid (fun st' => hp.skip (st' := st') hlt)
      clear hp hown
      generalize zs[k] = z at *
      go_wp2
      all_goals
        go_roundw
        case rel => exact ⟨k + 1, _, _, by omega, by go_num, rfl, by first | exact HS.out _ _ (by simp_all [fArabic]) | exact HK.out _ (by simp_all [fArabic])⟩
        case measure => simp [intOf]; omega
    · have hk' : k = zs.length := by omega
      subst hk'
      obtain ⟨hm, ho, hg⟩ := hp
      obtain ⟨rfl, rfl⟩ := hm.done
      go_wp2
      go_end0
      exact ⟨rfl, ho, hg⟩

set_option maxHeartbeats 1000000 in
theorem letters_rule : Rule 30 (fun zs s => (scan fLetters s zs).1) := by
  intro zs A c s w B hl hown
  go_enter Try.func30, Try.ntmps30
  go_wp2
  go_loopw [8] (fun i wr => ∃ (k : Nat) (ys : List Int) (st : Int), k ≤ zs.length ∧ i = .int .i64 k ∧ Pass fLetters s zs B A c w k ys st wr)
    (fun i _ => zs.length - (intOf i).toNat)
  case atStart => exact ⟨0, zs, s, by omega, rfl, Mid.start _ _ _, hown, World.grownBy.refl _ _⟩
  case round =>
    obtain ⟨k, ys, st, hk, rfl, hp⟩ := hrel
    by_cases hlt : k < zs.length
    · obtain ⟨g, rfl⟩ := hp.form hlt
      obtain ⟨hc, hfr⟩ := hp.cell hlt
      have HS := Lib.hid (fun o st' => hp.store (o := o) (st' := st') hlt)
      have HK := Lib.hid (fun st' => hp.skip (st' := st') hlt)
      clear hp hown
      generalize zs[k] = z at *
      go_wp2
      all_goals
        go_roundw
        case rel => exact ⟨k + 1, _, st, by omega, by go_num, by first | exact HS.out _ _ (by simp_all [fLetters]) | exact HK.out _ (by simp_all [fLetters])⟩
        case measure => simp [intOf]; omega
    · have hk' : k = zs.length := by omega
      subst hk'
      obtain ⟨hm, ho, hg⟩ := hp
      obtain ⟨rfl, rfl⟩ := hm.done
      go_wp2
      go_end0
      exact ⟨rfl, ho, hg⟩

set_option maxHeartbeats 1000000 in
theorem others_rule : Rule 33 (fun zs s => (scan fOthers s zs).1) := by
  intro zs A c s w B hl hown
  go_enter Try.func33, Try.ntmps33
  go_wp2
  go_loopw [8] (fun i wr => ∃ (k : Nat) (ys : List Int) (st : Int), k ≤ zs.length ∧ i = .int .i64 k ∧ Pass fOthers s zs B A c w k ys st wr)
    (fun i _ => zs.length - (intOf i).toNat)
  case atStart => exact ⟨0, zs, s, by omega, rfl, Mid.start _ _ _, hown, World.grownBy.refl _ _⟩
  case round =>
    obtain ⟨k, ys, st, hk, rfl, hp⟩ := hrel
    by_cases hlt : k < zs.length
    · obtain ⟨g, rfl⟩ := hp.form hlt
      obtain ⟨hc, hfr⟩ := hp.cell hlt
      have HS := Lib.hid (fun o st' => hp.store (o := o) (st' := st') hlt)
      have HK := Lib.hid (fun st' => hp.skip (st' := st') hlt)
      clear hp hown
      generalize zs[k] = z at *
      go_wp2
      all_goals
        go_roundw
        case rel => exact ⟨k + 1, _, st, by omega, by go_num, by first | exact HS.out _ _ (by simp_all [fOthers]) | exact HK.out _ (by simp_all [fOthers])⟩
        case measure => simp [intOf]; omega
    · have hk' : k = zs.length := by omega
      subst hk'
      obtain ⟨hm, ho, hg⟩ := hp
      obtain ⟨rfl, rfl⟩ := hm.done
      go_wp2
      go_end0
      exact ⟨rfl, ho, hg⟩

set_option maxHeartbeats 1000000 in
theorem digits_rule : Rule 34 (fun zs s => (scan fDigits s zs).1) := by
  intro zs A c s w B hl hown
  go_enter Try.func34, Try.ntmps34
  go_wp2
  go_loopw [1, 8] (fun t i wr => ∃ (k : Nat) (ys : List Int) (st : Int), k ≤ zs.length ∧ i = .int .i64 k ∧ t = .int .i8 st ∧ Pass fDigits s zs B A c w k ys st wr)
    (fun _ i _ => zs.length - (intOf i).toNat)
  case atStart => exact ⟨0, zs, s, by omega, rfl, rfl, Mid.start _ _ _, hown, World.grownBy.refl _ _⟩
  case round =>
    obtain ⟨k, ys, st, hk, rfl, rfl, hp⟩ := hrel
    by_cases hlt : k < zs.length
    · obtain ⟨g, rfl⟩ := hp.form hlt
      obtain ⟨hc, hfr⟩ := hp.cell hlt
      have HS := Lib.hid (fun o st' => hp.store (o := o) (st' := st') hlt)
      have HK := Lib.hid (fun st' => hp.skip (st' := st') hlt)
      clear hp hown
      generalize zs[k] = z at *
      go_wp2
      all_goals
        go_roundw
        case rel => exact ⟨k + 1, _, _, by omega, by go_num, rfl, by first | exact HS.out _ _ (by simp_all [fDigits]) | exact HK.out _ (by simp_all [fDigits])⟩
        case measure => simp [intOf]; omega
    · have hk' : k = zs.length := by omega
      subst hk'
      obtain ⟨hm, ho, hg⟩ := hp
      obtain ⟨rfl, rfl⟩ := hm.done
      go_wp2
      go_end0
      exact ⟨rfl, ho, hg⟩
end Go.Proofs.Ytlomcnmijfiihaa
