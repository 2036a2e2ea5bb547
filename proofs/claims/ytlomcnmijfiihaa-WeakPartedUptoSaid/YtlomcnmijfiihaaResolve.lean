/- package weak: Resolve and Step, whole. -/
import Derived.Test.YtlomcnmijfiihaaTerm2
import Derived.Laws.EntriesVeiled
namespace Go.Proofs.Ytlomcnmijfiihaa
open Go.RowKit
theorem info23 : (Try.prog.info? 23).map (fun i => (i.zero, i.size, i.bytes)) = some (some (.int .i8 0), 1, 1) := by kernel_rfl
theorem sl_at8 {w : World} {B : Nat} {A : Option Addr} {zs : List Int} (h : Sl w B A (i8s zs)) {k : Nat} (hk : k < zs.length) :
    ∃ ad, A = some ad ∧ ad.block < B ∧ w.cell? (ad.add k) = some (.int .i8 zs[k]) := h k (.int .i8 zs[k]) (by simp [i8s, hk])
/-- behind k rounds the first k are done -/
def Did (f : Int → Int) (zs ys : List Int) (k : Nat) : Prop := ys.length = zs.length ∧ ∀ j, j < k → ys[j]? = zs[j]?.map f
theorem Did.step {f : Int → Int} {zs ys : List Int} {k : Nat} (h : Did f zs ys k) (hk : k < zs.length) : Did f zs (ys.set k (f zs[k])) (k + 1) := by
  refine ⟨by simpa using h.1, fun j hj => ?_⟩
  by_cases e : k = j
  · subst e
    rw [List.getElem?_set_self (by rw [h.1]; exact hk)]
    simp [hk]
  · rw [List.getElem?_set_ne e]; exact h.2 j (by omega)
theorem Did.done {f : Int → Int} {zs ys : List Int} (h : Did f zs ys zs.length) : ys = zs.map f := by
  apply List.ext_getElem?
  intro j
  by_cases hj : j < zs.length
  · rw [h.2 j hj]; simp
  · rw [List.getElem?_eq_none (by rw [h.1]; omega), List.getElem?_eq_none (by simpa using hj)]
set_option maxHeartbeats 1000000 in
theorem began_any (zs : List Int) (A : Option Addr) (c : Nat) (s : Int) (w : World) (hl : zs.length ≤ 140737488351232) (h : Sl w w.heap.size A (i8s zs)) :
    Calls Try.prog 21 #[.slice A zs.length c, .int .i8 s] w fun e w' => ∃ A' c', e = .returned (.tuple #[.slice A' (zs.map clsL).length c', .int .i8 (sosL s)]) ∧ Own w' 23 w.heap.size (.slice A' (zs.map clsL).length c') (i8s (zs.map clsL)) ∧ Below w.heap.size w w' := by
  obtain ⟨i0, hi0, hz0, hz1, hz2⟩ := info_parts info23
  by_cases hs : s = 1
  all_goals
    go_enter Try.func21, Try.ntmps21
    go_wp2_with (first
     | (at_make; refine wpList_make_full _ rfl (.tmp 10) (.tmp 10) 22 rfl w.heap.size 23 i0 _ 1 Try.underlying22 hi0 hz0 hz1 .i64 .i64 zs.length zs.length zs.length rfl rfl rfl rfl (by rw [hz2]; omega) (by unfold maxLen; omega) (Nat.le_refl _) ?_; intro w1 hown hg))
    go_loopw [14] (fun i wr => ∃ k : Nat, ∃ ys : List Int, k ≤ zs.length ∧ i = .int .i64 k ∧ Own wr 23 w.heap.size (.slice (some ⟨w.heap.size, 0, none⟩) zs.length zs.length) (i8s ys) ∧ Did clsL zs ys k ∧ Below w.heap.size w wr)
      (fun i _ => zs.length - (intOf i).toNat)
    case atStart =>
      rw [show (Value.int IntKind.i8 0).cells = #[Value.int .i8 0] from rfl, Nat.mul_one, toList_madeCells_one] at hown
      exact ⟨0, List.replicate zs.length 0, by omega, rfl, by simpa [Own, i8s] using hown, ⟨by simp, fun j hj => by omega⟩, (Below.refl _ _).grown hg (Nat.le_refl _) (by simp)⟩
    case round =>
      obtain ⟨k, ys, hk, rfl, hown, hdid, hb⟩ := hrel
      by_cases hlt : k < zs.length
      · obtain ⟨ad, rfl, hadb, hcell⟩ := sl_at8 (h.below hb) hlt
        have hf := hown.free k
        have hyl := hdid.1
        have hc := hown.cell k (by simp; omega)
        have R : ∀ x, x = clsL zs[k] → Own (wr.setCell ⟨w.heap.size, k, none⟩ (.int .i8 x)) 23 w.heap.size (.slice (some ⟨w.heap.size, 0, none⟩) zs.length zs.length) (i8s (ys.set k (clsL zs[k]))) ∧
            Below w.heap.size w (wr.setCell ⟨w.heap.size, k, none⟩ (.int .i8 x)) := by
          rintro x rfl; exact ⟨own_set hown k _, hb.setCell (p := ⟨w.heap.size, k, none⟩) (Nat.le_refl _) _⟩
        have R2 := hdid.step hlt
        have HR := Lib.hid R; clear R
        have HR2 := Lib.hid R2; clear R2
        obtain ⟨old, hc'⟩ : ∃ old, wr.cell? ⟨w.heap.size, k, none⟩ = some old := ⟨_, hc⟩
        clear hc hown hdid hb hyl
        go_wp2
        all_goals
          go_roundw
          case rel => exact ⟨k + 1, _, by omega, by go_num, (HR.out _ (by unfold clsL; first | (rw [if_pos]; omega) | (rw [if_neg]; omega))).1, HR2.out, (HR.out _ (by unfold clsL; first | (rw [if_pos]; omega) | (rw [if_neg]; omega))).2⟩
          case measure => simp [intOf]; omega
      · go_wp2
        go_ret2
        have hk' : k = zs.length := by omega
        subst hk'
        have hd := hdid.done
        subst hd
        rw [List.length_map]
        exact ⟨_, _, by simp [sosL, hs], hown, hb⟩
def rulesV : Value := .agg #[.func (.func 28) #[] #[], .func (.func 29) #[] #[], .func (.func 30) #[] #[], .func (.func 31) #[] #[], .func (.func 32) #[] #[], .func (.func 33) #[] #[], .func (.func 34) #[] #[]]
set_option maxHeartbeats 1000000 in
theorem rules_any (w : World) : Calls Try.prog 22 #[] w fun e w' => e = .returned rulesV ∧ Below w.heap.size w w' := by
  go_enter Try.func22, Try.ntmps22
  go_wp2
  refine bodyPost_ret (v := rulesV) (by simp [results, Try.results22, go_sem, rulesV]) rfl ⟨rfl, ?_⟩
  exact (Below.refl _ _).alloc (Nat.le_refl _) _
theorem Own.below_ {w w' : World} {e : TypeId} {B : Nat} {v : Value} {xs : List Value} (h : Own w e B v xs) (hb : Below w.heap.size w w') : Own w' e B v xs :=
  h.kept (row := none) (grown_of_below hb none) (by cases hv : v.ownBlock <;> simp)
/-- a rule's contract, the length by another name -/
theorem Rule.call {f : FuncId} {F : List Int → Int → List Int} (h : Rule f F) (zs : List Int) (A : Option Addr) (n c : Nat) (s : Int) (w : World) (B : Nat) (hn : zs.length = n) (hl : n ≤ 140737488351232) (hB : B ≤ w.heap.size)
    (ho : Own w 23 B (.slice A n c) (i8s zs)) : Calls Try.prog f #[.slice A n c, .int .i8 s] w fun e w' =>
      e = .returned (.tuple #[]) ∧ Own w' 23 B (.slice A n c) (i8s (F zs s)) ∧ Below B w w' ∧ B ≤ w'.heap.size := by
  subst hn
  refine (h zs A c s w B hl ho).mono ?_
  rintro e w' ⟨rfl, h1, h2⟩
  exact ⟨rfl, h1, below_of_grown h2 hB fun k hk => (ho.lt k hk).1, Nat.le_trans hB h2.size⟩
theorem rule_at (k : Nat) (hk : k < 7) : Rule (28 + k) (ruleL ((k : Int) + 1)) := by
  match k, hk with
  | 0, _ => exact marks_rule
  | 1, _ => exact arabic_rule
  | 2, _ => exact letters_rule
  | 3, _ => exact separators_rule
  | 4, _ => exact terminators_rule
  | 5, _ => exact others_rule
  | 6, _ => exact digits_rule
def rulesTo (k : Nat) (zs : List Int) (s : Int) : List Int := (List.range k).foldl (fun l (j : Nat) => ruleL ((j : Int) + 1) l s) zs
theorem rulesTo_succ (k : Nat) (zs : List Int) (s : Int) : rulesTo (k + 1) zs s = ruleL ((k : Int) + 1) (rulesTo k zs s) s := by simp [rulesTo, List.range_succ]
theorem rulesTo_length (k : Nat) (zs : List Int) (s : Int) : (rulesTo k zs s).length = zs.length := by
  induction k with
  | zero => simp [rulesTo]
  | succ k ih => rw [rulesTo_succ, ruleL_length, ih]
theorem rulesTo_seven (zs : List Int) (s : Int) : rulesTo 7 (zs.map clsL) (sosL s) = resolveL zs s := rfl
theorem index_rules0 (w : World) : (Instr.index 39 rulesV (.int .i64 0)).run Try.prog w = .ok (.func (.func 28) #[] #[]) w := by kernel_rfl
theorem index_rules1 (w : World) : (Instr.index 39 rulesV (.int .i64 1)).run Try.prog w = .ok (.func (.func 29) #[] #[]) w := by kernel_rfl
theorem index_rules2 (w : World) : (Instr.index 39 rulesV (.int .i64 2)).run Try.prog w = .ok (.func (.func 30) #[] #[]) w := by kernel_rfl
theorem index_rules3 (w : World) : (Instr.index 39 rulesV (.int .i64 3)).run Try.prog w = .ok (.func (.func 31) #[] #[]) w := by kernel_rfl
theorem index_rules4 (w : World) : (Instr.index 39 rulesV (.int .i64 4)).run Try.prog w = .ok (.func (.func 32) #[] #[]) w := by kernel_rfl
theorem index_rules5 (w : World) : (Instr.index 39 rulesV (.int .i64 5)).run Try.prog w = .ok (.func (.func 33) #[] #[]) w := by kernel_rfl
theorem index_rules6 (w : World) : (Instr.index 39 rulesV (.int .i64 6)).run Try.prog w = .ok (.func (.func 34) #[] #[]) w := by kernel_rfl
set_option maxHeartbeats 1000000 in
theorem resolve_any (zs : List Int) (A : Option Addr) (c : Nat) (s : Int) (w : World) (hl : zs.length ≤ 140737488351232) (h : Sl w w.heap.size A (i8s zs)) :
    Calls Try.prog 11 #[.slice A zs.length c, .int .i8 s] w fun e w' => ∃ A' c', e = .returned (.slice A' zs.length c') ∧ Own w' 23 w.heap.size (.slice A' zs.length c') (i8s (resolveL zs s)) ∧ Below w.heap.size w w' := by
  have hi0 := index_rules0
  have hi1 := index_rules1
  have hi2 := index_rules2
  have hi3 := index_rules3
  have hi4 := index_rules4
  have hi5 := index_rules5
  have hi6 := index_rules6
  go_enter Try.func11, Try.ntmps11
  go_wp2_with fail
  refine (began_any zs A c s w hl h).mono ?_
  rintro e w1 ⟨A', c', rfl, hown, hb⟩
  rw [List.length_map] at *
  have HO := Lib.hid hown
  have HB := Lib.hid hb
  have h1 := hb.size
  clear hown hb
  go_wp2_with fail
  refine (rules_any w1).mono ?_
  rintro e w2 ⟨rfl, hb2⟩
  have HO2 := Lib.hid (HO.out.below_ hb2)
  have HB2 := Lib.hid (HB.out.trans (hb2.mono h1))
  have h2 := hb2.size
  clear hb2 HO HB
  go_wp2_with fail
  go_loopw [15] (fun i wr => ∃ k : Nat, k ≤ 7 ∧ i = .int .i64 k ∧ Own wr 23 w.heap.size (.slice A' zs.length c') (i8s (rulesTo k (zs.map clsL) (sosL s))) ∧ Below w.heap.size w wr)
    (fun i _ => 7 - (intOf i).toNat)
  case atStart => exact ⟨0, by omega, rfl, HO2.out, HB2.out⟩
  case round =>
    obtain ⟨k, hk, rfl, ho, hb⟩ := hrel
    by_cases hlt : k < 7
    · have HO3 := Lib.hid ho
      have HB3 := Lib.hid hb
      have hsz := hb.size
      clear ho hb
      have HH : ∀ w', Own w' 23 w.heap.size (.slice A' zs.length c') (i8s (rulesTo (k + 1) (zs.map clsL) (sosL s))) → Below w.heap.size wr w' → Own w' 23 w.heap.size (.slice A' zs.length c') (i8s (rulesTo (k + 1) (zs.map clsL) (sosL s))) ∧ Below w.heap.size w w' := fun w' h1 h2 => ⟨h1, HB3.out.trans h2⟩
      have HX := Lib.hid HH
      clear HH
      obtain rfl | rfl | rfl | rfl | rfl | rfl | rfl : k = 0 ∨ k = 1 ∨ k = 2 ∨ k = 3 ∨ k = 4 ∨ k = 5 ∨ k = 6 := by omega
      all_goals
        have R := Rule.call (rule_at _ hlt) (rulesTo _ (zs.map clsL) (sosL s)) A' zs.length c' (sosL s) wr w.heap.size (by simp [rulesTo_length]) hl hsz HO3.out
        have HR := Lib.hid R
        clear R
        go_wp2_with fail
        refine HR.out.mono ?_
        rintro e w4 ⟨rfl, ho4, hb4, _⟩
        rw [← rulesTo_succ] at ho4
        have HO4 := Lib.hid (HX.out _ ho4 hb4)
        clear ho4 hb4
        go_wp2
        go_roundw
        case rel => exact ⟨_, by omega, by go_num, HO4.out.1, HO4.out.2⟩
        case measure => simp [intOf]
    · have hk' : k = 7 := by omega
      subst hk'
      rw [rulesTo_seven] at ho
      have HO3 := Lib.hid ho
      clear ho
      go_wp2
      go_ret
      exact ⟨_, _, rfl, HO3.out, hb⟩
end Go.Proofs.Ytlomcnmijfiihaa
