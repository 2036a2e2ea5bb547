/- package level: said, lay. -/
import Derived.Test.YtikgjnfimagpjaaLpop
namespace Go.Proofs.Ytikgjnfimagpjaa
open Go.RowKit
theorem PileAt.stay {w w' : World} {B b g n c : Nat} {s : PS} {F : List Nat} (h : PileAt w B b g n c s) (hs : Stay F w w') (hb : b ∉ F) (hg : g ∉ F) : PileAt w' B b g n c s :=
  ⟨h.base, h.blk.stay hs hb, h.len, h.row.stay hs hg, h.far⟩
def saidL (o d : Int) : Int := if o = -1 then d else o
set_option maxHeartbeats 1000000 in
theorem said_any (B b g n c : Nat) (s : PS) (l : List St) (t : St) (hs : s.sts = l ++ [t]) (d : Int) (w : World) (hp : PileAt w B b g n c s) :
    Calls Try.prog 44 #[.pointer (some ⟨b, 0, none⟩), .int .i8 d] w fun e w' => e = .returned (.int .i8 (saidL t.over d)) ∧ Stay [] w w' := by
  have HT := Lib.hid (top_any B b g n c s l t hs w hp)
  clear hp hs
  obtain ⟨o, ho⟩ : ∃ o, o = t.over := ⟨_, rfl⟩
  rw [← ho] at HT ⊢
  clear ho
  have HV : Hid (saidL o d = if o = -1 then d else o) := rfl
  have hfd : ∀ (l o : Int) (i : Bool) (w : World), (Instr.field 61 (.agg #[.int .u8 l, .int .i8 o, .bool i]) 1).run Try.prog w = .ok (.int .i8 o) w := fun _ _ _ _ => by kernel_rfl
  go_enter Try.func44, Try.ntmps44
  by_cases h : o = -1
  · have hb : (o == -1) = true := by simpa using h
    go_wp2_with (first | (go_at_call 43; refine HT.out.mono ?_; rintro e w' ⟨rfl, hst⟩))
    go_ret
    exact ⟨ret_int' (by rw [HV.out, if_pos h]), hst⟩
  · have hb : (o == -1) = false := by simpa using h
    go_wp2_with (first | (go_at_call 43; refine HT.out.mono ?_; rintro e w' ⟨rfl, hst⟩))
    go_ret
    exact ⟨ret_int' (by rw [HV.out, if_neg h]), hst⟩
def upL (odd : Bool) (lev : Int) : Int := if (lev % 2 == 1) = odd then lev + 2 else lev + 1
theorem or_up (lev : Int) (h0 : 0 ≤ lev) (h1 : lev ≤ 125) : bits .or .u8 (lev + 1) 1 = upL true lev := by
  obtain ⟨m, rfl⟩ : ∃ m : Nat, lev = m := ⟨lev.toNat, by omega⟩
  have : ∀ n : Fin 126, bits .or .u8 ((n.1 : Int) + 1) 1 = upL true n.1 := by decide
  exact this ⟨m, by omega⟩
theorem andNot_up (lev : Int) (h0 : 0 ≤ lev) (h1 : lev ≤ 125) : bits .andNot .u8 (lev + 2) 1 = upL false lev := by
  obtain ⟨m, rfl⟩ : ∃ m : Nat, lev = m := ⟨lev.toNat, by omega⟩
  have : ∀ n : Fin 126, bits .andNot .u8 ((n.1 : Int) + 2) 1 = upL false n.1 := by decide
  exact this ⟨m, by omega⟩
set_option maxHeartbeats 2000000 in
theorem lay_no (odd : Bool) (over : Int) (iso : Bool) (B b g n c : Nat) (s : PS) (l : List St) (t : St) (hs : s.sts = l ++ [t]) (w : World) (hp : PileAt w B b g n c s) (h0 : 0 ≤ t.level) (h1 : t.level ≤ 125) (hno : 125 < upL odd t.level ∨ 0 < s.deep ∨ 0 < s.lost) :
    Calls Try.prog 46 #[.pointer (some ⟨b, 0, none⟩), .bool odd, .int .i8 over, .bool iso] w fun e w' => e = .returned (.bool false) ∧ Stay [] w w' := by
  have HT := Lib.hid (fun w' (hst : Stay [] w w') => top_any B b g n c s l t hs w' (hp.stay hst (by simp) (by simp)))
  have HP2 := Lib.hid (fun w' (hst : Stay [] w w') => (hp.stay hst (by simp) (by simp)).blk.cell 2)
  have HP3 := Lib.hid (fun w' (hst : Stay [] w w') => (hp.stay hst (by simp) (by simp)).blk.cell 3)
  simp only [List.getElem?_cons_zero, List.getElem?_cons_succ] at HP2 HP3
  obtain ⟨lev, hlev⟩ : ∃ lev, lev = t.level := ⟨_, rfl⟩
  rw [← hlev] at HT h0 h1 hno
  have hor := or_up lev h0 h1
  have han := andNot_up lev h0 h1
  obtain ⟨x, hx⟩ : ∃ x, x = upL odd lev := ⟨_, rfl⟩
  obtain ⟨dp, hd⟩ : ∃ dp, dp = s.deep := ⟨_, rfl⟩
  obtain ⟨ls, hl⟩ : ∃ ls, ls = s.lost := ⟨_, rfl⟩
  rw [← hx, ← hd, ← hl] at hno
  rw [← hd] at HP2
  rw [← hl] at HP3
  clear hp hs hlev hd hl
  have hfd : ∀ (o : Int) (i : Bool) (w : World), (Instr.field 61 (.agg #[.int .u8 lev, .int .i8 o, .bool i]) 0).run Try.prog w = .ok (.int .u8 lev) w := fun _ _ _ => by kernel_rfl
  cases odd with
  | true =>
    rw [← hx] at hor
    clear han hx
    by_cases g1 : 125 < x
    · have b1 : decide (125 < x) = true := by simpa using g1
      clear hno
      go_enter Try.func46, Try.ntmps46
      go_wp2_with (first | (go_at_call 43; refine (HT.out _ (Stay.refl _ _)).mono ?_; rintro e w1 ⟨rfl, hst1⟩) | (go_at_call 43; refine (HT.out _ hst1).mono ?_; rintro e w2 ⟨rfl, hst2⟩))
      go_ret
      exact ⟨rfl, hst1.trans hst2⟩
    · have b1 : decide (125 < x) = false := by simpa using g1
      by_cases g2 : 0 < dp
      · have b2 : decide ((0 : Int) < (dp : Int)) = true := by simp; omega
        clear hno
        go_enter Try.func46, Try.ntmps46
        go_wp2_with (first | (go_at_call 43; refine (HT.out _ (Stay.refl _ _)).mono ?_; rintro e w1 ⟨rfl, hst1⟩) | (go_at_call 43; refine (HT.out _ hst1).mono ?_; rintro e w2 ⟨rfl, hst2⟩; have hc2 := HP2.out _ (hst1.trans hst2)))
        go_ret
        exact ⟨rfl, hst1.trans hst2⟩
      · have b2 : decide ((0 : Int) < (dp : Int)) = false := by simp; omega
        have g3 : 0 < ls := by omega
        have b3 : decide (0 < ls) = true := by simpa using g3
        clear hno
        go_enter Try.func46, Try.ntmps46
        go_wp2_with (first | (go_at_call 43; refine (HT.out _ (Stay.refl _ _)).mono ?_; rintro e w1 ⟨rfl, hst1⟩) | (go_at_call 43; refine (HT.out _ hst1).mono ?_; rintro e w2 ⟨rfl, hst2⟩; have hc2 := HP2.out _ (hst1.trans hst2); have hc3 := HP3.out _ (hst1.trans hst2)))
        go_ret
        exact ⟨rfl, hst1.trans hst2⟩
  | false =>
    rw [← hx] at han
    clear hor hx
    by_cases g1 : 125 < x
    · have b1 : decide (125 < x) = true := by simpa using g1
      clear hno
      go_enter Try.func46, Try.ntmps46
      go_wp2_with (first | (go_at_call 43; refine (HT.out _ (Stay.refl _ _)).mono ?_; rintro e w1 ⟨rfl, hst1⟩))
      go_ret
      exact ⟨rfl, hst1⟩
    · have b1 : decide (125 < x) = false := by simpa using g1
      by_cases g2 : 0 < dp
      · have b2 : decide ((0 : Int) < (dp : Int)) = true := by simp; omega
        clear hno
        go_enter Try.func46, Try.ntmps46
        go_wp2_with (first | (go_at_call 43; refine (HT.out _ (Stay.refl _ _)).mono ?_; rintro e w1 ⟨rfl, hst1⟩; have hc2 := HP2.out _ hst1))
        go_ret
        exact ⟨rfl, hst1⟩
      · have b2 : decide ((0 : Int) < (dp : Int)) = false := by simp; omega
        have g3 : 0 < ls := by omega
        have b3 : decide (0 < ls) = true := by simpa using g3
        clear hno
        go_enter Try.func46, Try.ntmps46
        go_wp2_with (first | (go_at_call 43; refine (HT.out _ (Stay.refl _ _)).mono ?_; rintro e w1 ⟨rfl, hst1⟩; have hc2 := HP2.out _ hst1; have hc3 := HP3.out _ hst1))
        go_ret
        exact ⟨rfl, hst1⟩
end Go.Proofs.Ytikgjnfimagpjaa
