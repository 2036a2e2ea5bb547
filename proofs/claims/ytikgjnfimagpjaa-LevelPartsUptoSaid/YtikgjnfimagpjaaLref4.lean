/- package level: the document's Base. -/
import Derived.Test.YtikgjnfimagpjaaLref3
namespace Go.Proofs.Ytikgjnfimagpjaa
open Go.RowKit
theorem strongP_01 : ∀ (zs : List Int) (d : Nat), strongP d zs = 0 ∨ strongP d zs = 1
  | [], _ => .inl rfl
  | z :: zs, d => by
    rw [strongP_cons]
    have h1 := strongP_01 zs
    repeat' split
    all_goals first | exact h1 _ | exact .inl rfl | exact .inr rfl
theorem class_at (zs : List Int) (m i : Nat) (hi : i < ((zs.map clsL).take m).length) : clsL (((zs.map clsL).take m).getD i 0) = ((zs.map clsL).take m).getD i 0 := by
  have h1 : i < m ∧ i < zs.length := by simp at hi; omega
  rw [take_getD _ _ _ h1.1]
  have : (zs.map clsL).getD i 0 = clsL (zs.getD i 0) := by simp [List.getD_eq_getElem?_getD, h1.2]
  rw [this, clsL_twice]
/-- what goes with a sign that begins an isolate lies behind it -/
theorem pairs_ahead (l : List Int) (hc : ∀ i, i < l.length → clsL (l.getD i 0) = l.getD i 0) (i : Nat) (hi : i < l.length) (ho : opensB (l.getD i 0) = true) : (pairsL l).getD i 0 < 0 ∨ ((i : Int) < (pairsL l).getD i 0 ∧ (pairsL l).getD i 0 < l.length) := by
  have hp := pairsL_open l i hi (by rw [hc i hi]; exact ho)
  rw [hp]
  have hlen : (l.drop (i + 1)).length = l.length - (i + 1) := by simp
  rcases afterL_ge (l.drop (i + 1)) 0 (i + 1) with h | h
  · rw [if_pos (show afterL 0 (i + 1) (l.drop (i + 1)) < 0 by omega)]
    exact .inl (by decide)
  · rw [if_neg (show ¬ afterL 0 (i + 1) (l.drop (i + 1)) < 0 by omega)]
    rw [hlen] at h
    exact .inr ⟨by omega, by omega⟩
set_option maxHeartbeats 2000000 in
theorem rbase_any (zs : List Int) (A : Option Addr) (c : Nat) (want : Int) (w : World) (hl : zs.length ≤ 2097152) (h : Sl w w.heap.size A (ints .i8 zs)) :
    Calls Try.prog 15 #[.slice A zs.length c, .int .i8 want] w fun e w' => e = .returned (.int .u8 (baseL zs want)) ∧ Below w.heap.size w w' := by
  by_cases h1 : want = 1
  · subst h1
    go_enter Try.func15, Try.ntmps15
    go_wp2
    go_ret
    exact ⟨rfl, Below.refl _ _⟩
  by_cases h2 : want = 2
  · subst h2
    go_enter Try.func15, Try.ntmps15
    go_wp2
    go_ret
    exact ⟨rfl, Below.refl _ _⟩
  have b1 : (want == 1) = false := by simpa using h1
  have b2 : (want == 2) = false := by simpa using h2
  have HX := Lib.hid (show baseL zs want = strongP 0 zs from by unfold baseL; rw [if_neg h1, if_neg h2])
  have HC := Lib.hid (classes_any zs A c w hl h)
  obtain ⟨m, hm⟩ : ∃ m, m = paraE 0 (zs.map clsL) := ⟨_, rfl⟩
  have hge := paraE_ge (zs.map clsL) 0
  rw [List.length_map] at hge
  have hmn : m ≤ zs.length := by omega
  have hlt : ((zs.map clsL).take m).length = m := by rw [List.length_take, List.length_map]; omega
  have hstr := strongR_base ((zs.map clsL).take m) (class_at zs m) (by
    intro i hi h10
    rw [hlt] at hi ⊢
    rw [take_getD _ _ _ hi] at h10
    rw [hm]
    exact para_last _ _ (by omega) h10) (m + 1) 0 (by omega)
  rw [hlt, List.drop_zero, hm, strongP_para, ← hm] at hstr
  have hpa := pairs_ahead ((zs.map clsL).take m) (class_at zs m)
  rw [hlt] at hpa
  obtain ⟨b, hb, hb2⟩ : ∃ b : Bool, decide (strongP 0 zs = 1) = b ∧ strongP 0 zs = if b = true then 1 else 0 := by
    rcases strongP_01 zs 0 with h | h
    · exact ⟨false, by rw [h]; rfl, by rw [h]; rfl⟩
    · exact ⟨true, by rw [h]; rfl, by rw [h]; rfl⟩
  rw [hb] at hstr
  rw [hb2] at HX
  have HSt := Lib.hid hstr
  have HPA := Lib.hid hpa
  have HLt := Lib.hid hlt
  have HM := Lib.hid hm
  clear h h1 h2 hge hstr hpa hlt hm hb hb2
  have hmi : (m : Int) ≤ zs.length := by omega
  cases b <;> go_enter Try.func15, Try.ntmps15 <;> go_wp2_with (first
    | (go_at_call 33; refine HC.out.mono ?_; rintro e w1 ⟨CA, cc, rfl, hco, hcb⟩
       have hcap := hco.cap
       rw [ints_length, List.length_map] at hcap
       have hsl := hco.sl
       have hpara := para_any (zs.map clsL) CA cc 0 w1 (by rw [List.length_map]; exact hl) (Nat.zero_le _) hsl
       rw [List.length_map, List.drop_zero, ← HM.out] at hpara
       have hsl2 : Sl w1 w1.heap.size CA (ints .i8 ((zs.map clsL).take m)) := by
         have := sl_take hsl m
         simpa [ints, List.map_take] using this
       have hpairs := rpairs_any ((zs.map clsL).take m) CA cc w1 (by rw [HLt.out]; omega) hsl2
       rw [HLt.out] at hpairs
       have HPr := Lib.hid hpairs
       have HPa := Lib.hid hpara
       have HSl := Lib.hid hsl2
       have HCB := Lib.hid hcb
       have hmc : (m : Int) ≤ cc := by omega
       clear hco hcb hsl hsl2 hpairs hpara)
    | (go_at_call 39; refine HPa.out.mono ?_; rintro e w' ⟨rfl, rfl⟩)
    | (go_at_call 11; refine HPr.out.mono ?_; rintro e w2 ⟨PA, pc, rfl, hpo, hpb⟩
       have hs := strong_any ((zs.map clsL).take m) (pairsL ((zs.map clsL).take m)) CA PA cc pc m 0 m w2 HLt.out (by rw [pairsL_length]; exact HLt.out) (by omega) (Nat.le_refl _) (Nat.zero_le _) HPA.out ((HSl.out.below hpb).more hpb.size) hpo.sl
       rw [HSt.out] at hs
       have HS := Lib.hid hs
       have HPB := Lib.hid hpb
       clear hs hpo hpb)
    | (go_at_call 40; refine HS.out.mono ?_; rintro e w' ⟨rfl, rfl⟩))
  all_goals
    go_ret
    exact ⟨ret_int' HX.out, HCB.out.trans (HPB.out.mono HCB.out.size)⟩
end Go.Proofs.Ytikgjnfimagpjaa
