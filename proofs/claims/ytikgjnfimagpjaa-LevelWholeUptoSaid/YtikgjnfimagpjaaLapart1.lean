/- package level: the law's class, begins, join, balanced (printed by gen_apart1.py). -/
import Derived.Test.YtikgjnfimagpjaaLref1
import Derived.Test.YtikgjnfimagpjaaLplain6
namespace Go.Proofs.Ytikgjnfimagpjaa
open Go.RowKit
theorem lclass_any (z : Int) (w : World) : Calls Try.prog 28 #[.int .i8 z] w fun e w' => e = .returned (.int .i8 (clsL z)) ∧ w = w' := by
  by_cases h : z < 0
  · have e : Hid (clsL z = 13) := by show _ = _; unfold clsL; rw [if_pos (.inl h)]
    go_enter Try.func28, Try.ntmps28
    go_wp2
    go_ret
    exact ⟨ret_int' e.out, rfl⟩
  · by_cases h2 : 22 < z
    · have e : Hid (clsL z = 13) := by show _ = _; unfold clsL; rw [if_pos (.inr h2)]
      go_enter Try.func28, Try.ntmps28
      go_wp2
      go_ret
      exact ⟨ret_int' e.out, rfl⟩
    · have e : Hid (clsL z = z) := by show _ = _; unfold clsL; rw [if_neg (by omega)]
      go_enter Try.func28, Try.ntmps28
      go_wp2
      go_ret
      exact ⟨ret_int' e.out, rfl⟩
theorem lbegins_any (d : Int) (w : World) : Calls Try.prog 30 #[.int .i8 d] w fun e w' => e = .returned (.bool (opensB d)) ∧ w = w' := by
  by_cases h1 : d = 19
  · subst h1
    go_enter Try.func30, Try.ntmps30
    go_wp2
    go_ret
    exact ⟨rfl, rfl⟩
  by_cases h2 : d = 20
  · subst h2
    go_enter Try.func30, Try.ntmps30
    go_wp2
    go_ret
    exact ⟨rfl, rfl⟩
  have b1 : (d == 19) = false := by simpa using h1
  have b2 : (d == 20) = false := by simpa using h2
  have e : Hid (opensB d = (d == 21)) := by
    show _ = _
    unfold opensB
    by_cases h3 : d = 21
    · subst h3; rfl
    · have : (d == 21) = false := by simpa using h3
      rw [this]
      simp
      omega
  clear h1 h2
  go_enter Try.func30, Try.ntmps30
  go_wp2
  go_ret
  exact ⟨ret_bool' e.out, rfl⟩
/-- a slice that came in is appended to one's own -/
theorem own_step {w0 w w' : World} {e : TypeId} {A : Option Addr} {n c : Nat} {xs : List Value} {v' : Value} (hb : Below w0.heap.size w0 w) (ho : Own w e w0.heap.size (.slice A n c) xs) (ha : Appended w w' (.slice A n c) v') : Below w0.heap.size w0 w' :=
  hb.trans (appended_below ha hb.size fun g hg => (ho.lt g hg).1)
set_option maxHeartbeats 2000000 in
theorem join_any (a u b : List Int) (s : Int) (A U Bd : Option Addr) (ca cu cb : Nat) (w : World) (hl : a.length + u.length + b.length ≤ 4194304) (h : Sl w w.heap.size A (ints .i8 a)) (h2 : Sl w w.heap.size U (ints .i8 u)) (h3 : Sl w w.heap.size Bd (ints .i8 b)) :
    Calls Try.prog 31 #[.slice A a.length ca, .int .i8 s, .slice U u.length cu, .slice Bd b.length cb] w fun e w' => ∃ v, e = .returned v ∧ Own w' 23 w.heap.size v (ints .i8 (a ++ s :: (u ++ 22 :: b))) ∧ Below w.heap.size w w' := by
  obtain ⟨i0, hi0, hz0, hz1, hz2⟩ := info_parts info23
  have HU := Lib.hid h2
  have HBd := Lib.hid h3
  have HN := Lib.hid (Own.nil_ w 23 w.heap.size)
  go_enter Try.func31, Try.ntmps31
  go_wp2_with (first
    | (at_builtin; refine wpList_append_sl2 _ rfl (.tmp 10) (.tmp 11) 22 rfl w.heap.size 23 i0 _ 1 Try.underlying22 hi0 hz0 hz1 hz2 rfl (.slice none 0 0) 0 [] rfl rfl HN.out w.heap.size A ca a.length (ints .i8 a) (by simp) rfl h (ints_one _ _) (by unfold maxLen; omega) (by omega) (Nat.le_refl _) ?_; intro A1 c1 w1 ho1 ha1
       rw [Nat.zero_add] at *
       have HB1 := Lib.hid (own_step (Below.refl _ _) HN.out ha1)
       have HO1 := Lib.hid ho1
       rw [List.nil_append] at HO1
       clear ho1 ha1)
    | (at_builtin; refine wpList_append_sl2 _ rfl (.tmp 13) (.tmp 15) 22 rfl w.heap.size 23 i0 _ 1 Try.underlying22 hi0 hz0 hz1 hz2 rfl (.slice A1 a.length c1) a.length (ints .i8 a) (by simp) rfl (HO1.out.alloc _) _ _ _ 1 [.int .i8 s] rfl rfl (sl_one' _ _ _ _ (by simp)) (one_int _ _) (by unfold maxLen; omega) (by omega) (by rw [size_alloc']; have := HB1.out.size; omega) ?_; intro A2 c2 w2 ho2 ha2
       have HB2 := Lib.hid (own_step (HB1.out.alloc HB1.out.size _) (HO1.out.alloc _) ha2)
       have HO2 := Lib.hid ho2
       rw [ints_snoc] at HO2
       clear ho2 ha2)
    | (at_builtin; refine wpList_append_sl2 _ rfl (.tmp 17) (.tmp 18) 22 rfl w.heap.size 23 i0 _ 1 Try.underlying22 hi0 hz0 hz1 hz2 rfl (.slice A2 (a.length + 1) c2) (a.length + 1) (ints .i8 (a ++ [s])) (by simp) rfl HO2.out w.heap.size U cu u.length (ints .i8 u) (by simp) rfl (HU.out.below HB2.out) (ints_one _ _) (by unfold maxLen; omega) (by omega) (HB2.out.size) ?_; intro A3 c3 w3 ho3 ha3
       have HB3 := Lib.hid (own_step HB2.out HO2.out ha3)
       have HO3 := Lib.hid ho3
       rw [← ints_app] at HO3
       clear ho3 ha3)
    | (at_builtin; refine wpList_append_sl2 _ rfl (.tmp 20) (.tmp 21) 22 rfl w.heap.size 23 i0 _ 1 Try.underlying22 hi0 hz0 hz1 hz2 rfl (.slice A3 (a.length + 1 + u.length) c3) (a.length + 1 + u.length) (ints .i8 (a ++ [s] ++ u)) (by simp; omega) rfl (HO3.out.alloc _) _ _ _ 1 [.int .i8 22] rfl rfl (sl_one' _ _ _ _ (by simp)) (one_int _ _) (by unfold maxLen; omega) (by omega) (by rw [size_alloc']; have := HB3.out.size; omega) ?_; intro A4 c4 w4 ho4 ha4
       have HB4 := Lib.hid (own_step (HB3.out.alloc HB3.out.size _) (HO3.out.alloc _) ha4)
       have HO4 := Lib.hid ho4
       rw [ints_snoc] at HO4
       clear ho4 ha4)
    | (at_builtin; refine wpList_append_sl2 _ rfl (.tmp 23) (.tmp 24) 22 rfl w.heap.size 23 i0 _ 1 Try.underlying22 hi0 hz0 hz1 hz2 rfl (.slice A4 (a.length + 1 + u.length + 1) c4) (a.length + 1 + u.length + 1) (ints .i8 (a ++ [s] ++ u ++ [22])) (by simp; omega) rfl HO4.out w.heap.size Bd cb b.length (ints .i8 b) (by simp) rfl (HBd.out.below HB4.out) (ints_one _ _) (by unfold maxLen; omega) (by omega) (HB4.out.size) ?_; intro A5 c5 w5 ho5 ha5
       have HB5 := Lib.hid (own_step HB4.out HO4.out ha5)
       have HO5 := Lib.hid ho5
       rw [← ints_app] at HO5
       clear ho5 ha5))
  exact bodyPost_ret (v := .slice A5 (a.length + 1 + u.length + 1 + b.length) c5) (by simp [results, Try.results31, go_sem]) rfl ⟨_, rfl, by have := HO5.out; simpa [List.append_assoc] using this, HB5.out⟩
/-- the kept ones among the first k -/
def kt (pr zs : List Int) : Nat → List Int
  | 0 => []
  | k + 1 => if 0 ≤ pr.getD k 0 ∨ (opensB (clsL (zs.getD k 0)) = false ∧ clsL (zs.getD k 0) ≠ 22) then kt pr zs k ++ [zs.getD k 0] else kt pr zs k
theorem kt_kf (pr zs : List Int) : ∀ k, k ≤ zs.length → kt pr zs k ++ kf pr k (zs.drop k) = kf pr 0 zs
  | 0, _ => rfl
  | k + 1, hk => by
    rw [← kt_kf pr zs k (by omega), drop_cons zs k (by omega), kf_cons]
    show (if _ then _ else _) ++ _ = _
    split
    · rw [List.append_assoc]; rfl
    · rfl
theorem plainL_snoc (xs : List Int) (k : Nat) (hk : k < xs.length) : plainL (xs.take (k + 1)) = plainL (xs.take k) ++ if clsL (xs.getD k 0) = 10 then [] else [xs.getD k 0] := by
  rw [← take_snoc' xs k hk]
  unfold plainL
  rw [List.filter_append]
  by_cases h : clsL (xs.getD k 0) = 10
  · rw [if_pos h]
    simp only [List.filter_cons, List.filter_nil, h]
    rfl
  · rw [if_neg h]
    simp only [List.filter_cons, List.filter_nil]
    rw [if_pos (by simpa using h)]
end Go.Proofs.Ytikgjnfimagpjaa
