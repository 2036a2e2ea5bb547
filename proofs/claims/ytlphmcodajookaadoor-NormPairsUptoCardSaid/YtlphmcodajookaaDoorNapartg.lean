/- norm: Apart, Same: the walks. -/
import Derived.Test.YtlphmcodajookaaDoorNapart
import Derived.Test.YtlphmcodajookaaDoorNAplain
namespace Go.Proofs.YtlphmcodajookaaDoor
open Go.RowKit
theorem It.ok.range {x : It} (h : x.ok) : -2147483648 ≤ x.r ∧ x.r ≤ 2147483647 := by
  rcases h with ⟨_, h, _⟩ | ⟨_, _, h⟩
  · omega
  · unfold okR at h; omega
theorem apart_len (s : List UInt8) : (apartI s).length ≤ s.length * 8 := by
  have h1 : (apartI s).length = (flatI (rawL s)).length := ordK_length _ _
  have h2 := flat_len (rawL s)
  have h3 : (rawL s).length ≤ s.length := by
    have := places_zero (str s)
    rw [str_list] at this
    rw [← this, List.length_map]
    have := places_le (str s) (str s).size 0 (by omega)
    rw [str_size] at this
    omega
  omega
theorem apartS_len (s : List UInt8) : (apartS s).length ≤ s.length * 32 := by
  have h1 := apart_len s
  have h2 := textI_le (apartI s)
  unfold apartS
  omega
set_option maxRecDepth 20000 in
set_option maxHeartbeats 4000000 in
theorem apartG_any (s : ByteArray) (w : World) (hs : s.size ≤ 1099511627776) (hT : Lib.Utf8Tabs 0 1 w) :
    Calls Tryd.prog 29 #[.string s] w fun e w' => e = .returned (.string (str (apartS s.data.toList))) ∧ Stay [] w w' := by
  have H1 := Lib.hid (apart_any s w hs hT)
  have HL := Lib.hid (show (apartI s.data.toList).length ≤ 35184372088832 from Nat.le_trans (apart_len s.data.toList) (by show s.size * 8 ≤ _; omega))
  clear hs hT
  go_enter Tryd.func29, Tryd.ntmps29
  go_wp2_with fail
  refine H1.out.mono ?_
  rintro e w1 ⟨A, c, rfl, hi, hs1⟩
  have H2 := Lib.hid (text_any A c _ (apartI s.data.toList) w1 rfl hi HL.out (fun x hx => ((apartI_parted s.data.toList).ok x hx).range))
  have HS := Lib.hid hs1
  clear hi hs1
  go_wp2_with fail
  refine H2.out.mono ?_
  rintro e w2 ⟨rfl, hs2⟩
  have HS2 := Lib.hid (HS.out.trans hs2)
  clear hs2
  go_wp2_with fail
  go_ret
  exact ⟨rfl, HS2.out⟩
theorem str_toList (l : List UInt8) : (str l).toList = l := by rw [ByteArray.toList_eq]; rfl
set_option maxRecDepth 20000 in
set_option maxHeartbeats 4000000 in
theorem sameG_any (a b : ByteArray) (w : World) (ha : a.size ≤ 1099511627776) (hb : b.size ≤ 1099511627776) (hT : Lib.Utf8Tabs 0 1 w) :
    Calls Tryd.prog 33 #[.string a, .string b] w fun e w' => e = .returned (.bool (decide (apartS a.data.toList = apartS b.data.toList))) ∧ Stay [] w w' := by
  have H1 := Lib.hid (apartG_any a w ha hT)
  have H2 := Lib.hid (fun w' (hs : Stay [] w w') => apartG_any b w' hb (Utf8Tabs_below hT (hs.toBelow (Nat.le_refl _) (by simp))))
  obtain ⟨x, hx⟩ : ∃ x, x = apartS a.data.toList := ⟨_, rfl⟩
  obtain ⟨y, hy⟩ : ∃ x, x = apartS b.data.toList := ⟨_, rfl⟩
  rw [← hx] at H1
  rw [← hy] at H2
  rw [← hx, ← hy]
  clear ha hb hT hx hy
  go_enter Tryd.func33, Tryd.ntmps33
  go_wp2_with fail
  refine H1.out.mono ?_
  rintro e w1 ⟨rfl, hs1⟩
  have HS := Lib.hid hs1
  clear hs1
  go_wp2_with fail
  refine (H2.out _ HS.out).mono ?_
  rintro e w2 ⟨rfl, hs2⟩
  have HS2 := Lib.hid (HS.out.trans hs2)
  clear hs2
  go_wp2_with fail
  rw [str_toList, str_toList, show (x == y) = decide (x = y) from by rw [Bool.eq_iff_iff]; simp]
  go_ret
  exact ⟨rfl, HS2.out⟩
end Go.Proofs.YtlphmcodajookaaDoor
