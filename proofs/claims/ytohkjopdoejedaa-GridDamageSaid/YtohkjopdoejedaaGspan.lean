/- package grid: span. -/
import Derived.Test.YtohkjopdoejedaaGspec
import Derived.Test.YtohkjopdoejedaaMinMax
import Derived.Test.YtohkjopdoejedaaProg
namespace Go.Proofs.Ytohkjopdoejedaa
open Go.RowKit
set_option maxHeartbeats 4000000 in
theorem span_any (at_ n most : Int) (w : World) (ha : -9223372036854775808 ≤ at_ ∧ at_ ≤ 9223372036854775807) (hn : -9223372036854775808 ≤ n ∧ n ≤ 9223372036854775807) (hm : 0 ≤ most ∧ most ≤ 1024) :
    Calls Try.prog 43 #[.int .i64 at_, .int .i64 n, .int .i64 most] w fun e w' => e = .returned (.tuple #[.int .i64 (spanL at_ n most).1, .int .i64 (spanL at_ n most).2]) ∧ w = w' := by
  obtain ⟨f0, hf0⟩ : ∃ f0 : Int, f0 = max at_ 0 := ⟨_, rfl⟩
  obtain ⟨fr, hfr⟩ : ∃ fr : Int, fr = min f0 most := ⟨_, rfl⟩
  have HX := Lib.hid (show spanL at_ n most = if n ≤ 0 then (fr, fr) else if at_ < 0 then (fr, min (max (at_ + n) fr) most) else (fr, min (max (fr + min n (most - fr)) fr) most) from by rw [hfr, hf0]; rfl)
  have h1 := Lib.hid (fun ts t w => (max_ints (P := Try.prog) at_ 0 ts t w).trans (by rw [← hf0]) : ∀ (ts : Array TypeId) (t : TypeId) (w : World), (Builtin.max_ ts t #[.int .i64 at_, .int .i64 0]).run Try.prog w = .ok (.int .i64 f0) w)
  have h2 := Lib.hid (fun ts t w => (min_ints (P := Try.prog) f0 most ts t w).trans (by rw [← hfr]) : ∀ (ts : Array TypeId) (t : TypeId) (w : World), (Builtin.min_ ts t #[.int .i64 f0, .int .i64 most]).run Try.prog w = .ok (.int .i64 fr) w)
  have hb : 0 ≤ fr ∧ fr ≤ most := by omega
  obtain ⟨hb1, hb2⟩ := hb
  obtain ⟨ha1, ha2⟩ := ha
  obtain ⟨hn1, hn2⟩ := hn
  obtain ⟨hm1, hm2⟩ := hm
  clear hf0 hfr
  by_cases hn0 : n ≤ 0
  · have HV := Lib.hid (HX.out.trans (if_pos hn0))
    go_enter Try.func43, Try.ntmps43
    go_wp2_with (first
      | (refine wpList_max' rfl (.tmp 8) (.const (.int .i64 0)) #[3, 3] rfl (.int .i64 at_) (.int .i64 0) (.int .i64 f0) rfl rfl h1.out ?_)
      | (refine wpList_min' rfl (.tmp 9) (.tmp 10) #[3, 3] rfl (.int .i64 f0) (.int .i64 most) (.int .i64 fr) rfl rfl h2.out ?_))
    exact bodyPost_ret (v := .tuple #[.int .i64 fr, .int .i64 fr]) (by simp [results, Try.results43, go_sem]) rfl ⟨by rw [HV.out], rfl⟩
  · have hX1 := HX.out.trans (if_neg hn0)
    by_cases ha0 : at_ < 0
    · have hV := hX1.trans (if_pos ha0)
      obtain ⟨s, hs⟩ : ∃ s : Int, s = at_ + n := ⟨_, rfl⟩
      obtain ⟨m1, hm1'⟩ : ∃ m1 : Int, m1 = max s fr := ⟨_, rfl⟩
      obtain ⟨m2, hm2'⟩ : ∃ m2 : Int, m2 = min m1 most := ⟨_, rfl⟩
      have h3 := Lib.hid (fun ts t w => (max_ints (P := Try.prog) s fr ts t w).trans (by rw [← hm1']) : ∀ (ts : Array TypeId) (t : TypeId) (w : World), (Builtin.max_ ts t #[.int .i64 s, .int .i64 fr]).run Try.prog w = .ok (.int .i64 m1) w)
      have h4 := Lib.hid (fun ts t w => (min_ints (P := Try.prog) m1 most ts t w).trans (by rw [← hm2']) : ∀ (ts : Array TypeId) (t : TypeId) (w : World), (Builtin.min_ ts t #[.int .i64 m1, .int .i64 most]).run Try.prog w = .ok (.int .i64 m2) w)
      rw [← hs, ← hm1', ← hm2'] at hV
      have HV := Lib.hid hV
      have hse : at_ + n = s := hs.symm
      have hsb : -9223372036854775808 ≤ s ∧ s ≤ 9223372036854775807 := by omega
      obtain ⟨hsb1, hsb2⟩ := hsb
      clear hX1 hV hm1' hm2' hs
      go_enter Try.func43, Try.ntmps43
      go_wp2_with (first
        | (refine wpList_max' rfl (.tmp 8) (.const (.int .i64 0)) #[3, 3] rfl (.int .i64 at_) (.int .i64 0) (.int .i64 f0) rfl rfl h1.out ?_)
        | (refine wpList_min' rfl (.tmp 9) (.tmp 10) #[3, 3] rfl (.int .i64 f0) (.int .i64 most) (.int .i64 fr) rfl rfl h2.out ?_)
        | (refine wpList_max' rfl (.tmp 31) (.tmp 32) #[3, 3] rfl (.int .i64 s) (.int .i64 fr) (.int .i64 m1) rfl rfl h3.out ?_)
        | (refine wpList_min' rfl (.tmp 33) (.tmp 34) #[3, 3] rfl (.int .i64 m1) (.int .i64 most) (.int .i64 m2) rfl rfl h4.out ?_))
      exact bodyPost_ret (v := .tuple #[.int .i64 fr, .int .i64 m2]) (by simp [results, Try.results43, go_sem]) rfl ⟨by rw [HV.out], rfl⟩
    · have hV := hX1.trans (if_neg ha0)
      obtain ⟨df, hdf⟩ : ∃ df : Int, df = most - fr := ⟨_, rfl⟩
      obtain ⟨m0, hm0'⟩ : ∃ m0 : Int, m0 = min n df := ⟨_, rfl⟩
      obtain ⟨s, hs⟩ : ∃ s : Int, s = fr + m0 := ⟨_, rfl⟩
      obtain ⟨m1, hm1'⟩ : ∃ m1 : Int, m1 = max s fr := ⟨_, rfl⟩
      obtain ⟨m2, hm2'⟩ : ∃ m2 : Int, m2 = min m1 most := ⟨_, rfl⟩
      have h5 := Lib.hid (fun ts t w => (min_ints (P := Try.prog) n df ts t w).trans (by rw [← hm0']) : ∀ (ts : Array TypeId) (t : TypeId) (w : World), (Builtin.min_ ts t #[.int .i64 n, .int .i64 df]).run Try.prog w = .ok (.int .i64 m0) w)
      have h3 := Lib.hid (fun ts t w => (max_ints (P := Try.prog) s fr ts t w).trans (by rw [← hm1']) : ∀ (ts : Array TypeId) (t : TypeId) (w : World), (Builtin.max_ ts t #[.int .i64 s, .int .i64 fr]).run Try.prog w = .ok (.int .i64 m1) w)
      have h4 := Lib.hid (fun ts t w => (min_ints (P := Try.prog) m1 most ts t w).trans (by rw [← hm2']) : ∀ (ts : Array TypeId) (t : TypeId) (w : World), (Builtin.min_ ts t #[.int .i64 m1, .int .i64 most]).run Try.prog w = .ok (.int .i64 m2) w)
      rw [← hdf, ← hm0', ← hs, ← hm1', ← hm2'] at hV
      have HV := Lib.hid hV
      have hse : fr + m0 = s := hs.symm
      have hde : most - fr = df := hdf.symm
      have hb3 : -1024 ≤ df ∧ df ≤ 1024 := by omega
      have hb4 : 0 ≤ m0 ∧ m0 ≤ 1024 := by omega
      obtain ⟨hb5, hb6⟩ := hb3
      obtain ⟨hb7, hb8⟩ := hb4
      clear hX1 hV hm0' hm1' hm2' hs hdf
      go_enter Try.func43, Try.ntmps43
      go_wp2_with (first
        | (refine wpList_max' rfl (.tmp 8) (.const (.int .i64 0)) #[3, 3] rfl (.int .i64 at_) (.int .i64 0) (.int .i64 f0) rfl rfl h1.out ?_)
        | (refine wpList_min' rfl (.tmp 9) (.tmp 10) #[3, 3] rfl (.int .i64 f0) (.int .i64 most) (.int .i64 fr) rfl rfl h2.out ?_)
        | (refine wpList_min' rfl (.tmp 13) (.tmp 16) #[3, 3] rfl (.int .i64 n) (.int .i64 df) (.int .i64 m0) rfl rfl h5.out ?_)
        | (refine wpList_max' rfl (.tmp 31) (.tmp 32) #[3, 3] rfl (.int .i64 s) (.int .i64 fr) (.int .i64 m1) rfl rfl h3.out ?_)
        | (refine wpList_min' rfl (.tmp 33) (.tmp 34) #[3, 3] rfl (.int .i64 m1) (.int .i64 most) (.int .i64 m2) rfl rfl h4.out ?_))
      exact bodyPost_ret (v := .tuple #[.int .i64 fr, .int .i64 m2]) (by simp [results, Try.results43, go_sem]) rfl ⟨by rw [HV.out], rfl⟩
end Go.Proofs.Ytohkjopdoejedaa
