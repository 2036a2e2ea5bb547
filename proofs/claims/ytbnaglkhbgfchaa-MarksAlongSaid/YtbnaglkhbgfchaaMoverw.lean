/- package marks: Over: the walk. -/
import Derived.Test.YtbnaglkhbgfchaaMorder
namespace Go.Proofs.Ytbnaglkhbgfchaa
open Go.RowKit Go.Sort Go.Lib
/-- what Over hands back: the marks in order of place and number -/
def Overed (w : World) (R : List MK) (e : Ending) (w' : World) : Prop :=
  ∃ (A : Option Addr) (c : Nat) (d : Array MK), e = .returned (.slice A d.size c) ∧ d.toList.Perm R ∧ SortedIn (ltOf cmpM) 0 d.size d ∧ (0 < d.size → ∃ g o, A = some ⟨g, o, none⟩ ∧ w.heap.size ≤ g ∧ g < w'.heap.size ∧ HoldsK MK.cells 5 w' g o d) ∧ Stay [] w w'
theorem OI.left {w wr : World} {sb mb ib ck : Nat} {L : List EN} {last p n : Int} {seen : Array Nat} {O : List EN} {A : Option Addr} {k c : Nat} (h : OI w wr sb mb ib ck L last p n seen O A k c) : leftN wr ib mb = (L.filter fun x => !seen.contains x.bn).length := leftN_eq h.m h.i
theorem OI.perm {w wr : World} {sb mb ib ck : Nat} {L : List EN} {last p n : Int} {seen : Array Nat} {O : List EN} {A : Option Addr} {k c : Nat} (h : OI w wr sb mb ib ck L last p n seen O A k c) (hall : ∀ x ∈ L, seen.contains x.bn = true) : O.Perm L := by
  have hLn : L.Nodup := by
    exact nodup_of_map h.m.nb
  exact (List.perm_ext_iff_of_nodup h.nd hLn).2 (fun a => ⟨h.sub a, fun ha => (h.sn a ha).1 (hall a ha)⟩)
theorem nodup_len {α : Type} : ∀ {O L : List α}, O.Nodup → (∀ x ∈ O, x ∈ L) → O.length ≤ L.length
  | [], _, _, _ => Nat.zero_le _
  | x :: O, L, hn, hs => by
    rw [List.nodup_cons] at hn
    obtain ⟨l1, l2, rfl⟩ := List.append_of_mem (hs x (by simp))
    have h1 : O.length ≤ (l1 ++ l2).length := nodup_len hn.2 (fun y hy => by
      have h2 := hs y (by simp [hy])
      rw [List.mem_append, List.mem_cons] at h2
      rw [List.mem_append]
      rcases h2 with h2 | h2 | h2
      · exact .inl h2
      · exact absurd (h2 ▸ hy) hn.1
      · exact .inr h2)
    simp only [List.length_append, List.length_cons] at h1 ⊢
    omega
set_option maxRecDepth 20000 in
set_option maxHeartbeats 16000000 in
theorem mover_any {w : World} {sb mb ck : Nat} {L : List EN} {last : Int} (h : SetAt w sb mb L ck last) (p n : Int) (hp : -1152921504606846976 ≤ p ∧ p ≤ 9223372036854775807) (hn : 0 ≤ n) (hL : L.length ≤ 4096) :
    Calls Try.prog 17 #[.pointer (some ⟨sb, 0, none⟩), .int .i64 p, .int .i64 n] w (Overed w ((L.filter fun x => overP x.st p n).map EN.mk_)) := by
  have c0 : w.cell? ⟨sb, 0, none⟩ = some (.map (some mb)) := h.blk.cell 0
  have hrg := range_run h.m
  have hsi : Stay [] w (w.alloc (.mapIter (some mb) ck #[] ck)) := ⟨rfl, rfl, rfl, by simp, fun i hi _ => heap_alloc_old w _ hi⟩
  have HO := Lib.hid (show OI w (w.alloc (.mapIter (some mb) ck #[] ck)) sb mb w.heap.size ck L last p n #[] [] none 0 0 from
    ⟨h.m.stay hsi (by simp), IterAt.new _ _ _, h.blk.stay hsi (by simp), hsi, Nat.le_refl _, by simp, List.nodup_nil, fun x hx => by simp, rfl, Win.nil _ _ _ _, fun _ => ⟨rfl, rfl⟩⟩)
  obtain ⟨ib, hib⟩ : ∃ b, b = w.heap.size := ⟨_, rfl⟩
  rw [← hib] at hrg
  have HO := Lib.hid (show OI w (w.alloc (.mapIter (some mb) ck #[] ck)) sb mb ib ck L last p n #[] [] none 0 0 from by rw [hib]; exact HO.out)
  have HOk := Lib.hid h.ok
  have HP := Lib.hid hp
  have q1 : ¬ n < 0 := by omega
  have q2 : ¬ p < -1152921504606846976 := by omega
  have HN := Lib.hid hn
  have HLl := Lib.hid hL
  obtain ⟨R, hR⟩ : ∃ R, R = (L.filter fun x => overP x.st p n).map EN.mk_ := ⟨_, rfl⟩
  rw [← hR]
  have HR := Lib.hid hR
  obtain ⟨i35, hi, hz, hsz, hy⟩ := info_parts info35
  have HI := Lib.hid (And.intro hi (And.intro hz (And.intro hsz hy)))
  clear h hsi hib hp hn hL hR hi hz hsz hy
  go_enter Try.func17, Try.ntmps17
  go_wp2_with fail
  go_loopw [7] (fun lv wr => ∃ (seen : Array Nat) (O : List EN) (A : Option Addr) (k c : Nat), lv = .slice A k c ∧ Hid (OI w wr sb mb ib ck L last p n seen O A k c)) (fun _ wr => leftN wr ib mb)
  case atStart => exact ⟨#[], [], none, 0, 0, rfl, HO⟩
  case round =>
    clear HO hrg c0
    obtain ⟨seen, O, A, k, c, rfl, HOr⟩ := hrel
    rcases next_run 0 HOr.out.m HOr.out.i with ⟨hall, hnx⟩ | ⟨x, hx, hsn, w1, hnx, hst1, hit1⟩
    · have hperm := HOr.out.perm hall
      have HPm := Lib.hid (show ((O.filter fun x => overP x.st p n).map EN.mk_).Perm R from by rw [HR.out]; exact (hperm.filter _).map _)
      obtain ⟨W7, hW7⟩ : ∃ W, W = wr.alloc (.cells #[.func (.func 34) #[] #[], .func (.func 35) #[] #[]] 72) := ⟨_, rfl⟩
      have hs7 : Stay [] wr W7 := by rw [hW7]; exact Stay.alloc _ _
      have hb7 : Blk W7 wr.heap.size [.func (.func 34) #[] #[], .func (.func 35) #[] #[]] 72 := by rw [hW7]; exact Blk.new wr _ _
      obtain ⟨d, hd⟩ : ∃ d : Array MK, d = ((O.filter fun x => overP x.st p n).map EN.mk_).toArray := ⟨_, rfl⟩
      have hdk : d.size = k := by rw [hd, HOr.out.kl]; simp
      have hst7 : Stay [] w W7 := HOr.out.st.trans hs7
      have HF := Lib.hid (show Calls Try.prog 33 #[.slice A k c, .slice (some ⟨wr.heap.size, 0, none⟩) 2 2] W7 (Overed w R) from by
        by_cases hk0 : k = 0
        · obtain ⟨rfl, rfl⟩ := HOr.out.z hk0
          subst hk0
          refine (order_none W7 wr.heap.size).mono ?_
          rintro e w' ⟨rfl, hs⟩
          have hd0 : d = #[] := Array.eq_empty_of_size_eq_zero hdk
          have hl0 : (O.filter fun x => overP x.st p n).map EN.mk_ = [] := by
            have h9 : d.toList = [] := by rw [hd0]
            rw [hd] at h9
            simpa using h9
          exact ⟨none, 0, #[], rfl, by rw [hl0] at HPm; exact HPm.out, fun i j h1 h2 h3 => by simp at h3, fun h => by simp at h, hst7.trans hs⟩
        · obtain ⟨g, o, rfl⟩ := HOr.out.W.addr (by omega)
          have hW7w := (HOr.out.W.stay0 hs7)
          have hkl : k = ((O.filter fun x => overP x.st p n).map EN.mk_).length := by rw [List.length_map]; exact HOr.out.kl
          rw [hkl] at hW7w
          have hH := win_holds hW7w
          rw [← hd] at hH
          have hlt := hW7w.lt
          have hord := order_any (c := c) (pb := wr.heap.size) hH hlt.2 (by
            have h9 := List.length_filter_le (fun x => overP x.st p n) O
            have h10 := hperm.length_eq
            have h11 := HOr.out.kl
            have h12 := HLl.out
            omega) (hb7.cell 0) (hb7.cell 1) (by have := HOr.out.W.lt; omega)
          rw [hdk] at hord
          refine hord.mono ?_
          rintro e w' ⟨rfl, d', h1, h2, h3, h4⟩
          have hsz : d'.size = k := by rw [h1.1, hdk]
          refine ⟨some ⟨g, o, none⟩, c, d', by rw [hsz], ?_, by rw [hsz]; exact h2, fun _ => ⟨g, o, rfl, hlt.1, Nat.lt_of_lt_of_le hlt.2 h4.size, h3⟩, hst7.trans' h4 (fun f hf => .inr (by rw [List.mem_singleton] at hf; rw [hf]; exact hlt.1))⟩
          have h5 := h1.2.2
          rw [show d'.extract 0 k = d' by rw [← hsz]; simp, show d.extract 0 k = d by rw [← hdk]; simp] at h5
          rw [hd] at h5
          exact h5.trans HPm.out)
      have HW7 := Lib.hid hW7
      clear hall hperm hW7 hs7 hb7 hd hdk hst7
      go_upto_region 14 with fail
      go_wp2_with fail
      rw [← HW7.out]
      refine HF.out.mono ?_
      rintro e w' ⟨A', c', d', rfl, hO⟩
      have HFi := Lib.hid (show Overed w R (.returned (.slice A' d'.size c')) w' from ⟨A', c', d', rfl, hO⟩)
      clear hO
      go_wp2_with fail
      go_ret
      exact HFi.out
    · have HOx := Lib.hid HOr.out
      have hen := entry_run (HOr.out.m.stay hst1 (by simpa using HOr.out.ne.1.symm)) hx hit1
      have hok := HOk.out x hx
      have HSt := Lib.hid (show ∀ wf, overP x.st p n = false → Stay [] w1 wf → OI w wf sb mb ib ck L last p n (seen.push x.bn) (O ++ [x]) A k c from fun wf ho hs => (HOr.out.step hst1 hit1 hx hsn ho).stay0 hs)
      have HPu := Lib.hid (show ∀ w2 wf A' c', overP x.st p n = true → Stay [] w1 w2 → Stay (Ab A) w2 wf → Win wf w.heap.size 35 5 A' (k + 1) c' (flatM ((O.filter fun x => overP x.st p n).map EN.mk_) ++ x.mk_.cells) → OI w wf sb mb ib ck L last p n (seen.push x.bn) (O ++ [x]) A' (k + 1) c' from fun w2 wf A' c' ho h1 h2 h3 => HOr.out.push hst1 hit1 hx hsn ho h1 h2 h3)
      have HLt := Lib.hid (show (L.filter fun y => !(seen.push x.bn).contains y.bn).length < leftN wr ib mb from by rw [HOr.out.left]; exact left_lt hx hsn)
      have HWn := Lib.hid (show ∀ u, Stay [] w1 u → Win u w.heap.size 35 5 A k c (flatM ((O.filter fun x => overP x.st p n).map EN.mk_)) from fun u hu => (HOr.out.W.stay hst1 (fun f hf hm => by rw [List.mem_singleton] at hm; subst hm; exact HOr.out.ne.2.2 hf)).stay0 hu)
      have HKl := Lib.hid (show k ≤ 4096 from by
        have h9 := List.length_filter_le (fun x => overP x.st p n) O
        have h10 : O.length ≤ L.length := nodup_len HOr.out.nd HOr.out.sub
        have h11 := HOr.out.kl
        have h12 := HLl.out
        omega)
      have HB1 := Lib.hid (show w.heap.size ≤ w1.heap.size from Nat.le_trans HOr.out.st.size hst1.size)
      obtain ⟨id, ⟨xb, xe, xg, xs⟩, bn⟩ := x
      simp only [St.val] at hnx hen
      simp only at hok
      obtain ⟨W2, hW2⟩ : ∃ W, W = w1.alloc (.cells #[.int .i64 xb, .int .i64 xe, .bool xg, .int .u16 xs] 67) := ⟨_, rfl⟩
      have hs2 : Stay [] w1 W2 := by rw [hW2]; exact Stay.alloc _ _
      have hb2 : Blk W2 w1.heap.size [.int .i64 xb, .int .i64 xe, .bool xg, .int .u16 xs] 67 := by rw [hW2]; exact Blk.new w1 _ _
      have HB2 := Lib.hid hb2
      have HOv := Lib.hid (over_any ⟨xb, xe, xg, xs⟩ p n W2 hok HP.out HN.out)
      have m0 : W2.cell? ⟨w1.heap.size, 0, none⟩ = some (.int .i64 xb) := hb2.cell 0
      have m1 : W2.cell? ⟨w1.heap.size, 1, none⟩ = some (.int .i64 xe) := hb2.cell 1
      have m2 : W2.cell? ⟨w1.heap.size, 2, none⟩ = some (.bool xg) := hb2.cell 2
      have m3 : W2.cell? ⟨w1.heap.size, 3, none⟩ = some (.int .u16 xs) := hb2.cell 3
      have HS2 := Lib.hid hs2
      have HW2 := Lib.hid hW2
      have HOk2 := Lib.hid hok
      clear hx hsn hst1 hit1 hW2 hs2 hb2 hok HOx
      go_upto_region 12 with fail
      rw [← HW2.out]
      go_wp2_with fail
      refine HOv.out.mono ?_
      rintro e w3 ⟨rfl, hs3⟩
      cases hov : overP ⟨xb, xe, xg, xs⟩ p n with
      | false =>
        have H3 := Lib.hid (HSt.out w3 hov (HS2.out.trans hs3))
        clear hs3 hov
        go_wp2_with fail
        go_roundw
        case rel => exact ⟨_, _, A, k, c, rfl, H3⟩
        case measure => rw [H3.out.left]; exact HLt.out
      | true =>
        have HOt := Lib.hid hov
        have hb3 := HB2.out.stay hs3 (by simp)
        have n0 : w3.cell? ⟨w1.heap.size, 0, none⟩ = some (.int .i64 xb) := hb3.cell 0
        have n1 : w3.cell? ⟨w1.heap.size, 1, none⟩ = some (.int .i64 xe) := hb3.cell 1
        have n2 : w3.cell? ⟨w1.heap.size, 2, none⟩ = some (.bool xg) := hb3.cell 2
        have n3 : w3.cell? ⟨w1.heap.size, 3, none⟩ = some (.int .u16 xs) := hb3.cell 3
        have HMk := Lib.hid (mark_any ⟨xb, xe, xg, xs⟩ id w3 HOk2.out)
        have HS3 := Lib.hid (HS2.out.trans hs3)
        clear hs3 hov hb3 m0 m1 m2 m3
        go_wp2_with fail
        refine HMk.out.mono ?_
        rintro e w4 ⟨rfl, hs4⟩
        have hs5 : Stay [] w1 (w4.alloc (.cells #[.int .i64 id, .int .i64 xb, .int .i64 (xe - xb), .bool xg, .int .u16 xs] 35)) := (HS3.out.trans hs4).alloc'
        have HS5 := Lib.hid hs5
        have HW5 := Lib.hid (HWn.out _ hs5)
        have HNw := Lib.hid (cells_new w4 [.int .i64 id, .int .i64 xb, .int .i64 (xe - xb), .bool xg, .int .u16 xs] 35 w4.heap.size rfl)
        have HSz := Lib.hid (show w.heap.size ≤ (w4.alloc (.cells #[.int .i64 id, .int .i64 xb, .int .i64 (xe - xb), .bool xg, .int .u16 xs] 35)).heap.size from Nat.le_trans HB1.out hs5.size)
        have h63 : k + 1 ≤ maxLen := by have := HKl.out; simp only [maxLen]; omega
        have h32 : (k + 1) * 32 ≤ 140737488355328 := by have := HKl.out; omega
        have HMx := Lib.hid (And.intro h63 h32)
        clear hs4 hs5 h63 h32 n0 n1 n2 n3 HMk
        go_wp2_with (refine wpList_append_win rfl (.tmp 39) (.tmp 43) 49 rfl w.heap.size 35 5 i35 _ 32 Try.underlying49 HI.out.1 HI.out.2.1 HI.out.2.2.1 HI.out.2.2.2 rfl (by omega) A k c (flatM ((O.filter fun x => overP x.st p n).map EN.mk_)) rfl HW5.out ⟨w4.heap.size, 0, none⟩ 1 1 rfl [.int .i64 id, .int .i64 xb, .int .i64 (xe - xb), .bool xg, .int .u16 xs] rfl (by omega) HNw.out (by simp [Value.oneCell']) HMx.out.1 HMx.out.2 HSz.out ?_
                     intro A' c' w8 hw8 hs8 ha8
                     have H8 := Lib.hid (HPu.out _ w8 A' c' HOt.out HS5.out hs8 hw8)
                     clear hw8 hs8 ha8)
        go_roundw
        case rel => exact ⟨_, _, A', k + 1, c', rfl, H8⟩
        case measure => rw [H8.out.left]; exact HLt.out
end Go.Proofs.Ytbnaglkhbgfchaa
