/- shuttlelaw20: back: a call, and what it tells done on another rope. -/
import Derived.Test.YtjoeebjmjnddoaaUbs
namespace Go.Proofs.Ytjoeebjmjnddoaa
open Go.RowKit
/-- what the call leaves -/
def Called (K : World → Prop) (B rb : Nat) (tx x : List UInt8) (u : World) (e : Ending) (w' : World) : Prop :=
  ∃ (tA : Option Addr) (tc : Nat) (told : List Ed) (F : List Nat) (t' : Rp) (rs' : Int), e = .returned (.tuple #[.slice tA told.length tc, .int .i64 0]) ∧ Win w' B 37 3 tA told.length tc (eds told) ∧ RF told tx x ∧ 0 < told.length ∧ told.length ≤ 4096 ∧ RopeAt w' rb t' rs' ∧ t'.text = x ∧ K w' ∧ Stay F u w' ∧ Foot u B rb F
theorem win_rope {w w' : World} {B xb : Nat} {e : TypeId} {sz n c : Nat} {A : Option Addr} {xs : List Value} {t : Rp} {s : Int} (hw : Win w B e sz A n c xs) (hx : RopeAt w xb t s) (hs : Stay [xb] w w') (he : e ≠ 77) : Win w' B e sz A n c xs := hw.stay hs (fun f hf hm => by
  rw [List.mem_singleton] at hm
  subst hm
  obtain ⟨_, _, L, hL⟩ := hw.ab f hf
  obtain ⟨L2, h2⟩ := hx.blk
  exact he (hL.type h2))
theorem rope_rope {w w' : World} {xb rb : Nat} {t t2 : Rp} {s s2 : Int} (hr : RopeAt w rb t s) (hx : RopeAt w xb t2 s2) (hne : xb ≠ rb) (hs : Stay [xb] w w') : RopeAt w' rb t s := by
  refine hr.stay hs (noPair_of fun f hf L hL => ?_) (fun hm => ?_)
  · rw [List.mem_singleton] at hf
    subst hf
    obtain ⟨L2, h2⟩ := hx.blk
    have := hL.type h2
    cases this
  · rw [List.mem_singleton] at hm
    exact hne hm.symm
set_option maxRecDepth 20000 in
set_option maxHeartbeats 16000000 in
theorem back_undo (K : World → Prop) (B bb rb : Nat) (tx x : List UInt8) (t0 : Rp) (rs0 : Int) (w : World) (hR : RopeAt w rb t0 rs0) (ht0 : t0.text = tx)
    (hK : ∀ u v xb t s, K u → RopeAt u xb t s → xb ≠ rb → B ≤ xb → Stay [xb] u v → K v) (hB : B ≤ w.heap.size)
    (hcall : ∀ u, Stay [] w u → Calls Try.prog 33 #[.pointer (some ⟨bb, 0, none⟩)] u (Called K B rb tx x u)) :
    Calls Try.prog 32 #[.pointer (some ⟨rb, 0, none⟩), .func (.func 33) #[.pointer (some ⟨bb, 0, none⟩)] #[], .string (str x)] w fun e w' => e = .returned (.bool true) ∧ K w' := by
  have HTx := Lib.hid (text_any rb t0 rs0 w hR)
  have hlen := hR.len
  rw [Rp.len] at hlen
  rw [ht0] at HTx hlen
  have HNw := Lib.hid (fun u => new_any tx u hlen)
  have HK := Lib.hid hK
  have HBs := Lib.hid hB
  have HC := Lib.hid hcall
  have HR := Lib.hid hR
  clear hK hcall hR ht0 hlen hB
  obtain ⟨S, hS⟩ : ∃ S, S = str tx := ⟨_, rfl⟩
  rw [← hS] at HTx HNw
  have HS := Lib.hid hS
  obtain ⟨X, hX⟩ : ∃ X, X = str x := ⟨_, rfl⟩
  rw [← hX]
  have HX := Lib.hid hX
  clear hS hX
  go_enter Try.func32, Try.ntmps32
  go_wp2_with fail
  refine HTx.out.mono ?_
  rintro e w1 ⟨rfl, hb1⟩
  have HS1 := Lib.hid (Stay.below (F := []) hb1)
  clear hb1 HTx
  go_wp2_with fail
  refine (HNw.out w1).mono ?_
  rintro e w2 ⟨xb, t2, rfl, hxb, hx2, hxt, hb2⟩
  have HS2 := Lib.hid (HS1.out.trans (Stay.below (F := []) hb2))
  have HX2 := Lib.hid hx2
  have HXt := Lib.hid hxt
  have HNe := Lib.hid (show xb ≠ rb from fun e1 => by
    have h1 := HR.out.lt
    have h2 := HS1.out.size
    omega)
  have HXb := Lib.hid (show B ≤ xb from Nat.le_trans HBs.out (Nat.le_trans HS1.out.size hxb))
  clear hxb hx2 hxt hb2 HNw
  go_wp2_with fail
  refine (HC.out w2 HS2.out).mono ?_
  rintro e w3 ⟨tA, tc, told, F, t3, rs3, rfl, hW3, hrf, hn0, hn1, hR3, ht3, hK3, hs3, hF⟩
  have HX3 := Lib.hid (hF.rope (HR.out.stay0 HS2.out).blk HX2.out HNe.out hs3)
  have HTx3 := Lib.hid (text_any rb t3 rs3 w3 hR3)
  rw [ht3, ← HX.out] at HTx3
  have HR3 := Lib.hid hR3
  have HW3 := Lib.hid hW3
  have HK3 := Lib.hid hK3
  obtain ⟨cur, hc0, hc1, hcu⟩ := hrf
  have HCu := Lib.hid (And.intro hc0 (And.intro hc1 hcu))
  obtain ⟨n, hn⟩ : ∃ n, n = told.length := ⟨_, rfl⟩
  have HN := Lib.hid hn
  rw [← hn] at hn0 hn1 ⊢
  have q0 : ((n : Int) == 0) = false := by simp; omega
  have q1 : decide ((n : Int) = 0) = false := decide_eq_false (by omega)
  have q2 : ¬ (n : Int) = 0 := by omega
  clear hW3 hc0 hc1 hcu hR3 ht3 hK3 hs3 hF hn HX2 HC
  go_wp2_with fail
  refine HTx3.out.mono ?_
  rintro e w4 ⟨rfl, hb4⟩
  have HS4 := Lib.hid (Stay.below (F := []) hb4)
  have HK4 := Lib.hid (HK.out w3 w4 xb t2 0 HK3.out HX3.out HNe.out HXb.out (HS4.out.mono (by simp)))
  have HW4 := Lib.hid (HW3.out.stay0 HS4.out)
  have HX4 := Lib.hid (HX3.out.stay0 HS4.out)
  clear hb4 HTx3 HK3 HW3 HX3 HR3
  go_wp2_with fail
  go_loopw [44] (fun i wr => ∃ (k : Nat) (t : Rp) (s : Int), k ≤ n ∧ i = .int .i64 k ∧ Hid (RopeAt wr xb t s ∧ U64 s ∧ t.text = cur k) ∧ Hid (Win wr B 37 3 tA n tc (eds told)) ∧ Hid (K wr))
    (fun i _ => n - (intOf i).toNat)
  case atStart => exact ⟨0, t2, 0, by omega, rfl, ⟨HX4.out, by unfold U64; omega, by rw [HXt.out]; exact HCu.out.1.symm⟩, by rw [HN.out]; exact HW4, HK4⟩
  case round =>
    clear HK4 HW4 HX4
    obtain ⟨k, t, s, hk, rfl, HRx, HWx, HKx⟩ := hrel
    by_cases hlt : k < n
    · have hlt' : (k : Int) < n := by omega
      have hk0 : (0 : Int) ≤ k := by omega
      have hkl : k < told.length := by rw [← HN.out]; exact hlt
      obtain ⟨tg, tp, rfl⟩ := HWx.out.addr (by omega)
      obtain ⟨p0, p1, p2⟩ := win_ed HWx.out k (told.getD k zeroE) (by rw [List.getD_eq_getElem?_getD, List.getElem?_eq_getElem hkl]; rfl)
      have hUn := HCu.out.2.2 k hkl
      rw [← HRx.out.2.2] at hUn
      obtain ⟨ed, hed⟩ : ∃ ed, ed = told.getD k zeroE := ⟨_, rfl⟩
      rw [← hed] at p0 p1 p2 hUn
      obtain ⟨a, hD, hU⟩ := do_undo2 xb t s ed (cur (k + 1)) wr HRx.out.1 HRx.out.2.1 hUn
      have HD := Lib.hid (show Calls Try.prog 21 #[.pointer (some ⟨xb, 0, none⟩), .agg #[.int .i64 ed.a, .int .i64 ed.d, .string ed.s]] wr fun e w' => e = .returned (.tuple #[.agg #[.int .i64 a.a, .int .i64 a.d, .string a.s], .int .i64 0]) ∧ (∃ t', RopeAt w' xb t' (IntKind.u64.wrap (s + 1)) ∧ t'.text = cur (k + 1)) ∧ Stay [xb] wr w' from hD)
      clear hed hUn hU hD hkl
      go_wp2_with fail
      refine HD.out.mono ?_
      rintro e w5 ⟨rfl, ⟨t5, hR5, ht5⟩, hs5⟩
      have hss : Stay [] w5 (w5.alloc (.cells #[.int .i64 a.a, .int .i64 a.d, .string a.s] 37)) := Stay.alloc _ _
      have HR6 := Lib.hid (show RopeAt (w5.alloc (.cells #[.int .i64 a.a, .int .i64 a.d, .string a.s] 37)) xb t5 (IntKind.u64.wrap (s + 1)) ∧ U64 (IntKind.u64.wrap (s + 1)) ∧ t5.text = cur (k + 1) from ⟨hR5.stay0 hss, u64_wrap _, ht5⟩)
      have HW6 := Lib.hid (show Win (w5.alloc (.cells #[.int .i64 a.a, .int .i64 a.d, .string a.s] 37)) B 37 3 (some ⟨tg, tp, none⟩) n tc (eds told) from (win_rope HWx.out HRx.out.1 hs5 (by decide)).stay0 hss)
      have HK6 := Lib.hid (show K (w5.alloc (.cells #[.int .i64 a.a, .int .i64 a.d, .string a.s] 37)) from HK.out wr _ xb t s HKx.out HRx.out.1 HNe.out HXb.out (hs5.trans (hss.mono (by simp))))
      clear hR5 ht5 hs5 hss HD p0 p1 p2
      go_wp2_with fail
      go_roundw
      case rel => exact ⟨k + 1, t5, _, by omega, by go_num, HR6, HW6, HK6⟩
      case measure => simp [intOf]; omega
    · have hk' : k = n := by omega
      subst hk'
      have HT5 := Lib.hid (text_any xb t s wr HRx.out.1)
      rw [HRx.out.2.2, HN.out, HCu.out.2.1, ← HX.out] at HT5
      go_wp2_with fail
      refine HT5.out.mono ?_
      rintro e w6 ⟨rfl, hb6⟩
      have HK6 := Lib.hid (HK.out wr w6 xb t s HKx.out HRx.out.1 HNe.out HXb.out (Stay.below hb6))
      clear hb6 HT5
      go_wp2_with fail
      go_ret
      exact ⟨rfl, HK6.out⟩
set_option maxRecDepth 20000 in
set_option maxHeartbeats 16000000 in
theorem back_redo (K : World → Prop) (B bb rb : Nat) (tx x : List UInt8) (t0 : Rp) (rs0 : Int) (w : World) (hR : RopeAt w rb t0 rs0) (ht0 : t0.text = tx)
    (hK : ∀ u v xb t s, K u → RopeAt u xb t s → xb ≠ rb → B ≤ xb → Stay [xb] u v → K v) (hB : B ≤ w.heap.size)
    (hcall : ∀ u, Stay [] w u → Calls Try.prog 34 #[.pointer (some ⟨bb, 0, none⟩)] u (Called K B rb tx x u)) :
    Calls Try.prog 32 #[.pointer (some ⟨rb, 0, none⟩), .func (.func 34) #[.pointer (some ⟨bb, 0, none⟩)] #[], .string (str x)] w fun e w' => e = .returned (.bool true) ∧ K w' := by
  have HTx := Lib.hid (text_any rb t0 rs0 w hR)
  have hlen := hR.len
  rw [Rp.len] at hlen
  rw [ht0] at HTx hlen
  have HNw := Lib.hid (fun u => new_any tx u hlen)
  have HK := Lib.hid hK
  have HBs := Lib.hid hB
  have HC := Lib.hid hcall
  have HR := Lib.hid hR
  clear hK hcall hR ht0 hlen hB
  obtain ⟨S, hS⟩ : ∃ S, S = str tx := ⟨_, rfl⟩
  rw [← hS] at HTx HNw
  have HS := Lib.hid hS
  obtain ⟨X, hX⟩ : ∃ X, X = str x := ⟨_, rfl⟩
  rw [← hX]
  have HX := Lib.hid hX
  clear hS hX
  go_enter Try.func32, Try.ntmps32
  go_wp2_with fail
  refine HTx.out.mono ?_
  rintro e w1 ⟨rfl, hb1⟩
  have HS1 := Lib.hid (Stay.below (F := []) hb1)
  clear hb1 HTx
  go_wp2_with fail
  refine (HNw.out w1).mono ?_
  rintro e w2 ⟨xb, t2, rfl, hxb, hx2, hxt, hb2⟩
  have HS2 := Lib.hid (HS1.out.trans (Stay.below (F := []) hb2))
  have HX2 := Lib.hid hx2
  have HXt := Lib.hid hxt
  have HNe := Lib.hid (show xb ≠ rb from fun e1 => by
    have h1 := HR.out.lt
    have h2 := HS1.out.size
    omega)
  have HXb := Lib.hid (show B ≤ xb from Nat.le_trans HBs.out (Nat.le_trans HS1.out.size hxb))
  clear hxb hx2 hxt hb2 HNw
  go_wp2_with fail
  refine (HC.out w2 HS2.out).mono ?_
  rintro e w3 ⟨tA, tc, told, F, t3, rs3, rfl, hW3, hrf, hn0, hn1, hR3, ht3, hK3, hs3, hF⟩
  have HX3 := Lib.hid (hF.rope (HR.out.stay0 HS2.out).blk HX2.out HNe.out hs3)
  have HTx3 := Lib.hid (text_any rb t3 rs3 w3 hR3)
  rw [ht3, ← HX.out] at HTx3
  have HR3 := Lib.hid hR3
  have HW3 := Lib.hid hW3
  have HK3 := Lib.hid hK3
  obtain ⟨cur, hc0, hc1, hcu⟩ := hrf
  have HCu := Lib.hid (And.intro hc0 (And.intro hc1 hcu))
  obtain ⟨n, hn⟩ : ∃ n, n = told.length := ⟨_, rfl⟩
  have HN := Lib.hid hn
  rw [← hn] at hn0 hn1 ⊢
  have q0 : ((n : Int) == 0) = false := by simp; omega
  have q1 : decide ((n : Int) = 0) = false := decide_eq_false (by omega)
  have q2 : ¬ (n : Int) = 0 := by omega
  clear hW3 hc0 hc1 hcu hR3 ht3 hK3 hs3 hF hn HX2 HC
  go_wp2_with fail
  refine HTx3.out.mono ?_
  rintro e w4 ⟨rfl, hb4⟩
  have HS4 := Lib.hid (Stay.below (F := []) hb4)
  have HK4 := Lib.hid (HK.out w3 w4 xb t2 0 HK3.out HX3.out HNe.out HXb.out (HS4.out.mono (by simp)))
  have HW4 := Lib.hid (HW3.out.stay0 HS4.out)
  have HX4 := Lib.hid (HX3.out.stay0 HS4.out)
  clear hb4 HTx3 HK3 HW3 HX3 HR3
  go_wp2_with fail
  go_loopw [44] (fun i wr => ∃ (k : Nat) (t : Rp) (s : Int), k ≤ n ∧ i = .int .i64 k ∧ Hid (RopeAt wr xb t s ∧ U64 s ∧ t.text = cur k) ∧ Hid (Win wr B 37 3 tA n tc (eds told)) ∧ Hid (K wr))
    (fun i _ => n - (intOf i).toNat)
  case atStart => exact ⟨0, t2, 0, by omega, rfl, ⟨HX4.out, by unfold U64; omega, by rw [HXt.out]; exact HCu.out.1.symm⟩, by rw [HN.out]; exact HW4, HK4⟩
  case round =>
    clear HK4 HW4 HX4
    obtain ⟨k, t, s, hk, rfl, HRx, HWx, HKx⟩ := hrel
    by_cases hlt : k < n
    · have hlt' : (k : Int) < n := by omega
      have hk0 : (0 : Int) ≤ k := by omega
      have hkl : k < told.length := by rw [← HN.out]; exact hlt
      obtain ⟨tg, tp, rfl⟩ := HWx.out.addr (by omega)
      obtain ⟨p0, p1, p2⟩ := win_ed HWx.out k (told.getD k zeroE) (by rw [List.getD_eq_getElem?_getD, List.getElem?_eq_getElem hkl]; rfl)
      have hUn := HCu.out.2.2 k hkl
      rw [← HRx.out.2.2] at hUn
      obtain ⟨ed, hed⟩ : ∃ ed, ed = told.getD k zeroE := ⟨_, rfl⟩
      rw [← hed] at p0 p1 p2 hUn
      obtain ⟨a, hD, hU⟩ := do_undo2 xb t s ed (cur (k + 1)) wr HRx.out.1 HRx.out.2.1 hUn
      have HD := Lib.hid (show Calls Try.prog 21 #[.pointer (some ⟨xb, 0, none⟩), .agg #[.int .i64 ed.a, .int .i64 ed.d, .string ed.s]] wr fun e w' => e = .returned (.tuple #[.agg #[.int .i64 a.a, .int .i64 a.d, .string a.s], .int .i64 0]) ∧ (∃ t', RopeAt w' xb t' (IntKind.u64.wrap (s + 1)) ∧ t'.text = cur (k + 1)) ∧ Stay [xb] wr w' from hD)
      clear hed hUn hU hD hkl
      go_wp2_with fail
      refine HD.out.mono ?_
      rintro e w5 ⟨rfl, ⟨t5, hR5, ht5⟩, hs5⟩
      have hss : Stay [] w5 (w5.alloc (.cells #[.int .i64 a.a, .int .i64 a.d, .string a.s] 37)) := Stay.alloc _ _
      have HR6 := Lib.hid (show RopeAt (w5.alloc (.cells #[.int .i64 a.a, .int .i64 a.d, .string a.s] 37)) xb t5 (IntKind.u64.wrap (s + 1)) ∧ U64 (IntKind.u64.wrap (s + 1)) ∧ t5.text = cur (k + 1) from ⟨hR5.stay0 hss, u64_wrap _, ht5⟩)
      have HW6 := Lib.hid (show Win (w5.alloc (.cells #[.int .i64 a.a, .int .i64 a.d, .string a.s] 37)) B 37 3 (some ⟨tg, tp, none⟩) n tc (eds told) from (win_rope HWx.out HRx.out.1 hs5 (by decide)).stay0 hss)
      have HK6 := Lib.hid (show K (w5.alloc (.cells #[.int .i64 a.a, .int .i64 a.d, .string a.s] 37)) from HK.out wr _ xb t s HKx.out HRx.out.1 HNe.out HXb.out (hs5.trans (hss.mono (by simp))))
      clear hR5 ht5 hs5 hss HD p0 p1 p2
      go_wp2_with fail
      go_roundw
      case rel => exact ⟨k + 1, t5, _, by omega, by go_num, HR6, HW6, HK6⟩
      case measure => simp [intOf]; omega
    · have hk' : k = n := by omega
      subst hk'
      have HT5 := Lib.hid (text_any xb t s wr HRx.out.1)
      rw [HRx.out.2.2, HN.out, HCu.out.2.1, ← HX.out] at HT5
      go_wp2_with fail
      refine HT5.out.mono ?_
      rintro e w6 ⟨rfl, hb6⟩
      have HK6 := Lib.hid (HK.out wr w6 xb t s HKx.out HRx.out.1 HNe.out HXb.out (Stay.below hb6))
      clear hb6 HT5
      go_wp2_with fail
      go_ret
      exact ⟨rfl, HK6.out⟩
end Go.Proofs.Ytjoeebjmjnddoaa
