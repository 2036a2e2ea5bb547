/- package level: the document's closes. -/
import Derived.Test.YtikgjnfimagpjaaLrpile3
namespace Go.Proofs.Ytikgjnfimagpjaa
open Go.RowKit
def moreSize (b : Nat) (mv : Value) (w : World) : Nat :=
  match mv with
  | .bool true => sliceLen (w.cell? ⟨b, 0, none⟩) + 1
  | _ => 0
set_option maxHeartbeats 4000000 in
theorem rcloses_any (B b g n c : Nat) (low : Int) (prv : Value) (p : PL) (hG : GoodP p) (w : World) (hp : RPileAt w B b g n c low prv p.ps) (hbd : p.deep ≤ 2097152 ∧ p.opens ≤ 2097152) :
    Calls Try.prog 62 #[.pointer (some ⟨b, 0, none⟩)] w fun e w' => e = .returned (.tuple #[]) ∧ ∃ n' c', n' ≤ n ∧ RPileAt w' B b g n' c' low prv (closeP p).ps ∧ Stay [b] w w' := by
  have hc1 := hp.blk.cell 1
  have hc2 := hp.blk.cell 2
  have hc3 := hp.blk.cell 3
  have hf1 := hp.blk.free 1
  have hf2 := hp.blk.free 2
  have hf3 := hp.blk.free 3
  simp only [List.getElem?_cons_zero, List.getElem?_cons_succ, PL.ps] at hc1 hc2 hc3
  have HP := Lib.hid hp
  obtain ⟨hbd1, hbd2⟩ := hbd
  clear hp
  by_cases h2 : 0 < p.deep
  · have HE := Lib.hid (show closeP p = { p with deep := p.deep - 1 } from by unfold closeP; rw [if_pos h2])
    clear hG
    go_enter Try.func62, Try.ntmps62
    go_wp2
    exact bodyPost_ret (v := .tuple #[]) (by simp [results, Try.results62, go_sem]) rfl ⟨rfl, n, c, Nat.le_refl _, by rw [HE.out]; exact rtwo_put HP.out ⟨rfl, rfl, rfl, by simp [PL.ps]; omega⟩, Stay.setCell _ _ _ (by simp)⟩
  by_cases h3 : 0 < p.opens
  · have HE := Lib.hid (show closeP p = { p with stk := (p.stk.dropWhile fun s => !s.iso).tail, opens := p.opens - 1, lost := 0 } from by unfold closeP; rw [if_neg h2, if_pos h3])
    have HI := Lib.hid (iso_some hG h3)
    have HP1 := Lib.hid (rlost_put HP.out (q := ⟨p.stk.reverse, p.opens, p.deep, 0⟩) (v := 0) ⟨rfl, rfl, rfl, rfl⟩)
    have ho1 : ((p.opens : Int) == 0) = false := by
      have : p.opens ≠ 0 := by omega
      simpa using this
    clear hG
    go_enter Try.func62, Try.ntmps62
    go_wp2
    go_loopw [2] (fun mv wr => (mv = .bool true ∧ ∃ (stk : List St) (m cm : Nat), m ≤ n ∧ Hid (∃ s ∈ stk, s.iso = true) ∧ Hid (stk.dropWhile (fun s => !s.iso) = p.stk.dropWhile fun s => !s.iso) ∧ RPileAt wr B b g m cm low prv ⟨stk.reverse, p.opens, p.deep, 0⟩ ∧ Stay [b] w wr) ∨
        (mv = .bool false ∧ ∃ (m cm : Nat), m ≤ n ∧ RPileAt wr B b g m cm low prv ⟨(p.stk.dropWhile fun s => !s.iso).tail.reverse, p.opens, p.deep, 0⟩ ∧ Stay [b] w wr))
      (fun mv wr => moreSize b mv wr)
    case atStart => exact .inl ⟨rfl, p.stk, n, c, Nat.le_refl _, HI, rfl, HP1.out, Stay.setCell _ _ _ (by simp)⟩
    case round =>
      rcases hrel with ⟨rfl, stk, m, cm, hm, HI2, HD, hpr, hst⟩ | ⟨rfl, m, cm, hm, hpr, hst⟩
      · cases stk with
        | nil => obtain ⟨s, hs, _⟩ := HI2.out; simp at hs
        | cons t r =>
          have hml := hpr.len
          simp only [List.length_reverse, List.length_cons] at hml
          have hpk := hpr.peek (l := r.reverse) (t := t) (by simp)
          have hmc := hpk.2.1
          have hcm := hpk.2.2.1
          have HT := Lib.hid (rtop_any B b g m cm low prv _ r.reverse t (by simp) _ hpr)
          have HPW := Lib.hid (fun w' (h : Stay [] wr w') => hpr.stay (F := []) h (by simp) (by simp))
          have hbz := hpr.blk.lt
          have HST := Lib.hid hst
          have HC0 := Lib.hid (hpr.blk.cell 0)
          obtain ⟨k, hk⟩ : ∃ k, k = r.length := ⟨_, rfl⟩
          have hmk : m = k + 1 := by omega
          subst hmk
          have hkb : (k : Int) ≤ 9223372036854775806 := by unfold maxLen at hcm; omega
          have hk0 : (0 : Int) ≤ k := by omega
          have hkk : (k : Int) ≤ (k : Int) + 1 := by omega
          have hkc : (k : Int) ≤ (cm : Int) := by omega
          have hkw : IntKind.i64.wrap (k : Int) = k := by simp [IntKind.wrap, IntKind.signed, IntKind.bits]; omega
          have e1 : (k : Int).toNat = k := by omega
          have HKr := Lib.hid (show r.reverse.length = k from by simp [hk])
          obtain ⟨lev, hlev⟩ : ∃ lev, lev = t.level := ⟨_, rfl⟩
          obtain ⟨ov, hov⟩ : ∃ ov, ov = t.over := ⟨_, rfl⟩
          rw [← hlev, ← hov] at HT
          clear hpr hst hc1 hc2 hc3 hf1 hf2 hf3 hlev hov hpk hml hk
          cases hi : t.iso with
          | true =>
            rw [hi] at HT
            have HD3 := Lib.hid (show r = (p.stk.dropWhile fun s => !s.iso).tail from by rw [← HD.out]; simp [hi])
            clear hi
            go_wp2_with (first
              | (go_at_call 58; refine HT.out.mono ?_; rintro e w1 ⟨rfl, hst1⟩
                 have hst2 := hst1.trans (Stay.alloc (F := []) w1 (.cells #[.int .u8 lev, .int .i8 ov, .bool true] 78))
                 have hc0 := (HPW.out _ hst2).blk.cell 0
                 have hf0 := (HPW.out _ hst2).blk.free 0
                 simp only [List.getElem?_cons_zero] at hc0
                 have HR := Lib.hid ((HPW.out _ hst2).popped (l := r.reverse) (t := t) (by simp) rfl)
                 rw [HKr.out] at HR))
            go_region
            go_wp2
            go_roundw
            case rel => exact .inr ⟨rfl, k, cm, by omega, by rw [← HD3.out]; exact HR.out.1.drew, (HST.out.trans ((hst2.mono (by simp)).trans HR.out.2)).drew'⟩
            case measure => simp [moreSize]
          | false =>
            rw [hi] at HT
            have HI3 := Lib.hid (show ∃ s ∈ r, s.iso = true from by
              obtain ⟨s, hs, h⟩ := HI2.out
              rcases List.mem_cons.1 hs with rfl | hs
              · rw [hi] at h; cases h
              · exact ⟨s, hs, h⟩)
            have HD3 := Lib.hid (show r.dropWhile (fun s => !s.iso) = p.stk.dropWhile fun s => !s.iso from by rw [← HD.out]; simp [hi])
            clear hi
            go_wp2_with (first
              | (go_at_call 58; refine HT.out.mono ?_; rintro e w1 ⟨rfl, hst1⟩
                 have hst2 := hst1.trans (Stay.alloc (F := []) w1 (.cells #[.int .u8 lev, .int .i8 ov, .bool false] 78))
                 have hc0 := (HPW.out _ hst2).blk.cell 0
                 have hf0 := (HPW.out _ hst2).blk.free 0
                 simp only [List.getElem?_cons_zero] at hc0
                 have HR := Lib.hid ((HPW.out _ hst2).popped (l := r.reverse) (t := t) (by simp) rfl)
                 rw [HKr.out] at HR
                 have HC1 := Lib.hid (HR.out.1.drew.blk.cell 0)))
            go_region
            go_wp2
            go_roundw
            case rel => exact .inl ⟨rfl, r, k, cm, by omega, HI3, HD3, HR.out.1.drew, (HST.out.trans ((hst2.mono (by simp)).trans HR.out.2)).drew'⟩
            case measure =>
              simp only [moreSize]
              rw [HC0.out, HC1.out]
              simp [sliceLen]
      · have hd1 := hpr.blk.cell 1
        have hd1f := hpr.blk.free 1
        simp only [List.getElem?_cons_zero, List.getElem?_cons_succ] at hd1
        have HX := Lib.hid hpr
        have HST := Lib.hid hst
        clear hpr hst hc1 hc2 hc3 hf1 hf2 hf3
        go_wp2
        exact bodyPost_end (v := .tuple #[]) (by simp [results, Try.results62, go_sem]) rfl ⟨rfl, m, cm, hm, by rw [HE.out]; exact ropen_put HX.out ⟨rfl, rfl, rfl, by simp [PL.ps]; omega⟩, HST.out.trans (Stay.setCell _ _ _ (by simp))⟩
  · have HE := Lib.hid (show closeP p = p from by unfold closeP; rw [if_neg h2, if_neg h3])
    have ho1 : ((p.opens : Int) == 0) = true := by
      have : p.opens = 0 := by omega
      simp [this]
    clear hG
    go_enter Try.func62, Try.ntmps62
    go_wp2
    exact bodyPost_ret (v := .tuple #[]) (by simp [results, Try.results62, go_sem]) rfl ⟨rfl, n, c, Nat.le_refl _, by rw [HE.out]; exact HP.out, Stay.refl _ _⟩
end Go.Proofs.Ytikgjnfimagpjaa
