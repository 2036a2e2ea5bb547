/- LevelLevels: the walk of the law. -/
import Derived.Test.YtikgjnfimagpjaaLrlevels
import Derived.Test.YtikgjnfimagpjaaLbaselaw
import Derived.Laws.BytesArg
namespace Go.Proofs.Ytikgjnfimagpjaa
open Go.RowKit
theorem u32 : Try.prog.underlying 32 = some (.slice 5) := by kernel_rfl
theorem u5 : Try.prog.underlying 5 = some (.int .u8) := by kernel_rfl
theorem u9 : Try.prog.underlying 9 = some .string := by kernel_rfl
theorem conv_own {w : World} {B n c : Nat} {A : Option Addr} {xs : List Int} (h : Own w 5 B (.slice A n c) (ints .u8 xs)) : (Go.convert 32 9 (.slice A n c)).run Try.prog w = .ok (.string (strOfNums xs)) w := by
  have hn := own_len h
  cases A with
  | none =>
    have hx : xs = [] := by
      cases xs with
      | nil => rfl
      | cons z r =>
        obtain ⟨ad, h, _⟩ := h.sl 0 _ rfl
        cases h
    subst hx
    exact run_convert_bytes_nil w 32 5 u32 u5 n c 9 u9
  | some ad =>
    obtain ⟨g, rfl⟩ := own_addr h ad rfl
    refine run_convert_bytes_arg w 32 5 u32 u5 g 0 n c xs hn.symm (fun i hi => ?_) 9 u9
    rw [Nat.zero_add]
    exact own_at h (by omega)
theorem samelevels_any {w : World} {B B2 n c c2 : Nat} {A A2 : Option Addr} {xs : List Int} (h : Own w 5 B (.slice A n c) (ints .u8 xs)) (h2 : Own w 5 B2 (.slice A2 n c2) (ints .u8 xs)) :
    Calls Try.prog 20 #[.slice A n c, .slice A2 n c2] w fun e w' => e = .returned (.bool true) ∧ w = w' := by
  have e1 := conv_own h
  have e2 := conv_own h2
  clear h h2
  go_enter Try.func20, Try.ntmps20
  go_wp2
  go_ret
  exact ⟨rfl, rfl⟩
/-- slices that stay while two others are written and grown -/
structure Keep2 (w0 w : World) (L : List (TypeId × Value × List Value)) (va vx : Value) : Prop where
  own : ∀ x ∈ L, Own w x.1 w0.heap.size x.2.1 x.2.2
  fa : ∀ x ∈ L, ∀ g, va.ownBlock = some g → x.2.1.ownBlock ≠ some g
  fx : ∀ x ∈ L, ∀ g, vx.ownBlock = some g → x.2.1.ownBlock ≠ some g
  fax : ∀ g, va.ownBlock = some g → vx.ownBlock ≠ some g
  la : ∀ g, va.ownBlock = some g → w0.heap.size ≤ g ∧ g < w.heap.size
  lx : ∀ g, vx.ownBlock = some g → w0.heap.size ≤ g ∧ g < w.heap.size
  below : Below w0.heap.size w0 w
section
variable {w0 w w' : World} {L : List (TypeId × Value × List Value)} {va va' vx vx' : Value}
theorem Keep2.swap (h : Keep2 w0 w L va vx) : Keep2 w0 w L vx va := ⟨h.own, h.fx, h.fa, fun g hg e => h.fax g e hg, h.lx, h.la, h.below⟩
theorem Keep2.step (h : Keep2 w0 w L va vx) (hs : Stay va.ownBlock.toList w w') (hl : ∀ g, va'.ownBlock = some g → g < w'.heap.size) (hv : va'.ownBlock = va.ownBlock ∨ ∃ g, va'.ownBlock = some g ∧ w.heap.size ≤ g) : Keep2 w0 w' L va' vx := by
  have hz := h.below.size
  refine ⟨fun x hx => Stay.own hs (h.own x hx) fun g hg hm => h.fa x hx g (by simpa using hm) hg, fun x hx g hg => ?_, h.fx, fun g hg => ?_, fun g hg => ⟨?_, hl g hg⟩, fun g hg => ⟨(h.lx g hg).1, Nat.lt_of_lt_of_le (h.lx g hg).2 hs.size⟩, h.below.trans (hs.toBelow hz fun g hg => (h.la g (by simpa using hg)).1)⟩
  · rcases hv with hv | ⟨y, hy, hz⟩
    · exact h.fa x hx g (by rw [← hv]; exact hg)
    · rw [hg] at hy
      injection hy with hy
      subst hy
      intro e
      have := ((h.own x hx).lt g e).2
      omega
  · rcases hv with hv | ⟨y, hy, hz⟩
    · exact h.fax g (by rw [← hv]; exact hg)
    · rw [hg] at hy
      injection hy with hy
      subst hy
      intro e
      have := (h.lx g e).2
      omega
  · rcases hv with hv | ⟨y, hy, hz⟩
    · exact (h.la g (by rw [← hv]; exact hg)).1
    · rw [hg] at hy
      injection hy with hy
      subst hy
      omega
theorem Keep2.quiet (h : Keep2 w0 w L va vx) (hb : Below w.heap.size w w') : Keep2 w0 w' L va vx := h.step (Stay.below hb) (fun g hg => Nat.lt_of_lt_of_le (h.la g hg).2 hb.size) (.inl rfl)
theorem Keep2.alloc (h : Keep2 w0 w L va vx) (o : Obj) : Keep2 w0 (w.alloc o) L va vx := h.step (Stay.alloc _ _) (fun g hg => by rw [size_alloc']; have := (h.la g hg).2; omega) (.inl rfl)
theorem Keep2.grow {e : TypeId} {B : Nat} {xs : List Value} (h : Keep2 w0 w L va vx) (ha : Appended w w' va va') (ho : Own w' e B va' xs) : Keep2 w0 w' L va' vx := by
  obtain ⟨hs, hv⟩ := appended_stay ha
  exact h.step hs (fun g hg => (ho.lt g hg).2) hv
theorem Keep2.set {g n c k : Nat} {u : Value} (h : Keep2 w0 w L (.slice (some ⟨g, 0, none⟩) n c) vx) : Keep2 w0 (w.setCell ⟨g, k, none⟩ u) L (.slice (some ⟨g, 0, none⟩) n c) vx :=
  h.step (Stay.setCell _ _ _ (by simp [Value.ownBlock])) (fun y hy => by rw [size_setCell']; exact (h.la y hy).2) (.inl rfl)
theorem Keep2.other {e : TypeId} {B : Nat} {xs : List Value} (h : Keep2 w0 w L va vx) (ho : Own w e B vx xs) (hs : Stay va.ownBlock.toList w w') : Own w' e B vx xs :=
  Stay.own hs ho fun g hg hm => h.fax g (by simpa using hm) hg
end
set_option maxRecDepth 100000 in
set_option maxHeartbeats 8000000 in
theorem levelslaw_any (zs : List Int) (A : Option Addr) (c base : Nat) (w : World) (hl : zs.length < 1048576) (h : Sl w w.heap.size A (ints .i8 zs)) :
    Calls Try.prog 4 #[.slice A zs.length c, .int .u8 base] w fun e w' => e = .returned (.bool true) ∧ Below w.heap.size w w' := by
  obtain ⟨i5, hi5, hz50, hz51, hz52⟩ := info_parts info5
  obtain ⟨i23, hi23, hz230, hz231, hz232⟩ := info_parts info23
  have HS := Lib.hid h
  have HLL := Lib.hid (lto_length ((min base 125 : Nat) : Int) zs zs.length)
  have HRL := Lib.hid (fun w1 hs => rlevels_any zs A c base w1 hl hs)
  have HLV := Lib.hid (fun gm cm hc w1 hs => levels_any zs (some ⟨gm, 0, none⟩) cm base w1 hl hc hs)
  obtain ⟨Lw, hLw⟩ : ∃ Lw, Lw = (lto ((min base 125 : Nat) : Int) zs zs.length).1 := ⟨_, rfl⟩
  obtain ⟨Kw, hKw⟩ : ∃ Kw, Kw = (lto ((min base 125 : Nat) : Int) zs zs.length).2.1 := ⟨_, rfl⟩
  rw [← hLw, ← hKw] at HLL HRL HLV
  clear hLw hKw
  go_enter Try.func4, Try.ntmps4
  go_wp2_with fail
  refine (lent_any zs A c w (by omega) h).mono ?_
  rintro e w1 ⟨gm, cm, rfl, hcm1, hcm2, hmo, hb1⟩
  have hs1 := (h.below hb1).more hb1.size
  have HMO := Lib.hid hmo
  have HB1 := Lib.hid hb1
  have z1 := hb1.size
  clear hmo hb1 h
  go_wp2_with fail
  refine (HRL.out w1 hs1).mono ?_
  rintro e w2 ⟨lw, kw, rfl, hlw, hkw, hlk, hb2⟩
  obtain ⟨WA, wc, rfl⟩ := hlw.slice
  obtain ⟨VA, vc, rfl⟩ := hkw.slice
  rw [ints_length, HLL.out.1] at hlw
  rw [ints_length, HLL.out.2] at hkw
  rw [ints_length, HLL.out.1, ints_length, HLL.out.2]
  rw [ints_length, HLL.out.1, ints_length, HLL.out.2] at hlk
  have HMO2 := Lib.hid (HMO.out.below_ hb2)
  have hms : Sl w2 w2.heap.size (some ⟨gm, 0, none⟩) (ints .i8 zs) := by
    have := HMO2.out.sl
    rw [ints_app] at this
    exact sl_prefix this
  have HW := Lib.hid (And.intro (own_mono hlw z1) (own_mono hkw z1))
  have HB2 := Lib.hid (HB1.out.trans (hb2.mono z1))
  have z2 := hb2.size
  have gm2 := Lib.hid (own_in HMO2.out).2
  have Wl := Lib.hid (And.intro (fun x (hx : (Value.slice WA zs.length wc).ownBlock = some x) => (hlw.lt x hx).2) (fun x (hx : (Value.slice VA zs.length vc).ownBlock = some x) => (hkw.lt x hx).2))
  clear hlw hkw hlk hb2 hs1
  go_wp2_with fail
  refine (HLV.out gm cm ⟨by omega, hcm2⟩ w2 hms).mono ?_
  rintro e w3 ⟨la, ka, rfl, hla, hka, hak, hb3⟩
  obtain ⟨AA, ac, rfl⟩ := hla.slice
  obtain ⟨XA, xc, rfl⟩ := hka.slice
  rw [ints_length, HLL.out.1] at hla
  rw [ints_length, HLL.out.2] at hka
  rw [ints_length, HLL.out.1, ints_length, HLL.out.2]
  rw [ints_length, HLL.out.1, ints_length, HLL.out.2] at hak
  have hB2 := HB2.out.size
  have HMO3 := Lib.hid (HMO2.out.below_ hb3)
  have hms3 : Sl w3 w3.heap.size (some ⟨gm, 0, none⟩) (ints .i8 zs) := by
    have := HMO3.out.sl
    rw [ints_app] at this
    exact sl_prefix this
  have HW3 := Lib.hid (And.intro (HW.out.1.below_ hb3) (HW.out.2.below_ hb3))
  have HA3 := Lib.hid (And.intro (own_mono hla hB2) (own_mono hka hB2))
  have HK3 := Lib.hid hak
  have HAl := Lib.hid (And.intro (fun x (hx : (Value.slice AA zs.length ac).ownBlock = some x) => hla.lt x hx) (fun x (hx : (Value.slice XA zs.length xc).ownBlock = some x) => hka.lt x hx))
  have HB3 := Lib.hid (HB2.out.trans (hb3.mono hB2))
  have z3 := hb3.size
  clear hla hka hak hb3 hms
  go_wp2_with fail
  refine (HLV.out gm cm ⟨by omega, hcm2⟩ w3 hms3).mono ?_
  rintro e w4 ⟨lb, kb, rfl, hlb, hkb, -, hb4⟩
  obtain ⟨BA, bc, rfl⟩ := hlb.slice
  obtain ⟨YA, yc, rfl⟩ := hkb.slice
  rw [ints_length, HLL.out.1] at hlb
  rw [ints_length, HLL.out.2] at hkb
  rw [ints_length, HLL.out.1, ints_length, HLL.out.2]
  have hB3 := HB3.out.size
  have HA4 := Lib.hid (And.intro (HA3.out.1.below_ hb4) (HA3.out.2.below_ hb4))
  have HK4 := Lib.hid (show Keep2 w w4 [(23, .slice (some ⟨gm, 0, none⟩) (zs.length + 2) cm, ints .i8 (zs ++ [77, 78])), (5, .slice WA zs.length wc, ints .u8 Lw), (23, .slice VA zs.length vc, ints .i8 Kw), (5, .slice BA zs.length bc, ints .u8 Lw), (23, .slice YA zs.length yc, ints .i8 Kw)] (.slice AA zs.length ac) (.slice XA zs.length xc) from by
    have g1 := gm2.out
    have z4 := hb4.size
    refine ⟨?_, ?_, ?_, HK3.out, fun g hg => ⟨(HA4.out.1.lt g hg).1, (HA4.out.1.lt g hg).2⟩, fun g hg => ⟨(HA4.out.2.lt g hg).1, (HA4.out.2.lt g hg).2⟩, HB3.out.trans (hb4.mono hB3)⟩
    · intro x hx
      simp only [List.mem_cons, List.not_mem_nil, or_false] at hx
      rcases hx with rfl | rfl | rfl | rfl | rfl
      · exact HMO3.out.below_ hb4
      · exact HW3.out.1.below_ hb4
      · exact HW3.out.2.below_ hb4
      · exact own_mono hlb hB3
      · exact own_mono hkb hB3
    · intro x hx g hg
      have ha := HAl.out.1 g hg
      simp only [List.mem_cons, List.not_mem_nil, or_false] at hx
      rcases hx with rfl | rfl | rfl | rfl | rfl
      · intro e
        have : gm = g := by simpa [Value.ownBlock] using e
        omega
      · intro e; have := Wl.out.1 g e; omega
      · intro e; have := Wl.out.2 g e; omega
      · intro e; have := (hlb.lt g e).1; omega
      · intro e; have := (hkb.lt g e).1; omega
    · intro x hx g hg
      have ha := HAl.out.2 g hg
      simp only [List.mem_cons, List.not_mem_nil, or_false] at hx
      rcases hx with rfl | rfl | rfl | rfl | rfl
      · intro e
        have : gm = g := by simpa [Value.ownBlock] using e
        omega
      · intro e; have := Wl.out.1 g e; omega
      · intro e; have := Wl.out.2 g e; omega
      · intro e; have := (hlb.lt g e).1; omega
      · intro e; have := (hkb.lt g e).1; omega)
  clear hlb hkb hb4 hms3 HMO HMO2 HMO3 HW HW3 HA3 HK3 HAl HB1 HB2 HB3 Wl gm2 HRL HLV
  have hlw1 := HLL.out.1
  have hlw2 := HLL.out.2
  have HD := Lib.hid (fun (A1 A2 : Option Addr) (c1 c2 : Nat) (w' : World) (h1 : Sl w' w'.heap.size A1 (ints .i8 Kw)) (h2 : Sl w' w'.heap.size A2 (ints .i8 Kw)) => by
    have := samedirs_any Kw Kw A1 A2 c1 c2 w' (by omega) (by omega) h1 h2
    rw [decide_eq_true (rfl : Kw = Kw), hlw2] at this
    exact this : ∀ (A1 A2 : Option Addr) (c1 c2 : Nat) (w' : World), Sl w' w'.heap.size A1 (ints .i8 Kw) → Sl w' w'.heap.size A2 (ints .i8 Kw) → Calls Try.prog 21 #[.slice A1 zs.length c1, .slice A2 zs.length c2] w' fun e w'' => e = .returned (.bool true) ∧ Below w'.heap.size w' w'')
  clear hlw1 hlw2
  go_wp2_with fail
  refine (samelevels_any HA4.out.1 (HK4.out.own (5, .slice WA zs.length wc, ints .u8 Lw) (by simp))).mono ?_
  rintro e w' ⟨rfl, rfl⟩
  go_wp2_with fail
  refine (samelevels_any (HK4.out.own (5, .slice BA zs.length bc, ints .u8 Lw) (by simp)) (HK4.out.own (5, .slice WA zs.length wc, ints .u8 Lw) (by simp))).mono ?_
  rintro e w' ⟨rfl, rfl⟩
  go_wp2_with fail
  refine (HD.out _ _ _ _ w4 HA4.out.2.sl (HK4.out.own (23, .slice VA zs.length vc, ints .i8 Kw) (by simp)).sl).mono ?_
  rintro e w5 ⟨rfl, hb5⟩
  have HK5 := Lib.hid (HK4.out.quiet hb5)
  have HA5 := Lib.hid (And.intro (HA4.out.1.below_ hb5) (HA4.out.2.below_ hb5))
  clear hb5 HK4 HA4
  go_wp2_with fail
  refine (HD.out _ _ _ _ w5 (HK5.out.own (23, .slice YA zs.length yc, ints .i8 Kw) (by simp)).sl (HK5.out.own (23, .slice VA zs.length vc, ints .i8 Kw) (by simp)).sl).mono ?_
  rintro e w6 ⟨rfl, hb6⟩
  have HK6 := Lib.hid (HK5.out.quiet hb6)
  have HA6 := Lib.hid (And.intro (HA5.out.1.below_ hb6) (HA5.out.2.below_ hb6))
  clear hb6 HK5 HA5
  obtain ⟨KL, hKL⟩ : ∃ KL : List (TypeId × Value × List Value), KL = [(23, .slice (some ⟨gm, 0, none⟩) (zs.length + 2) cm, ints .i8 (zs ++ [77, 78])), (5, .slice WA zs.length wc, ints .u8 Lw), (23, .slice VA zs.length vc, ints .i8 Kw), (5, .slice BA zs.length bc, ints .u8 Lw), (23, .slice YA zs.length yc, ints .i8 Kw)] := ⟨_, rfl⟩
  rw [← hKL] at HK6
  have HKL := Lib.hid hKL
  clear hKL
  go_wp2_with fail
  go_loopw [12] (fun i wr => ∃ (k : Nat) (ys xs : List Int), k ≤ zs.length ∧ i = .int .i64 k ∧ Hid (ys.length = zs.length ∧ xs.length = zs.length) ∧ Own wr 5 w.heap.size (.slice AA zs.length ac) (ints .u8 ys) ∧ Own wr 23 w.heap.size (.slice XA zs.length xc) (ints .i8 xs) ∧
      Keep2 w wr KL (.slice AA zs.length ac) (.slice XA zs.length xc))
    (fun i _ => zs.length - (intOf i).toNat)
  case atStart => exact ⟨0, Lw, Kw, by omega, rfl, HLL, HA6.out.1, HA6.out.2, HK6.out⟩
  case round =>
    obtain ⟨k, ys, xs, hk, rfl, HL, ho, ho2, hkp⟩ := hrel
    by_cases hlt : k < zs.length
    · obtain ⟨ga, rfl, -, hga⟩ := own_is ho (by rw [HL.out.1]; omega)
      obtain ⟨gx, rfl, -, hgx⟩ := own_is ho2 (by rw [HL.out.2]; omega)
      have hcell := own_at ho (i := k) (by rw [HL.out.1]; exact hlt)
      have hfr := ho.free k
      have hx1 := hkp.other ho2 (w' := wr.setCell ⟨ga, k, none⟩ (.int .u8 200)) (Stay.setCell _ _ _ (by simp [Value.ownBlock]))
      have hcell2 := own_at hx1 (i := k) (by rw [HL.out.2]; exact hlt)
      have hfr2 := hx1.free k
      have hgx2 : gx < (wr.setCell ⟨ga, k, none⟩ (.int .u8 200)).heap.size := by rw [size_setCell']; exact hgx
      have HO2 := Lib.hid (own_put hx1 k 100)
      have HK := Lib.hid (((hkp.set (k := k) (u := .int .u8 200)).swap.set (k := k) (u := .int .i8 100)).swap)
      have HO := Lib.hid ((hkp.set (k := k) (u := .int .u8 200)).swap.other (own_put ho k 200) (w' := (wr.setCell ⟨ga, k, none⟩ (.int .u8 200)).setCell ⟨gx, k, none⟩ (.int .i8 100)) (Stay.setCell _ _ _ (by simp [Value.ownBlock])))
      have hk1 : (k : Int) < zs.length := by omega
      clear ho ho2 hkp HK6 HA6 hx1
      go_wp2_with fail
      go_roundw
      case rel => exact ⟨k + 1, _, _, by omega, by go_num, Lib.hid (by rw [List.length_set, List.length_set]; exact HL.out), HO.out, HO2.out, HK.out⟩
      case measure => simp [intOf]; omega
    · have hk' : k = zs.length := by omega
      subst hk'
      have HO := Lib.hid ho
      have HO2 := Lib.hid ho2
      have HK := Lib.hid hkp
      clear ho ho2 hkp HK6 HA6
      go_wp2_with fail
      go_loopw [8, 9, 13] (fun av xv i wr2 => ∃ (j : Nat) (X : Option Addr) (xc1 : Nat) (Y : Option Addr) (yc1 : Nat) (ys2 xs2 : List Int), j ≤ 30 ∧ i = .int .i64 j ∧ av = .slice X (zs.length + j) xc1 ∧ xv = .slice Y (zs.length + j) yc1 ∧ Hid (ys2.length = zs.length + j ∧ xs2.length = zs.length + j) ∧
          Own wr2 5 w.heap.size (.slice X (zs.length + j) xc1) (ints .u8 ys2) ∧ Own wr2 23 w.heap.size (.slice Y (zs.length + j) yc1) (ints .i8 xs2) ∧ Keep2 w wr2 KL (.slice X (zs.length + j) xc1) (.slice Y (zs.length + j) yc1))
        (fun _ _ i _ => 30 - (intOf i).toNat)
      case atStart => exact ⟨0, _, _, _, _, ys, xs, by omega, rfl, rfl, rfl, HL.out, HO.out, HO2.out, HK.out⟩
      case round =>
        obtain ⟨j, X, xc1, Y, yc1, ys2, xs2, hj, rfl, rfl, rfl, HL2, ho, ho2, hkp⟩ := hrel
        by_cases hlj : j < 30
        · have H0 := Lib.hid ho
          have H1 := Lib.hid ho2
          have HKj := Lib.hid hkp
          have HYl := Lib.hid (show (ints .u8 ys2).length = zs.length + j from by rw [ints_length]; exact HL2.out.1)
          have HXl := Lib.hid (show (ints .i8 xs2).length = zs.length + j from by rw [ints_length]; exact HL2.out.2)
          have hbz := hkp.below.size
          clear ho ho2 hkp HO HO2 HK
          go_wp2_with (first
            | (at_builtin; refine wpList_append_sl2 _ rfl (.tmp 72) (.tmp 73) 32 rfl w.heap.size 5 i5 _ 1 Try.underlying32 hi5 hz50 hz51 hz52 rfl (.slice X (zs.length + j) xc1) (zs.length + j) _ HYl.out rfl (H0.out.alloc _) _ _ _ 1 [.int .u8 201] rfl rfl (sl_one' _ _ _ _ (by simp)) (one_int _ _) (by unfold maxLen; omega) (by omega) (by rw [size_alloc']; omega) ?_; intro X2 xc2 w8 ho8 ha8
               have HK8 := Lib.hid ((HKj.out.alloc _).grow ha8 ho8)
               have HX8 := Lib.hid ((HKj.out.alloc _).other (H1.out.alloc _) (appended_stay ha8).1)
               have HO8 := Lib.hid ho8
               have hbz8 := HK8.out.below.size
               clear ho8 ha8)
            | (at_builtin; refine wpList_append_sl2 _ rfl (.tmp 75) (.tmp 76) 22 rfl w.heap.size 23 i23 _ 1 Try.underlying22 hi23 hz230 hz231 hz232 rfl (.slice Y (zs.length + j) yc1) (zs.length + j) _ HXl.out rfl (HX8.out.alloc _) _ _ _ 1 [.int .i8 101] rfl rfl (sl_one' _ _ _ _ (by simp)) (one_int _ _) (by unfold maxLen; omega) (by omega) (by rw [size_alloc']; omega) ?_; intro Y2 yc2 w9 ho9 ha9
               have HK9 := Lib.hid (((HK8.out.alloc _).swap.grow ha9 ho9).swap)
               have HO9 := Lib.hid ((HK8.out.alloc _).swap.other (HO8.out.alloc _) (appended_stay ha9).1)
               have HX9 := Lib.hid ho9
               clear ho9 ha9))
          go_roundw
          case rel => exact ⟨j + 1, X2, xc2, Y2, yc2, ys2 ++ [201], xs2 ++ [101], by omega, by go_num, rfl, rfl, Lib.hid (by simp [HL2.out.1, HL2.out.2]; omega), by rw [← ints_snoc]; exact HO9.out, by rw [← ints_snoc]; exact HX9.out, HK9.out⟩
          case measure => simp [intOf]; omega
        · have hj' : j = 30 := by omega
          subst hj'
          have HK7 := Lib.hid hkp
          clear ho ho2 hkp HO HO2 HK
          go_wp2_with fail
          refine (samelevels_any (HK7.out.own (5, .slice BA zs.length bc, ints .u8 Lw) (by rw [HKL.out]; simp)) (HK7.out.own (5, .slice WA zs.length wc, ints .u8 Lw) (by rw [HKL.out]; simp))).mono ?_
          rintro e w' ⟨rfl, rfl⟩
          go_wp2_with fail
          refine (HD.out _ _ _ _ _ (HK7.out.own (23, .slice YA zs.length yc, ints .i8 Kw) (by rw [HKL.out]; simp)).sl (HK7.out.own (23, .slice VA zs.length vc, ints .i8 Kw) (by rw [HKL.out]; simp)).sl).mono ?_
          rintro e w9 ⟨rfl, hb9⟩
          have HK9 := Lib.hid (HK7.out.quiet hb9)
          clear hb9 HK7
          go_wp2_with fail
          refine (kept_any zs gm w.heap.size A c cm w9 (by omega) (HK9.out.own (23, .slice (some ⟨gm, 0, none⟩) (zs.length + 2) cm, ints .i8 (zs ++ [77, 78])) (by rw [HKL.out]; simp)) ((HS.out.below HK9.out.below).more HK9.out.below.size)).mono ?_
          rintro e w11 ⟨rfl, hb11⟩
          have HB11 := Lib.hid (HK9.out.below.trans (hb11.mono HK9.out.below.size))
          clear hb11 HK9
          go_wp2_with fail
          refine (wakes_any w11).mono ?_
          rintro e w12 ⟨rfl, hb12⟩
          go_wp2_with fail
          go_ret
          exact ⟨rfl, HB11.out.trans (hb12.mono HB11.out.size)⟩
end Go.Proofs.Ytikgjnfimagpjaa
