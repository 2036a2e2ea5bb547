/- package level: the document's Levels. -/
import Derived.Test.YtikgjnfimagpjaaLrplace
namespace Go.Proofs.Ytikgjnfimagpjaa
open Go.RowKit
structure RLInv (w0 wr : World) (low : Int) (prv : Value) (P : PL) (fx : List (TypeId × Value × List Value)) (L K : List Int) (lv kv : Value) (b g m cm : Nat) : Prop where
  pile : RPileAt wr w0.heap.size b g m cm low prv P.ps
  lo : Own wr 5 w0.heap.size lv (ints .u8 L)
  ko : Own wr 23 w0.heap.size kv (ints .i8 K)
  fix : ∀ x ∈ fx, Own wr x.1 w0.heap.size x.2.1 x.2.2
  lfar : ∀ y, lv.ownBlock = some y → y ≠ b ∧ y ≠ g ∧ kv.ownBlock ≠ some y ∧ ∀ x ∈ fx, x.2.1.ownBlock ≠ some y
  kfar : ∀ y, kv.ownBlock = some y → y ≠ b ∧ y ≠ g ∧ ∀ x ∈ fx, x.2.1.ownBlock ≠ some y
  ffar : ∀ x ∈ fx, x.2.1.ownBlock ≠ some b ∧ x.2.1.ownBlock ≠ some g
  below : Below w0.heap.size w0 wr
section
variable {low : Int} {prv : Value} {w0 wr w' : World} {P Q : PL} {fx : List (TypeId × Value × List Value)} {L K : List Int} {lv kv : Value} {b g m cm g' m' cm' : Nat}
theorem RLInv.gB (h : RLInv w0 wr low prv P fx L K lv kv b g m cm) : w0.heap.size ≤ g ∧ g < wr.heap.size ∧ w0.heap.size ≤ b ∧ b < wr.heap.size ∧ w0.heap.size ≤ wr.heap.size :=
  ⟨h.pile.row.2.2.2.1, h.pile.row.lt, h.pile.base, h.pile.blk.lt, h.below.size⟩
/-- the pile has been worked on -/
theorem RLInv.moved (h : RLInv w0 wr low prv P fx L K lv kv b g m cm) (hp : RPileAt w' w0.heap.size b g' m' cm' low prv Q.ps) (hs : Stay [b, g] wr w') (hg : g' = g ∨ wr.heap.size ≤ g') : RLInv w0 w' low prv Q fx L K lv kv b g' m' cm' := by
  obtain ⟨h1, h2, h3, h4, h6⟩ := h.gB
  have hne : ∀ x, x < wr.heap.size → x ≠ g → x ≠ g' := by
    intro x hx hn
    rcases hg with rfl | hg
    · exact hn
    · omega
  refine ⟨hp, Stay.own hs h.lo fun x hx => by have := h.lfar x hx; simp; exact ⟨this.1, this.2.1⟩, Stay.own hs h.ko fun x hx => by have := h.kfar x hx; simp; exact ⟨this.1, this.2.1⟩,
    fun x hx => Stay.own hs (h.fix x hx) fun y hy => by
      have := h.ffar x hx
      simp
      exact ⟨fun e => this.1 (by rw [hy, e]), fun e => this.2 (by rw [hy, e])⟩,
    fun y hy => ?_, fun y hy => ?_, fun x hx => ⟨(h.ffar x hx).1, fun e => ?_⟩, h.below.trans (hs.toBelow h6 (by simp; omega))⟩
  · have := h.lfar y hy
    exact ⟨this.1, hne y (h.lo.lt y hy).2 this.2.1, this.2.2⟩
  · have := h.kfar y hy
    exact ⟨this.1, hne y (h.ko.lt y hy).2 this.2.1, this.2.2⟩
  · have h5 := ((h.fix x hx).lt _ e).2
    exact hne g' h5 (fun e' => (h.ffar x hx).2 (by rw [e, e'])) rfl
theorem RLInv.quiet (h : RLInv w0 wr low prv P fx L K lv kv b g m cm) (hs : Stay [] wr w') : RLInv w0 w' low prv P fx L K lv kv b g m cm :=
  h.moved (h.pile.stay hs (by simp) (by simp)) (hs.mono (by simp)) (.inl rfl)
/-- a level more -/
theorem RLInv.app1 {lv' : Value} {L' : List Int} (h : RLInv w0 wr low prv P fx L K lv kv b g m cm) (ho : Own w' 5 w0.heap.size lv' (ints .u8 L')) (ha : Appended wr w' lv lv') : RLInv w0 w' low prv P fx L' K lv' kv b g m cm := by
  obtain ⟨h1, h2, h3, h4, h6⟩ := h.gB
  obtain ⟨hs, hv⟩ := appended_stay ha
  have hf : ∀ y, y ∈ lv.ownBlock.toList → y ≠ b ∧ y ≠ g ∧ kv.ownBlock ≠ some y ∧ ∀ x ∈ fx, x.2.1.ownBlock ≠ some y := fun y hy => h.lfar y (by simpa using hy)
  refine ⟨h.pile.stay hs (fun hm => (hf b hm).1 rfl) (fun hm => (hf g hm).2.1 rfl), ho, Stay.own hs h.ko fun x hx hm => (hf x hm).2.2.1 hx, fun x hx => Stay.own hs (h.fix x hx) fun y hy hm => (hf y hm).2.2.2 x hx hy, fun y hy => ?_, h.kfar, h.ffar, h.below.trans (hs.toBelow h6 fun y hy => (h.lo.lt y (by simpa using hy)).1)⟩
  rcases hv with hv | ⟨z, hz, hsz⟩
  · exact h.lfar y (by rw [← hv]; exact hy)
  · rw [hy] at hz
    injection hz with hz
    subst hz
    refine ⟨by omega, by omega, fun e => ?_, fun x hx e => ?_⟩
    · have := (h.ko.lt y e).2; omega
    · have := ((h.fix x hx).lt y e).2; omega
/-- a class more -/
theorem RLInv.app2 {kv' : Value} {K' : List Int} (h : RLInv w0 wr low prv P fx L K lv kv b g m cm) (ho : Own w' 23 w0.heap.size kv' (ints .i8 K')) (ha : Appended wr w' kv kv') : RLInv w0 w' low prv P fx L K' lv kv' b g m cm := by
  obtain ⟨h1, h2, h3, h4, h6⟩ := h.gB
  obtain ⟨hs, hv⟩ := appended_stay ha
  have hf : ∀ y, y ∈ kv.ownBlock.toList → y ≠ b ∧ y ≠ g ∧ lv.ownBlock ≠ some y ∧ ∀ x ∈ fx, x.2.1.ownBlock ≠ some y := fun y hy => by
    have hy' : kv.ownBlock = some y := by simpa using hy
    have := h.kfar y hy'
    exact ⟨this.1, this.2.1, fun e => (h.lfar y e).2.2.1 hy', this.2.2⟩
  have key : ∀ y, kv'.ownBlock = some y → y ≠ b ∧ y ≠ g ∧ lv.ownBlock ≠ some y ∧ ∀ x ∈ fx, x.2.1.ownBlock ≠ some y := by
    intro y hy
    rcases hv with hv | ⟨z, hz, hsz⟩
    · exact hf y (by rw [hv] at hy; simp [hy])
    · rw [hy] at hz
      injection hz with hz
      subst hz
      refine ⟨by omega, by omega, fun e => ?_, fun x hx e => ?_⟩
      · have := (h.lo.lt y e).2; omega
      · have := ((h.fix x hx).lt y e).2; omega
  refine ⟨h.pile.stay hs (fun hm => (hf b hm).1 rfl) (fun hm => (hf g hm).2.1 rfl), Stay.own hs h.lo fun x hx hm => (hf x hm).2.2.1 hx, ho, fun x hx => Stay.own hs (h.fix x hx) fun y hy hm => (hf y hm).2.2.2 x hx hy, fun y hy => ?_, fun y hy => ?_, h.ffar, h.below.trans (hs.toBelow h6 fun y hy => (h.ko.lt y (by simpa using hy)).1)⟩
  · have := h.lfar y hy
    exact ⟨this.1, this.2.1, fun e => (key y e).2.2.1 hy, this.2.2.2⟩
  · have := key y hy
    exact ⟨this.1, this.2.1, this.2.2.2⟩
end
set_option maxRecDepth 20000 in
set_option maxHeartbeats 8000000 in
theorem rlevels_any (zs : List Int) (A : Option Addr) (c base : Nat) (w : World) (hl : zs.length < 1048576) (h : Sl w w.heap.size A (ints .i8 zs)) :
    Calls Try.prog 18 #[.slice A zs.length c, .int .u8 base] w fun e w' => ∃ lv kv, e = .returned (.tuple #[lv, kv]) ∧ Own w' 5 w.heap.size lv (ints .u8 (lto (min base 125 : Nat) zs zs.length).1) ∧ Own w' 23 w.heap.size kv (ints .i8 (lto (min base 125 : Nat) zs zs.length).2.1) ∧
      (∀ x, lv.ownBlock = some x → kv.ownBlock ≠ some x) ∧ Below w.heap.size w w' := by
  obtain ⟨i5, hi5, hz50, hz51, hz52⟩ := info_parts info5
  obtain ⟨i23, hi23, hz230, hz231, hz232⟩ := info_parts info23
  obtain ⟨low, hlow⟩ : ∃ low : Int, low = ((min base 125 : Nat) : Int) := ⟨_, rfl⟩
  rw [← hlow]
  have hlow2 : 0 ≤ low ∧ low ≤ 125 := by omega
  have hmin := Lib.hid (fun ts t w => (min_u8 (P := Try.prog) base ts t w).trans (by rw [← hlow]) : ∀ (ts : Array TypeId) (t : TypeId) (w : World), (Builtin.min_ ts t #[.int .u8 base, .int .u8 125]).run Try.prog w = .ok (.int .u8 low) w)
  have HC := Lib.hid (classes_any zs A c w (by omega) h)
  clear hlow h
  go_enter Try.func18, Try.ntmps18
  go_wp2_with fail
  refine HC.out.mono ?_
  rintro e w1 ⟨CA, cc, rfl, hco, hcb⟩
  have hp0 := rpairs_any (zs.map clsL) CA cc w1 (by rw [List.length_map]; omega) hco.sl
  rw [List.length_map] at hp0
  have HP := Lib.hid hp0
  have HCO := Lib.hid hco
  have HCB := Lib.hid hcb
  clear hco hcb hp0
  go_upto_region 3 with (first
    | (go_at_call 11; refine HP.out.mono ?_; rintro e w2 ⟨PA, pc, rfl, hpo, hpb⟩; have HPO := Lib.hid hpo; have HPB := Lib.hid hpb; clear hpo hpb)
    | (refine wpList_min rfl (.tmp 15) (.const (.int .u8 125)) #[5, 5] rfl (.int .u8 base) (.int .u8 125) (.int .u8 low) rfl rfl hmin.out ?_))
  have hb0 := Blk.new w2 [.slice none 0 0, .int .i64 0, .int .i64 0, .int .i64 0, .int .u8 low, .slice PA zs.length pc] 57
  have HBG := Lib.hid (rbegin_any w.heap.size w2.heap.size low (.slice PA zs.length pc) _ _ _ _ _ hb0 (by have := HCB.out.size; have := HPB.out.size; omega))
  clear hb0
  go_wp2_with fail
  refine HBG.out.mono ?_
  rintro e w3 ⟨rfl, hp3, hst3⟩
  have HI0 := Lib.hid (show RLInv w w3 low (.slice PA zs.length pc) (beginP low) [(23, .slice CA zs.length cc, ints .i8 (zs.map clsL)), (3, .slice PA zs.length pc, ints .i64 (pairsL (zs.map clsL)))] [] [] (.slice none 0 0) (.slice none 0 0) w2.heap.size (w2.alloc (.cells #[.slice none 0 0, .int .i64 0, .int .i64 0, .int .i64 0, .int .u8 low, .slice PA zs.length pc] 57)).heap.size 1 1 from by
    have z1 := HCB.out.size
    have z2 := HPB.out.size
    have hc2 := HCO.out.below_ HPB.out
    have hst : Stay [w2.heap.size] w2 w3 := (Stay.alloc _ _).trans hst3
    refine ⟨hp3, Own.nil_ _ _ _, Own.nil_ _ _ _, fun x hx => ?_, by simp [Value.ownBlock], by simp [Value.ownBlock], fun x hx => ?_, HCB.out.trans ((HPB.out.mono z1).trans (hst.toBelow (by omega) (by simp; omega)))⟩
    · simp only [List.mem_cons, List.not_mem_nil, or_false] at hx
      rcases hx with rfl | rfl
      · exact Stay.own hst hc2 fun y hy => by have := (hc2.lt y hy).2; simp; omega
      · exact Stay.own hst (own_mono HPO.out z1) fun y hy => by have := (HPO.out.lt y hy).2; simp; omega
    · rw [size_alloc']
      simp only [List.mem_cons, List.not_mem_nil, or_false] at hx
      rcases hx with rfl | rfl
      · exact ⟨fun e => by have := (hc2.lt _ e).2; omega, fun e => by have := (hc2.lt _ e).2; omega⟩
      · exact ⟨fun e => by have := (HPO.out.lt _ e).2; omega, fun e => by have := (HPO.out.lt _ e).2; omega⟩)
  obtain ⟨b, hbb⟩ : ∃ b, b = w2.heap.size := ⟨_, rfl⟩
  obtain ⟨g0, hg0⟩ : ∃ g0, g0 = (w2.alloc (.cells #[.slice none 0 0, .int .i64 0, .int .i64 0, .int .i64 0, .int .u8 low, .slice PA zs.length pc] 57)).heap.size := ⟨_, rfl⟩
  rw [← hbb, ← hg0] at HI0
  rw [← hbb]
  clear hbb hg0 hp3 hst3 HBG
  go_wp2_with fail
  go_loopw [8, 9, 10] (fun lv kv iv wr => ∃ (k g n cm : Nat) (LX : Option Addr) (lc : Nat) (KX : Option Addr) (kc : Nat), k ≤ zs.length ∧ iv = .int .i64 k ∧ lv = .slice LX k lc ∧ kv = .slice KX k kc ∧
      RLInv w wr low (.slice PA zs.length pc) (lto low zs k).2.2 [(23, .slice CA zs.length cc, ints .i8 (zs.map clsL)), (3, .slice PA zs.length pc, ints .i64 (pairsL (zs.map clsL)))] (lto low zs k).1 (lto low zs k).2.1 (.slice LX k lc) (.slice KX k kc) b g n cm)
    (fun _ _ i _ => zs.length - (intOf i).toNat)
  case atStart => exact ⟨0, g0, 1, 1, none, 0, none, 0, by omega, rfl, rfl, rfl, HI0.out⟩
  case round =>
    obtain ⟨k, g, n, cm, LX, lc, KX, kc, hk, rfl, rfl, rfl, HI⟩ := hrel
    by_cases hlt : k < zs.length
    · have hlen := lto_length low zs k
      have HE := Lib.hid (show lto low zs (k + 1) = ((lto low zs k).1 ++ [(lstep low (clsL (zs.getD k 0)) (zs.drop (k + 1)) (lto low zs k).2.2).1],
        (lto low zs k).2.1 ++ [(lstep low (clsL (zs.getD k 0)) (zs.drop (k + 1)) (lto low zs k).2.2).2.1],
        (lstep low (clsL (zs.getD k 0)) (zs.drop (k + 1)) (lto low zs k).2.2).2.2) from rfl)
      have HPl := Lib.hid (rplace_any zs k hlt hl low w.heap.size b g n cm CA PA cc pc (lto low zs k).2.2 (lto_fine low zs hlow2 k) (lto_over low zs k) wr HI.pile
        (HI.fix (23, .slice CA zs.length cc, ints .i8 (zs.map clsL)) (by simp)).sl (HI.fix (3, .slice PA zs.length pc, ints .i64 (pairsL (zs.map clsL))) (by simp)).sl)
      obtain ⟨P, hP⟩ : ∃ P, P = (lto low zs k).2.2 := ⟨_, rfl⟩
      obtain ⟨L, hL⟩ : ∃ L, L = (lto low zs k).1 := ⟨_, rfl⟩
      obtain ⟨K, hK⟩ : ∃ K, K = (lto low zs k).2.1 := ⟨_, rfl⟩
      rw [← hP] at HI HE HPl
      rw [← hL] at HI HE hlen
      rw [← hK] at HI HE hlen
      obtain ⟨st, hst⟩ : ∃ st, st = lstep low (clsL (zs.getD k 0)) (zs.drop (k + 1)) P := ⟨_, rfl⟩
      rw [← hst] at HE HPl
      have hLl := Lib.hid (show (ints .u8 L).length = k by simpa using hlen.1)
      have hKl := Lib.hid (show (ints .i8 K).length = k by simpa using hlen.2)
      have HJ0 := Lib.hid HI
      obtain ⟨lev, hlev⟩ : ∃ lev, lev = st.1 := ⟨_, rfl⟩
      obtain ⟨kd, hkd⟩ : ∃ kd, kd = st.2.1 := ⟨_, rfl⟩
      obtain ⟨Q, hQ⟩ : ∃ Q, Q = st.2.2 := ⟨_, rfl⟩
      rw [← hlev, ← hkd, ← hQ] at HE HPl
      clear HI hlen hP hL hK hst hlev hkd hQ HI0 HC HP HCO HCB HPO HPB hmin
      go_wp2_with (first
        | (go_at_call 42; refine HPl.out.mono ?_; rintro e w4 ⟨rfl, g', n', cm', hp', hst', hg'⟩; have HJ := Lib.hid (HJ0.out.moved hp' hst' hg'); clear hp' hst' hg')
        | (at_builtin; refine wpList_append_sl2 _ rfl (.tmp 36) (.tmp 38) 32 rfl w.heap.size 5 i5 _ 1 Try.underlying32 hi5 hz50 hz51 hz52 rfl (.slice LX k lc) k _ hLl.out rfl (HJ.out.lo.alloc _) _ _ _ 1 [.int .u8 lev] rfl rfl (sl_one' _ _ _ _ (by simp)) (one_int _ _) (by unfold maxLen; omega) (by omega) (by rw [size_alloc']; have := HJ.out.gB.2.2.2.2; omega) ?_; intro LX2 lc2 w8 ho8 ha8
           have HJ8 := Lib.hid ((HJ.out.quiet (Stay.alloc _ _)).app1 (by rw [ints_snoc] at ho8; exact ho8) ha8)
           clear ho8 ha8)
        | (at_builtin; refine wpList_append_sl2 _ rfl (.tmp 40) (.tmp 42) 22 rfl w.heap.size 23 i23 _ 1 Try.underlying22 hi23 hz230 hz231 hz232 rfl (.slice KX k kc) k _ hKl.out rfl (HJ8.out.ko.alloc _) _ _ _ 1 [.int .i8 kd] rfl rfl (sl_one' _ _ _ _ (by simp)) (one_int _ _) (by unfold maxLen; omega) (by omega) (by rw [size_alloc']; have := HJ8.out.gB.2.2.2.2; omega) ?_; intro KX2 kc2 w9 ho9 ha9
           have HJ9 := Lib.hid ((HJ8.out.quiet (Stay.alloc _ _)).app2 (by rw [ints_snoc] at ho9; exact ho9) ha9)
           clear ho9 ha9))
      go_roundw
      case rel => exact ⟨k + 1, g', n', cm', LX2, lc2, KX2, kc2, by omega, by go_num, rfl, rfl, by rw [HE.out]; exact HJ9.out⟩
      case measure => simp [intOf]; omega
    · have hk' : k = zs.length := by omega
      subst hk'
      have HJ := Lib.hid HI
      clear HI HI0
      go_wp2
      exact bodyPost_ret (v := .tuple #[.slice LX zs.length lc, .slice KX zs.length kc]) (by simp [results, Try.results18, go_sem]) rfl ⟨_, _, rfl, HJ.out.lo, HJ.out.ko, fun x hx => (HJ.out.lfar x hx).2.2.1, HJ.out.below⟩
end Go.Proofs.Ytikgjnfimagpjaa
