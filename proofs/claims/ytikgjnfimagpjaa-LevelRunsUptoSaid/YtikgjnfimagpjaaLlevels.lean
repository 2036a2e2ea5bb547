/- package level: Levels. -/
import Derived.Test.YtikgjnfimagpjaaLinv
import Derived.Test.YtikgjnfimagpjaaLbase2
namespace Go.Proofs.Ytikgjnfimagpjaa
open Go.RowKit
theorem wpList_min {P : Program} {w : World} {ops : Array Oper} {rest : List Oper} {o : Oper} {ac : Act} {Q : Exit → Act → World → Prop} (hgd : o.guard = none) (s x : Operand) (ts : Array TypeId)
    (ho : o.op = .call { callee := .builtin .min, args := #[s, x], argTypes := ts }) (v u r : Value) (hs : ac.eval s = v) (hx : ac.eval x = u)
    (hr : ∀ (ts : Array TypeId) (t : TypeId) (w : World), (Builtin.min_ ts t #[v, u]).run P w = .ok r w)
    (h : wpList P ops Q rest (ac.put o.dst r) w) : wpList P ops Q (o :: rest) ac w := by
  refine wpList_plain hgd fun K hK => ?_
  unfold Oper.wp execOp
  simp only [ho, resolve, invoke, builtin, Sem.run_bind, Sem.run_pure, Result.andThen_ok, List.map_toArray, List.map_cons, List.map_nil, hs, hx, hr]
  exact hK _ _ h
theorem min_u8 {P : Program} (base : Nat) (ts : Array TypeId) (t : TypeId) (w : World) : (Builtin.min_ ts t #[.int .u8 base, .int .u8 125]).run P w = .ok (.int .u8 (min base 125 : Nat)) w := by
  by_cases h : base ≤ 125
  · rw [Nat.min_eq_left h]
    have h' : (base : Int) ≤ 125 := by omega
    simp [Builtin.min_, Builtin.min2, go_sem]
    intro; omega
  · rw [Nat.min_eq_right (by omega)]
    simp [Builtin.min_, Builtin.min2, go_sem]
    intro; omega
theorem info5 : (Try.prog.info? 5).map (fun i => (i.zero, i.size, i.bytes)) = some (some (.int .u8 0), 1, 1) := by kernel_rfl
theorem linv_begin {low : Int} {w0 wr : World} {P : PL} {L K : List Int} {lv kv : Value} {bb b g n c : Nat} (h : LInv low w0 wr P L K lv kv bb b g n c) :
    LInv low w0 ((wr.alloc (.cells #[.int .u8 low, .int .i8 (-1), .bool false] 61)).alloc (.cells #[.slice (some ⟨wr.heap.size, 0, none⟩) 1 1, .int .i64 0, .int .i64 0, .int .i64 0] 65)) (beginP low) L K lv kv bb (wr.heap.size + 1) wr.heap.size 1 1 := by
  obtain ⟨h1, h2, h3, h4, h5, h6⟩ := h.gB
  obtain ⟨w1, hw1⟩ : ∃ w1, w1 = wr.alloc (.cells #[.int .u8 low, .int .i8 (-1), .bool false] 61) := ⟨_, rfl⟩
  have s1 : w1.heap.size = wr.heap.size + 1 := by rw [hw1]; simp
  rw [← hw1]
  have hr : Row w1 w0.heap.size 61 3 wr.heap.size 1 1 [.int .u8 low, .int .i8 (-1), .bool false] := by
    rw [hw1]
    exact Row.new wr _ 61 3 1 _ rfl (by decide) h6
  have hb := Blk.new w1 [.slice (some ⟨wr.heap.size, 0, none⟩) 1 1, .int .i64 0, .int .i64 0, .int .i64 0] 65
  rw [s1] at hb
  have st1 : Stay [] wr w1 := by rw [hw1]; exact Stay.alloc _ _
  exact h.anew ⟨by omega, hb, rfl, hr.stay (F := []) (Stay.alloc _ _) (by simp), by omega⟩ (st1.trans (Stay.alloc _ _)) (by omega) (Nat.le_refl _)
set_option maxRecDepth 20000 in
theorem linv_start (low : Int) (w : World) : LInv low w (((w.alloc (.cells #[.int .u8 low, .int .i8 (-1), .bool false] 61)).alloc (.cells #[.int .u8 low, .int .i8 (-1), .bool false] 61)).alloc (.cells #[.slice (some ⟨w.heap.size + 1, 0, none⟩) 1 1, .int .i64 0, .int .i64 0, .int .i64 0] 65))
    (beginP low) [] [] (.slice none 0 0) (.slice none 0 0) w.heap.size (w.heap.size + 1 + 1) (w.heap.size + 1) 1 1 := by
  obtain ⟨w1, h1⟩ : ∃ w1, w1 = w.alloc (.cells #[.int .u8 low, .int .i8 (-1), .bool false] 61) := ⟨_, rfl⟩
  obtain ⟨w2, h2⟩ : ∃ w2, w2 = w1.alloc (.cells #[.int .u8 low, .int .i8 (-1), .bool false] 61) := ⟨_, rfl⟩
  have s1 : w1.heap.size = w.heap.size + 1 := by rw [h1]; simp
  have s2 : w2.heap.size = w.heap.size + 1 + 1 := by rw [h2]; simp [s1]
  rw [← h1, ← h2]
  have hb : Blk w1 w.heap.size [.int .u8 low, .int .i8 (-1), .bool false] 61 := by rw [h1]; exact Blk.new w _ 61
  have hr : Row w2 w.heap.size 61 3 (w.heap.size + 1) 1 1 [.int .u8 low, .int .i8 (-1), .bool false] := by
    rw [h2, ← s1]
    exact Row.new w1 _ 61 3 1 _ rfl (by decide) (by omega)
  have st2 : Stay [] w1 w2 := by rw [h2]; exact Stay.alloc _ _
  have st1 : Stay [] w w1 := by rw [h1]; exact Stay.alloc _ _
  refine ⟨⟨by omega, ?_, rfl, hr.stay (F := []) (Stay.alloc _ _) (by simp), by omega⟩, Own.nil_ _ _ _, Own.nil_ _ _ _, by simp [Value.ownBlock], by simp [Value.ownBlock], (hb.stay st2 (by simp)).stay (F := []) (Stay.alloc _ _) (by simp), ⟨by omega, by omega⟩, Nat.le_refl _, ((st1.trans st2).trans (Stay.alloc _ _)).toBelow (Nat.le_refl _) (by simp)⟩
  have := Blk.new w2 [.slice (some ⟨w.heap.size + 1, 0, none⟩) 1 1, .int .i64 0, .int .i64 0, .int .i64 0] 65
  rw [s2] at this
  exact this
set_option maxRecDepth 20000 in
set_option maxHeartbeats 8000000 in
theorem levels_any (zs : List Int) (A : Option Addr) (c base : Nat) (w : World) (hl : zs.length < 1048576) (hc : zs.length ≤ c ∧ c ≤ maxLen) (h : Sl w w.heap.size A (ints .i8 zs)) :
    Calls Try.prog 19 #[.slice A zs.length c, .int .u8 base] w fun e w' => ∃ lv kv, e = .returned (.tuple #[lv, kv]) ∧ Own w' 5 w.heap.size lv (ints .u8 (lto (min base 125 : Nat) zs zs.length).1) ∧ Own w' 23 w.heap.size kv (ints .i8 (lto (min base 125 : Nat) zs zs.length).2.1) ∧
      (∀ x, lv.ownBlock = some x → kv.ownBlock ≠ some x) ∧ Below w.heap.size w w' := by
  obtain ⟨i5, hi5, hz50, hz51, hz52⟩ := info_parts info5
  obtain ⟨i23, hi23, hz230, hz231, hz232⟩ := info_parts info23
  obtain ⟨low, hlow⟩ : ∃ low : Int, low = ((min base 125 : Nat) : Int) := ⟨_, rfl⟩
  rw [← hlow]
  have hlow2 : 0 ≤ low ∧ low ≤ 125 := by omega
  have hmin := Lib.hid (fun ts t w => (min_u8 (P := Try.prog) base ts t w).trans (by rw [← hlow]) : ∀ (ts : Array TypeId) (t : TypeId) (w : World), (Builtin.min_ ts t #[.int .u8 base, .int .u8 125]).run Try.prog w = .ok (.int .u8 low) w)
  clear hlow
  go_enter Try.func19, Try.ntmps19
  go_wp2_with (first | (refine wpList_min rfl (.tmp 14) (.const (.int .u8 125)) #[5, 5] rfl (.int .u8 base) (.int .u8 125) (.int .u8 low) rfl rfl hmin.out ?_))
  go_loopw [4, 5, 7, 23] (fun lv kv pv iv wr => ∃ (k b g n cc : Nat) (LX : Option Addr) (lc : Nat) (KX : Option Addr) (kc : Nat), k ≤ zs.length ∧ iv = .int .i64 k ∧ pv = .pointer (some ⟨b, 0, none⟩) ∧ lv = .slice LX k lc ∧ kv = .slice KX k kc ∧ LInv low w wr (lto low zs k).2.2 (lto low zs k).1 (lto low zs k).2.1 (.slice LX k lc) (.slice KX k kc) w.heap.size b g n cc)
    (fun _ _ _ i _ => zs.length - (intOf i).toNat)
  case atStart =>
    refine ⟨0, w.heap.size + 1 + 1, w.heap.size + 1, 1, 1, none, 0, none, 0, by omega, rfl, rfl, rfl, rfl, ?_⟩
    exact linv_start low w
  case round =>
    obtain ⟨k, b, g, n, cc, LX, lc, KX, kc, hk, rfl, rfl, rfl, rfl, HI⟩ := hrel
    by_cases hlt : k < zs.length
    · obtain ⟨ad, rfl, hadb, hcell⟩ := sl_at (h.below HI.below) hlt
      have hfine := lto_fine low zs hlow2 k
      have hlen := lto_length low zs k
      have HE := Lib.hid (show lto low zs (k + 1) = ((lto low zs k).1 ++ [(lstep low (clsL (zs.getD k 0)) (zs.drop (k + 1)) (lto low zs k).2.2).1],
        (lto low zs k).2.1 ++ [(lstep low (clsL (zs.getD k 0)) (zs.drop (k + 1)) (lto low zs k).2.2).2.1],
        (lstep low (clsL (zs.getD k 0)) (zs.drop (k + 1)) (lto low zs k).2.2).2.2) from rfl)
      obtain ⟨P, hP⟩ : ∃ P, P = (lto low zs k).2.2 := ⟨_, rfl⟩
      obtain ⟨L, hL⟩ : ∃ L, L = (lto low zs k).1 := ⟨_, rfl⟩
      obtain ⟨K, hK⟩ : ∃ K, K = (lto low zs k).2.1 := ⟨_, rfl⟩
      rw [← hP] at HI HE hfine
      rw [← hL] at HI HE hlen
      rw [← hK] at HI HE hlen
      have hLl := Lib.hid (show (ints .u8 L).length = k by simpa using hlen.1)
      have hKl := Lib.hid (show (ints .i8 K).length = k by simpa using hlen.2)
      have HK := Lib.hid (fun w => known_any (zs.getD k 0) w)
      obtain ⟨rest, hrest⟩ : ∃ rest, rest = zs.drop (k + 1) := ⟨_, rfl⟩
      obtain ⟨z, hz⟩ : ∃ z, z = zs.getD k 0 := ⟨_, rfl⟩
      obtain ⟨d, hd⟩ : ∃ d, d = clsL z := ⟨_, rfl⟩
      rw [← hz, ← hd] at HE HK
      rw [← hrest] at HE
      rw [← hz] at hcell
      have hdr : 0 ≤ d ∧ d ≤ 22 := by rw [hd]; exact clsL_range z
      obtain ⟨t, r, hstk, hsts, ht0, ht1⟩ := hfine.good.top
      have hn : n = P.stk.length := by have := HI.pile.len; simpa [PL.ps] using this.symm
      have hnk : n ≤ k + 1 := by have := hfine.len; omega
      have HT := Lib.hid (fun w' (hst : Stay [] wr w') => top_any _ b g n cc P.ps _ t hsts w' (HI.quiet hst).pile)
      have HS := Lib.hid (fun d w' (hst : Stay [] wr w') => said_any _ b g n cc P.ps _ t hsts d w' (HI.quiet hst).pile)
      have HTop := Lib.hid (show topP P = t from by simp [topP, hstk])
      have HI0 := Lib.hid HI
      have HF := Lib.hid hfine
      have HB := Lib.hid (show w.heap.size ≤ wr.heap.size from HI.gB.2.2.2.2.2)
      have HZ := Lib.hid hz
      have HRest := Lib.hid hrest
      have HSl := Lib.hid h
      have hfd : ∀ (l o : Int) (i : Bool) (w : World), (Instr.field 61 (.agg #[.int .u8 l, .int .i8 o, .bool i]) 0).run Try.prog w = .ok (.int .u8 l) w := fun _ _ _ _ => by kernel_rfl
      clear HI hfine hlen hP hL hK hz hd hstk hsts hn hrest h
      obtain ⟨lev, hlev⟩ : ∃ lev, lev = t.level := ⟨_, rfl⟩
      rw [← hlev] at HT ht0 ht1
      by_cases h14 : d = 14
      · subst h14
        have HX := Lib.hid (show lstep low 14 rest P = (lev, 9, embedP 14 P) from by
          unfold lstep
          rw [if_pos (by omega), HTop.out, hlev])
        have HM := Lib.hid (fun w' (hst : Stay [] wr w') => embed_any 14 (by omega) _ b g n cc P HF.out.good w' (HI0.out.quiet hst).pile (by omega) (by have := HF.out.lost; omega))
        clear hlev
        go_wp2_with (first
          | (go_at_call 35; refine (HK.out _).mono ?_; rintro e w' ⟨rfl, rfl⟩)
          | (go_at_call 43; refine (HT.out _ (Stay.refl _ _)).mono ?_; rintro e w1 ⟨rfl, hst1⟩)
          | (go_at_call 44; refine (HS.out _ _ hst1).mono ?_; rintro e w2 ⟨rfl, hst2⟩; )
          | (go_at_call 45; refine (HM.out _ (hst1.trans hst2)).mono ?_; rintro e w3 ⟨rfl, g', n', c', hn', hp', hst3, hg'⟩; have HJ := Lib.hid ((HI0.out.quiet (hst1.trans hst2)).moved hp' hst3 hg'); clear hn' hp' hst3 hg')
          | (at_builtin; refine wpList_append_sl2 _ rfl (.tmp 110) (.tmp 112) 32 rfl w.heap.size 5 i5 _ 1 Try.underlying32 hi5 hz50 hz51 hz52 rfl (.slice LX k lc) k _ hLl.out rfl (HJ.out.lo.alloc _) _ _ _ 1 [.int .u8 lev] rfl rfl (sl_one' _ _ _ _ (by simp)) (one_int _ _) (by unfold maxLen; omega) (by omega) (by rw [size_alloc']; have := HJ.out.gB.2.2.2.2.2; omega) ?_; intro LX2 lc2 w8 ho8 ha8
             have HJ8 := Lib.hid ((HJ.out.quiet (Stay.alloc _ _)).app1 (by rw [ints_snoc] at ho8; exact ho8) ha8)
             clear ho8 ha8)
          | (at_builtin; refine wpList_append_sl2 _ rfl (.tmp 114) (.tmp 116) 22 rfl w.heap.size 23 i23 _ 1 Try.underlying22 hi23 hz230 hz231 hz232 rfl (.slice KX k kc) k _ hKl.out rfl (HJ8.out.ko.alloc _) _ _ _ 1 [.int .i8 9] rfl rfl (sl_one' _ _ _ _ (by simp)) (one_int _ _) (by unfold maxLen; omega) (by omega) (by rw [size_alloc']; have := HJ8.out.gB.2.2.2.2.2; omega) ?_; intro KX2 kc2 w9 ho9 ha9
             have HJ9 := Lib.hid ((HJ8.out.quiet (Stay.alloc _ _)).app2 (by rw [ints_snoc] at ho9; exact ho9) ha9)
             clear ho9 ha9))
        go_roundw
        case rel => exact ⟨k + 1, b, g', n', c', LX2, lc2, KX2, kc2, by omega, by go_num, rfl, rfl, rfl, by rw [HE.out, HX.out]; exact HJ9.out⟩
        case measure => simp [intOf]; omega
      by_cases h15 : d = 15
      · subst h15
        have HX := Lib.hid (show lstep low 15 rest P = (lev, 9, embedP 15 P) from by
          unfold lstep
          rw [if_pos (by omega), HTop.out, hlev])
        have HM := Lib.hid (fun w' (hst : Stay [] wr w') => embed_any 15 (by omega) _ b g n cc P HF.out.good w' (HI0.out.quiet hst).pile (by omega) (by have := HF.out.lost; omega))
        clear hlev
        go_wp2_with (first
          | (go_at_call 35; refine (HK.out _).mono ?_; rintro e w' ⟨rfl, rfl⟩)
          | (go_at_call 43; refine (HT.out _ (Stay.refl _ _)).mono ?_; rintro e w1 ⟨rfl, hst1⟩)
          | (go_at_call 44; refine (HS.out _ _ hst1).mono ?_; rintro e w2 ⟨rfl, hst2⟩; )
          | (go_at_call 45; refine (HM.out _ (hst1.trans hst2)).mono ?_; rintro e w3 ⟨rfl, g', n', c', hn', hp', hst3, hg'⟩; have HJ := Lib.hid ((HI0.out.quiet (hst1.trans hst2)).moved hp' hst3 hg'); clear hn' hp' hst3 hg')
          | (at_builtin; refine wpList_append_sl2 _ rfl (.tmp 110) (.tmp 112) 32 rfl w.heap.size 5 i5 _ 1 Try.underlying32 hi5 hz50 hz51 hz52 rfl (.slice LX k lc) k _ hLl.out rfl (HJ.out.lo.alloc _) _ _ _ 1 [.int .u8 lev] rfl rfl (sl_one' _ _ _ _ (by simp)) (one_int _ _) (by unfold maxLen; omega) (by omega) (by rw [size_alloc']; have := HJ.out.gB.2.2.2.2.2; omega) ?_; intro LX2 lc2 w8 ho8 ha8
             have HJ8 := Lib.hid ((HJ.out.quiet (Stay.alloc _ _)).app1 (by rw [ints_snoc] at ho8; exact ho8) ha8)
             clear ho8 ha8)
          | (at_builtin; refine wpList_append_sl2 _ rfl (.tmp 114) (.tmp 116) 22 rfl w.heap.size 23 i23 _ 1 Try.underlying22 hi23 hz230 hz231 hz232 rfl (.slice KX k kc) k _ hKl.out rfl (HJ8.out.ko.alloc _) _ _ _ 1 [.int .i8 9] rfl rfl (sl_one' _ _ _ _ (by simp)) (one_int _ _) (by unfold maxLen; omega) (by omega) (by rw [size_alloc']; have := HJ8.out.gB.2.2.2.2.2; omega) ?_; intro KX2 kc2 w9 ho9 ha9
             have HJ9 := Lib.hid ((HJ8.out.quiet (Stay.alloc _ _)).app2 (by rw [ints_snoc] at ho9; exact ho9) ha9)
             clear ho9 ha9))
        go_roundw
        case rel => exact ⟨k + 1, b, g', n', c', LX2, lc2, KX2, kc2, by omega, by go_num, rfl, rfl, rfl, by rw [HE.out, HX.out]; exact HJ9.out⟩
        case measure => simp [intOf]; omega
      by_cases h16 : d = 16
      · subst h16
        have HX := Lib.hid (show lstep low 16 rest P = (lev, 9, embedP 16 P) from by
          unfold lstep
          rw [if_pos (by omega), HTop.out, hlev])
        have HM := Lib.hid (fun w' (hst : Stay [] wr w') => embed_any 16 (by omega) _ b g n cc P HF.out.good w' (HI0.out.quiet hst).pile (by omega) (by have := HF.out.lost; omega))
        clear hlev
        go_wp2_with (first
          | (go_at_call 35; refine (HK.out _).mono ?_; rintro e w' ⟨rfl, rfl⟩)
          | (go_at_call 43; refine (HT.out _ (Stay.refl _ _)).mono ?_; rintro e w1 ⟨rfl, hst1⟩)
          | (go_at_call 44; refine (HS.out _ _ hst1).mono ?_; rintro e w2 ⟨rfl, hst2⟩; )
          | (go_at_call 45; refine (HM.out _ (hst1.trans hst2)).mono ?_; rintro e w3 ⟨rfl, g', n', c', hn', hp', hst3, hg'⟩; have HJ := Lib.hid ((HI0.out.quiet (hst1.trans hst2)).moved hp' hst3 hg'); clear hn' hp' hst3 hg')
          | (at_builtin; refine wpList_append_sl2 _ rfl (.tmp 110) (.tmp 112) 32 rfl w.heap.size 5 i5 _ 1 Try.underlying32 hi5 hz50 hz51 hz52 rfl (.slice LX k lc) k _ hLl.out rfl (HJ.out.lo.alloc _) _ _ _ 1 [.int .u8 lev] rfl rfl (sl_one' _ _ _ _ (by simp)) (one_int _ _) (by unfold maxLen; omega) (by omega) (by rw [size_alloc']; have := HJ.out.gB.2.2.2.2.2; omega) ?_; intro LX2 lc2 w8 ho8 ha8
             have HJ8 := Lib.hid ((HJ.out.quiet (Stay.alloc _ _)).app1 (by rw [ints_snoc] at ho8; exact ho8) ha8)
             clear ho8 ha8)
          | (at_builtin; refine wpList_append_sl2 _ rfl (.tmp 114) (.tmp 116) 22 rfl w.heap.size 23 i23 _ 1 Try.underlying22 hi23 hz230 hz231 hz232 rfl (.slice KX k kc) k _ hKl.out rfl (HJ8.out.ko.alloc _) _ _ _ 1 [.int .i8 9] rfl rfl (sl_one' _ _ _ _ (by simp)) (one_int _ _) (by unfold maxLen; omega) (by omega) (by rw [size_alloc']; have := HJ8.out.gB.2.2.2.2.2; omega) ?_; intro KX2 kc2 w9 ho9 ha9
             have HJ9 := Lib.hid ((HJ8.out.quiet (Stay.alloc _ _)).app2 (by rw [ints_snoc] at ho9; exact ho9) ha9)
             clear ho9 ha9))
        go_roundw
        case rel => exact ⟨k + 1, b, g', n', c', LX2, lc2, KX2, kc2, by omega, by go_num, rfl, rfl, rfl, by rw [HE.out, HX.out]; exact HJ9.out⟩
        case measure => simp [intOf]; omega
      by_cases h17 : d = 17
      · subst h17
        have HX := Lib.hid (show lstep low 17 rest P = (lev, 9, embedP 17 P) from by
          unfold lstep
          rw [if_pos (by omega), HTop.out, hlev])
        have HM := Lib.hid (fun w' (hst : Stay [] wr w') => embed_any 17 (by omega) _ b g n cc P HF.out.good w' (HI0.out.quiet hst).pile (by omega) (by have := HF.out.lost; omega))
        clear hlev
        go_wp2_with (first
          | (go_at_call 35; refine (HK.out _).mono ?_; rintro e w' ⟨rfl, rfl⟩)
          | (go_at_call 43; refine (HT.out _ (Stay.refl _ _)).mono ?_; rintro e w1 ⟨rfl, hst1⟩)
          | (go_at_call 44; refine (HS.out _ _ hst1).mono ?_; rintro e w2 ⟨rfl, hst2⟩; )
          | (go_at_call 45; refine (HM.out _ (hst1.trans hst2)).mono ?_; rintro e w3 ⟨rfl, g', n', c', hn', hp', hst3, hg'⟩; have HJ := Lib.hid ((HI0.out.quiet (hst1.trans hst2)).moved hp' hst3 hg'); clear hn' hp' hst3 hg')
          | (at_builtin; refine wpList_append_sl2 _ rfl (.tmp 110) (.tmp 112) 32 rfl w.heap.size 5 i5 _ 1 Try.underlying32 hi5 hz50 hz51 hz52 rfl (.slice LX k lc) k _ hLl.out rfl (HJ.out.lo.alloc _) _ _ _ 1 [.int .u8 lev] rfl rfl (sl_one' _ _ _ _ (by simp)) (one_int _ _) (by unfold maxLen; omega) (by omega) (by rw [size_alloc']; have := HJ.out.gB.2.2.2.2.2; omega) ?_; intro LX2 lc2 w8 ho8 ha8
             have HJ8 := Lib.hid ((HJ.out.quiet (Stay.alloc _ _)).app1 (by rw [ints_snoc] at ho8; exact ho8) ha8)
             clear ho8 ha8)
          | (at_builtin; refine wpList_append_sl2 _ rfl (.tmp 114) (.tmp 116) 22 rfl w.heap.size 23 i23 _ 1 Try.underlying22 hi23 hz230 hz231 hz232 rfl (.slice KX k kc) k _ hKl.out rfl (HJ8.out.ko.alloc _) _ _ _ 1 [.int .i8 9] rfl rfl (sl_one' _ _ _ _ (by simp)) (one_int _ _) (by unfold maxLen; omega) (by omega) (by rw [size_alloc']; have := HJ8.out.gB.2.2.2.2.2; omega) ?_; intro KX2 kc2 w9 ho9 ha9
             have HJ9 := Lib.hid ((HJ8.out.quiet (Stay.alloc _ _)).app2 (by rw [ints_snoc] at ho9; exact ho9) ha9)
             clear ho9 ha9))
        go_roundw
        case rel => exact ⟨k + 1, b, g', n', c', LX2, lc2, KX2, kc2, by omega, by go_num, rfl, rfl, rfl, by rw [HE.out, HX.out]; exact HJ9.out⟩
        case measure => simp [intOf]; omega
      by_cases h18 : d = 18
      · subst h18
        obtain ⟨t2, r2, hstk2, hsts2, _, _⟩ := (end_fine HF.out).good.top
        have HX := Lib.hid (show lstep low 18 rest P = (t2.level, 9, endP P) from by
          unfold lstep
          rw [if_neg (by omega), if_neg (by rw [opensB_iff]; omega), if_neg (by omega), if_pos rfl, show topP (endP P) = t2 from by simp [topP, hstk2]])
        have HM := Lib.hid (fun w' (hst : Stay [] wr w') => end_any _ b g n cc P HF.out.good w' (HI0.out.quiet hst).pile (by have := HF.out.lost; omega))
        have HT2 := Lib.hid (fun w' n' c' (hp : PileAt w' w.heap.size b g n' c' (endP P).ps) => top_any _ b g n' c' _ _ t2 hsts2 w' hp)
        clear hlev hstk2 hsts2
        obtain ⟨lev2, hlev2⟩ : ∃ lev2, lev2 = t2.level := ⟨_, rfl⟩
        rw [← hlev2] at HX HT2
        clear hlev2
        go_wp2_with (first
          | (go_at_call 35; refine (HK.out _).mono ?_; rintro e w' ⟨rfl, rfl⟩)
          | (go_at_call 43; refine (HT.out _ (Stay.refl _ _)).mono ?_; rintro e w1 ⟨rfl, hst1⟩)
          | (go_at_call 44; refine (HS.out _ _ hst1).mono ?_; rintro e w2 ⟨rfl, hst2⟩; )
          | (go_at_call 48; refine (HM.out _ (hst1.trans hst2)).mono ?_; rintro e w3 ⟨rfl, n', c', hn', hp', hst3⟩; have HJ := Lib.hid ((HI0.out.quiet (hst1.trans hst2)).moved hp' (hst3.mono (by simp)) (.inl rfl)); clear hn' hp' hst3)
          | (go_at_call 43; refine (HT2.out _ _ _ HJ.out.pile).mono ?_; rintro e w4 ⟨rfl, hst4⟩; replace HJ := Lib.hid (HJ.out.quiet hst4))
          | (at_builtin; refine wpList_append_sl2 _ rfl (.tmp 110) (.tmp 112) 32 rfl w.heap.size 5 i5 _ 1 Try.underlying32 hi5 hz50 hz51 hz52 rfl (.slice LX k lc) k _ hLl.out rfl (HJ.out.lo.alloc _) _ _ _ 1 [.int .u8 lev2] rfl rfl (sl_one' _ _ _ _ (by simp)) (one_int _ _) (by unfold maxLen; omega) (by omega) (by rw [size_alloc']; have := HJ.out.gB.2.2.2.2.2; omega) ?_; intro LX2 lc2 w8 ho8 ha8
             have HJ8 := Lib.hid ((HJ.out.quiet (Stay.alloc _ _)).app1 (by rw [ints_snoc] at ho8; exact ho8) ha8)
             clear ho8 ha8)
          | (at_builtin; refine wpList_append_sl2 _ rfl (.tmp 114) (.tmp 116) 22 rfl w.heap.size 23 i23 _ 1 Try.underlying22 hi23 hz230 hz231 hz232 rfl (.slice KX k kc) k _ hKl.out rfl (HJ8.out.ko.alloc _) _ _ _ 1 [.int .i8 9] rfl rfl (sl_one' _ _ _ _ (by simp)) (one_int _ _) (by unfold maxLen; omega) (by omega) (by rw [size_alloc']; have := HJ8.out.gB.2.2.2.2.2; omega) ?_; intro KX2 kc2 w9 ho9 ha9
             have HJ9 := Lib.hid ((HJ8.out.quiet (Stay.alloc _ _)).app2 (by rw [ints_snoc] at ho9; exact ho9) ha9)
             clear ho9 ha9))
        go_roundw
        case rel => exact ⟨k + 1, b, g, n', c', LX2, lc2, KX2, kc2, by omega, by go_num, rfl, rfl, rfl, by rw [HE.out, HX.out]; exact HJ9.out⟩
        case measure => simp [intOf]; omega
      by_cases h22 : d = 22
      · subst h22
        obtain ⟨t2, r2, hstk2, hsts2, _, _⟩ := (close_fine HF.out).good.top
        have HX := Lib.hid (show lstep low 22 rest P = (t2.level, saidL t2.over 22, closeP P) from by
          unfold lstep
          rw [if_neg (by omega), if_neg (by rw [opensB_iff]; omega), if_pos rfl, show topP (closeP P) = t2 from by simp [topP, hstk2]])
        have HM := Lib.hid (fun w' (hst : Stay [] wr w') => close_any _ b g n cc P HF.out.good w' (HI0.out.quiet hst).pile (by have := HF.out.deep; have := HF.out.opens; omega))
        have HT2 := Lib.hid (fun w' n' c' (hp : PileAt w' w.heap.size b g n' c' (closeP P).ps) => top_any _ b g n' c' _ _ t2 hsts2 w' hp)
        have HS2 := Lib.hid (fun w' n' c' (hp : PileAt w' w.heap.size b g n' c' (closeP P).ps) => said_any _ b g n' c' _ _ t2 hsts2 22 w' hp)
        clear hlev hstk2 hsts2
        obtain ⟨lev2, hlev2⟩ : ∃ lev2, lev2 = t2.level := ⟨_, rfl⟩
        obtain ⟨kd, hkd⟩ : ∃ kd, kd = saidL t2.over 22 := ⟨_, rfl⟩
        rw [← hlev2] at HX HT2
        rw [← hkd] at HX HS2
        clear hlev2 hkd
        go_wp2_with (first
          | (go_at_call 35; refine (HK.out _).mono ?_; rintro e w' ⟨rfl, rfl⟩)
          | (go_at_call 43; refine (HT.out _ (Stay.refl _ _)).mono ?_; rintro e w1 ⟨rfl, hst1⟩)
          | (go_at_call 44; refine (HS.out _ _ hst1).mono ?_; rintro e w2 ⟨rfl, hst2⟩; )
          | (go_at_call 47; refine (HM.out _ (hst1.trans hst2)).mono ?_; rintro e w3 ⟨rfl, n', c', hn', hp', hst3⟩; have HJ := Lib.hid ((HI0.out.quiet (hst1.trans hst2)).moved hp' (hst3.mono (by simp)) (.inl rfl)); clear hn' hp' hst3)
          | (go_at_call 43; refine (HT2.out _ _ _ HJ.out.pile).mono ?_; rintro e w4 ⟨rfl, hst4⟩; replace HJ := Lib.hid (HJ.out.quiet hst4))
          | (go_at_call 44; refine (HS2.out _ _ _ HJ.out.pile).mono ?_; rintro e w5 ⟨rfl, hst5⟩; replace HJ := Lib.hid (HJ.out.quiet hst5))
          | (at_builtin; refine wpList_append_sl2 _ rfl (.tmp 110) (.tmp 112) 32 rfl w.heap.size 5 i5 _ 1 Try.underlying32 hi5 hz50 hz51 hz52 rfl (.slice LX k lc) k _ hLl.out rfl (HJ.out.lo.alloc _) _ _ _ 1 [.int .u8 lev2] rfl rfl (sl_one' _ _ _ _ (by simp)) (one_int _ _) (by unfold maxLen; omega) (by omega) (by rw [size_alloc']; have := HJ.out.gB.2.2.2.2.2; omega) ?_; intro LX2 lc2 w8 ho8 ha8
             have HJ8 := Lib.hid ((HJ.out.quiet (Stay.alloc _ _)).app1 (by rw [ints_snoc] at ho8; exact ho8) ha8)
             clear ho8 ha8)
          | (at_builtin; refine wpList_append_sl2 _ rfl (.tmp 114) (.tmp 116) 22 rfl w.heap.size 23 i23 _ 1 Try.underlying22 hi23 hz230 hz231 hz232 rfl (.slice KX k kc) k _ hKl.out rfl (HJ8.out.ko.alloc _) _ _ _ 1 [.int .i8 kd] rfl rfl (sl_one' _ _ _ _ (by simp)) (one_int _ _) (by unfold maxLen; omega) (by omega) (by rw [size_alloc']; have := HJ8.out.gB.2.2.2.2.2; omega) ?_; intro KX2 kc2 w9 ho9 ha9
             have HJ9 := Lib.hid ((HJ8.out.quiet (Stay.alloc _ _)).app2 (by rw [ints_snoc] at ho9; exact ho9) ha9)
             clear ho9 ha9))
        go_roundw
        case rel => exact ⟨k + 1, b, g, n', c', LX2, lc2, KX2, kc2, by omega, by go_num, rfl, rfl, rfl, by rw [HE.out, HX.out]; exact HJ9.out⟩
        case measure => simp [intOf]; omega
      by_cases h9 : d = 9
      · subst h9
        have HX := Lib.hid (show lstep low 9 rest P = (lev, 9, P) from by
          unfold lstep
          rw [if_neg (by omega), if_neg (by rw [opensB_iff]; omega), if_neg (by omega), if_neg (by omega), if_pos rfl, HTop.out, hlev])
        clear hlev
        go_wp2_with (first
          | (go_at_call 35; refine (HK.out _).mono ?_; rintro e w' ⟨rfl, rfl⟩)
          | (go_at_call 43; refine (HT.out _ (Stay.refl _ _)).mono ?_; rintro e w1 ⟨rfl, hst1⟩)
          | (go_at_call 44; refine (HS.out _ _ hst1).mono ?_; rintro e w2 ⟨rfl, hst2⟩; have HJ := Lib.hid (HI0.out.quiet (hst1.trans hst2)))
          | (at_builtin; refine wpList_append_sl2 _ rfl (.tmp 110) (.tmp 112) 32 rfl w.heap.size 5 i5 _ 1 Try.underlying32 hi5 hz50 hz51 hz52 rfl (.slice LX k lc) k _ hLl.out rfl (HJ.out.lo.alloc _) _ _ _ 1 [.int .u8 lev] rfl rfl (sl_one' _ _ _ _ (by simp)) (one_int _ _) (by unfold maxLen; omega) (by omega) (by rw [size_alloc']; have := HJ.out.gB.2.2.2.2.2; omega) ?_; intro LX2 lc2 w8 ho8 ha8
             have HJ8 := Lib.hid ((HJ.out.quiet (Stay.alloc _ _)).app1 (by rw [ints_snoc] at ho8; exact ho8) ha8)
             clear ho8 ha8)
          | (at_builtin; refine wpList_append_sl2 _ rfl (.tmp 114) (.tmp 116) 22 rfl w.heap.size 23 i23 _ 1 Try.underlying22 hi23 hz230 hz231 hz232 rfl (.slice KX k kc) k _ hKl.out rfl (HJ8.out.ko.alloc _) _ _ _ 1 [.int .i8 9] rfl rfl (sl_one' _ _ _ _ (by simp)) (one_int _ _) (by unfold maxLen; omega) (by omega) (by rw [size_alloc']; have := HJ8.out.gB.2.2.2.2.2; omega) ?_; intro KX2 kc2 w9 ho9 ha9
             have HJ9 := Lib.hid ((HJ8.out.quiet (Stay.alloc _ _)).app2 (by rw [ints_snoc] at ho9; exact ho9) ha9)
             clear ho9 ha9))
        go_roundw
        case rel => exact ⟨k + 1, b, g, n, cc, LX2, lc2, KX2, kc2, by omega, by go_num, rfl, rfl, rfl, by rw [HE.out, HX.out]; exact HJ9.out⟩
        case measure => simp [intOf]; omega
      by_cases h10 : d = 10
      · subst h10
        have HX := Lib.hid (show lstep low 10 rest P = (low, 10, beginP low) from by
          unfold lstep
          rw [if_neg (by omega), if_neg (by rw [opensB_iff]; omega), if_neg (by omega), if_neg (by omega), if_neg (by omega), if_pos rfl])
        clear hlev
        go_wp2_with (first
          | (go_at_call 35; refine (HK.out _).mono ?_; rintro e w' ⟨rfl, rfl⟩)
          | (go_at_call 43; refine (HT.out _ (Stay.refl _ _)).mono ?_; rintro e w1 ⟨rfl, hst1⟩)
          | (go_at_call 44; refine (HS.out _ _ hst1).mono ?_; rintro e w2 ⟨rfl, hst2⟩; have hcb := (HI0.out.quiet (hst1.trans hst2)).beg
             have hb0 := hcb.cell 0
             have hb1 := hcb.cell 1
             have hb2 := hcb.cell 2
             simp only [List.getElem?_cons_zero, List.getElem?_cons_succ] at hb0 hb1 hb2
             have hb3 := ((hcb.stay (F := []) (Stay.alloc _ (.cells #[.int .u8 low, .int .i8 (-1), .bool false] 61)) (by simp)).stay (F := []) (Stay.alloc _ (.cells #[.slice (some ⟨w2.heap.size, 0, none⟩) 1 1, .int .i64 0, .int .i64 0, .int .i64 0] 65)) (by simp)).cell 0
             simp only [List.getElem?_cons_zero] at hb3
             have HJ := Lib.hid (linv_begin (HI0.out.quiet (hst1.trans hst2)))
             clear hcb)
          | (at_builtin; refine wpList_append_sl2 _ rfl (.tmp 110) (.tmp 112) 32 rfl w.heap.size 5 i5 _ 1 Try.underlying32 hi5 hz50 hz51 hz52 rfl (.slice LX k lc) k _ hLl.out rfl (HJ.out.lo.alloc _) _ _ _ 1 [.int .u8 low] rfl rfl (sl_one' _ _ _ _ (by simp)) (one_int _ _) (by unfold maxLen; omega) (by omega) (by rw [size_alloc']; have := HJ.out.gB.2.2.2.2.2; omega) ?_; intro LX2 lc2 w8 ho8 ha8
             have HJ8 := Lib.hid ((HJ.out.quiet (Stay.alloc _ _)).app1 (by rw [ints_snoc] at ho8; exact ho8) ha8)
             clear ho8 ha8)
          | (at_builtin; refine wpList_append_sl2 _ rfl (.tmp 114) (.tmp 116) 22 rfl w.heap.size 23 i23 _ 1 Try.underlying22 hi23 hz230 hz231 hz232 rfl (.slice KX k kc) k _ hKl.out rfl (HJ8.out.ko.alloc _) _ _ _ 1 [.int .i8 10] rfl rfl (sl_one' _ _ _ _ (by simp)) (one_int _ _) (by unfold maxLen; omega) (by omega) (by rw [size_alloc']; have := HJ8.out.gB.2.2.2.2.2; omega) ?_; intro KX2 kc2 w9 ho9 ha9
             have HJ9 := Lib.hid ((HJ8.out.quiet (Stay.alloc _ _)).app2 (by rw [ints_snoc] at ho9; exact ho9) ha9)
             clear ho9 ha9))
        go_roundw
        case rel => exact ⟨k + 1, _, _, _, _, LX2, lc2, KX2, kc2, by omega, by go_num, rfl, rfl, rfl, by rw [HE.out, HX.out]; exact HJ9.out⟩
        case measure => simp [intOf]; omega
      by_cases h19 : d = 19
      · subst h19
        have hodd : oddB 19 rest = false := rfl
        obtain ⟨kd, hkd⟩ : ∃ kd : Int, kd = saidL t.over 19 := ⟨_, rfl⟩
        have HS2 := Lib.hid (show ∀ w' (hst : Stay [] wr w'), Calls Try.prog 44 #[.pointer (some ⟨b, 0, none⟩), .int .i8 19] w' fun e w'' => e = .returned (.int .i8 kd) ∧ Stay [] w' w'' from fun w' hst => by rw [hkd]; exact HS.out 19 w' hst)
        have HL := Lib.hid (fun w' (hst : Stay [] wr w') => lay_any false (-1) true _ b g n cc P HF.out.good w' (HI0.out.quiet hst).pile (by omega))
        cases hl : layP false (-1) true P with
        | some q =>
          have HX := Lib.hid (show lstep low 19 rest P = (lev, kd, { q with opens := q.opens + 1 }) from by
            unfold lstep
            rw [if_neg (by omega), if_pos (by rw [opensB_iff]; omega), HTop.out, hkd, hlev, hodd]
            unfold isoP
            rw [hl])
          have HQ := Lib.hid (show q.opens ≤ 2097152 from by
            obtain ⟨_, _, _, _, _, _, rfl⟩ := layP_some hl
            have := HF.out.opens
            show P.opens ≤ _
            omega)
          rw [hl] at HL
          clear hkd hlev hl hodd
          go_wp2_with (first
            | (go_at_call 35; refine (HK.out _).mono ?_; rintro e w' ⟨rfl, rfl⟩)
            | (go_at_call 43; refine (HT.out _ (Stay.refl _ _)).mono ?_; rintro e w1 ⟨rfl, hst1⟩)
            | (go_at_call 44; refine (HS2.out _ hst1).mono ?_; rintro e w2 ⟨rfl, hst2⟩; )
            | (go_at_call 46; refine (HL.out _ (hst1.trans hst2)).mono ?_; rintro e w3 ⟨rfl, g', n', c', hn', hp', hst3, hg'⟩
               have hb := hp'.blk.cell 1
               have hbf := hp'.blk.free 1
               have hbb := hp'.blk.lt
               have hqb := HQ.out
               simp only [List.getElem?_cons_zero, List.getElem?_cons_succ, PL.ps, Option.getD_some] at hb
               have HJ := Lib.hid ((HI0.out.quiet (hst1.trans hst2)).moved (Q := { q with opens := q.opens + 1 }) (open_put hp' ⟨rfl, rfl, rfl, by simp [PL.ps]⟩) (hst3.set' (p := ⟨b, 1, none⟩) (u := .int .i64 (q.opens + 1 : Int)) (.inl (by simp))) hg')
               clear hn' hp' hst3 hg')
            | (at_builtin; refine wpList_append_sl2 _ rfl (.tmp 110) (.tmp 112) 32 rfl w.heap.size 5 i5 _ 1 Try.underlying32 hi5 hz50 hz51 hz52 rfl (.slice LX k lc) k _ hLl.out rfl (HJ.out.lo.alloc _) _ _ _ 1 [.int .u8 lev] rfl rfl (sl_one' _ _ _ _ (by simp)) (one_int _ _) (by unfold maxLen; omega) (by omega) (by rw [size_alloc']; have := HJ.out.gB.2.2.2.2.2; omega) ?_; intro LX2 lc2 w8 ho8 ha8
               have HJ8 := Lib.hid ((HJ.out.quiet (Stay.alloc _ _)).app1 (by rw [ints_snoc] at ho8; exact ho8) ha8)
               clear ho8 ha8)
            | (at_builtin; refine wpList_append_sl2 _ rfl (.tmp 114) (.tmp 116) 22 rfl w.heap.size 23 i23 _ 1 Try.underlying22 hi23 hz230 hz231 hz232 rfl (.slice KX k kc) k _ hKl.out rfl (HJ8.out.ko.alloc _) _ _ _ 1 [.int .i8 kd] rfl rfl (sl_one' _ _ _ _ (by simp)) (one_int _ _) (by unfold maxLen; omega) (by omega) (by rw [size_alloc']; have := HJ8.out.gB.2.2.2.2.2; omega) ?_; intro KX2 kc2 w9 ho9 ha9
               have HJ9 := Lib.hid ((HJ8.out.quiet (Stay.alloc _ _)).app2 (by rw [ints_snoc] at ho9; exact ho9) ha9)
               clear ho9 ha9))
          go_roundw
          case rel => exact ⟨k + 1, b, g', n', c', LX2, lc2, KX2, kc2, by omega, by go_num, rfl, rfl, rfl, by rw [HE.out, HX.out]; exact HJ9.out⟩
          case measure => simp [intOf]; omega
        | none =>
          have HX := Lib.hid (show lstep low 19 rest P = (lev, kd, { P with deep := P.deep + 1 }) from by
            unfold lstep
            rw [if_neg (by omega), if_pos (by rw [opensB_iff]; omega), HTop.out, hkd, hlev, hodd]
            unfold isoP
            rw [hl])
          have HQ := Lib.hid (show P.deep ≤ 2097152 from by have := HF.out.deep; omega)
          rw [hl] at HL
          clear hkd hlev hl hodd
          go_wp2_with (first
            | (go_at_call 35; refine (HK.out _).mono ?_; rintro e w' ⟨rfl, rfl⟩)
            | (go_at_call 43; refine (HT.out _ (Stay.refl _ _)).mono ?_; rintro e w1 ⟨rfl, hst1⟩)
            | (go_at_call 44; refine (HS2.out _ hst1).mono ?_; rintro e w2 ⟨rfl, hst2⟩; )
            | (go_at_call 46; refine (HL.out _ (hst1.trans hst2)).mono ?_; rintro e w3 ⟨rfl, g', n', c', hn', hp', hst3, hg'⟩
               have hb := hp'.blk.cell 2
               have hbf := hp'.blk.free 2
               have hbb := hp'.blk.lt
               have hqb := HQ.out
               simp only [List.getElem?_cons_zero, List.getElem?_cons_succ, PL.ps, Option.getD_none] at hb
               have HJ := Lib.hid ((HI0.out.quiet (hst1.trans hst2)).moved (Q := { P with deep := P.deep + 1 }) (two_put hp' ⟨rfl, rfl, rfl, by simp [PL.ps]⟩) (hst3.set' (p := ⟨b, 2, none⟩) (u := .int .i64 (P.deep + 1 : Int)) (.inl (by simp))) hg')
               clear hn' hp' hst3 hg')
            | (at_builtin; refine wpList_append_sl2 _ rfl (.tmp 110) (.tmp 112) 32 rfl w.heap.size 5 i5 _ 1 Try.underlying32 hi5 hz50 hz51 hz52 rfl (.slice LX k lc) k _ hLl.out rfl (HJ.out.lo.alloc _) _ _ _ 1 [.int .u8 lev] rfl rfl (sl_one' _ _ _ _ (by simp)) (one_int _ _) (by unfold maxLen; omega) (by omega) (by rw [size_alloc']; have := HJ.out.gB.2.2.2.2.2; omega) ?_; intro LX2 lc2 w8 ho8 ha8
               have HJ8 := Lib.hid ((HJ.out.quiet (Stay.alloc _ _)).app1 (by rw [ints_snoc] at ho8; exact ho8) ha8)
               clear ho8 ha8)
            | (at_builtin; refine wpList_append_sl2 _ rfl (.tmp 114) (.tmp 116) 22 rfl w.heap.size 23 i23 _ 1 Try.underlying22 hi23 hz230 hz231 hz232 rfl (.slice KX k kc) k _ hKl.out rfl (HJ8.out.ko.alloc _) _ _ _ 1 [.int .i8 kd] rfl rfl (sl_one' _ _ _ _ (by simp)) (one_int _ _) (by unfold maxLen; omega) (by omega) (by rw [size_alloc']; have := HJ8.out.gB.2.2.2.2.2; omega) ?_; intro KX2 kc2 w9 ho9 ha9
               have HJ9 := Lib.hid ((HJ8.out.quiet (Stay.alloc _ _)).app2 (by rw [ints_snoc] at ho9; exact ho9) ha9)
               clear ho9 ha9))
          go_roundw
          case rel => exact ⟨k + 1, b, g', n', c', LX2, lc2, KX2, kc2, by omega, by go_num, rfl, rfl, rfl, by rw [HE.out, HX.out]; exact HJ9.out⟩
          case measure => simp [intOf]; omega
      by_cases h20 : d = 20
      · subst h20
        have hodd : oddB 20 rest = true := rfl
        obtain ⟨kd, hkd⟩ : ∃ kd : Int, kd = saidL t.over 20 := ⟨_, rfl⟩
        have HS2 := Lib.hid (show ∀ w' (hst : Stay [] wr w'), Calls Try.prog 44 #[.pointer (some ⟨b, 0, none⟩), .int .i8 20] w' fun e w'' => e = .returned (.int .i8 kd) ∧ Stay [] w' w'' from fun w' hst => by rw [hkd]; exact HS.out 20 w' hst)
        have HL := Lib.hid (fun w' (hst : Stay [] wr w') => lay_any true (-1) true _ b g n cc P HF.out.good w' (HI0.out.quiet hst).pile (by omega))
        cases hl : layP true (-1) true P with
        | some q =>
          have HX := Lib.hid (show lstep low 20 rest P = (lev, kd, { q with opens := q.opens + 1 }) from by
            unfold lstep
            rw [if_neg (by omega), if_pos (by rw [opensB_iff]; omega), HTop.out, hkd, hlev, hodd]
            unfold isoP
            rw [hl])
          have HQ := Lib.hid (show q.opens ≤ 2097152 from by
            obtain ⟨_, _, _, _, _, _, rfl⟩ := layP_some hl
            have := HF.out.opens
            show P.opens ≤ _
            omega)
          rw [hl] at HL
          clear hkd hlev hl hodd
          go_wp2_with (first
            | (go_at_call 35; refine (HK.out _).mono ?_; rintro e w' ⟨rfl, rfl⟩)
            | (go_at_call 43; refine (HT.out _ (Stay.refl _ _)).mono ?_; rintro e w1 ⟨rfl, hst1⟩)
            | (go_at_call 44; refine (HS2.out _ hst1).mono ?_; rintro e w2 ⟨rfl, hst2⟩; )
            | (go_at_call 46; refine (HL.out _ (hst1.trans hst2)).mono ?_; rintro e w3 ⟨rfl, g', n', c', hn', hp', hst3, hg'⟩
               have hb := hp'.blk.cell 1
               have hbf := hp'.blk.free 1
               have hbb := hp'.blk.lt
               have hqb := HQ.out
               simp only [List.getElem?_cons_zero, List.getElem?_cons_succ, PL.ps, Option.getD_some] at hb
               have HJ := Lib.hid ((HI0.out.quiet (hst1.trans hst2)).moved (Q := { q with opens := q.opens + 1 }) (open_put hp' ⟨rfl, rfl, rfl, by simp [PL.ps]⟩) (hst3.set' (p := ⟨b, 1, none⟩) (u := .int .i64 (q.opens + 1 : Int)) (.inl (by simp))) hg')
               clear hn' hp' hst3 hg')
            | (at_builtin; refine wpList_append_sl2 _ rfl (.tmp 110) (.tmp 112) 32 rfl w.heap.size 5 i5 _ 1 Try.underlying32 hi5 hz50 hz51 hz52 rfl (.slice LX k lc) k _ hLl.out rfl (HJ.out.lo.alloc _) _ _ _ 1 [.int .u8 lev] rfl rfl (sl_one' _ _ _ _ (by simp)) (one_int _ _) (by unfold maxLen; omega) (by omega) (by rw [size_alloc']; have := HJ.out.gB.2.2.2.2.2; omega) ?_; intro LX2 lc2 w8 ho8 ha8
               have HJ8 := Lib.hid ((HJ.out.quiet (Stay.alloc _ _)).app1 (by rw [ints_snoc] at ho8; exact ho8) ha8)
               clear ho8 ha8)
            | (at_builtin; refine wpList_append_sl2 _ rfl (.tmp 114) (.tmp 116) 22 rfl w.heap.size 23 i23 _ 1 Try.underlying22 hi23 hz230 hz231 hz232 rfl (.slice KX k kc) k _ hKl.out rfl (HJ8.out.ko.alloc _) _ _ _ 1 [.int .i8 kd] rfl rfl (sl_one' _ _ _ _ (by simp)) (one_int _ _) (by unfold maxLen; omega) (by omega) (by rw [size_alloc']; have := HJ8.out.gB.2.2.2.2.2; omega) ?_; intro KX2 kc2 w9 ho9 ha9
               have HJ9 := Lib.hid ((HJ8.out.quiet (Stay.alloc _ _)).app2 (by rw [ints_snoc] at ho9; exact ho9) ha9)
               clear ho9 ha9))
          go_roundw
          case rel => exact ⟨k + 1, b, g', n', c', LX2, lc2, KX2, kc2, by omega, by go_num, rfl, rfl, rfl, by rw [HE.out, HX.out]; exact HJ9.out⟩
          case measure => simp [intOf]; omega
        | none =>
          have HX := Lib.hid (show lstep low 20 rest P = (lev, kd, { P with deep := P.deep + 1 }) from by
            unfold lstep
            rw [if_neg (by omega), if_pos (by rw [opensB_iff]; omega), HTop.out, hkd, hlev, hodd]
            unfold isoP
            rw [hl])
          have HQ := Lib.hid (show P.deep ≤ 2097152 from by have := HF.out.deep; omega)
          rw [hl] at HL
          clear hkd hlev hl hodd
          go_wp2_with (first
            | (go_at_call 35; refine (HK.out _).mono ?_; rintro e w' ⟨rfl, rfl⟩)
            | (go_at_call 43; refine (HT.out _ (Stay.refl _ _)).mono ?_; rintro e w1 ⟨rfl, hst1⟩)
            | (go_at_call 44; refine (HS2.out _ hst1).mono ?_; rintro e w2 ⟨rfl, hst2⟩; )
            | (go_at_call 46; refine (HL.out _ (hst1.trans hst2)).mono ?_; rintro e w3 ⟨rfl, g', n', c', hn', hp', hst3, hg'⟩
               have hb := hp'.blk.cell 2
               have hbf := hp'.blk.free 2
               have hbb := hp'.blk.lt
               have hqb := HQ.out
               simp only [List.getElem?_cons_zero, List.getElem?_cons_succ, PL.ps, Option.getD_none] at hb
               have HJ := Lib.hid ((HI0.out.quiet (hst1.trans hst2)).moved (Q := { P with deep := P.deep + 1 }) (two_put hp' ⟨rfl, rfl, rfl, by simp [PL.ps]⟩) (hst3.set' (p := ⟨b, 2, none⟩) (u := .int .i64 (P.deep + 1 : Int)) (.inl (by simp))) hg')
               clear hn' hp' hst3 hg')
            | (at_builtin; refine wpList_append_sl2 _ rfl (.tmp 110) (.tmp 112) 32 rfl w.heap.size 5 i5 _ 1 Try.underlying32 hi5 hz50 hz51 hz52 rfl (.slice LX k lc) k _ hLl.out rfl (HJ.out.lo.alloc _) _ _ _ 1 [.int .u8 lev] rfl rfl (sl_one' _ _ _ _ (by simp)) (one_int _ _) (by unfold maxLen; omega) (by omega) (by rw [size_alloc']; have := HJ.out.gB.2.2.2.2.2; omega) ?_; intro LX2 lc2 w8 ho8 ha8
               have HJ8 := Lib.hid ((HJ.out.quiet (Stay.alloc _ _)).app1 (by rw [ints_snoc] at ho8; exact ho8) ha8)
               clear ho8 ha8)
            | (at_builtin; refine wpList_append_sl2 _ rfl (.tmp 114) (.tmp 116) 22 rfl w.heap.size 23 i23 _ 1 Try.underlying22 hi23 hz230 hz231 hz232 rfl (.slice KX k kc) k _ hKl.out rfl (HJ8.out.ko.alloc _) _ _ _ 1 [.int .i8 kd] rfl rfl (sl_one' _ _ _ _ (by simp)) (one_int _ _) (by unfold maxLen; omega) (by omega) (by rw [size_alloc']; have := HJ8.out.gB.2.2.2.2.2; omega) ?_; intro KX2 kc2 w9 ho9 ha9
               have HJ9 := Lib.hid ((HJ8.out.quiet (Stay.alloc _ _)).app2 (by rw [ints_snoc] at ho9; exact ho9) ha9)
               clear ho9 ha9))
          go_roundw
          case rel => exact ⟨k + 1, b, g', n', c', LX2, lc2, KX2, kc2, by omega, by go_num, rfl, rfl, rfl, by rw [HE.out, HX.out]; exact HJ9.out⟩
          case measure => simp [intOf]; omega
      by_cases h21 : d = 21
      · subst h21
        have hcut := sl_cut (c := c) HSl.out (i := k + 1) (by simp; omega) (by simpa using hc.1)
        have hcut' : Sl w w.heap.size (if c = k + 1 then some ad else some (ad.add (k + 1))) (ints .i8 rest) := by rw [HRest.out]; simpa [ints, List.map_drop] using hcut
        have hrl : rest.length = zs.length - (k + 1) := by rw [HRest.out]; simp
        have HFi := Lib.hid (show ∀ w' cap (hst : Stay [] wr w'), Calls Try.prog 37 #[.slice (if c = k + 1 then some ad else some (ad.add (k + 1))) (zs.length - (k + 1)) cap] w' fun e w'' => e = .returned (.int .i8 (firstL 0 rest)) ∧ w' = w'' from fun w' cap hst => by
          rw [← hrl]
          have hb := HI0.out.below.trans (hst.toBelow HB.out (by simp))
          exact first_any rest _ _ w' (by omega) ((hcut'.below hb).more hb.size))
        clear hcut hcut' hrl
        obtain ⟨f, hf⟩ : ∃ f, f = firstL 0 rest := ⟨_, rfl⟩
        rw [← hf] at HFi
        have hf3 : ((f == 1) = true ∧ oddB 21 rest = true) ∨ ((f == 1) = false ∧ (f == 2) = true ∧ oddB 21 rest = true) ∨ ((f == 1) = false ∧ (f == 2) = false ∧ oddB 21 rest = false) := by
          by_cases h1 : f = 1
          · left; simp [oddB, ← hf, h1]
          · right
            by_cases h2 : f = 2
            · left; simp [oddB, ← hf, h2]
            · right; simp [oddB, ← hf, h1, h2]
        clear hf
        rcases hf3 with ⟨hf1, hodd⟩ | ⟨hf1, hf2, hodd⟩ | ⟨hf1, hf2, hodd⟩
        · skip
          obtain ⟨kd, hkd⟩ : ∃ kd : Int, kd = saidL t.over 21 := ⟨_, rfl⟩
          have HS2 := Lib.hid (show ∀ w' (hst : Stay [] wr w'), Calls Try.prog 44 #[.pointer (some ⟨b, 0, none⟩), .int .i8 21] w' fun e w'' => e = .returned (.int .i8 kd) ∧ Stay [] w' w'' from fun w' hst => by rw [hkd]; exact HS.out 21 w' hst)
          have HL := Lib.hid (fun w' (hst : Stay [] wr w') => lay_any true (-1) true _ b g n cc P HF.out.good w' (HI0.out.quiet hst).pile (by omega))
          cases hl : layP true (-1) true P with
          | some q =>
            have HX := Lib.hid (show lstep low 21 rest P = (lev, kd, { q with opens := q.opens + 1 }) from by
              unfold lstep
              rw [if_neg (by omega), if_pos (by rw [opensB_iff]; omega), HTop.out, hkd, hlev, hodd]
              unfold isoP
              rw [hl])
            have HQ := Lib.hid (show q.opens ≤ 2097152 from by
              obtain ⟨_, _, _, _, _, _, rfl⟩ := layP_some hl
              have := HF.out.opens
              show P.opens ≤ _
              omega)
            rw [hl] at HL
            clear hkd hlev hl hodd
            go_wp2_with (first
              | (go_at_call 35; refine (HK.out _).mono ?_; rintro e w' ⟨rfl, rfl⟩)
              | (go_at_call 43; refine (HT.out _ (Stay.refl _ _)).mono ?_; rintro e w1 ⟨rfl, hst1⟩)
              | (go_at_call 44; refine (HS2.out _ hst1).mono ?_; rintro e w2 ⟨rfl, hst2⟩; )
              | (go_at_call 37; refine (HFi.out _ _ (hst1.trans hst2)).mono ?_; rintro e w3 ⟨rfl, rfl⟩)
              | (go_at_call 46; refine (HL.out _ (hst1.trans hst2)).mono ?_; rintro e w3 ⟨rfl, g', n', c', hn', hp', hst3, hg'⟩
                 have hb := hp'.blk.cell 1
                 have hbf := hp'.blk.free 1
                 have hbb := hp'.blk.lt
                 have hqb := HQ.out
                 simp only [List.getElem?_cons_zero, List.getElem?_cons_succ, PL.ps, Option.getD_some] at hb
                 have HJ := Lib.hid ((HI0.out.quiet (hst1.trans hst2)).moved (Q := { q with opens := q.opens + 1 }) (open_put hp' ⟨rfl, rfl, rfl, by simp [PL.ps]⟩) (hst3.set' (p := ⟨b, 1, none⟩) (u := .int .i64 (q.opens + 1 : Int)) (.inl (by simp))) hg')
                 clear hn' hp' hst3 hg')
              | (at_builtin; refine wpList_append_sl2 _ rfl (.tmp 110) (.tmp 112) 32 rfl w.heap.size 5 i5 _ 1 Try.underlying32 hi5 hz50 hz51 hz52 rfl (.slice LX k lc) k _ hLl.out rfl (HJ.out.lo.alloc _) _ _ _ 1 [.int .u8 lev] rfl rfl (sl_one' _ _ _ _ (by simp)) (one_int _ _) (by unfold maxLen; omega) (by omega) (by rw [size_alloc']; have := HJ.out.gB.2.2.2.2.2; omega) ?_; intro LX2 lc2 w8 ho8 ha8
                 have HJ8 := Lib.hid ((HJ.out.quiet (Stay.alloc _ _)).app1 (by rw [ints_snoc] at ho8; exact ho8) ha8)
                 clear ho8 ha8)
              | (at_builtin; refine wpList_append_sl2 _ rfl (.tmp 114) (.tmp 116) 22 rfl w.heap.size 23 i23 _ 1 Try.underlying22 hi23 hz230 hz231 hz232 rfl (.slice KX k kc) k _ hKl.out rfl (HJ8.out.ko.alloc _) _ _ _ 1 [.int .i8 kd] rfl rfl (sl_one' _ _ _ _ (by simp)) (one_int _ _) (by unfold maxLen; omega) (by omega) (by rw [size_alloc']; have := HJ8.out.gB.2.2.2.2.2; omega) ?_; intro KX2 kc2 w9 ho9 ha9
                 have HJ9 := Lib.hid ((HJ8.out.quiet (Stay.alloc _ _)).app2 (by rw [ints_snoc] at ho9; exact ho9) ha9)
                 clear ho9 ha9))
            go_roundw
            case rel => exact ⟨k + 1, b, g', n', c', LX2, lc2, KX2, kc2, by omega, by go_num, rfl, rfl, rfl, by rw [HE.out, HX.out]; exact HJ9.out⟩
            case measure => simp [intOf]; omega
          | none =>
            have HX := Lib.hid (show lstep low 21 rest P = (lev, kd, { P with deep := P.deep + 1 }) from by
              unfold lstep
              rw [if_neg (by omega), if_pos (by rw [opensB_iff]; omega), HTop.out, hkd, hlev, hodd]
              unfold isoP
              rw [hl])
            have HQ := Lib.hid (show P.deep ≤ 2097152 from by have := HF.out.deep; omega)
            rw [hl] at HL
            clear hkd hlev hl hodd
            go_wp2_with (first
              | (go_at_call 35; refine (HK.out _).mono ?_; rintro e w' ⟨rfl, rfl⟩)
              | (go_at_call 43; refine (HT.out _ (Stay.refl _ _)).mono ?_; rintro e w1 ⟨rfl, hst1⟩)
              | (go_at_call 44; refine (HS2.out _ hst1).mono ?_; rintro e w2 ⟨rfl, hst2⟩; )
              | (go_at_call 37; refine (HFi.out _ _ (hst1.trans hst2)).mono ?_; rintro e w3 ⟨rfl, rfl⟩)
              | (go_at_call 46; refine (HL.out _ (hst1.trans hst2)).mono ?_; rintro e w3 ⟨rfl, g', n', c', hn', hp', hst3, hg'⟩
                 have hb := hp'.blk.cell 2
                 have hbf := hp'.blk.free 2
                 have hbb := hp'.blk.lt
                 have hqb := HQ.out
                 simp only [List.getElem?_cons_zero, List.getElem?_cons_succ, PL.ps, Option.getD_none] at hb
                 have HJ := Lib.hid ((HI0.out.quiet (hst1.trans hst2)).moved (Q := { P with deep := P.deep + 1 }) (two_put hp' ⟨rfl, rfl, rfl, by simp [PL.ps]⟩) (hst3.set' (p := ⟨b, 2, none⟩) (u := .int .i64 (P.deep + 1 : Int)) (.inl (by simp))) hg')
                 clear hn' hp' hst3 hg')
              | (at_builtin; refine wpList_append_sl2 _ rfl (.tmp 110) (.tmp 112) 32 rfl w.heap.size 5 i5 _ 1 Try.underlying32 hi5 hz50 hz51 hz52 rfl (.slice LX k lc) k _ hLl.out rfl (HJ.out.lo.alloc _) _ _ _ 1 [.int .u8 lev] rfl rfl (sl_one' _ _ _ _ (by simp)) (one_int _ _) (by unfold maxLen; omega) (by omega) (by rw [size_alloc']; have := HJ.out.gB.2.2.2.2.2; omega) ?_; intro LX2 lc2 w8 ho8 ha8
                 have HJ8 := Lib.hid ((HJ.out.quiet (Stay.alloc _ _)).app1 (by rw [ints_snoc] at ho8; exact ho8) ha8)
                 clear ho8 ha8)
              | (at_builtin; refine wpList_append_sl2 _ rfl (.tmp 114) (.tmp 116) 22 rfl w.heap.size 23 i23 _ 1 Try.underlying22 hi23 hz230 hz231 hz232 rfl (.slice KX k kc) k _ hKl.out rfl (HJ8.out.ko.alloc _) _ _ _ 1 [.int .i8 kd] rfl rfl (sl_one' _ _ _ _ (by simp)) (one_int _ _) (by unfold maxLen; omega) (by omega) (by rw [size_alloc']; have := HJ8.out.gB.2.2.2.2.2; omega) ?_; intro KX2 kc2 w9 ho9 ha9
                 have HJ9 := Lib.hid ((HJ8.out.quiet (Stay.alloc _ _)).app2 (by rw [ints_snoc] at ho9; exact ho9) ha9)
                 clear ho9 ha9))
            go_roundw
            case rel => exact ⟨k + 1, b, g', n', c', LX2, lc2, KX2, kc2, by omega, by go_num, rfl, rfl, rfl, by rw [HE.out, HX.out]; exact HJ9.out⟩
            case measure => simp [intOf]; omega
        · skip
          obtain ⟨kd, hkd⟩ : ∃ kd : Int, kd = saidL t.over 21 := ⟨_, rfl⟩
          have HS2 := Lib.hid (show ∀ w' (hst : Stay [] wr w'), Calls Try.prog 44 #[.pointer (some ⟨b, 0, none⟩), .int .i8 21] w' fun e w'' => e = .returned (.int .i8 kd) ∧ Stay [] w' w'' from fun w' hst => by rw [hkd]; exact HS.out 21 w' hst)
          have HL := Lib.hid (fun w' (hst : Stay [] wr w') => lay_any true (-1) true _ b g n cc P HF.out.good w' (HI0.out.quiet hst).pile (by omega))
          cases hl : layP true (-1) true P with
          | some q =>
            have HX := Lib.hid (show lstep low 21 rest P = (lev, kd, { q with opens := q.opens + 1 }) from by
              unfold lstep
              rw [if_neg (by omega), if_pos (by rw [opensB_iff]; omega), HTop.out, hkd, hlev, hodd]
              unfold isoP
              rw [hl])
            have HQ := Lib.hid (show q.opens ≤ 2097152 from by
              obtain ⟨_, _, _, _, _, _, rfl⟩ := layP_some hl
              have := HF.out.opens
              show P.opens ≤ _
              omega)
            rw [hl] at HL
            clear hkd hlev hl hodd
            go_wp2_with (first
              | (go_at_call 35; refine (HK.out _).mono ?_; rintro e w' ⟨rfl, rfl⟩)
              | (go_at_call 43; refine (HT.out _ (Stay.refl _ _)).mono ?_; rintro e w1 ⟨rfl, hst1⟩)
              | (go_at_call 44; refine (HS2.out _ hst1).mono ?_; rintro e w2 ⟨rfl, hst2⟩; )
              | (go_at_call 37; refine (HFi.out _ _ (hst1.trans hst2)).mono ?_; rintro e w3 ⟨rfl, rfl⟩)
              | (go_at_call 46; refine (HL.out _ (hst1.trans hst2)).mono ?_; rintro e w3 ⟨rfl, g', n', c', hn', hp', hst3, hg'⟩
                 have hb := hp'.blk.cell 1
                 have hbf := hp'.blk.free 1
                 have hbb := hp'.blk.lt
                 have hqb := HQ.out
                 simp only [List.getElem?_cons_zero, List.getElem?_cons_succ, PL.ps, Option.getD_some] at hb
                 have HJ := Lib.hid ((HI0.out.quiet (hst1.trans hst2)).moved (Q := { q with opens := q.opens + 1 }) (open_put hp' ⟨rfl, rfl, rfl, by simp [PL.ps]⟩) (hst3.set' (p := ⟨b, 1, none⟩) (u := .int .i64 (q.opens + 1 : Int)) (.inl (by simp))) hg')
                 clear hn' hp' hst3 hg')
              | (at_builtin; refine wpList_append_sl2 _ rfl (.tmp 110) (.tmp 112) 32 rfl w.heap.size 5 i5 _ 1 Try.underlying32 hi5 hz50 hz51 hz52 rfl (.slice LX k lc) k _ hLl.out rfl (HJ.out.lo.alloc _) _ _ _ 1 [.int .u8 lev] rfl rfl (sl_one' _ _ _ _ (by simp)) (one_int _ _) (by unfold maxLen; omega) (by omega) (by rw [size_alloc']; have := HJ.out.gB.2.2.2.2.2; omega) ?_; intro LX2 lc2 w8 ho8 ha8
                 have HJ8 := Lib.hid ((HJ.out.quiet (Stay.alloc _ _)).app1 (by rw [ints_snoc] at ho8; exact ho8) ha8)
                 clear ho8 ha8)
              | (at_builtin; refine wpList_append_sl2 _ rfl (.tmp 114) (.tmp 116) 22 rfl w.heap.size 23 i23 _ 1 Try.underlying22 hi23 hz230 hz231 hz232 rfl (.slice KX k kc) k _ hKl.out rfl (HJ8.out.ko.alloc _) _ _ _ 1 [.int .i8 kd] rfl rfl (sl_one' _ _ _ _ (by simp)) (one_int _ _) (by unfold maxLen; omega) (by omega) (by rw [size_alloc']; have := HJ8.out.gB.2.2.2.2.2; omega) ?_; intro KX2 kc2 w9 ho9 ha9
                 have HJ9 := Lib.hid ((HJ8.out.quiet (Stay.alloc _ _)).app2 (by rw [ints_snoc] at ho9; exact ho9) ha9)
                 clear ho9 ha9))
            go_roundw
            case rel => exact ⟨k + 1, b, g', n', c', LX2, lc2, KX2, kc2, by omega, by go_num, rfl, rfl, rfl, by rw [HE.out, HX.out]; exact HJ9.out⟩
            case measure => simp [intOf]; omega
          | none =>
            have HX := Lib.hid (show lstep low 21 rest P = (lev, kd, { P with deep := P.deep + 1 }) from by
              unfold lstep
              rw [if_neg (by omega), if_pos (by rw [opensB_iff]; omega), HTop.out, hkd, hlev, hodd]
              unfold isoP
              rw [hl])
            have HQ := Lib.hid (show P.deep ≤ 2097152 from by have := HF.out.deep; omega)
            rw [hl] at HL
            clear hkd hlev hl hodd
            go_wp2_with (first
              | (go_at_call 35; refine (HK.out _).mono ?_; rintro e w' ⟨rfl, rfl⟩)
              | (go_at_call 43; refine (HT.out _ (Stay.refl _ _)).mono ?_; rintro e w1 ⟨rfl, hst1⟩)
              | (go_at_call 44; refine (HS2.out _ hst1).mono ?_; rintro e w2 ⟨rfl, hst2⟩; )
              | (go_at_call 37; refine (HFi.out _ _ (hst1.trans hst2)).mono ?_; rintro e w3 ⟨rfl, rfl⟩)
              | (go_at_call 46; refine (HL.out _ (hst1.trans hst2)).mono ?_; rintro e w3 ⟨rfl, g', n', c', hn', hp', hst3, hg'⟩
                 have hb := hp'.blk.cell 2
                 have hbf := hp'.blk.free 2
                 have hbb := hp'.blk.lt
                 have hqb := HQ.out
                 simp only [List.getElem?_cons_zero, List.getElem?_cons_succ, PL.ps, Option.getD_none] at hb
                 have HJ := Lib.hid ((HI0.out.quiet (hst1.trans hst2)).moved (Q := { P with deep := P.deep + 1 }) (two_put hp' ⟨rfl, rfl, rfl, by simp [PL.ps]⟩) (hst3.set' (p := ⟨b, 2, none⟩) (u := .int .i64 (P.deep + 1 : Int)) (.inl (by simp))) hg')
                 clear hn' hp' hst3 hg')
              | (at_builtin; refine wpList_append_sl2 _ rfl (.tmp 110) (.tmp 112) 32 rfl w.heap.size 5 i5 _ 1 Try.underlying32 hi5 hz50 hz51 hz52 rfl (.slice LX k lc) k _ hLl.out rfl (HJ.out.lo.alloc _) _ _ _ 1 [.int .u8 lev] rfl rfl (sl_one' _ _ _ _ (by simp)) (one_int _ _) (by unfold maxLen; omega) (by omega) (by rw [size_alloc']; have := HJ.out.gB.2.2.2.2.2; omega) ?_; intro LX2 lc2 w8 ho8 ha8
                 have HJ8 := Lib.hid ((HJ.out.quiet (Stay.alloc _ _)).app1 (by rw [ints_snoc] at ho8; exact ho8) ha8)
                 clear ho8 ha8)
              | (at_builtin; refine wpList_append_sl2 _ rfl (.tmp 114) (.tmp 116) 22 rfl w.heap.size 23 i23 _ 1 Try.underlying22 hi23 hz230 hz231 hz232 rfl (.slice KX k kc) k _ hKl.out rfl (HJ8.out.ko.alloc _) _ _ _ 1 [.int .i8 kd] rfl rfl (sl_one' _ _ _ _ (by simp)) (one_int _ _) (by unfold maxLen; omega) (by omega) (by rw [size_alloc']; have := HJ8.out.gB.2.2.2.2.2; omega) ?_; intro KX2 kc2 w9 ho9 ha9
                 have HJ9 := Lib.hid ((HJ8.out.quiet (Stay.alloc _ _)).app2 (by rw [ints_snoc] at ho9; exact ho9) ha9)
                 clear ho9 ha9))
            go_roundw
            case rel => exact ⟨k + 1, b, g', n', c', LX2, lc2, KX2, kc2, by omega, by go_num, rfl, rfl, rfl, by rw [HE.out, HX.out]; exact HJ9.out⟩
            case measure => simp [intOf]; omega
        · skip
          obtain ⟨kd, hkd⟩ : ∃ kd : Int, kd = saidL t.over 21 := ⟨_, rfl⟩
          have HS2 := Lib.hid (show ∀ w' (hst : Stay [] wr w'), Calls Try.prog 44 #[.pointer (some ⟨b, 0, none⟩), .int .i8 21] w' fun e w'' => e = .returned (.int .i8 kd) ∧ Stay [] w' w'' from fun w' hst => by rw [hkd]; exact HS.out 21 w' hst)
          have HL := Lib.hid (fun w' (hst : Stay [] wr w') => lay_any false (-1) true _ b g n cc P HF.out.good w' (HI0.out.quiet hst).pile (by omega))
          cases hl : layP false (-1) true P with
          | some q =>
            have HX := Lib.hid (show lstep low 21 rest P = (lev, kd, { q with opens := q.opens + 1 }) from by
              unfold lstep
              rw [if_neg (by omega), if_pos (by rw [opensB_iff]; omega), HTop.out, hkd, hlev, hodd]
              unfold isoP
              rw [hl])
            have HQ := Lib.hid (show q.opens ≤ 2097152 from by
              obtain ⟨_, _, _, _, _, _, rfl⟩ := layP_some hl
              have := HF.out.opens
              show P.opens ≤ _
              omega)
            rw [hl] at HL
            clear hkd hlev hl hodd
            go_wp2_with (first
              | (go_at_call 35; refine (HK.out _).mono ?_; rintro e w' ⟨rfl, rfl⟩)
              | (go_at_call 43; refine (HT.out _ (Stay.refl _ _)).mono ?_; rintro e w1 ⟨rfl, hst1⟩)
              | (go_at_call 44; refine (HS2.out _ hst1).mono ?_; rintro e w2 ⟨rfl, hst2⟩; )
              | (go_at_call 37; refine (HFi.out _ _ (hst1.trans hst2)).mono ?_; rintro e w3 ⟨rfl, rfl⟩)
              | (go_at_call 46; refine (HL.out _ (hst1.trans hst2)).mono ?_; rintro e w3 ⟨rfl, g', n', c', hn', hp', hst3, hg'⟩
                 have hb := hp'.blk.cell 1
                 have hbf := hp'.blk.free 1
                 have hbb := hp'.blk.lt
                 have hqb := HQ.out
                 simp only [List.getElem?_cons_zero, List.getElem?_cons_succ, PL.ps, Option.getD_some] at hb
                 have HJ := Lib.hid ((HI0.out.quiet (hst1.trans hst2)).moved (Q := { q with opens := q.opens + 1 }) (open_put hp' ⟨rfl, rfl, rfl, by simp [PL.ps]⟩) (hst3.set' (p := ⟨b, 1, none⟩) (u := .int .i64 (q.opens + 1 : Int)) (.inl (by simp))) hg')
                 clear hn' hp' hst3 hg')
              | (at_builtin; refine wpList_append_sl2 _ rfl (.tmp 110) (.tmp 112) 32 rfl w.heap.size 5 i5 _ 1 Try.underlying32 hi5 hz50 hz51 hz52 rfl (.slice LX k lc) k _ hLl.out rfl (HJ.out.lo.alloc _) _ _ _ 1 [.int .u8 lev] rfl rfl (sl_one' _ _ _ _ (by simp)) (one_int _ _) (by unfold maxLen; omega) (by omega) (by rw [size_alloc']; have := HJ.out.gB.2.2.2.2.2; omega) ?_; intro LX2 lc2 w8 ho8 ha8
                 have HJ8 := Lib.hid ((HJ.out.quiet (Stay.alloc _ _)).app1 (by rw [ints_snoc] at ho8; exact ho8) ha8)
                 clear ho8 ha8)
              | (at_builtin; refine wpList_append_sl2 _ rfl (.tmp 114) (.tmp 116) 22 rfl w.heap.size 23 i23 _ 1 Try.underlying22 hi23 hz230 hz231 hz232 rfl (.slice KX k kc) k _ hKl.out rfl (HJ8.out.ko.alloc _) _ _ _ 1 [.int .i8 kd] rfl rfl (sl_one' _ _ _ _ (by simp)) (one_int _ _) (by unfold maxLen; omega) (by omega) (by rw [size_alloc']; have := HJ8.out.gB.2.2.2.2.2; omega) ?_; intro KX2 kc2 w9 ho9 ha9
                 have HJ9 := Lib.hid ((HJ8.out.quiet (Stay.alloc _ _)).app2 (by rw [ints_snoc] at ho9; exact ho9) ha9)
                 clear ho9 ha9))
            go_roundw
            case rel => exact ⟨k + 1, b, g', n', c', LX2, lc2, KX2, kc2, by omega, by go_num, rfl, rfl, rfl, by rw [HE.out, HX.out]; exact HJ9.out⟩
            case measure => simp [intOf]; omega
          | none =>
            have HX := Lib.hid (show lstep low 21 rest P = (lev, kd, { P with deep := P.deep + 1 }) from by
              unfold lstep
              rw [if_neg (by omega), if_pos (by rw [opensB_iff]; omega), HTop.out, hkd, hlev, hodd]
              unfold isoP
              rw [hl])
            have HQ := Lib.hid (show P.deep ≤ 2097152 from by have := HF.out.deep; omega)
            rw [hl] at HL
            clear hkd hlev hl hodd
            go_wp2_with (first
              | (go_at_call 35; refine (HK.out _).mono ?_; rintro e w' ⟨rfl, rfl⟩)
              | (go_at_call 43; refine (HT.out _ (Stay.refl _ _)).mono ?_; rintro e w1 ⟨rfl, hst1⟩)
              | (go_at_call 44; refine (HS2.out _ hst1).mono ?_; rintro e w2 ⟨rfl, hst2⟩; )
              | (go_at_call 37; refine (HFi.out _ _ (hst1.trans hst2)).mono ?_; rintro e w3 ⟨rfl, rfl⟩)
              | (go_at_call 46; refine (HL.out _ (hst1.trans hst2)).mono ?_; rintro e w3 ⟨rfl, g', n', c', hn', hp', hst3, hg'⟩
                 have hb := hp'.blk.cell 2
                 have hbf := hp'.blk.free 2
                 have hbb := hp'.blk.lt
                 have hqb := HQ.out
                 simp only [List.getElem?_cons_zero, List.getElem?_cons_succ, PL.ps, Option.getD_none] at hb
                 have HJ := Lib.hid ((HI0.out.quiet (hst1.trans hst2)).moved (Q := { P with deep := P.deep + 1 }) (two_put hp' ⟨rfl, rfl, rfl, by simp [PL.ps]⟩) (hst3.set' (p := ⟨b, 2, none⟩) (u := .int .i64 (P.deep + 1 : Int)) (.inl (by simp))) hg')
                 clear hn' hp' hst3 hg')
              | (at_builtin; refine wpList_append_sl2 _ rfl (.tmp 110) (.tmp 112) 32 rfl w.heap.size 5 i5 _ 1 Try.underlying32 hi5 hz50 hz51 hz52 rfl (.slice LX k lc) k _ hLl.out rfl (HJ.out.lo.alloc _) _ _ _ 1 [.int .u8 lev] rfl rfl (sl_one' _ _ _ _ (by simp)) (one_int _ _) (by unfold maxLen; omega) (by omega) (by rw [size_alloc']; have := HJ.out.gB.2.2.2.2.2; omega) ?_; intro LX2 lc2 w8 ho8 ha8
                 have HJ8 := Lib.hid ((HJ.out.quiet (Stay.alloc _ _)).app1 (by rw [ints_snoc] at ho8; exact ho8) ha8)
                 clear ho8 ha8)
              | (at_builtin; refine wpList_append_sl2 _ rfl (.tmp 114) (.tmp 116) 22 rfl w.heap.size 23 i23 _ 1 Try.underlying22 hi23 hz230 hz231 hz232 rfl (.slice KX k kc) k _ hKl.out rfl (HJ8.out.ko.alloc _) _ _ _ 1 [.int .i8 kd] rfl rfl (sl_one' _ _ _ _ (by simp)) (one_int _ _) (by unfold maxLen; omega) (by omega) (by rw [size_alloc']; have := HJ8.out.gB.2.2.2.2.2; omega) ?_; intro KX2 kc2 w9 ho9 ha9
                 have HJ9 := Lib.hid ((HJ8.out.quiet (Stay.alloc _ _)).app2 (by rw [ints_snoc] at ho9; exact ho9) ha9)
                 clear ho9 ha9))
            go_roundw
            case rel => exact ⟨k + 1, b, g', n', c', LX2, lc2, KX2, kc2, by omega, by go_num, rfl, rfl, rfl, by rw [HE.out, HX.out]; exact HJ9.out⟩
            case measure => simp [intOf]; omega
      · skip
        have c14 : (d == 14) = false := by simpa using h14
        have c15 : (d == 15) = false := by simpa using h15
        have c16 : (d == 16) = false := by simpa using h16
        have c17 : (d == 17) = false := by simpa using h17
        have c19 : (d == 19) = false := by simpa using h19
        have c20 : (d == 20) = false := by simpa using h20
        have c21 : (d == 21) = false := by simpa using h21
        have c22 : (d == 22) = false := by simpa using h22
        have c18 : (d == 18) = false := by simpa using h18
        have c9 : (d == 9) = false := by simpa using h9
        have c10 : (d == 10) = false := by simpa using h10
        obtain ⟨kd, hkd⟩ : ∃ kd : Int, kd = saidL t.over d := ⟨_, rfl⟩
        have HX := Lib.hid (show lstep low d rest P = (lev, kd, P) from by
          unfold lstep
          rw [if_neg (by omega), if_neg (by rw [opensB_iff]; omega), if_neg h22, if_neg h18, if_neg h9, if_neg h10, HTop.out, hkd, hlev])
        have HS2 := Lib.hid (show ∀ w' (hst : Stay [] wr w'), Calls Try.prog 44 #[.pointer (some ⟨b, 0, none⟩), .int .i8 d] w' fun e w'' => e = .returned (.int .i8 kd) ∧ Stay [] w' w'' from fun w' hst => by rw [hkd]; exact HS.out d w' hst)
        clear hkd hlev h14 h15 h16 h17 h18 h19 h20 h21 h22 h9 h10
        go_wp2_with (first
          | (go_at_call 35; refine (HK.out _).mono ?_; rintro e w' ⟨rfl, rfl⟩)
          | (go_at_call 43; refine (HT.out _ (Stay.refl _ _)).mono ?_; rintro e w1 ⟨rfl, hst1⟩)
          | (go_at_call 44; refine (HS2.out _ hst1).mono ?_; rintro e w2 ⟨rfl, hst2⟩; have HJ := Lib.hid (HI0.out.quiet (hst1.trans hst2)))
          | (at_builtin; refine wpList_append_sl2 _ rfl (.tmp 110) (.tmp 112) 32 rfl w.heap.size 5 i5 _ 1 Try.underlying32 hi5 hz50 hz51 hz52 rfl (.slice LX k lc) k _ hLl.out rfl (HJ.out.lo.alloc _) _ _ _ 1 [.int .u8 lev] rfl rfl (sl_one' _ _ _ _ (by simp)) (one_int _ _) (by unfold maxLen; omega) (by omega) (by rw [size_alloc']; have := HJ.out.gB.2.2.2.2.2; omega) ?_; intro LX2 lc2 w8 ho8 ha8
             have HJ8 := Lib.hid ((HJ.out.quiet (Stay.alloc _ _)).app1 (by rw [ints_snoc] at ho8; exact ho8) ha8)
             clear ho8 ha8)
          | (at_builtin; refine wpList_append_sl2 _ rfl (.tmp 114) (.tmp 116) 22 rfl w.heap.size 23 i23 _ 1 Try.underlying22 hi23 hz230 hz231 hz232 rfl (.slice KX k kc) k _ hKl.out rfl (HJ8.out.ko.alloc _) _ _ _ 1 [.int .i8 kd] rfl rfl (sl_one' _ _ _ _ (by simp)) (one_int _ _) (by unfold maxLen; omega) (by omega) (by rw [size_alloc']; have := HJ8.out.gB.2.2.2.2.2; omega) ?_; intro KX2 kc2 w9 ho9 ha9
             have HJ9 := Lib.hid ((HJ8.out.quiet (Stay.alloc _ _)).app2 (by rw [ints_snoc] at ho9; exact ho9) ha9)
             clear ho9 ha9))
        go_roundw
        case rel => exact ⟨k + 1, b, g, n, cc, LX2, lc2, KX2, kc2, by omega, by go_num, rfl, rfl, rfl, by rw [HE.out, HX.out]; exact HJ9.out⟩
        case measure => simp [intOf]; omega
    · have hk' : k = zs.length := by omega
      subst hk'
      have HJ := Lib.hid HI
      clear HI
      go_wp2
      exact bodyPost_ret (v := .tuple #[.slice LX zs.length lc, .slice KX zs.length kc]) (by simp [results, Try.results19, go_sem]) rfl ⟨_, _, rfl, HJ.out.lo, HJ.out.ko, fun x hx => (HJ.out.lfar x hx).2.2.2, HJ.out.below⟩
end Go.Proofs.Ytikgjnfimagpjaa
