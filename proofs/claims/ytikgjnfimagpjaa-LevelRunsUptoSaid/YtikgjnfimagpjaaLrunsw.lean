/- package level: Runs, the walk. -/
import Derived.Test.YtikgjnfimagpjaaLruns
import Derived.Test.YtikgjnfimagpjaaLlevels
import Derived.Deep.DeepCutAuto
import Derived.Deep.QuietTactic
import Derived.BigQuiet
namespace Go.Proofs.Ytikgjnfimagpjaa
open Go.RowKit
theorem min_int {P : Program} (a b : Nat) (ts : Array TypeId) (t : TypeId) (w : World) : (Builtin.min_ ts t #[.int .i64 a, .int .i64 b]).run P w = .ok (.int .i64 (min a b : Nat)) w := by
  by_cases h : a ≤ b
  · rw [Nat.min_eq_left h]
    have h' : (a : Int) ≤ b := by omega
    simp [Builtin.min_, Builtin.min2, go_sem]
    intro; omega
  · rw [Nat.min_eq_right (by omega)]
    simp [Builtin.min_, Builtin.min2, go_sem]
    intro; omega
theorem info25 : (Try.prog.info? 25).map (fun i => (i.zero, i.size, i.bytes)) = some (some (.slice none 0 0), 1, 24) := by kernel_rfl
theorem take_getD (zs : List Int) (n k : Nat) (h : k < n) : (zs.take n).getD k 0 = zs.getD k 0 := by
  simp [List.getD_eq_getElem?_getD, h]
theorem rinv_start {w w1 : World} {n : Nat} {pr : List Int} (zs lv : List Int) (ho1 : Own w1 3 w.heap.size (.slice (some ⟨w.heap.size, 0, none⟩) n n) (ints .i64 pr)) (hb1 : Below w.heap.size w w1) :
    RInv w (w1.alloc (.map #[] 0)) w.heap.size w1.heap.size n pr (rto zs lv pr 0) (.slice none 0 0) [] 0 := by
  have hlt := (ho1.lt w.heap.size rfl).2
  exact ⟨Mem.start _ _ _, MapIs.made w1, Own.alloc ho1 _, by omega, hb1.size, hb1.alloc hb1.size _⟩
theorem MapIs.look_run {w : World} {b n : Nat} {f : Int → Option Nat} (h : MapIs w b n f) (k : Int) (hk : (Lit.int .i64 k).wf = true) : (Instr.lookup 70 (.map (some b)) (.int .i64 k) true).run Try.prog w = .ok (.tuple #[.int .i64 ((f k).getD 0 : Nat), .bool (f k).isSome]) w := by
  obtain ⟨D, h1, h2, h3⟩ := h
  obtain ⟨e1, e2⟩ := h3 k hk
  obtain ⟨v, ps, hrun, hv⟩ := h2.look_ok (Maps.int_keyed u3) u70 (zero3 w) (zd := .lit (.int .i64 0)) (zp := []) (plainElem_int u3 (by decide)) (Maps.keyOf_int_mk u3 hk)
  obtain ⟨c, rfl, hc, _⟩ := plainElem_int_inv u3 hv
  have hat := congrArg Prod.fst hc
  simp only at hat
  rw [e2] at hat
  have hc2 : ((f k).getD 0 : Int) = c := by
    injection hat with hat
    injection hat
  rw [hrun, e1, ← hc2]
theorem MapIs.look_no {w : World} {b n : Nat} {f : Int → Option Nat} (h : MapIs w b n f) (k : Int) (hk : (Lit.int .i64 k).wf = true) (hf : f k = none) : (Instr.lookup 70 (.map (some b)) (.int .i64 k) true).run Try.prog w = .ok (.tuple #[.int .i64 0, .bool false]) w := by
  have := h.look_run k hk
  rw [hf] at this
  exact this
theorem MapIs.look_yes {w : World} {b n : Nat} {f : Int → Option Nat} (h : MapIs w b n f) (k : Int) (hk : (Lit.int .i64 k).wf = true) (c : Nat) (hf : f k = some c) : (Instr.lookup 70 (.map (some b)) (.int .i64 k) true).run Try.prog w = .ok (.tuple #[.int .i64 c, .bool true]) w := by
  have := h.look_run k hk
  rw [hf] at this
  exact this
theorem wf_int (k : Int) (h1 : -1 ≤ k) (h2 : k < 1048576) : (Lit.int .i64 k).wf = true := by
  have e1 : IntKind.i64.min = -9223372036854775808 := rfl
  have e2 : IntKind.i64.max = 9223372036854775807 := rfl
  simp [Lit.wf, e1, e2]; omega
/-- one of the rows, in memory -/
theorem Mem.at_ {w : World} {B : Nat} {F : List Nat} {OA : Option Addr} {m oc : Nat} {rvs : List Value} {rows : List (List Int)} (h : Mem w B F (.slice OA m oc) rvs rows) (a : Nat) (ha : a < rows.length) :
    ∃ g A l c, OA = some ⟨g, 0, none⟩ ∧ rvs[a]? = some (.slice A l c) ∧ w.cell? ⟨g, a, none⟩ = some (.slice A l c) ∧ w.frozen? ⟨g, a, none⟩ = false ∧ g < w.heap.size ∧ l = (rows.getD a []).length ∧ Own w 3 B (.slice A l c) (ints .i64 (rows.getD a [])) ∧ m = rows.length := by
  have hal : a < rvs.length := by rw [h.len]; exact ha
  obtain ⟨hm, g, rfl, hBg, hgl⟩ := h.own.form (by omega)
  have hv := List.getElem?_eq_getElem hal
  have hr := h.row a _ hv
  obtain ⟨A, c, hA⟩ := hr.slice
  rw [ints_length] at hA
  rw [hA] at hv hr
  have hc := h.own.cell a hal
  rw [hA] at hc
  exact ⟨g, A, _, c, rfl, hv, hc, h.own.free a, hgl, rfl, hr, by rw [hm, h.len]⟩
theorem Mem.after {w w' : World} {B : Nat} {F : List Nat} {g m oc j : Nat} {v v' : Value} {rvs : List Value} {rows : List (List Int)} (h : Mem w B F (.slice (some ⟨g, 0, none⟩) m oc) rvs rows) (hj : rvs[j]? = some v) (ha : Appended w w' v v') :
    w'.cell? ⟨g, j, none⟩ = some v ∧ w'.frozen? ⟨g, j, none⟩ = false ∧ g < w'.heap.size := by
  obtain ⟨hs, hv⟩ := appended_stay ha
  have hjl := (List.getElem?_eq_some_iff.1 hj).1
  have hown1 : Own w' 25 B (.slice (some ⟨g, 0, none⟩) m oc) rvs := Stay.own hs h.own fun x hx hm => by
    have : v.ownBlock = some x := by simpa using hm
    exact (h.far j v hj x this).1 hx
  refine ⟨?_, hown1.free j, (hown1.lt g rfl).2⟩
  rw [hown1.cell j hjl, ← hj, List.getElem?_eq_getElem hjl]
set_option maxRecDepth 20000 in
set_option maxHeartbeats 8000000 in
theorem runs_any (zs lv : List Int) (A A2 : Option Addr) (c c2 : Nat) (w : World) (hl : zs.length < 1048576) (hl2 : lv.length ≤ maxLen) (hc : zs.length ≤ c ∧ c ≤ maxLen) (h : Sl w w.heap.size A (ints .i8 zs)) (h2 : Sl w w.heap.size A2 (ints .u8 lv)) :
    Calls Try.prog 23 #[.slice A zs.length c, .slice A2 lv.length c2] w fun e w' => ∃ ov rvs, e = .returned ov ∧ Mem w' w.heap.size [] ov rvs (runsL zs lv) ∧ Below w.heap.size w w' := by
  obtain ⟨i3, hi3, hz30, hz31, hz32⟩ := info_parts info3
  obtain ⟨i25, hi25, hz250, hz251, hz252⟩ := info_parts info25
  obtain ⟨n, hn⟩ : ∃ n : Nat, n = min zs.length lv.length := ⟨_, rfl⟩
  have hmin := Lib.hid (fun ts t w => (min_int (P := Try.prog) zs.length lv.length ts t w).trans (by rw [← hn]) : ∀ (ts : Array TypeId) (t : TypeId) (w : World), (Builtin.min_ ts t #[.int .i64 zs.length, .int .i64 lv.length]).run Try.prog w = .ok (.int .i64 n) w)
  have hn1 : n ≤ zs.length ∧ n ≤ lv.length := by omega
  have hnc : (n : Int) ≤ c := by omega
  have hnl : (zs.take n).length = n := by simp; omega
  have hsl : Sl w w.heap.size A (ints .i8 (zs.take n)) := by
    have := sl_take h n
    simpa [ints, List.map_take] using this
  have HP := Lib.hid (show Calls Try.prog 12 #[.slice A n c] w fun e w' => e = .returned (.slice (some ⟨w.heap.size, 0, none⟩) n n) ∧ Own w' 3 w.heap.size (.slice (some ⟨w.heap.size, 0, none⟩) n n) (ints .i64 (pairsL (zs.take n))) ∧ Below w.heap.size w w' from by
    have := pairs_any (zs.take n) A c w (by omega) hsl
    rw [hnl] at this
    exact this)
  have HR := Lib.hid (show runsL zs lv = (rto zs lv (pairsL (zs.take n)) n).rows from by unfold runsL; rw [← hn])
  have HPL := Lib.hid (show (pairsL (zs.take n)).length = n ∧ ∀ i, i < n → -1 ≤ (pairsL (zs.take n)).getD i 0 ∧ (pairsL (zs.take n)).getD i 0 < (n : Int) from ⟨by simpa using hnl, fun i hi => by have := pairsL_bound (zs.take n) i (by omega); rw [hnl] at this; exact this⟩)
  obtain ⟨pr, hpr⟩ : ∃ pr, pr = pairsL (zs.take n) := ⟨_, rfl⟩
  rw [← hpr] at HP HR HPL
  have HS1 := Lib.hid h
  have HS2 := Lib.hid h2
  have hmk : ∀ w, (Instr.makeMap 70 none).run Try.prog w = .ok (.map (some w.heap.size)) (w.alloc (.map #[] 0)) := fun w => by kernel_rfl
  clear hn hnl hsl hpr h h2
  go_enter Try.func23, Try.ntmps23
  go_wp2_with (first
    | (refine wpList_min rfl (.tmp 16) (.tmp 18) #[3, 3] rfl (.int .i64 zs.length) (.int .i64 lv.length) (.int .i64 n) rfl rfl hmin.out ?_)
    | (go_at_call 12; refine HP.out.mono ?_; rintro e w1 ⟨rfl, ho1, hb1⟩
       have HI0 := Lib.hid (rinv_start zs lv ho1 hb1)
       clear ho1 hb1))
  go_loopg [7, 9, 10, 27] n (fun gk ov nowv lastv iv wr => ∃ (k : Nat) (OA : Option Addr) (oc : Nat) (rvs : List Value), k ≤ n ∧ gk = n - k ∧ iv = .int .i64 k ∧ nowv = .int .i64 (rto zs lv pr k).now ∧ lastv = .int .i64 (rto zs lv pr k).last ∧
      ov = .slice OA (rto zs lv pr k).rows.length oc ∧ RInv w wr w.heap.size w1.heap.size n pr (rto zs lv pr k) (.slice OA (rto zs lv pr k).rows.length oc) rvs k)
  case atStart => exact ⟨0, none, 0, [], by omega, by omega, rfl, rfl, rfl, rfl, HI0.out⟩
  case round =>
    obtain ⟨k, OA, oc, rvs, hk, hgk, rfl, rfl, rfl, rfl, HI⟩ := hrel
    clear HI0 hmin
    by_cases hlt : k < n
    · obtain ⟨ad, rfl, hadb, hcell⟩ := sl_at (HS1.out.below HI.below) (show k < zs.length by omega)
      have hgood := rto_good zs lv pr k
      have HE := Lib.hid (show rto zs lv pr (k + 1) = stepR (clsL (zs.getD k 0)) lv pr k (rto zs lv pr k) from rfl)
      have HK := Lib.hid (fun w => known_any (zs.getD k 0) w)
      obtain ⟨z, hz⟩ : ∃ z, z = zs.getD k 0 := ⟨_, rfl⟩
      obtain ⟨d, hd⟩ : ∃ d, d = clsL z := ⟨_, rfl⟩
      rw [← hz, ← hd] at HE HK
      rw [← hz] at hcell
      obtain ⟨s, hs⟩ : ∃ s, s = rto zs lv pr k := ⟨_, rfl⟩
      rw [← hs] at HE HI hgood ⊢
      have HI0 := Lib.hid HI
      have HG := Lib.hid hgood
      have HLF := Lib.hid (fun w => left_any d w)
      clear HI hgood hz hd hs
      cases hlf : leftB d with
      | true =>
        rw [hlf] at HLF
        have HX := Lib.hid (show stepR d lv pr k s = s from by unfold stepR; rw [if_pos hlf])
        clear hlf
        go_wp2_with (first
          | (go_at_call 35; refine (HK.out _).mono ?_; rintro e w' ⟨rfl, rfl⟩)
          | (go_at_call 50; refine (HLF.out _).mono ?_; rintro e w' ⟨rfl, rfl⟩))
        go_roundg (n - (k + 1))
        case measure => omega
        case rel => exact ⟨k + 1, OA, oc, rvs, by omega, rfl, by go_num, by rw [HE.out, HX.out], by rw [HE.out, HX.out], by rw [HE.out, HX.out], by rw [HE.out, HX.out]; exact HI0.out.more (by omega)⟩
      | false =>
        rw [hlf] at HLF
        have HX := Lib.hid (show stepR d lv pr k s = putR d pr k (pickR lv pr k s) from by unfold stepR; rw [hlf]; rfl)
        clear hlf
        go_upto_region 12 with (first
          | (go_at_call 35; refine (HK.out _).mono ?_; rintro e w' ⟨rfl, rfl⟩)
          | (go_at_call 50; refine (HLF.out _).mono ?_; rintro e w' ⟨rfl, rfl⟩))
        go_cut [10, 53] (fun lastv cv wx => lastv = .int .i64 s.last ∧ cv = .bool (decide (breaksP lv k s)) ∧ Stay [] wr wx)
        case first =>
          by_cases hnow : s.now < 0
          · have b1 : decide (s.now < 0) = true := by simpa using hnow
            have HB := Lib.hid (show breaksP lv k s from .inl hnow)
            go_quiet (fail)
            go_wp2_with fail
            go_meet
            exact ⟨rfl, by rw [decide_eq_true HB.out], Stay.drewN _ _⟩
          · have b1 : decide (s.now < 0) = false := by simpa using hnow
            by_cases hlast : s.last < 0
            · have b2 : decide (s.last < 0) = true := by simpa using hlast
              have HB := Lib.hid (show breaksP lv k s from .inr (.inl hlast))
              go_quiet (fail)
              go_wp2_with fail
              go_meet
              exact ⟨rfl, by rw [decide_eq_true HB.out], Stay.drewN _ _⟩
            · have b2 : decide (s.last < 0) = false := by simpa using hlast
              obtain ⟨j, hj⟩ : ∃ j : Nat, s.last = j := ⟨s.last.toNat, by omega⟩
              have hjk : j < k := by have := HG.out.last; omega
              obtain ⟨ad2, rfl, had2, hcell2⟩ := sl_at (HS2.out.below HI0.out.below) (show k < lv.length by omega)
              obtain ⟨ad3, had3, _, hcell3⟩ := sl_at (HS2.out.below HI0.out.below) (show j < lv.length by omega)
              injection had3 with had3
              subst had3
              rw [hj] at b2 ⊢
              have HJ := Lib.hid hj
              have hj1 : (j : Int) < lv.length := by omega
              have hk1 : (k : Int) < lv.length := by omega
              have hb : (j : Int) ≤ 9223372036854775807 := by unfold maxLen at hl2; omega
              by_cases hne : lv.getD j 0 = lv.getD k 0
              · have HB := Lib.hid (show ¬ breaksP lv k s from by unfold breaksP; rw [HJ.out]; simp; exact ⟨by omega, by simpa using hne⟩)
                obtain ⟨x, hx⟩ : ∃ x, x = lv.getD k 0 := ⟨_, rfl⟩
                rw [hne] at hcell3
                rw [← hx] at hcell2 hcell3
                clear hne hx hj
                go_quiet (fail)
                go_wp2_with fail
                go_meet
                exact ⟨by rw [HJ.out], by rw [decide_eq_false HB.out], Stay.drewN _ _⟩
              · have HB := Lib.hid (show breaksP lv k s from .inr (.inr (by rw [HJ.out]; simpa using hne)))
                obtain ⟨x, hx⟩ : ∃ x, x = lv.getD k 0 := ⟨_, rfl⟩
                obtain ⟨y, hy⟩ : ∃ y, y = lv.getD j 0 := ⟨_, rfl⟩
                rw [← hx] at hcell2 hne
                rw [← hy] at hcell3 hne
                have b3 : (y != x) = true := by simpa using hne
                have b4 : (y == x) = false := by simpa using hne
                clear hne hx hj hy
                go_quiet (fail)
                go_wp2_with fail
                go_meet
                exact ⟨by rw [HJ.out], by rw [decide_eq_true HB.out], Stay.drewN _ _⟩
        case rest =>
          obtain ⟨rfl, rfl, hst0⟩ := hcut
          obtain ⟨bv, hbv⟩ : ∃ bv, bv = decide (breaksP lv k s) := ⟨_, rfl⟩
          rw [← hbv]
          have HBV := Lib.hid hbv
          clear hbv
          have HI1 := Lib.hid (HI0.out.quiet hst0)
          clear HI0 hcell hst0
          have hwf := wf_int (k : Int) (by omega) (by omega)
          go_upto_if 53 with fail
          go_cut [7, 9] (fun ov nowv wx => ∃ (OA' : Option Addr) (oc' : Nat) (rvs' : List Value), ov = .slice OA' (pickR lv pr k s).rows.length oc' ∧ nowv = .int .i64 (pickR lv pr k s).now ∧ RInv w wx w.heap.size w1.heap.size n pr (pickR lv pr k s) (.slice OA' (pickR lv pr k s).rows.length oc') rvs' k)
          case first =>
            cases bv with
            | true =>
              have HT := Lib.hid (show pickR lv pr k s = turnR pr k s from if_pos (of_decide_eq_true HBV.out.symm))
              cases hm : s.m k with
              | none =>
                have hlook := HI1.out.map.look_no k hwf hm
                have HT2 := Lib.hid (HT.out.trans (by unfold turnR; rw [hm] : _ = s.fresh))
                clear hm
                go_wp2_with fail
                go_quiet (fail)
                go_wp2_with (first
                  | (at_builtin; refine wpList_append_sl2 _ rfl (.tmp 83) (.tmp 84) 37 rfl w.heap.size 25 i25 _ 24 Try.underlying37 hi25 hz250 hz251 hz252 rfl (.slice OA s.rows.length oc) s.rows.length rvs HI1.out.mem.len rfl ((HI1.out.quiet (Stay.drewN _ _)).mem.own.alloc _) _ _ _ 1 [.slice none 0 0] rfl rfl (sl_one' _ _ _ _ (by simp)) (by simp [Value.oneCell']) (by have := HG.out.len; unfold maxLen; omega) (by have := HG.out.len; omega) (by rw [size_alloc']; have := HI1.out.sizes.2.2.2; simp; omega) ?_; intro OA2 oc2 w8 ho8 ha8
                     have HI8 := Lib.hid (((HI1.out.quiet (Stay.drewN _ _)).quiet (Stay.alloc _ _)).fresh ho8 ha8)
                     clear ho8 ha8))
                go_meet
                exact ⟨OA2, oc2, _, by rw [HT2.out]; simp [RS.fresh], by rw [HT2.out]; rfl, by rw [HT2.out]; simpa [RS.fresh] using HI8.out⟩
              | some a =>
                have haR := HG.out.m _ _ hm
                obtain ⟨g, RA, rl, rc, rfl, hv, hcO, hfO, hgl, hrl, hoR, -⟩ := HI1.out.mem.at_ a haR
                have hne := HG.out.ne a haR
                have hea := HG.out.each a haR
                have hle := HG.out.len
                obtain ⟨m', hm'⟩ : ∃ m', rl = m' + 1 := ⟨rl - 1, by omega⟩
                have hmk : m' + 1 ≤ k := by omega
                subst hm'
                obtain ⟨-, gr, rfl, hBr, hgr⟩ := hoR.form (by rw [ints_length]; omega)
                have hc1 := own_at hoR (i := m') (by omega)
                have hc2 := own_at HI1.out.prs (i := k) (by rw [HPL.out.1]; exact hlt)
                have hlook := HI1.out.map.look_yes k hwf a hm
                have HT2 := Lib.hid (HT.out.trans (by unfold turnR; rw [hm] : _ = if (s.rows.getD a []).getD ((s.rows.getD a []).length - 1) 0 = pr.getD k 0 then { s with now := (a : Int) } else s.fresh))
                rw [← hrl, Nat.add_sub_cancel] at HT2
                obtain ⟨x, hx⟩ : ∃ x, x = (s.rows.getD a []).getD m' 0 := ⟨_, rfl⟩
                obtain ⟨y, hy⟩ : ∃ y, y = pr.getD k 0 := ⟨_, rfl⟩
                rw [← hx] at hc1 HT2
                rw [← hy] at hc2 HT2
                have ha1 : (a : Int) < s.rows.length := by omega
                have hm1 : (m' : Int) < (m' : Int) + 1 := by omega
                have hm0 : (0 : Int) ≤ m' := by omega
                have hmw : IntKind.i64.wrap (m' : Int) = m' := by simp [IntKind.wrap, IntKind.signed, IntKind.bits]; omega
                have hmb : (m' : Int) ≤ 9223372036854775806 := by omega
                clear hx hy hm hrl hv hoR hfO hgl hne hea
                by_cases hxy : x = y
                · subst hxy
                  have HT3 := Lib.hid (HT2.out.trans (if_pos rfl))
                  go_wp2_with fail
                  go_quiet (fail)
                  go_wp2_with fail
                  go_meet
                  exact ⟨_, oc, rvs, by rw [HT3.out], by rw [HT3.out], by rw [HT3.out]; exact (HI1.out.quiet (Stay.drewN _ _)).at_ a⟩
                · have HT3 := Lib.hid (HT2.out.trans (if_neg hxy))
                  have bxy : (x != y) = true := by simpa using hxy
                  have bxy2 : (x == y) = false := by simpa using hxy
                  clear hxy
                  go_wp2_with fail
                  go_quiet (fail)
                  go_wp2_with (first
                    | (at_builtin; refine wpList_append_sl2 _ rfl (.tmp 83) (.tmp 84) 37 rfl w.heap.size 25 i25 _ 24 Try.underlying37 hi25 hz250 hz251 hz252 rfl (.slice (some ⟨g, 0, none⟩) s.rows.length oc) s.rows.length rvs HI1.out.mem.len rfl ((HI1.out.quiet (Stay.drewN _ _)).mem.own.alloc _) _ _ _ 1 [.slice none 0 0] rfl rfl (sl_one' _ _ _ _ (by simp)) (by simp [Value.oneCell']) (by have := HG.out.len; unfold maxLen; omega) (by have := HG.out.len; omega) (by rw [size_alloc']; have := HI1.out.sizes.2.2.2; simp; omega) ?_; intro OA2 oc2 w8 ho8 ha8
                       have HI8 := Lib.hid (((HI1.out.quiet (Stay.drewN _ _)).quiet (Stay.alloc _ _)).fresh ho8 ha8)
                       clear ho8 ha8))
                  go_meet
                  exact ⟨OA2, oc2, _, by rw [HT3.out]; simp [RS.fresh], by rw [HT3.out]; rfl, by rw [HT3.out]; simpa [RS.fresh] using HI8.out⟩
            | false =>
              have HT := Lib.hid (show pickR lv pr k s = s from if_neg (of_decide_eq_false HBV.out.symm))
              go_wp2_with fail
              go_meet
              exact ⟨OA, oc, rvs, by rw [HT.out], by rw [HT.out], by rw [HT.out]; exact HI1.out⟩
          case rest =>
            obtain ⟨OA', oc', rvs', rfl, rfl, HI2⟩ := hcut
            have HMd := HG.out.pick lv pr k
            obtain ⟨s', hs'⟩ : ∃ s', s' = pickR lv pr k s := ⟨_, rfl⟩
            rw [← hs'] at HI2 HMd HX ⊢
            clear HI1 HG hs' HBV
            obtain ⟨a, ha⟩ : ∃ a : Nat, s'.now = a := ⟨s'.now.toNat, by have := HMd.now; omega⟩
            have haR : a < s'.rows.length := by have := HMd.now; omega
            have hea := HMd.each a haR
            have hle := HMd.len
            obtain ⟨g, RA, rl, rc, rfl, hv, hcO, hfO, hgl, hrl, hoR, -⟩ := HI2.mem.at_ a haR
            have HI2 := Lib.hid HI2
            have HV := Lib.hid hv
            have HRO := Lib.hid hoR
            have HRL := Lib.hid (show (ints .i64 (s'.rows.getD a [])).length = rl by rw [ints_length, hrl])
            have hrk : rl ≤ k := by omega
            obtain ⟨y, hy⟩ : ∃ y, y = pr.getD k 0 := ⟨_, rfl⟩
            have HY := Lib.hid hy
            have hyb : -1 ≤ y ∧ y < (n : Int) := by rw [hy]; exact HPL.out.2 k hlt
            have hwfy := wf_int y (by omega) (by omega)
            have hwfa := wf_int (a : Int) (by omega) (by omega)
            have ha1 : (a : Int) < s'.rows.length := by omega
            have hk1 : (k : Int) < n := by omega
            have HO := Lib.hid (fun w => opens_any d w)
            have HP0 := Lib.hid (show putR d pr k s' = { rows := s'.rows.set a (s'.rows.getD a [] ++ [(k : Int)]), now := (a : Int), last := if d = 10 then -1 else (k : Int), m := if opensB d = true ∧ 0 ≤ y then fun u => if u = y then some a else s'.m u else s'.m } from by
              unfold putR
              rw [ha, ← hy]
              rfl)
            rw [ha]
            have HN := Lib.hid ha
            clear hv hoR hrl hea hy ha HMd
            cases hop : opensB d with
            | true =>
              rw [hop] at HO
              have hd10 : ¬ d = 10 := by intro e; subst e; simp [opensB] at hop
              have b10 : (d == 10) = false := by simpa using hd10
              by_cases hyn : 0 ≤ y
              · have by1 : decide (0 ≤ y) = true := by simpa using hyn
                have by2 : decide (y ≥ 0) = true := by simpa using hyn
                have HQ := Lib.hid (HP0.out.trans (by rw [if_neg hd10, if_pos ⟨hop, hyn⟩] : _ = { rows := s'.rows.set a (s'.rows.getD a [] ++ [(k : Int)]), now := (a : Int), last := (k : Int), m := fun u => if u = y then some a else s'.m u }))
                clear hop hd10 hyn
                go_wp2_with (first
                  | (at_builtin; refine wpList_append_sl2 _ rfl (.tmp 92) (.tmp 94) 25 rfl w.heap.size 3 i3 _ 8 Try.underlying25 hi3 hz30 hz31 hz32 rfl (.slice RA rl rc) rl _ HRL.out rfl (HRO.out.alloc _) _ _ _ 1 [.int .i64 k] rfl rfl (sl_one' _ _ _ _ (by simp)) (one_int _ _) (by unfold maxLen; omega) (by omega) (by rw [size_alloc']; have := HI2.out.sizes.2.2.2; omega) ?_; intro RA2 rc2 w8 ho8 ha8
                     obtain ⟨hc8, hf8, hg8⟩ := ((HI2.out.quiet (Stay.alloc _ _)).mem).after HV.out ha8
                     have HI3 := Lib.hid ((HI2.out.quiet (Stay.alloc _ _)).put HV.out (by rw [ints_snoc] at ho8; exact ho8) ha8)
                     have hp8 := own_at HI3.out.prs (i := k) (by rw [HPL.out.1]; exact hlt)
                     rw [← HY.out] at hp8
                     clear ho8 ha8)
                  | (go_at_call 36; refine (HO.out _).mono ?_; rintro e w' ⟨rfl, rfl⟩)
                  | (at_mapUpdate; refine wpList_upd rfl (.tmp 107) (.tmp 111) (.tmp 112) rfl rfl y rfl a rfl HI3.out.map (by unfold maxLen; omega) hwfy hwfa ?_; intro w9 hm9 hst9
                     have HI4 := Lib.hid (HI3.out.upd hm9 hst9)
                     clear hm9 hst9))
                go_roundg (n - (k + 1))
                case measure => omega
                case rel => exact ⟨k + 1, some ⟨g, 0, none⟩, oc', _, by omega, rfl, by go_num, by rw [HE.out, HX.out, HQ.out], by rw [HE.out, HX.out, HQ.out], by rw [HE.out, HX.out, HQ.out]; simp, by rw [HE.out, HX.out, HQ.out]; simp only [List.length_set]; exact (HI4.out.last_ k).at_ a⟩
              · have by1 : decide (0 ≤ y) = false := by simpa using hyn
                have by2 : decide (y ≥ 0) = false := by simpa using hyn
                have HQ := Lib.hid (HP0.out.trans (by rw [if_neg hd10, if_neg (fun h => hyn h.2)] : _ = { rows := s'.rows.set a (s'.rows.getD a [] ++ [(k : Int)]), now := (a : Int), last := (k : Int), m := s'.m }))
                clear hop hd10 hyn
                go_wp2_with (first
                  | (at_builtin; refine wpList_append_sl2 _ rfl (.tmp 92) (.tmp 94) 25 rfl w.heap.size 3 i3 _ 8 Try.underlying25 hi3 hz30 hz31 hz32 rfl (.slice RA rl rc) rl _ HRL.out rfl (HRO.out.alloc _) _ _ _ 1 [.int .i64 k] rfl rfl (sl_one' _ _ _ _ (by simp)) (one_int _ _) (by unfold maxLen; omega) (by omega) (by rw [size_alloc']; have := HI2.out.sizes.2.2.2; omega) ?_; intro RA2 rc2 w8 ho8 ha8
                     obtain ⟨hc8, hf8, hg8⟩ := ((HI2.out.quiet (Stay.alloc _ _)).mem).after HV.out ha8
                     have HI3 := Lib.hid ((HI2.out.quiet (Stay.alloc _ _)).put HV.out (by rw [ints_snoc] at ho8; exact ho8) ha8)
                     have hp8 := own_at HI3.out.prs (i := k) (by rw [HPL.out.1]; exact hlt)
                     rw [← HY.out] at hp8
                     clear ho8 ha8)
                  | (go_at_call 36; refine (HO.out _).mono ?_; rintro e w' ⟨rfl, rfl⟩))
                go_roundg (n - (k + 1))
                case measure => omega
                case rel => exact ⟨k + 1, some ⟨g, 0, none⟩, oc', _, by omega, rfl, by go_num, by rw [HE.out, HX.out, HQ.out], by rw [HE.out, HX.out, HQ.out], by rw [HE.out, HX.out, HQ.out]; simp, by rw [HE.out, HX.out, HQ.out]; simp only [List.length_set]; exact ((HI3.out.last_ k).at_ a).more (Nat.le_succ k)⟩
            | false =>
              rw [hop] at HO
              by_cases hd10 : d = 10
              · have b10 : (d == 10) = true := by simpa using hd10
                have HQ := Lib.hid (HP0.out.trans (by rw [if_pos hd10, if_neg (by rw [hop]; simp)] : _ = { rows := s'.rows.set a (s'.rows.getD a [] ++ [(k : Int)]), now := (a : Int), last := (-1 : Int), m := s'.m }))
                clear hop hd10
                go_wp2_with (first
                  | (at_builtin; refine wpList_append_sl2 _ rfl (.tmp 92) (.tmp 94) 25 rfl w.heap.size 3 i3 _ 8 Try.underlying25 hi3 hz30 hz31 hz32 rfl (.slice RA rl rc) rl _ HRL.out rfl (HRO.out.alloc _) _ _ _ 1 [.int .i64 k] rfl rfl (sl_one' _ _ _ _ (by simp)) (one_int _ _) (by unfold maxLen; omega) (by omega) (by rw [size_alloc']; have := HI2.out.sizes.2.2.2; omega) ?_; intro RA2 rc2 w8 ho8 ha8
                     obtain ⟨hc8, hf8, hg8⟩ := ((HI2.out.quiet (Stay.alloc _ _)).mem).after HV.out ha8
                     have HI3 := Lib.hid ((HI2.out.quiet (Stay.alloc _ _)).put HV.out (by rw [ints_snoc] at ho8; exact ho8) ha8)
                     have hp8 := own_at HI3.out.prs (i := k) (by rw [HPL.out.1]; exact hlt)
                     rw [← HY.out] at hp8
                     clear ho8 ha8)
                  | (go_at_call 36; refine (HO.out _).mono ?_; rintro e w' ⟨rfl, rfl⟩))
                go_roundg (n - (k + 1))
                case measure => omega
                case rel => exact ⟨k + 1, some ⟨g, 0, none⟩, oc', _, by omega, rfl, by go_num, by rw [HE.out, HX.out, HQ.out], by rw [HE.out, HX.out, HQ.out], by rw [HE.out, HX.out, HQ.out]; simp, by rw [HE.out, HX.out, HQ.out]; simp only [List.length_set]; exact ((HI3.out.last_ (-1)).at_ a).more (Nat.le_succ k)⟩
              · have b10 : (d == 10) = false := by simpa using hd10
                have HQ := Lib.hid (HP0.out.trans (by rw [if_neg hd10, if_neg (by rw [hop]; simp)] : _ = { rows := s'.rows.set a (s'.rows.getD a [] ++ [(k : Int)]), now := (a : Int), last := (k : Int), m := s'.m }))
                clear hop hd10
                go_wp2_with (first
                  | (at_builtin; refine wpList_append_sl2 _ rfl (.tmp 92) (.tmp 94) 25 rfl w.heap.size 3 i3 _ 8 Try.underlying25 hi3 hz30 hz31 hz32 rfl (.slice RA rl rc) rl _ HRL.out rfl (HRO.out.alloc _) _ _ _ 1 [.int .i64 k] rfl rfl (sl_one' _ _ _ _ (by simp)) (one_int _ _) (by unfold maxLen; omega) (by omega) (by rw [size_alloc']; have := HI2.out.sizes.2.2.2; omega) ?_; intro RA2 rc2 w8 ho8 ha8
                     obtain ⟨hc8, hf8, hg8⟩ := ((HI2.out.quiet (Stay.alloc _ _)).mem).after HV.out ha8
                     have HI3 := Lib.hid ((HI2.out.quiet (Stay.alloc _ _)).put HV.out (by rw [ints_snoc] at ho8; exact ho8) ha8)
                     have hp8 := own_at HI3.out.prs (i := k) (by rw [HPL.out.1]; exact hlt)
                     rw [← HY.out] at hp8
                     clear ho8 ha8)
                  | (go_at_call 36; refine (HO.out _).mono ?_; rintro e w' ⟨rfl, rfl⟩))
                go_roundg (n - (k + 1))
                case measure => omega
                case rel => exact ⟨k + 1, some ⟨g, 0, none⟩, oc', _, by omega, rfl, by go_num, by rw [HE.out, HX.out, HQ.out], by rw [HE.out, HX.out, HQ.out], by rw [HE.out, HX.out, HQ.out]; simp, by rw [HE.out, HX.out, HQ.out]; simp only [List.length_set]; exact ((HI3.out.last_ k).at_ a).more (Nat.le_succ k)⟩
    · have hk' : k = n := by omega
      subst hk'
      have HJ := Lib.hid HI
      clear HI
      go_wp2
      exact bodyPost_ret (v := .slice OA (rto zs lv pr k).rows.length oc) (by simp [results, Try.results23, go_sem]) rfl ⟨_, rvs, rfl, by rw [HR.out]; exact HJ.out.mem.less (by simp), HJ.out.below⟩
end Go.Proofs.Ytikgjnfimagpjaa
