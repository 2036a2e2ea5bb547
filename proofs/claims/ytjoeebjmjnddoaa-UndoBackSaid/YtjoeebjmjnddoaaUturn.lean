/- package undo: turn. -/
import Derived.Test.YtjoeebjmjnddoaaUbook
import Derived.Test.YtjoeebjmjnddoaaRlast
import Derived.BigRegion
import Derived.Deep.CutBlock
import Derived.Deep.DeepCutAuto
namespace Go.Proofs.Ytjoeebjmjnddoaa
open Go.RowKit
set_option maxRecDepth 20000 in
set_option maxHeartbeats 32000000 in
theorem turn_undo (B bb rb m gg oo gc : Nat) (bx : Nat) (sp : Int) (dv uv : Value) (st sv gv gby gbe gst : Int) (ged : List Ed) (e : Nat → Ed) (idx : Nat → Nat) (cur : Nat → List UInt8) (t : Rp) (rs : Int) (w : World)
    (h : Blk w bb (bcells rb sp dv uv st sv gv) 98) (hr : RopeAt w rb t rs) (hu : U64 rs) (hg : Win w B 37 3 (some ⟨gg, oo, none⟩) m gc (eds ged)) (hm : 0 < m ∧ m ≤ 4096) (hB : B ≤ w.heap.size) (hc0 : t.text = cur 0)
    (hidx : ∀ k, k < m → idx k < m) (hinj : ∀ i j, i < m → j < m → idx i = idx j → i = j) (hged : ∀ k, k < m → ged[k]? = some (e k)) (hun : ∀ k, k < m → Undoes (e (idx k)) (cur k) (cur (k + 1))) (hbx : w.cell? ⟨bx, 0, none⟩ = some (.slice (some ⟨gg, oo, none⟩) m gc)) (hbt : ∃ L, Blk w bx L 100) (hix : ∀ k, k < m → idx k = m - 1 - k) :
    Calls Try.prog 64 #[.pointer (some ⟨bb, 0, none⟩), .agg #[.slice (some ⟨gg, oo, none⟩) m gc, .int .i64 gby, .int .i64 gbe, .int .i64 gst], .func (.func 65) #[] #[.pointer (some ⟨bx, 0, none⟩)]] w (Turned B rb bb m sp dv uv st sv gv gbe gst e idx cur w) := by
  obtain ⟨W, hW⟩ : ∃ W, W = (w.alloc (.cells #[.slice (some ⟨gg, oo, none⟩) m gc, .int .i64 gby, .int .i64 gbe, .int .i64 gst] 100)).alloc (.cells #[.slice none 0 0, .int .i64 0, .int .i64 0, .int .i64 0] 100) := ⟨_, rfl⟩
  have hs : Stay [] w W := by rw [hW]; exact (Stay.alloc _ _).alloc'
  have hb4 : Blk W w.heap.size [.slice (some ⟨gg, oo, none⟩) m gc, .int .i64 gby, .int .i64 gbe, .int .i64 gst] 100 := by
    rw [hW]; exact (Blk.new w [.slice (some ⟨gg, oo, none⟩) m gc, .int .i64 gby, .int .i64 gbe, .int .i64 gst] 100).stay (F := []) (Stay.alloc _ _) (by simp)
  have hb6 : Blk W (w.heap.size + 1) [.slice none 0 0, .int .i64 0, .int .i64 0, .int .i64 0] 100 := by
    rw [hW]
    have h1 := Blk.new (w.alloc (.cells #[.slice (some ⟨gg, oo, none⟩) m gc, .int .i64 gby, .int .i64 gbe, .int .i64 gst] 100)) [.slice none 0 0, .int .i64 0, .int .i64 0, .int .i64 0] 100
    rw [size_alloc'] at h1
    exact h1
  have HW := Lib.hid hW
  have HSw := Lib.hid hs
  have HB := Lib.hid (h.stay hs (by simp))
  have HR := Lib.hid (hr.stay0 hs)
  have HG := Lib.hid (hg.stay0 hs)
  have HBl := Lib.hid (Nat.le_trans hB hs.size)
  obtain ⟨b4, hb4e⟩ : ∃ b, b = w.heap.size := ⟨_, rfl⟩
  rw [← hb4e] at hb4 hb6
  have HE4 := Lib.hid hb4e
  have H4 := Lib.hid hb4
  have H6 := Lib.hid hb6
  have HU := Lib.hid hu
  have HC0 := Lib.hid hc0
  have HIx := Lib.hid (And.intro hidx (And.intro hinj (And.intro hged hun)))
  have HX := Lib.hid (And.intro hbx (And.intro hbt hix))
  clear hbx hbt hix
  have hm1 := hm.1
  have hm2 := hm.2
  have hmi : (m : Int) ≤ 4096 := by omega
  have hm0 : (0 : Int) ≤ m := by omega
  obtain ⟨W0, hW0⟩ : ∃ n, n = W.heap.size := ⟨_, rfl⟩
  have HW0 := Lib.hid hW0
  have d0 : W.drew.cell? ⟨b4, 0, none⟩ = some (.slice (some ⟨gg, oo, none⟩) m gc) := hb4.cell 0
  have d2 : W.drew.cell? ⟨b4, 2, none⟩ = some (.int .i64 gbe) := hb4.cell 2
  have d3 : W.drew.cell? ⟨b4, 3, none⟩ = some (.int .i64 gst) := hb4.cell 3
  have k0 : W.cell? ⟨b4, 0, none⟩ = some (.slice (some ⟨gg, oo, none⟩) m gc) := hb4.cell 0
  have k2 : W.cell? ⟨b4, 2, none⟩ = some (.int .i64 gbe) := hb4.cell 2
  have k3 : W.cell? ⟨b4, 3, none⟩ = some (.int .i64 gst) := hb4.cell 3
  have hb4l := hb4.lt
  have hmk : ∀ w, (Instr.makeSlice 44 (.int .i64 m) (.int .i64 m)).run Try.prog w = .ok (.slice (some ⟨w.heap.size, 0, none⟩) m m) (w.alloc (.cells (eds (List.replicate m zeroE)).toArray 37)) := by
    intro w
    obtain ⟨i37, hi37, hz37, hs37, hy37⟩ := info_parts info37
    have hr := run_make (P := Try.prog) w 44 37 i37 _ Try.underlying44 hi37 hz37 .i64 .i64 m m hm0 (Int.le_refl _) (by rw [hy37]; omega) (by omega)
    rw [hs37] at hr
    simpa only [Int.toNat_natCast, made37] using hr
  clear h hr hu hg hm hB hc0 hidx hinj hged hun hW hs hb4 hb6 hb4e hW0
  go_enter Try.func64, Try.ntmps64
  go_upto_region 2 with fail
  rw [← HW.out, ← HE4.out]
  go_cut [9] (fun v wx => ∃ b9 eo : Nat, v = .pointer (some ⟨b9, 0, none⟩) ∧ Hid (Blk wx b9 [.slice (some ⟨eo, 0, none⟩) m m, .int .i64 0, .int .i64 gbe, .int .i64 gst] 100 ∧ Blk wx eo (eds (List.replicate m zeroE)) 37 ∧ b9 ≠ eo ∧ W0 ≤ b9 ∧ W0 ≤ eo ∧ Stay [] W wx))
  case first =>
    go_region
    all_goals
      go_wp2_with fail
      go_meet
    · obtain ⟨x1, x2, x3⟩ := two_boxes W (eds (List.replicate m zeroE)) [.slice (some ⟨W.heap.size, 0, none⟩) m m, .int .i64 0, .int .i64 gbe, .int .i64 gst] 37 100
      exact ⟨W.heap.size + 1, W.heap.size, rfl, Lib.hid ⟨x2, x1, by omega, by rw [HW0.out]; omega, by rw [HW0.out]; omega, x3⟩⟩
    · obtain ⟨x1, x2, x3⟩ := two_boxes W [.slice (some ⟨W.heap.size + 1, 0, none⟩) m m, .int .i64 0, .int .i64 gbe, .int .i64 gst] (eds (List.replicate m zeroE)) 100 37
      exact ⟨W.heap.size, W.heap.size + 1, rfl, Lib.hid ⟨x1, x2, by omega, by rw [HW0.out]; omega, by rw [HW0.out]; omega, x3⟩⟩
  case rest =>
    obtain ⟨b9, eo, rfl, HQ⟩ := hcut
    obtain ⟨Wc, hWc⟩ : ∃ x, x = wc := ⟨_, rfl⟩
    rw [← hWc] at HQ ⊢
    have HT0 := Lib.hid (show TI B W0 W rb eo b9 m e idx cur gbe gst 0 0 0 none 0 (List.replicate m zeroE) 0 t rs Wc from
      ⟨Win.nil _ _ _ _, List.length_replicate, HQ.out.2.1, fun i hi => absurd hi (by omega), HQ.out.1, HR.out.stay0 HQ.out.2.2.2.2.2, HU.out, HC0.out, HQ.out.2.2.2.2.2.mono (by simp), by simp [Ab], by simp [Ab], Int.le_refl _, by omega, HW0.out, HQ.out.2.2.2.2.1, HQ.out.2.2.2.1⟩)
    have k0' : Wc.cell? ⟨b4, 0, none⟩ = some (.slice (some ⟨gg, oo, none⟩) m gc) := (HQ.out.2.2.2.2.2.cell_ (a := ⟨b4, 0, none⟩) hb4l (by simp)).trans k0
    have HQ4 := Lib.hid HQ.out.2.2.1
    have HQn := Lib.hid (And.intro HQ.out.2.2.2.1 HQ.out.2.2.2.2.1)
    clear hWc HQ HC0 d0 d2 d3 k0 k2 k3 hmk
    go_wp2_with fail
    go_loopw [8, 24] (fun dv iv wr => ∃ (k : Nat) (dA : Option Addr) (dc : Nat) (X : List Ed) (y : Int) (t1 : Rp) (r1 : Int), k ≤ m ∧ iv = .int .i64 k ∧ dv = .slice dA k dc ∧ Hid (TI B W0 W rb eo b9 m e idx cur gbe gst k k k dA dc X y t1 r1 wr)) (fun _ iv _ => m - (intOf iv).toNat)
    case atStart => exact ⟨0, none, 0, _, 0, t, rs, by omega, rfl, rfl, HT0⟩
    case round =>
      clear HT0 k0'
      obtain ⟨k, dA, dc, X, y, t1, r1, hk, rfl, rfl, HI⟩ := hrel
      by_cases hlt : k < m
      · have hlt' : (k : Int) < m := by omega
        have hk0 : (0 : Int) ≤ k := by omega
        have hq := HIx.out.1 k hlt
        have hEd := HIx.out.2.2.1 (idx k) hq
        have hUn := HIx.out.2.2.2 k hlt
        rw [← HI.out.tx] at hUn
        have HDo := Lib.hid (fun (u : World) (hu : RopeAt u rb t1 r1) => do_undo2 rb t1 r1 (e (idx k)) (cur (k + 1)) u hu HI.out.u hUn)
        obtain ⟨q, hqe⟩ : ∃ q, q = idx k := ⟨_, rfl⟩
        have HQe := Lib.hid hqe
        rw [← hqe] at hq hEd HDo
        have hq0 : (0 : Int) ≤ q := by omega
        have hqm : (q : Int) < m := by omega
        have HKW := Lib.hid (show ∀ u, Stay [rb] W u → u.cell? ⟨b4, 0, none⟩ = some (.slice (some ⟨gg, oo, none⟩) m gc) ∧ u.cell? ⟨bb, 0, none⟩ = some (.pointer (some ⟨rb, 0, none⟩)) ∧
            u.cell? ⟨gg, oo + q * 3, none⟩ = some (.int .i64 (e q).a) ∧ u.cell? ⟨gg, oo + q * 3 + 1, none⟩ = some (.int .i64 (e q).d) ∧ u.cell? ⟨gg, oo + q * 3 + 2, none⟩ = some (.string (e q).s) from fun u hs => by
          obtain ⟨L7, hL7⟩ := HR.out.blk
          have n1 : b4 ∉ [rb] := by
            rw [List.mem_singleton]; intro e1; subst e1
            have := hL7.type H4.out
            cases this
          have n2 : bb ∉ [rb] := by
            rw [List.mem_singleton]; intro e1; subst e1
            have := hL7.type HB.out
            cases this
          have h2 := HG.out.stay hs (fun f hf hm => by
            obtain ⟨_, _, L, hL⟩ := HG.out.ab f hf
            rw [List.mem_singleton] at hm
            subst hm
            have := hL7.type hL
            cases this)
          obtain ⟨w1, w2, w3⟩ := win_ed h2 q (e q) hEd
          exact ⟨(H4.out.stay hs n1).cell 0, (HB.out.stay hs n2).cell 0, w1, w2, w3⟩)
        have HEa := Lib.hid (each_undo bx m k (some ⟨gg, oo, none⟩) gc wr (by
          obtain ⟨hbx, ⟨L, hbt⟩, _⟩ := HX.out
          obtain ⟨L7, hL7⟩ := HR.out.blk
          have hW1 := hbt.stay HSw.out (by simp)
          have n3 : bx ∉ [rb] := by
            rw [List.mem_singleton]; intro e1; subst e1
            have := hL7.type hW1
            cases this
          exact ((HI.out.stay.cell_ (a := ⟨bx, 0, none⟩) hW1.lt n3).trans (HSw.out.cell_ (a := ⟨bx, 0, none⟩) hbt.lt (by simp))).trans hbx) hlt hm2)
        rw [← HX.out.2.2 k hlt, ← hqe] at HEa
        clear hqe hEd hUn
        obtain ⟨x, hx⟩ : ∃ x, x = e q := ⟨_, rfl⟩
        have HXe := Lib.hid hx
        rw [← hx] at HKW HDo
        clear hx
        obtain ⟨xa, xd, xs⟩ := x
        have kw := HKW.out wr HI.out.stay
        have k0 := kw.1
        have k5 := kw.2.2.1
        have k6 := kw.2.2.2.1
        have k7 := kw.2.2.2.2
        simp only at k5 k6 k7
        clear kw
        go_wp2_with fail
        refine HEa.out.mono ?_
        rintro e' w' ⟨rfl, hwe⟩
        rw [hwe]
        clear hwe
        have HD0 := Lib.hid ((HI.out.did).stay0 (Stay.alloc wr (.cells #[.int .i64 xa, .int .i64 xd, .string xs] 37)))
        have HNw := Lib.hid (cells_new wr [.int .i64 xa, .int .i64 xd, .string xs] 37 wr.heap.size rfl)
        have HSz := Lib.hid (show B ≤ (wr.alloc (.cells #[.int .i64 xa, .int .i64 xd, .string xs] 37)).heap.size from by rw [size_alloc']; exact Nat.le_succ_of_le (Nat.le_trans HBl.out HI.out.stay.size))
        obtain ⟨i37, hi37, hz37, hs37, hy37⟩ := info_parts info37
        have HI37 := Lib.hid (And.intro hi37 (And.intro hz37 (And.intro hs37 hy37)))
        have h63 : k + 1 ≤ maxLen := by simp only [maxLen]; omega
        have h32 : (k + 1) * 32 ≤ 140737488355328 := by omega
        have HM := Lib.hid (And.intro h63 h32)
        clear hi37 hz37 hs37 hy37 h63 h32
        have HI0 := Lib.hid (HI.out.stay0 (Stay.alloc wr (.cells #[.int .i64 xa, .int .i64 xd, .string xs] 37)))
        go_wp2_with (refine wpList_append_win rfl (.tmp 30) (.tmp 36) 44 rfl B 37 3 i37 _ 32 Try.underlying44 HI37.out.1 HI37.out.2.1 HI37.out.2.2.1 HI37.out.2.2.2 rfl (by omega) dA k dc _ rfl HD0.out ⟨wr.heap.size, 0, none⟩ 1 1 rfl [.int .i64 xa, .int .i64 xd, .string xs] rfl (by omega) HNw.out (by simp [Value.oneCell']) HM.out.1 HM.out.2 HSz.out ?_
                     intro A' c' w5 hw5 hs5 ha5
                     have HI5 := Lib.hid (show TI B W0 W rb eo b9 m e idx cur gbe gst (k + 1) k k A' c' X y t1 r1 w5 from HI0.out.push hs5 (by rw [← HQe.out, ← HXe.out]; exact hw5) ha5)
                     clear hw5 hs5 ha5 k0 k5 k6 k7)
        clear HD0 HNw HSz HI0 HI HEa
        go_cut [] (fun wx => ∃ (a : Ed) (t2 : Rp) (r2 : Int) (X2 : List Ed), Hid (TI B W0 W rb eo b9 m e idx cur gbe gst (k + 1) (k + 1) k A' c' X2 y t2 r2 wx ∧ X2[q]? = some a ∧ a.s.size ≤ 1048576))
        case first =>
          have HId := Lib.hid (HI5.out.stay0 (Stay.drew w5))
          obtain ⟨a, hD, hUa⟩ := HDo.out w5.drew HId.out.R
          rw [HId.out.tx, HXe.out, HQe.out] at hUa
          have HUa := Lib.hid hUa
          obtain ⟨L7, hL7⟩ := HR.out.blk
          have HL7 := Lib.hid hL7
          have hqX : q < X.length := by rw [HId.out.xl]; omega
          have HSS := Lib.hid (show ∀ u, Stay [rb] w5.drew u → (u.cell? ⟨b9, 0, none⟩ = some (.slice (some ⟨eo, 0, none⟩) m m) ∧ u.cell? ⟨b4, 0, none⟩ = some (.slice (some ⟨gg, oo, none⟩) m gc) ∧ u.cell? ⟨bb, 0, none⟩ = some (.pointer (some ⟨rb, 0, none⟩)) ∧
              u.cell? ⟨gg, oo + q * 3, none⟩ = some (.int .i64 xa) ∧ u.cell? ⟨gg, oo + q * 3 + 1, none⟩ = some (.int .i64 xd) ∧ u.cell? ⟨gg, oo + q * 3 + 2, none⟩ = some (.string xs)) from fun u hs => by
            obtain ⟨L8, hL8⟩ := HId.out.R.blk
            have n1 : b9 ∉ [rb] := by
              rw [List.mem_singleton]; intro e1; subst e1
              have := hL8.type HId.out.box
              cases this
            exact ⟨(HId.out.box.stay hs n1).cell 0, HKW.out u (HId.out.stay.trans hs)⟩)
          have HEo := Lib.hid (show ∀ u, Stay [rb] w5.drew u → Blk u eo (eds X) 37 from fun u hs => by
            obtain ⟨L8, hL8⟩ := HId.out.R.blk
            exact HId.out.out.stay hs (by
              rw [List.mem_singleton]; intro e1; subst e1
              have := hL8.type HId.out.out
              cases this))
          have HKp := Lib.hid (show ∀ (u : World) (v1 v2 v3 : Value), Stay [rb] w5.drew u → (u.cell? ⟨b9, 0, none⟩ = some (.slice (some ⟨eo, 0, none⟩) m m) ∧ u.cell? ⟨b4, 0, none⟩ = some (.slice (some ⟨gg, oo, none⟩) m gc) ∧ u.cell? ⟨bb, 0, none⟩ = some (.pointer (some ⟨rb, 0, none⟩)) ∧
              u.cell? ⟨gg, oo + q * 3, none⟩ = some (.int .i64 xa) ∧ u.cell? ⟨gg, oo + q * 3 + 1, none⟩ = some (.int .i64 xd) ∧ u.cell? ⟨gg, oo + q * 3 + 2, none⟩ = some (.string xs)) → (fun v : World => v.cell? ⟨b9, 0, none⟩ = some (.slice (some ⟨eo, 0, none⟩) m m) ∧ v.cell? ⟨b4, 0, none⟩ = some (.slice (some ⟨gg, oo, none⟩) m gc) ∧ v.cell? ⟨bb, 0, none⟩ = some (.pointer (some ⟨rb, 0, none⟩)) ∧
              v.cell? ⟨gg, oo + q * 3, none⟩ = some (.int .i64 xa) ∧ v.cell? ⟨gg, oo + q * 3 + 1, none⟩ = some (.int .i64 xd) ∧ v.cell? ⟨gg, oo + q * 3 + 2, none⟩ = some (.string xs)) (((u.setCell ⟨eo, q * 3, none⟩ v1).setCell ⟨eo, q * 3 + 1, none⟩ v2).setCell ⟨eo, q * 3 + 2, none⟩ v3) from fun u v1 v2 v3 hs hu => by
            have hse : ∀ (u : World) (j : Nat) (v : Value), Stay [eo] u (u.setCell ⟨eo, j, none⟩ v) := fun u j v => Stay.setCell _ _ _ (by simp)
            have hs3 := ((hse u (q * 3) v1).trans (hse _ (q * 3 + 1) v2)).trans (hse _ (q * 3 + 2) v3)
            have ho := HEo.out u hs
            have h9 : eo ≠ b9 := fun e1 => by
              have h1 := HId.out.box
              have h2 := HId.out.out
              rw [e1] at h2
              have := h2.type h1
              cases this
            have hl4 := hb4l
            have h1 := HId.out.eo0
            have h2 := HId.out.hW0
            have h3 := HB.out.lt
            have h4 := HG.out.lt.2
            have hk : ∀ (f j : Nat) (x : Value), u.cell? ⟨f, j, none⟩ = some x → eo ≠ f → (((u.setCell ⟨eo, q * 3, none⟩ v1).setCell ⟨eo, q * 3 + 1, none⟩ v2).setCell ⟨eo, q * 3 + 2, none⟩ v3).cell? ⟨f, j, none⟩ = some x := fun f j x hx hn => (hs3.cell_ (a := ⟨f, j, none⟩) (World.block_lt_of_cell? _ _ hx) (by rw [List.mem_singleton]; exact fun e => hn e.symm)).trans hx
            exact ⟨hk _ _ _ hu.1 h9, hk _ _ _ hu.2.1 (by omega), hk _ _ _ hu.2.2.1 (by omega), hk _ _ _ hu.2.2.2.1 (by omega), hk _ _ _ hu.2.2.2.2.1 (by omega), hk _ _ _ hu.2.2.2.2.2 (by omega)⟩)
          have c0 := HSS.out _ (Stay.refl _ _)
          obtain ⟨aa, ad, as_⟩ := a
          have HD := Lib.hid (show Calls Try.prog 21 #[.pointer (some ⟨rb, 0, none⟩), .agg #[.int .i64 xa, .int .i64 xd, .string xs]] w5.drew fun e' w' => e' = .returned (.tuple #[.agg #[.int .i64 aa, .int .i64 ad, .string as_], .int .i64 0]) ∧ (∃ t', RopeAt w' rb t' (IntKind.u64.wrap (r1 + 1)) ∧ t'.text = cur (k + 1)) ∧ Stay [rb] w5.drew w' from hD)
          clear hD hUa hL7
          refine AnyL.begin_ (S := fun w' : World => w'.cell? ⟨b9, 0, none⟩ = some (.slice (some ⟨eo, 0, none⟩) m m) ∧ w'.cell? ⟨b4, 0, none⟩ = some (.slice (some ⟨gg, oo, none⟩) m gc) ∧ w'.cell? ⟨bb, 0, none⟩ = some (.pointer (some ⟨rb, 0, none⟩)) ∧ w'.cell? ⟨gg, oo + q * 3, none⟩ = some (.int .i64 xa) ∧ w'.cell? ⟨gg, oo + q * 3 + 1, none⟩ = some (.int .i64 xd) ∧ w'.cell? ⟨gg, oo + q * 3 + 2, none⟩ = some (.string xs)) (n := 99) (by kernel_rfl) ?_
          refine AnyL.takeS (i := 0) (v := ?_) rfl (by kernel_rfl) (by kernel_rfl) (by kernel_rfl) (by kernel_rfl) (fun _ _ _ h => h) (Or.inl ⟨by rfl, ?_⟩) c0 ?_
          rotate_left
          · intro w hSw
            obtain ⟨k0, k1, k2, k3, k4, k5⟩ := hSw
            simp only [List.getElem_toArray, List.getElem_cons_zero]
            go_simp
            all_goals with_reducible rfl
          simp only [List.getElem_toArray, List.getElem_cons_zero, Act.put, List.setIfInBounds_toArray, List.set_cons_zero, List.set_cons_succ]
          refine AnyL.takeS (i := 1) (v := ?_) rfl (by kernel_rfl) (by kernel_rfl) (by kernel_rfl) (by kernel_rfl) (fun _ _ _ h => h) (Or.inl ⟨by rfl, ?_⟩) c0 ?_
          rotate_left
          · intro w hSw
            obtain ⟨k0, k1, k2, k3, k4, k5⟩ := hSw
            simp only [List.getElem_toArray, List.getElem_cons_zero, List.getElem_cons_succ]
            go_simp
            all_goals with_reducible rfl
          simp only [List.getElem_toArray, List.getElem_cons_zero, List.getElem_cons_succ, Act.put, List.setIfInBounds_toArray, List.set_cons_zero, List.set_cons_succ]
          refine AnyL.takeS (i := 2) (v := ?_) rfl (by kernel_rfl) (by kernel_rfl) (by kernel_rfl) (by kernel_rfl) (fun _ _ _ h => h) (Or.inl ⟨by rfl, ?_⟩) c0 ?_
          rotate_left
          · intro w hSw
            obtain ⟨k0, k1, k2, k3, k4, k5⟩ := hSw
            simp only [List.getElem_toArray, List.getElem_cons_zero, List.getElem_cons_succ]
            go_simp
            all_goals with_reducible rfl
          simp only [List.getElem_toArray, List.getElem_cons_zero, List.getElem_cons_succ, Act.put, List.setIfInBounds_toArray, List.set_cons_zero, List.set_cons_succ]
          refine AnyL.takeS (i := 3) (v := ?_) rfl (by kernel_rfl) (by kernel_rfl) (by kernel_rfl) (by kernel_rfl) (fun _ _ _ h => h) (Or.inl ⟨by rfl, ?_⟩) c0 ?_
          rotate_left
          · intro w hSw
            obtain ⟨k0, k1, k2, k3, k4, k5⟩ := hSw
            simp only [List.getElem_toArray, List.getElem_cons_zero, List.getElem_cons_succ]
            go_simp
            all_goals with_reducible rfl
          simp only [List.getElem_toArray, List.getElem_cons_zero, List.getElem_cons_succ, Act.put, List.setIfInBounds_toArray, List.set_cons_zero, List.set_cons_succ]
          refine AnyL.takeS (i := 4) (v := ?_) rfl (by kernel_rfl) (by kernel_rfl) (by kernel_rfl) (by kernel_rfl) (fun _ _ _ h => h) (Or.inl ⟨by rfl, ?_⟩) c0 ?_
          rotate_left
          · intro w hSw
            obtain ⟨k0, k1, k2, k3, k4, k5⟩ := hSw
            simp only [List.getElem_toArray, List.getElem_cons_zero, List.getElem_cons_succ]
            go_simp
            all_goals with_reducible rfl
          simp only [List.getElem_toArray, List.getElem_cons_zero, List.getElem_cons_succ, Act.put, List.setIfInBounds_toArray, List.set_cons_zero, List.set_cons_succ]
          refine AnyL.takeS (i := 5) (v := ?_) rfl (by kernel_rfl) (by kernel_rfl) (by kernel_rfl) (by kernel_rfl) (fun _ _ _ h => h) (Or.inl ⟨by rfl, ?_⟩) c0 ?_
          rotate_left
          · intro w hSw
            obtain ⟨k0, k1, k2, k3, k4, k5⟩ := hSw
            simp only [List.getElem_toArray, List.getElem_cons_zero, List.getElem_cons_succ]
            go_simp
            all_goals with_reducible rfl
          simp only [List.getElem_toArray, List.getElem_cons_zero, List.getElem_cons_succ, Act.put, List.setIfInBounds_toArray, List.set_cons_zero, List.set_cons_succ]
          refine AnyL.takeS (i := 6) (v := ?_) rfl (by kernel_rfl) (by kernel_rfl) (by kernel_rfl) (by kernel_rfl) (fun _ _ _ h => h) (Or.inl ⟨by rfl, ?_⟩) c0 ?_
          rotate_left
          · intro w hSw
            obtain ⟨k0, k1, k2, k3, k4, k5⟩ := hSw
            simp only [List.getElem_toArray, List.getElem_cons_zero, List.getElem_cons_succ]
            go_simp
            all_goals with_reducible rfl
          simp only [List.getElem_toArray, List.getElem_cons_zero, List.getElem_cons_succ, Act.put, List.setIfInBounds_toArray, List.set_cons_zero, List.set_cons_succ]
          refine AnyL.takeS (i := 7) (v := ?_) rfl (by kernel_rfl) (by kernel_rfl) (by kernel_rfl) (by kernel_rfl) (fun _ _ _ h => h) (Or.inl ⟨by rfl, ?_⟩) c0 ?_
          rotate_left
          · intro w hSw
            obtain ⟨k0, k1, k2, k3, k4, k5⟩ := hSw
            simp only [List.getElem_toArray, List.getElem_cons_zero, List.getElem_cons_succ]
            go_simp
            all_goals with_reducible rfl
          simp only [List.getElem_toArray, List.getElem_cons_zero, List.getElem_cons_succ, Act.put, List.setIfInBounds_toArray, List.set_cons_zero, List.set_cons_succ]
          refine AnyL.takeS (i := 8) (v := ?_) rfl (by kernel_rfl) (by kernel_rfl) (by kernel_rfl) (by kernel_rfl) (fun _ _ _ h => h) (Or.inl ⟨by rfl, ?_⟩) c0 ?_
          rotate_left
          · intro w hSw
            obtain ⟨k0, k1, k2, k3, k4, k5⟩ := hSw
            simp only [List.getElem_toArray, List.getElem_cons_zero, List.getElem_cons_succ]
            go_simp
            all_goals with_reducible rfl
          simp only [List.getElem_toArray, List.getElem_cons_zero, List.getElem_cons_succ, Act.put, List.setIfInBounds_toArray, List.set_cons_zero, List.set_cons_succ]
          refine AnyL.takeS (i := 9) (v := ?_) rfl (by kernel_rfl) (by kernel_rfl) (by kernel_rfl) (by kernel_rfl) (fun _ _ _ h => h) (Or.inl ⟨by rfl, ?_⟩) c0 ?_
          rotate_left
          · intro w hSw
            obtain ⟨k0, k1, k2, k3, k4, k5⟩ := hSw
            simp only [List.getElem_toArray, List.getElem_cons_zero, List.getElem_cons_succ]
            go_simp
            all_goals with_reducible rfl
          simp only [List.getElem_toArray, List.getElem_cons_zero, List.getElem_cons_succ, Act.put, List.setIfInBounds_toArray, List.set_cons_zero, List.set_cons_succ]
          refine AnyL.takeS (i := 10) (v := ?_) rfl (by kernel_rfl) (by kernel_rfl) (by kernel_rfl) (by kernel_rfl) (fun _ _ _ h => h) (Or.inl ⟨by rfl, ?_⟩) c0 ?_
          rotate_left
          · intro w hSw
            obtain ⟨k0, k1, k2, k3, k4, k5⟩ := hSw
            simp only [List.getElem_toArray, List.getElem_cons_zero, List.getElem_cons_succ]
            go_simp
            all_goals with_reducible rfl
          simp only [List.getElem_toArray, List.getElem_cons_zero, List.getElem_cons_succ, Act.put, List.setIfInBounds_toArray, List.set_cons_zero, List.set_cons_succ]
          refine AnyL.takeS (i := 11) (v := ?_) rfl (by kernel_rfl) (by kernel_rfl) (by kernel_rfl) (by kernel_rfl) (fun _ _ _ h => h) (Or.inl ⟨by rfl, ?_⟩) c0 ?_
          rotate_left
          · intro w hSw
            obtain ⟨k0, k1, k2, k3, k4, k5⟩ := hSw
            simp only [List.getElem_toArray, List.getElem_cons_zero, List.getElem_cons_succ]
            go_simp
            all_goals with_reducible rfl
          simp only [List.getElem_toArray, List.getElem_cons_zero, List.getElem_cons_succ, Act.put, List.setIfInBounds_toArray, List.set_cons_zero, List.set_cons_succ]
          refine AnyL.next (i := 12) (by kernel_rfl) ?_
          refine wpOp_step rfl (fun K hK => ?_)
          have HK := Lib.hid hK
          clear hK
          simp only [List.getElem_toArray, List.getElem_cons_zero, List.getElem_cons_succ]
          rw [if_pos (by rfl)]
          go_simp
          go_at_call 21
          refine HD.out.mono ?_
          rintro e' w6 ⟨rfl, ⟨t6, hR6, hx6⟩, hs6⟩
          have HS6 := Lib.hid hs6
          have hq6 := HSS.out w6 hs6
          have HR6 := Lib.hid hR6
          have HX6 := Lib.hid hx6
          obtain ⟨y0, z0, y1, z1, y2, z2⟩ := eo_facts (HEo.out w6 hs6) hqX (.int .i64 aa) (.int .i64 ad)
          clear hR6 hx6 hs6
          refine HK.out _ _ ⟨.inr hq6, ?_⟩
          clear HK K
          refine AnyL.takeS (i := 13) (v := ?_) rfl (by kernel_rfl) (by kernel_rfl) (by kernel_rfl) (by kernel_rfl) (fun _ _ _ h => h) (Or.inl ⟨by rfl, ?_⟩) hq6 ?_
          rotate_left
          · intro w hSw
            obtain ⟨k0, k1, k2, k3, k4, k5⟩ := hSw
            simp only [List.getElem_toArray, List.getElem_cons_zero, List.getElem_cons_succ]
            go_simp
            all_goals with_reducible rfl
          simp only [List.getElem_toArray, List.getElem_cons_zero, List.getElem_cons_succ, Act.put, List.setIfInBounds_toArray, List.set_cons_zero, List.set_cons_succ]
          refine AnyL.takeS (i := 14) (v := ?_) rfl (by kernel_rfl) (by kernel_rfl) (by kernel_rfl) (by kernel_rfl) (fun _ _ _ h => h) (Or.inl ⟨by rfl, ?_⟩) hq6 ?_
          rotate_left
          · intro w hSw
            obtain ⟨k0, k1, k2, k3, k4, k5⟩ := hSw
            simp only [List.getElem_toArray, List.getElem_cons_zero, List.getElem_cons_succ]
            go_simp
            all_goals with_reducible rfl
          simp only [List.getElem_toArray, List.getElem_cons_zero, List.getElem_cons_succ, Act.put, List.setIfInBounds_toArray, List.set_cons_zero, List.set_cons_succ]
          refine AnyL.takeS (i := 15) (v := ?_) rfl (by kernel_rfl) (by kernel_rfl) (by kernel_rfl) (by kernel_rfl) (fun _ _ _ h => h) (Or.inl ⟨by rfl, ?_⟩) hq6 ?_
          rotate_left
          · intro w hSw
            obtain ⟨k0, k1, k2, k3, k4, k5⟩ := hSw
            simp only [List.getElem_toArray, List.getElem_cons_zero, List.getElem_cons_succ]
            go_simp
            all_goals with_reducible rfl
          simp only [List.getElem_toArray, List.getElem_cons_zero, List.getElem_cons_succ, Act.put, List.setIfInBounds_toArray, List.set_cons_zero, List.set_cons_succ]
          refine AnyL.takeS (i := 16) (v := ?_) rfl (by kernel_rfl) (by kernel_rfl) (by kernel_rfl) (by kernel_rfl) (fun _ _ _ h => h) (Or.inl ⟨by rfl, ?_⟩) hq6 ?_
          rotate_left
          · intro w hSw
            obtain ⟨k0, k1, k2, k3, k4, k5⟩ := hSw
            simp only [List.getElem_toArray, List.getElem_cons_zero, List.getElem_cons_succ]
            go_simp
            all_goals with_reducible rfl
          simp only [List.getElem_toArray, List.getElem_cons_zero, List.getElem_cons_succ, Act.put, List.setIfInBounds_toArray, List.set_cons_zero, List.set_cons_succ]
          refine AnyL.next (i := 17) (by kernel_rfl) ?_
          refine wpOp_step rfl (fun K hK => ?_)
          have HK := Lib.hid hK
          clear hK
          simp only [List.getElem_toArray, List.getElem_cons_zero, List.getElem_cons_succ]
          rw [if_pos (by rfl)]
          go_wp2_with fail
          have hq7 := HKp.out w6 (.int .i64 aa) (.int .i64 ad) (.string as_) HS6.out hq6
          obtain ⟨w7, hw7⟩ : ∃ w7, w7 = ((w6.setCell ⟨eo, q * 3, none⟩ (.int .i64 aa)).setCell ⟨eo, q * 3 + 1, none⟩ (.int .i64 ad)).setCell ⟨eo, q * 3 + 2, none⟩ (.string as_) := ⟨_, rfl⟩
          have HFN := Lib.hid (show TI B W0 W rb eo b9 m e idx cur gbe gst (k + 1) (k + 1) k A' c' (X.set q ⟨aa, ad, as_⟩) y t6 (IntKind.u64.wrap (r1 + 1)) w7 ∧ (X.set q ⟨aa, ad, as_⟩)[q]? = some ⟨aa, ad, as_⟩ ∧ as_.size ≤ 1048576 from by
            rw [hw7]
            exact ⟨HId.out.step (a := ⟨aa, ad, as_⟩) HS6.out HR6.out (u64_wrap _) HX6.out HUa.out HQe.out (by omega) (fun i hi e1 => by
              have := HIx.out.2.1 i k (by omega) hlt (by rw [e1, ← HQe.out])
              omega), List.getElem?_set_self hqX, undoes_size HUa.out.1⟩)
          rw [← hw7] at hq7
          rw [← hw7]
          clear hw7
          refine HK.out _ _ ⟨.inr hq7, ?_⟩
          clear HK K
          refine AnyL.done (by kernel_rfl) ?_ _
          go_wp2_with fail
          go_meet
          exact ⟨⟨aa, ad, as_⟩, t6, IntKind.u64.wrap (r1 + 1), X.set q ⟨aa, ad, as_⟩, HFN⟩
        case rest =>
          obtain ⟨a, t2, r2, X2, HQ2⟩ := hcut
          obtain ⟨w8, hw8⟩ : ∃ x, x = wc := ⟨_, rfl⟩
          rw [← hw8] at HQ2 ⊢
          obtain ⟨z, hz⟩ : ∃ z, z = a.s.size := ⟨_, rfl⟩
          have hzl : z ≤ 1048576 := by rw [hz]; exact HQ2.out.2.2
          have hqX : q < X2.length := by rw [HQ2.out.1.xl]; omega
          have hXq : X2[q] = a := (List.getElem?_eq_some_iff.1 HQ2.out.2.1).2
          have ha2 : w8.drew.cell? ⟨eo, q * 3 + 2, none⟩ = some (.string a.s) := by
            have h1 := ((HQ2.out.1.out).stay (F := []) (Stay.drew w8) (by simp)).cell (q * 3 + 2)
            rw [h1, eds_at X2 q hqX 2 (by omega), hXq]
            rfl
          have hb9 := HQ2.out.1.box.stay (F := []) (Stay.drew w8) (by simp)
          have f9 := hb9.free 1
          have hy0 := HQ2.out.1.y0
          have hy1 := HQ2.out.1.y1
          have hsum : IntKind.i64.wrap (y + a.s.size) = y + z := by rw [← hz]; simp only [IntKind.wrap, IntKind.bits, IntKind.signed]; simp; omega
          obtain ⟨w9, hw9⟩ : ∃ x, x = (w8.setCell ⟨b9, 1, none⟩ (.int .i64 (y + z))).drew := ⟨_, rfl⟩
          have HI9 := Lib.hid (show TI B W0 W rb eo b9 m e idx cur gbe gst (k + 1) (k + 1) (k + 1) A' c' X2 (y + z) t2 r2 w9 from by
            rw [hw9]
            exact (HQ2.out.1.add hzl).stay0 (Stay.drew _))
          obtain ⟨sz, hsz⟩ : ∃ s, s = a.s := ⟨_, rfl⟩
          rw [← hsz] at ha2 hsum
          have hHeld : (fun w' : World => w'.cell? ⟨b9, 1, none⟩ = some (.int .i64 y) ∧ w'.cell? ⟨b9, 0, none⟩ = some (.slice (some ⟨eo, 0, none⟩) m m) ∧ w'.cell? ⟨eo, q * 3 + 2, none⟩ = some (.string sz)) w8.drew := ⟨hb9.cell 1, hb9.cell 0, ha2⟩
          have HW9 := Lib.hid hw9
          clear hw8 HI5 HDo HKW HQ2 hz hzl hqX hXq ha2 hb9 hy0 hy1 hw9 hsz
          go_upto_region 9 with fail
          refine AnyL.begin_ (S := fun w' : World => w'.cell? ⟨b9, 1, none⟩ = some (.int .i64 y) ∧ w'.cell? ⟨b9, 0, none⟩ = some (.slice (some ⟨eo, 0, none⟩) m m) ∧ w'.cell? ⟨eo, q * 3 + 2, none⟩ = some (.string sz)) (n := 11) (by kernel_rfl) ?_
          refine AnyL.take (i := 0) (v := ?_) [1, 9, 11] rfl (by kernel_rfl) (by kernel_rfl) (by kernel_rfl) (by kernel_rfl) (fun _ _ _ h => h) (Or.inl ⟨by rfl, ?_⟩) hHeld ?_
          rotate_left
          · intro w hSw
            obtain ⟨k0, k1, k2⟩ := hSw
            simp only [List.getElem_toArray, List.getElem_cons_zero]
            go_simp
            all_goals with_reducible rfl
          simp only [List.getElem_toArray, List.getElem_cons_zero, Act.put, List.setIfInBounds_toArray, List.set_cons_zero, List.set_cons_succ]
          refine AnyL.take (i := 1) (v := ?_) [9, 11] rfl (by kernel_rfl) (by kernel_rfl) (by kernel_rfl) (by kernel_rfl) (fun _ _ _ h => h) (Or.inl ⟨by rfl, ?_⟩) hHeld ?_
          rotate_left
          · intro w hSw
            obtain ⟨k0, k1, k2⟩ := hSw
            simp only [List.getElem_toArray, List.getElem_cons_zero, List.getElem_cons_succ]
            go_simp
            all_goals with_reducible rfl
          simp only [List.getElem_toArray, List.getElem_cons_zero, List.getElem_cons_succ, Act.put, List.setIfInBounds_toArray, List.set_cons_zero, List.set_cons_succ]
          refine AnyL.take (i := 2) (v := ?_) [3, 5, 6, 7, 8, 9, 11] rfl (by kernel_rfl) (by kernel_rfl) (by kernel_rfl) (by kernel_rfl) (fun _ _ _ h => h) (Or.inl ⟨by rfl, ?_⟩) hHeld ?_
          rotate_left
          · intro w hSw
            obtain ⟨k0, k1, k2⟩ := hSw
            simp only [List.getElem_toArray, List.getElem_cons_zero, List.getElem_cons_succ]
            go_simp
            all_goals with_reducible rfl
          simp only [List.getElem_toArray, List.getElem_cons_zero, List.getElem_cons_succ, Act.put, List.setIfInBounds_toArray, List.set_cons_zero, List.set_cons_succ]
          refine AnyL.take (i := 3) (v := ?_) [5, 6, 7, 8, 9, 11] rfl (by kernel_rfl) (by kernel_rfl) (by kernel_rfl) (by kernel_rfl) (fun _ _ _ h => h) (Or.inl ⟨by rfl, ?_⟩) hHeld ?_
          rotate_left
          · intro w hSw
            obtain ⟨k0, k1, k2⟩ := hSw
            simp only [List.getElem_toArray, List.getElem_cons_zero, List.getElem_cons_succ]
            go_simp
            all_goals with_reducible rfl
          simp only [List.getElem_toArray, List.getElem_cons_zero, List.getElem_cons_succ, Act.put, List.setIfInBounds_toArray, List.set_cons_zero, List.set_cons_succ]
          refine AnyL.take (i := 4) (v := ?_) [5, 6, 7, 8, 9, 11] rfl (by kernel_rfl) (by kernel_rfl) (by kernel_rfl) (by kernel_rfl) (fun _ _ _ h => h) (Or.inl ⟨by rfl, ?_⟩) hHeld ?_
          rotate_left
          · intro w hSw
            obtain ⟨k0, k1, k2⟩ := hSw
            simp only [List.getElem_toArray, List.getElem_cons_zero, List.getElem_cons_succ]
            go_simp
            all_goals with_reducible rfl
          simp only [List.getElem_toArray, List.getElem_cons_zero, List.getElem_cons_succ, Act.put, List.setIfInBounds_toArray, List.set_cons_zero, List.set_cons_succ]
          refine AnyL.take (i := 5) (v := ?_) [6, 7, 8, 9, 11] rfl (by kernel_rfl) (by kernel_rfl) (by kernel_rfl) (by kernel_rfl) (fun _ _ _ h => h) (Or.inl ⟨by rfl, ?_⟩) hHeld ?_
          rotate_left
          · intro w hSw
            obtain ⟨k0, k1, k2⟩ := hSw
            simp only [List.getElem_toArray, List.getElem_cons_zero, List.getElem_cons_succ]
            go_simp
            all_goals with_reducible rfl
          simp only [List.getElem_toArray, List.getElem_cons_zero, List.getElem_cons_succ, Act.put, List.setIfInBounds_toArray, List.set_cons_zero, List.set_cons_succ]
          refine AnyL.take (i := 6) (v := ?_) [7, 8, 9, 11] rfl (by kernel_rfl) (by kernel_rfl) (by kernel_rfl) (by kernel_rfl) (fun _ _ _ h => h) (Or.inl ⟨by rfl, ?_⟩) hHeld ?_
          rotate_left
          · intro w hSw
            obtain ⟨k0, k1, k2⟩ := hSw
            simp only [List.getElem_toArray, List.getElem_cons_zero, List.getElem_cons_succ]
            go_simp
            all_goals with_reducible rfl
          simp only [List.getElem_toArray, List.getElem_cons_zero, List.getElem_cons_succ, Act.put, List.setIfInBounds_toArray, List.set_cons_zero, List.set_cons_succ]
          refine AnyL.take (i := 7) (v := ?_) [8, 9, 11] rfl (by kernel_rfl) (by kernel_rfl) (by kernel_rfl) (by kernel_rfl) (fun _ _ _ h => h) (Or.inl ⟨by rfl, ?_⟩) hHeld ?_
          rotate_left
          · intro w hSw
            obtain ⟨k0, k1, k2⟩ := hSw
            simp only [List.getElem_toArray, List.getElem_cons_zero, List.getElem_cons_succ]
            go_simp
            all_goals with_reducible rfl
          simp only [List.getElem_toArray, List.getElem_cons_zero, List.getElem_cons_succ, Act.put, List.setIfInBounds_toArray, List.set_cons_zero, List.set_cons_succ]
          refine AnyL.take (i := 8) (v := ?_) [9, 11] rfl (by kernel_rfl) (by kernel_rfl) (by kernel_rfl) (by kernel_rfl) (fun _ _ _ h => h) (Or.inl ⟨by rfl, ?_⟩) hHeld ?_
          rotate_left
          · intro w hSw
            obtain ⟨k0, k1, k2⟩ := hSw
            simp only [List.getElem_toArray, List.getElem_cons_zero, List.getElem_cons_succ]
            go_simp
            all_goals with_reducible rfl
          simp only [List.getElem_toArray, List.getElem_cons_zero, List.getElem_cons_succ, Act.put, List.setIfInBounds_toArray, List.set_cons_zero, List.set_cons_succ]
          refine AnyL.take (i := 9) (v := ?_) [11] rfl (by kernel_rfl) (by kernel_rfl) (by kernel_rfl) (by kernel_rfl) (fun _ _ _ h => h) (Or.inl ⟨by rfl, ?_⟩) hHeld ?_
          rotate_left
          · intro w hSw
            obtain ⟨k0, k1, k2⟩ := hSw
            simp only [List.getElem_toArray, List.getElem_cons_zero, List.getElem_cons_succ]
            go_simp
            all_goals with_reducible rfl
          simp only [List.getElem_toArray, List.getElem_cons_zero, List.getElem_cons_succ, Act.put, List.setIfInBounds_toArray, List.set_cons_zero, List.set_cons_succ]
          refine AnyL.take (i := 10) (v := ?_) [11] rfl (by kernel_rfl) (by kernel_rfl) (by kernel_rfl) (by kernel_rfl) (fun _ _ _ h => h) (Or.inl ⟨by rfl, ?_⟩) hHeld ?_
          rotate_left
          · intro w hSw
            obtain ⟨k0, k1, k2⟩ := hSw
            simp only [List.getElem_toArray, List.getElem_cons_zero, List.getElem_cons_succ]
            go_simp
            all_goals with_reducible rfl
          simp only [List.getElem_toArray, List.getElem_cons_zero, List.getElem_cons_succ, Act.put, List.setIfInBounds_toArray, List.set_cons_zero, List.set_cons_succ]
          refine AnyL.next (i := 11) (by kernel_rfl) ?_
          refine wpOp_step rfl (fun K hK => ?_)
          have HK := Lib.hid hK
          clear hK
          simp only [List.getElem_toArray, List.getElem_cons_zero, List.getElem_cons_succ]
          rw [if_pos (by rfl)]
          have hq90 := hHeld.1
          go_wp2_with fail
          refine HK.out _ _ ⟨.inl (by first | rfl | trivial), ?_⟩
          clear HK K
          refine AnyL.done (by kernel_rfl) ?_ _
          rw [← HW9.out]
          go_wp2_with fail
          go_roundw
          case rel => exact ⟨k + 1, A', c', X2, y + z, t2, r2, by omega, by go_num, rfl, HI9⟩
          case measure => simp [intOf]; omega
      · have hlt' : ¬ (k : Int) < m := by omega
        have hkm : m = k := by omega
        subst hkm
        obtain ⟨L7, hL7⟩ := HR.out.blk
        have nrb : ∀ {f : Nat} {L : List Value} {ty : TypeId}, Blk W f L ty → ty ≠ 77 → f ∉ [rb] := fun {f L ty} hf hne hm => by
          rw [List.mem_singleton] at hm
          subst hm
          exact hne (hf.type hL7)
        have hbb := HB.out.stay HI.out.stay (nrb HB.out (by decide))
        have h66 := H6.out.stay HI.out.stay (nrb H6.out (by decide))
        have c0 : wr.cell? ⟨bb, 0, none⟩ = some (.pointer (some ⟨rb, 0, none⟩)) := hbb.cell 0
        have c1 : wr.cell? ⟨bb, 1, none⟩ = some (.int .u64 sp) := hbb.cell 1
        have f1 := hbb.free 1
        have hsb : Stay [bb] wr (wr.setCell ⟨bb, 1, none⟩ (.int .u64 r1)) := Stay.setCell _ _ _ (by simp)
        have nbb : ∀ {f : Nat} {L : List Value} {ty : TypeId}, Blk wr f L ty → ty ≠ 98 → f ∉ [bb] := fun {f L ty} hf hne hm => by
          rw [List.mem_singleton] at hm
          subst hm
          exact hne (hf.type hbb)
        have HX9 := Lib.hid (HI.out.box.stay hsb (nbb HI.out.box (by decide)))
        have HX6 := Lib.hid (h66.stay hsb (nbb h66 (by decide)))
        have HSt := Lib.hid (stamp_any rb t1 r1 wr HI.out.R)
        have hml : m ≤ maxLen := by simp only [maxLen]; omega
        have HFin := Lib.hid (fun (w' : World) (q : Ending) (hs : Stay [b4 + 1] (wr.setCell ⟨bb, 1, none⟩ (.int .u64 r1)) w') (hq : q = .returned (.tuple #[.agg #[.slice (some ⟨eo, 0, none⟩) m m, .int .i64 y, .int .i64 gbe, .int .i64 gst], .slice dA m dc])) =>
          HI.out.fin HSw.out HB.out ⟨_, hL7⟩ hml (by rw [HW0.out]; exact HBl.out) hs (by rw [HE4.out]; omega) ⟨_, H6.out⟩ q hq)
        have hne : ¬ b4 + 1 = b9 := by
          have h1 := HI.out.b90
          have h2 := H6.out.lt
          have h3 := HW0.out
          omega
        have hne2 : ¬ b9 = b4 + 1 := fun e1 => hne e1.symm
        obtain ⟨W11, hW11⟩ : ∃ x, x = wr.setCell ⟨bb, 1, none⟩ (.int .u64 r1) := ⟨_, rfl⟩
        rw [← hW11] at HX9 HX6 HFin
        have HW11 := Lib.hid hW11
        clear hL7 nrb hbb h66 hsb nbb hml hW11 HI
        go_wp2_with fail
        refine HSt.out.mono ?_
        rintro e' w' ⟨rfl, rfl⟩
        go_upto_region 12 with fail
        rw [← HW11.out]
        have u0 : W11.cell? ⟨b9, 0, none⟩ = some (.slice (some ⟨eo, 0, none⟩) m m) := HX9.out.cell 0
        have u1 : W11.cell? ⟨b9, 1, none⟩ = some (.int .i64 y) := HX9.out.cell 1
        have u2 : W11.cell? ⟨b9, 2, none⟩ = some (.int .i64 gbe) := HX9.out.cell 2
        have u3 : W11.cell? ⟨b9, 3, none⟩ = some (.int .i64 gst) := HX9.out.cell 3
        obtain ⟨b6, hb6⟩ : ∃ b, b = b4 + 1 := ⟨_, rfl⟩
        rw [← hb6] at HX6 HFin hne hne2 ⊢
        have z0 : W11.cell? ⟨b6, 0, none⟩ = some (.slice none 0 0) := HX6.out.cell 0
        have z1 : W11.cell? ⟨b6, 1, none⟩ = some (.int .i64 0) := HX6.out.cell 1
        have z2 : W11.cell? ⟨b6, 2, none⟩ = some (.int .i64 0) := HX6.out.cell 2
        have z3 : W11.cell? ⟨b6, 3, none⟩ = some (.int .i64 0) := HX6.out.cell 3
        have y0 := HX6.out.free 0
        have y1 := HX6.out.free 1
        have y2 := HX6.out.free 2
        have y3 := HX6.out.free 3
        have HSs := Lib.hid (show ∀ (c0 c1 c2 c3 : Value), Stay [b6] W11 ((((W11.setCell ⟨b6, 0, none⟩ c0).setCell ⟨b6, 1, none⟩ c1).setCell ⟨b6, 2, none⟩ c2).setCell ⟨b6, 3, none⟩ c3) from fun c0 c1 c2 c3 => by
          have hss : ∀ (u : World) (j : Nat) (v : Value), Stay [b6] u (u.setCell ⟨b6, j, none⟩ v) := fun u j v => Stay.setCell _ _ _ (by simp)
          exact (((hss W11 0 c0).trans (hss _ 1 c1)).trans (hss _ 2 c2)).trans (hss _ 3 c3))
        clear hb6 HX9 HX6 c0 c1 f1
        go_wp2_with fail
        exact bodyPost_ret (v := .tuple #[.agg #[.slice (some ⟨eo, 0, none⟩) m m, .int .i64 y, .int .i64 gbe, .int .i64 gst], .slice dA m dc]) (by simp [results, Try.results64, go_sem, z0, z1, z2, z3]) rfl (HFin.out _ _ (HSs.out _ _ _ _) rfl)
set_option maxRecDepth 20000 in
set_option maxHeartbeats 32000000 in
theorem turn_redo (B bb rb m gg oo gc : Nat) (sp : Int) (dv uv : Value) (st sv gv gby gbe gst : Int) (ged : List Ed) (e : Nat → Ed) (idx : Nat → Nat) (cur : Nat → List UInt8) (t : Rp) (rs : Int) (w : World)
    (h : Blk w bb (bcells rb sp dv uv st sv gv) 98) (hr : RopeAt w rb t rs) (hu : U64 rs) (hg : Win w B 37 3 (some ⟨gg, oo, none⟩) m gc (eds ged)) (hm : 0 < m ∧ m ≤ 4096) (hB : B ≤ w.heap.size) (hc0 : t.text = cur 0)
    (hidx : ∀ k, k < m → idx k < m) (hinj : ∀ i j, i < m → j < m → idx i = idx j → i = j) (hged : ∀ k, k < m → ged[k]? = some (e k)) (hun : ∀ k, k < m → Undoes (e (idx k)) (cur k) (cur (k + 1))) (hix : ∀ k, k < m → idx k = k) :
    Calls Try.prog 64 #[.pointer (some ⟨bb, 0, none⟩), .agg #[.slice (some ⟨gg, oo, none⟩) m gc, .int .i64 gby, .int .i64 gbe, .int .i64 gst], .func (.func 66) #[] #[]] w (Turned B rb bb m sp dv uv st sv gv gbe gst e idx cur w) := by
  obtain ⟨W, hW⟩ : ∃ W, W = (w.alloc (.cells #[.slice (some ⟨gg, oo, none⟩) m gc, .int .i64 gby, .int .i64 gbe, .int .i64 gst] 100)).alloc (.cells #[.slice none 0 0, .int .i64 0, .int .i64 0, .int .i64 0] 100) := ⟨_, rfl⟩
  have hs : Stay [] w W := by rw [hW]; exact (Stay.alloc _ _).alloc'
  have hb4 : Blk W w.heap.size [.slice (some ⟨gg, oo, none⟩) m gc, .int .i64 gby, .int .i64 gbe, .int .i64 gst] 100 := by
    rw [hW]; exact (Blk.new w [.slice (some ⟨gg, oo, none⟩) m gc, .int .i64 gby, .int .i64 gbe, .int .i64 gst] 100).stay (F := []) (Stay.alloc _ _) (by simp)
  have hb6 : Blk W (w.heap.size + 1) [.slice none 0 0, .int .i64 0, .int .i64 0, .int .i64 0] 100 := by
    rw [hW]
    have h1 := Blk.new (w.alloc (.cells #[.slice (some ⟨gg, oo, none⟩) m gc, .int .i64 gby, .int .i64 gbe, .int .i64 gst] 100)) [.slice none 0 0, .int .i64 0, .int .i64 0, .int .i64 0] 100
    rw [size_alloc'] at h1
    exact h1
  have HW := Lib.hid hW
  have HSw := Lib.hid hs
  have HB := Lib.hid (h.stay hs (by simp))
  have HR := Lib.hid (hr.stay0 hs)
  have HG := Lib.hid (hg.stay0 hs)
  have HBl := Lib.hid (Nat.le_trans hB hs.size)
  obtain ⟨b4, hb4e⟩ : ∃ b, b = w.heap.size := ⟨_, rfl⟩
  rw [← hb4e] at hb4 hb6
  have HE4 := Lib.hid hb4e
  have H4 := Lib.hid hb4
  have H6 := Lib.hid hb6
  have HU := Lib.hid hu
  have HC0 := Lib.hid hc0
  have HIx := Lib.hid (And.intro hidx (And.intro hinj (And.intro hged hun)))
  have HX := Lib.hid hix
  clear hix
  have hm1 := hm.1
  have hm2 := hm.2
  have hmi : (m : Int) ≤ 4096 := by omega
  have hm0 : (0 : Int) ≤ m := by omega
  obtain ⟨W0, hW0⟩ : ∃ n, n = W.heap.size := ⟨_, rfl⟩
  have HW0 := Lib.hid hW0
  have d0 : W.drew.cell? ⟨b4, 0, none⟩ = some (.slice (some ⟨gg, oo, none⟩) m gc) := hb4.cell 0
  have d2 : W.drew.cell? ⟨b4, 2, none⟩ = some (.int .i64 gbe) := hb4.cell 2
  have d3 : W.drew.cell? ⟨b4, 3, none⟩ = some (.int .i64 gst) := hb4.cell 3
  have k0 : W.cell? ⟨b4, 0, none⟩ = some (.slice (some ⟨gg, oo, none⟩) m gc) := hb4.cell 0
  have k2 : W.cell? ⟨b4, 2, none⟩ = some (.int .i64 gbe) := hb4.cell 2
  have k3 : W.cell? ⟨b4, 3, none⟩ = some (.int .i64 gst) := hb4.cell 3
  have hb4l := hb4.lt
  have hmk : ∀ w, (Instr.makeSlice 44 (.int .i64 m) (.int .i64 m)).run Try.prog w = .ok (.slice (some ⟨w.heap.size, 0, none⟩) m m) (w.alloc (.cells (eds (List.replicate m zeroE)).toArray 37)) := by
    intro w
    obtain ⟨i37, hi37, hz37, hs37, hy37⟩ := info_parts info37
    have hr := run_make (P := Try.prog) w 44 37 i37 _ Try.underlying44 hi37 hz37 .i64 .i64 m m hm0 (Int.le_refl _) (by rw [hy37]; omega) (by omega)
    rw [hs37] at hr
    simpa only [Int.toNat_natCast, made37] using hr
  clear h hr hu hg hm hB hc0 hidx hinj hged hun hW hs hb4 hb6 hb4e hW0
  go_enter Try.func64, Try.ntmps64
  go_upto_region 2 with fail
  rw [← HW.out, ← HE4.out]
  go_cut [9] (fun v wx => ∃ b9 eo : Nat, v = .pointer (some ⟨b9, 0, none⟩) ∧ Hid (Blk wx b9 [.slice (some ⟨eo, 0, none⟩) m m, .int .i64 0, .int .i64 gbe, .int .i64 gst] 100 ∧ Blk wx eo (eds (List.replicate m zeroE)) 37 ∧ b9 ≠ eo ∧ W0 ≤ b9 ∧ W0 ≤ eo ∧ Stay [] W wx))
  case first =>
    go_region
    all_goals
      go_wp2_with fail
      go_meet
    · obtain ⟨x1, x2, x3⟩ := two_boxes W (eds (List.replicate m zeroE)) [.slice (some ⟨W.heap.size, 0, none⟩) m m, .int .i64 0, .int .i64 gbe, .int .i64 gst] 37 100
      exact ⟨W.heap.size + 1, W.heap.size, rfl, Lib.hid ⟨x2, x1, by omega, by rw [HW0.out]; omega, by rw [HW0.out]; omega, x3⟩⟩
    · obtain ⟨x1, x2, x3⟩ := two_boxes W [.slice (some ⟨W.heap.size + 1, 0, none⟩) m m, .int .i64 0, .int .i64 gbe, .int .i64 gst] (eds (List.replicate m zeroE)) 100 37
      exact ⟨W.heap.size, W.heap.size + 1, rfl, Lib.hid ⟨x1, x2, by omega, by rw [HW0.out]; omega, by rw [HW0.out]; omega, x3⟩⟩
  case rest =>
    obtain ⟨b9, eo, rfl, HQ⟩ := hcut
    obtain ⟨Wc, hWc⟩ : ∃ x, x = wc := ⟨_, rfl⟩
    rw [← hWc] at HQ ⊢
    have HT0 := Lib.hid (show TI B W0 W rb eo b9 m e idx cur gbe gst 0 0 0 none 0 (List.replicate m zeroE) 0 t rs Wc from
      ⟨Win.nil _ _ _ _, List.length_replicate, HQ.out.2.1, fun i hi => absurd hi (by omega), HQ.out.1, HR.out.stay0 HQ.out.2.2.2.2.2, HU.out, HC0.out, HQ.out.2.2.2.2.2.mono (by simp), by simp [Ab], by simp [Ab], Int.le_refl _, by omega, HW0.out, HQ.out.2.2.2.2.1, HQ.out.2.2.2.1⟩)
    have k0' : Wc.cell? ⟨b4, 0, none⟩ = some (.slice (some ⟨gg, oo, none⟩) m gc) := (HQ.out.2.2.2.2.2.cell_ (a := ⟨b4, 0, none⟩) hb4l (by simp)).trans k0
    have HQ4 := Lib.hid HQ.out.2.2.1
    have HQn := Lib.hid (And.intro HQ.out.2.2.2.1 HQ.out.2.2.2.2.1)
    clear hWc HQ HC0 d0 d2 d3 k0 k2 k3 hmk
    go_wp2_with fail
    go_loopw [8, 24] (fun dv iv wr => ∃ (k : Nat) (dA : Option Addr) (dc : Nat) (X : List Ed) (y : Int) (t1 : Rp) (r1 : Int), k ≤ m ∧ iv = .int .i64 k ∧ dv = .slice dA k dc ∧ Hid (TI B W0 W rb eo b9 m e idx cur gbe gst k k k dA dc X y t1 r1 wr)) (fun _ iv _ => m - (intOf iv).toNat)
    case atStart => exact ⟨0, none, 0, _, 0, t, rs, by omega, rfl, rfl, HT0⟩
    case round =>
      clear HT0 k0'
      obtain ⟨k, dA, dc, X, y, t1, r1, hk, rfl, rfl, HI⟩ := hrel
      by_cases hlt : k < m
      · have hlt' : (k : Int) < m := by omega
        have hk0 : (0 : Int) ≤ k := by omega
        have hq := HIx.out.1 k hlt
        have hEd := HIx.out.2.2.1 (idx k) hq
        have hUn := HIx.out.2.2.2 k hlt
        rw [← HI.out.tx] at hUn
        have HDo := Lib.hid (fun (u : World) (hu : RopeAt u rb t1 r1) => do_undo2 rb t1 r1 (e (idx k)) (cur (k + 1)) u hu HI.out.u hUn)
        obtain ⟨q, hqe⟩ : ∃ q, q = idx k := ⟨_, rfl⟩
        have HQe := Lib.hid hqe
        rw [← hqe] at hq hEd HDo
        have hq0 : (0 : Int) ≤ q := by omega
        have hqm : (q : Int) < m := by omega
        have HKW := Lib.hid (show ∀ u, Stay [rb] W u → u.cell? ⟨b4, 0, none⟩ = some (.slice (some ⟨gg, oo, none⟩) m gc) ∧ u.cell? ⟨bb, 0, none⟩ = some (.pointer (some ⟨rb, 0, none⟩)) ∧
            u.cell? ⟨gg, oo + q * 3, none⟩ = some (.int .i64 (e q).a) ∧ u.cell? ⟨gg, oo + q * 3 + 1, none⟩ = some (.int .i64 (e q).d) ∧ u.cell? ⟨gg, oo + q * 3 + 2, none⟩ = some (.string (e q).s) from fun u hs => by
          obtain ⟨L7, hL7⟩ := HR.out.blk
          have n1 : b4 ∉ [rb] := by
            rw [List.mem_singleton]; intro e1; subst e1
            have := hL7.type H4.out
            cases this
          have n2 : bb ∉ [rb] := by
            rw [List.mem_singleton]; intro e1; subst e1
            have := hL7.type HB.out
            cases this
          have h2 := HG.out.stay hs (fun f hf hm => by
            obtain ⟨_, _, L, hL⟩ := HG.out.ab f hf
            rw [List.mem_singleton] at hm
            subst hm
            have := hL7.type hL
            cases this)
          obtain ⟨w1, w2, w3⟩ := win_ed h2 q (e q) hEd
          exact ⟨(H4.out.stay hs n1).cell 0, (HB.out.stay hs n2).cell 0, w1, w2, w3⟩)
        have HEa := Lib.hid (each_redo k wr)
        have hqk : q = k := by rw [hqe]; exact HX.out k hlt
        have HEa := Lib.hid (show Calls Try.prog 66 #[.int .i64 k] wr fun e w' => e = .returned (.int .i64 q) ∧ w' = wr from by rw [hqk]; exact HEa.out)
        clear hqk
        clear hqe hEd hUn
        obtain ⟨x, hx⟩ : ∃ x, x = e q := ⟨_, rfl⟩
        have HXe := Lib.hid hx
        rw [← hx] at HKW HDo
        clear hx
        obtain ⟨xa, xd, xs⟩ := x
        have kw := HKW.out wr HI.out.stay
        have k0 := kw.1
        have k5 := kw.2.2.1
        have k6 := kw.2.2.2.1
        have k7 := kw.2.2.2.2
        simp only at k5 k6 k7
        clear kw
        go_wp2_with fail
        refine HEa.out.mono ?_
        rintro e' w' ⟨rfl, hwe⟩
        rw [hwe]
        clear hwe
        have HD0 := Lib.hid ((HI.out.did).stay0 (Stay.alloc wr (.cells #[.int .i64 xa, .int .i64 xd, .string xs] 37)))
        have HNw := Lib.hid (cells_new wr [.int .i64 xa, .int .i64 xd, .string xs] 37 wr.heap.size rfl)
        have HSz := Lib.hid (show B ≤ (wr.alloc (.cells #[.int .i64 xa, .int .i64 xd, .string xs] 37)).heap.size from by rw [size_alloc']; exact Nat.le_succ_of_le (Nat.le_trans HBl.out HI.out.stay.size))
        obtain ⟨i37, hi37, hz37, hs37, hy37⟩ := info_parts info37
        have HI37 := Lib.hid (And.intro hi37 (And.intro hz37 (And.intro hs37 hy37)))
        have h63 : k + 1 ≤ maxLen := by simp only [maxLen]; omega
        have h32 : (k + 1) * 32 ≤ 140737488355328 := by omega
        have HM := Lib.hid (And.intro h63 h32)
        clear hi37 hz37 hs37 hy37 h63 h32
        have HI0 := Lib.hid (HI.out.stay0 (Stay.alloc wr (.cells #[.int .i64 xa, .int .i64 xd, .string xs] 37)))
        go_wp2_with (refine wpList_append_win rfl (.tmp 30) (.tmp 36) 44 rfl B 37 3 i37 _ 32 Try.underlying44 HI37.out.1 HI37.out.2.1 HI37.out.2.2.1 HI37.out.2.2.2 rfl (by omega) dA k dc _ rfl HD0.out ⟨wr.heap.size, 0, none⟩ 1 1 rfl [.int .i64 xa, .int .i64 xd, .string xs] rfl (by omega) HNw.out (by simp [Value.oneCell']) HM.out.1 HM.out.2 HSz.out ?_
                     intro A' c' w5 hw5 hs5 ha5
                     have HI5 := Lib.hid (show TI B W0 W rb eo b9 m e idx cur gbe gst (k + 1) k k A' c' X y t1 r1 w5 from HI0.out.push hs5 (by rw [← HQe.out, ← HXe.out]; exact hw5) ha5)
                     clear hw5 hs5 ha5 k0 k5 k6 k7)
        clear HD0 HNw HSz HI0 HI HEa
        go_cut [] (fun wx => ∃ (a : Ed) (t2 : Rp) (r2 : Int) (X2 : List Ed), Hid (TI B W0 W rb eo b9 m e idx cur gbe gst (k + 1) (k + 1) k A' c' X2 y t2 r2 wx ∧ X2[q]? = some a ∧ a.s.size ≤ 1048576))
        case first =>
          have HId := Lib.hid (HI5.out.stay0 (Stay.drew w5))
          obtain ⟨a, hD, hUa⟩ := HDo.out w5.drew HId.out.R
          rw [HId.out.tx, HXe.out, HQe.out] at hUa
          have HUa := Lib.hid hUa
          obtain ⟨L7, hL7⟩ := HR.out.blk
          have HL7 := Lib.hid hL7
          have hqX : q < X.length := by rw [HId.out.xl]; omega
          have HSS := Lib.hid (show ∀ u, Stay [rb] w5.drew u → (u.cell? ⟨b9, 0, none⟩ = some (.slice (some ⟨eo, 0, none⟩) m m) ∧ u.cell? ⟨b4, 0, none⟩ = some (.slice (some ⟨gg, oo, none⟩) m gc) ∧ u.cell? ⟨bb, 0, none⟩ = some (.pointer (some ⟨rb, 0, none⟩)) ∧
              u.cell? ⟨gg, oo + q * 3, none⟩ = some (.int .i64 xa) ∧ u.cell? ⟨gg, oo + q * 3 + 1, none⟩ = some (.int .i64 xd) ∧ u.cell? ⟨gg, oo + q * 3 + 2, none⟩ = some (.string xs)) from fun u hs => by
            obtain ⟨L8, hL8⟩ := HId.out.R.blk
            have n1 : b9 ∉ [rb] := by
              rw [List.mem_singleton]; intro e1; subst e1
              have := hL8.type HId.out.box
              cases this
            exact ⟨(HId.out.box.stay hs n1).cell 0, HKW.out u (HId.out.stay.trans hs)⟩)
          have HEo := Lib.hid (show ∀ u, Stay [rb] w5.drew u → Blk u eo (eds X) 37 from fun u hs => by
            obtain ⟨L8, hL8⟩ := HId.out.R.blk
            exact HId.out.out.stay hs (by
              rw [List.mem_singleton]; intro e1; subst e1
              have := hL8.type HId.out.out
              cases this))
          have HKp := Lib.hid (show ∀ (u : World) (v1 v2 v3 : Value), Stay [rb] w5.drew u → (u.cell? ⟨b9, 0, none⟩ = some (.slice (some ⟨eo, 0, none⟩) m m) ∧ u.cell? ⟨b4, 0, none⟩ = some (.slice (some ⟨gg, oo, none⟩) m gc) ∧ u.cell? ⟨bb, 0, none⟩ = some (.pointer (some ⟨rb, 0, none⟩)) ∧
              u.cell? ⟨gg, oo + q * 3, none⟩ = some (.int .i64 xa) ∧ u.cell? ⟨gg, oo + q * 3 + 1, none⟩ = some (.int .i64 xd) ∧ u.cell? ⟨gg, oo + q * 3 + 2, none⟩ = some (.string xs)) → (fun v : World => v.cell? ⟨b9, 0, none⟩ = some (.slice (some ⟨eo, 0, none⟩) m m) ∧ v.cell? ⟨b4, 0, none⟩ = some (.slice (some ⟨gg, oo, none⟩) m gc) ∧ v.cell? ⟨bb, 0, none⟩ = some (.pointer (some ⟨rb, 0, none⟩)) ∧
              v.cell? ⟨gg, oo + q * 3, none⟩ = some (.int .i64 xa) ∧ v.cell? ⟨gg, oo + q * 3 + 1, none⟩ = some (.int .i64 xd) ∧ v.cell? ⟨gg, oo + q * 3 + 2, none⟩ = some (.string xs)) (((u.setCell ⟨eo, q * 3, none⟩ v1).setCell ⟨eo, q * 3 + 1, none⟩ v2).setCell ⟨eo, q * 3 + 2, none⟩ v3) from fun u v1 v2 v3 hs hu => by
            have hse : ∀ (u : World) (j : Nat) (v : Value), Stay [eo] u (u.setCell ⟨eo, j, none⟩ v) := fun u j v => Stay.setCell _ _ _ (by simp)
            have hs3 := ((hse u (q * 3) v1).trans (hse _ (q * 3 + 1) v2)).trans (hse _ (q * 3 + 2) v3)
            have ho := HEo.out u hs
            have h9 : eo ≠ b9 := fun e1 => by
              have h1 := HId.out.box
              have h2 := HId.out.out
              rw [e1] at h2
              have := h2.type h1
              cases this
            have hl4 := hb4l
            have h1 := HId.out.eo0
            have h2 := HId.out.hW0
            have h3 := HB.out.lt
            have h4 := HG.out.lt.2
            have hk : ∀ (f j : Nat) (x : Value), u.cell? ⟨f, j, none⟩ = some x → eo ≠ f → (((u.setCell ⟨eo, q * 3, none⟩ v1).setCell ⟨eo, q * 3 + 1, none⟩ v2).setCell ⟨eo, q * 3 + 2, none⟩ v3).cell? ⟨f, j, none⟩ = some x := fun f j x hx hn => (hs3.cell_ (a := ⟨f, j, none⟩) (World.block_lt_of_cell? _ _ hx) (by rw [List.mem_singleton]; exact fun e => hn e.symm)).trans hx
            exact ⟨hk _ _ _ hu.1 h9, hk _ _ _ hu.2.1 (by omega), hk _ _ _ hu.2.2.1 (by omega), hk _ _ _ hu.2.2.2.1 (by omega), hk _ _ _ hu.2.2.2.2.1 (by omega), hk _ _ _ hu.2.2.2.2.2 (by omega)⟩)
          have c0 := HSS.out _ (Stay.refl _ _)
          obtain ⟨aa, ad, as_⟩ := a
          have HD := Lib.hid (show Calls Try.prog 21 #[.pointer (some ⟨rb, 0, none⟩), .agg #[.int .i64 xa, .int .i64 xd, .string xs]] w5.drew fun e' w' => e' = .returned (.tuple #[.agg #[.int .i64 aa, .int .i64 ad, .string as_], .int .i64 0]) ∧ (∃ t', RopeAt w' rb t' (IntKind.u64.wrap (r1 + 1)) ∧ t'.text = cur (k + 1)) ∧ Stay [rb] w5.drew w' from hD)
          clear hD hUa hL7
          refine AnyL.begin_ (S := fun w' : World => w'.cell? ⟨b9, 0, none⟩ = some (.slice (some ⟨eo, 0, none⟩) m m) ∧ w'.cell? ⟨b4, 0, none⟩ = some (.slice (some ⟨gg, oo, none⟩) m gc) ∧ w'.cell? ⟨bb, 0, none⟩ = some (.pointer (some ⟨rb, 0, none⟩)) ∧ w'.cell? ⟨gg, oo + q * 3, none⟩ = some (.int .i64 xa) ∧ w'.cell? ⟨gg, oo + q * 3 + 1, none⟩ = some (.int .i64 xd) ∧ w'.cell? ⟨gg, oo + q * 3 + 2, none⟩ = some (.string xs)) (n := 99) (by kernel_rfl) ?_
          refine AnyL.takeS (i := 0) (v := ?_) rfl (by kernel_rfl) (by kernel_rfl) (by kernel_rfl) (by kernel_rfl) (fun _ _ _ h => h) (Or.inl ⟨by rfl, ?_⟩) c0 ?_
          rotate_left
          · intro w hSw
            obtain ⟨k0, k1, k2, k3, k4, k5⟩ := hSw
            simp only [List.getElem_toArray, List.getElem_cons_zero]
            go_simp
            all_goals with_reducible rfl
          simp only [List.getElem_toArray, List.getElem_cons_zero, Act.put, List.setIfInBounds_toArray, List.set_cons_zero, List.set_cons_succ]
          refine AnyL.takeS (i := 1) (v := ?_) rfl (by kernel_rfl) (by kernel_rfl) (by kernel_rfl) (by kernel_rfl) (fun _ _ _ h => h) (Or.inl ⟨by rfl, ?_⟩) c0 ?_
          rotate_left
          · intro w hSw
            obtain ⟨k0, k1, k2, k3, k4, k5⟩ := hSw
            simp only [List.getElem_toArray, List.getElem_cons_zero, List.getElem_cons_succ]
            go_simp
            all_goals with_reducible rfl
          simp only [List.getElem_toArray, List.getElem_cons_zero, List.getElem_cons_succ, Act.put, List.setIfInBounds_toArray, List.set_cons_zero, List.set_cons_succ]
          refine AnyL.takeS (i := 2) (v := ?_) rfl (by kernel_rfl) (by kernel_rfl) (by kernel_rfl) (by kernel_rfl) (fun _ _ _ h => h) (Or.inl ⟨by rfl, ?_⟩) c0 ?_
          rotate_left
          · intro w hSw
            obtain ⟨k0, k1, k2, k3, k4, k5⟩ := hSw
            simp only [List.getElem_toArray, List.getElem_cons_zero, List.getElem_cons_succ]
            go_simp
            all_goals with_reducible rfl
          simp only [List.getElem_toArray, List.getElem_cons_zero, List.getElem_cons_succ, Act.put, List.setIfInBounds_toArray, List.set_cons_zero, List.set_cons_succ]
          refine AnyL.takeS (i := 3) (v := ?_) rfl (by kernel_rfl) (by kernel_rfl) (by kernel_rfl) (by kernel_rfl) (fun _ _ _ h => h) (Or.inl ⟨by rfl, ?_⟩) c0 ?_
          rotate_left
          · intro w hSw
            obtain ⟨k0, k1, k2, k3, k4, k5⟩ := hSw
            simp only [List.getElem_toArray, List.getElem_cons_zero, List.getElem_cons_succ]
            go_simp
            all_goals with_reducible rfl
          simp only [List.getElem_toArray, List.getElem_cons_zero, List.getElem_cons_succ, Act.put, List.setIfInBounds_toArray, List.set_cons_zero, List.set_cons_succ]
          refine AnyL.takeS (i := 4) (v := ?_) rfl (by kernel_rfl) (by kernel_rfl) (by kernel_rfl) (by kernel_rfl) (fun _ _ _ h => h) (Or.inl ⟨by rfl, ?_⟩) c0 ?_
          rotate_left
          · intro w hSw
            obtain ⟨k0, k1, k2, k3, k4, k5⟩ := hSw
            simp only [List.getElem_toArray, List.getElem_cons_zero, List.getElem_cons_succ]
            go_simp
            all_goals with_reducible rfl
          simp only [List.getElem_toArray, List.getElem_cons_zero, List.getElem_cons_succ, Act.put, List.setIfInBounds_toArray, List.set_cons_zero, List.set_cons_succ]
          refine AnyL.takeS (i := 5) (v := ?_) rfl (by kernel_rfl) (by kernel_rfl) (by kernel_rfl) (by kernel_rfl) (fun _ _ _ h => h) (Or.inl ⟨by rfl, ?_⟩) c0 ?_
          rotate_left
          · intro w hSw
            obtain ⟨k0, k1, k2, k3, k4, k5⟩ := hSw
            simp only [List.getElem_toArray, List.getElem_cons_zero, List.getElem_cons_succ]
            go_simp
            all_goals with_reducible rfl
          simp only [List.getElem_toArray, List.getElem_cons_zero, List.getElem_cons_succ, Act.put, List.setIfInBounds_toArray, List.set_cons_zero, List.set_cons_succ]
          refine AnyL.takeS (i := 6) (v := ?_) rfl (by kernel_rfl) (by kernel_rfl) (by kernel_rfl) (by kernel_rfl) (fun _ _ _ h => h) (Or.inl ⟨by rfl, ?_⟩) c0 ?_
          rotate_left
          · intro w hSw
            obtain ⟨k0, k1, k2, k3, k4, k5⟩ := hSw
            simp only [List.getElem_toArray, List.getElem_cons_zero, List.getElem_cons_succ]
            go_simp
            all_goals with_reducible rfl
          simp only [List.getElem_toArray, List.getElem_cons_zero, List.getElem_cons_succ, Act.put, List.setIfInBounds_toArray, List.set_cons_zero, List.set_cons_succ]
          refine AnyL.takeS (i := 7) (v := ?_) rfl (by kernel_rfl) (by kernel_rfl) (by kernel_rfl) (by kernel_rfl) (fun _ _ _ h => h) (Or.inl ⟨by rfl, ?_⟩) c0 ?_
          rotate_left
          · intro w hSw
            obtain ⟨k0, k1, k2, k3, k4, k5⟩ := hSw
            simp only [List.getElem_toArray, List.getElem_cons_zero, List.getElem_cons_succ]
            go_simp
            all_goals with_reducible rfl
          simp only [List.getElem_toArray, List.getElem_cons_zero, List.getElem_cons_succ, Act.put, List.setIfInBounds_toArray, List.set_cons_zero, List.set_cons_succ]
          refine AnyL.takeS (i := 8) (v := ?_) rfl (by kernel_rfl) (by kernel_rfl) (by kernel_rfl) (by kernel_rfl) (fun _ _ _ h => h) (Or.inl ⟨by rfl, ?_⟩) c0 ?_
          rotate_left
          · intro w hSw
            obtain ⟨k0, k1, k2, k3, k4, k5⟩ := hSw
            simp only [List.getElem_toArray, List.getElem_cons_zero, List.getElem_cons_succ]
            go_simp
            all_goals with_reducible rfl
          simp only [List.getElem_toArray, List.getElem_cons_zero, List.getElem_cons_succ, Act.put, List.setIfInBounds_toArray, List.set_cons_zero, List.set_cons_succ]
          refine AnyL.takeS (i := 9) (v := ?_) rfl (by kernel_rfl) (by kernel_rfl) (by kernel_rfl) (by kernel_rfl) (fun _ _ _ h => h) (Or.inl ⟨by rfl, ?_⟩) c0 ?_
          rotate_left
          · intro w hSw
            obtain ⟨k0, k1, k2, k3, k4, k5⟩ := hSw
            simp only [List.getElem_toArray, List.getElem_cons_zero, List.getElem_cons_succ]
            go_simp
            all_goals with_reducible rfl
          simp only [List.getElem_toArray, List.getElem_cons_zero, List.getElem_cons_succ, Act.put, List.setIfInBounds_toArray, List.set_cons_zero, List.set_cons_succ]
          refine AnyL.takeS (i := 10) (v := ?_) rfl (by kernel_rfl) (by kernel_rfl) (by kernel_rfl) (by kernel_rfl) (fun _ _ _ h => h) (Or.inl ⟨by rfl, ?_⟩) c0 ?_
          rotate_left
          · intro w hSw
            obtain ⟨k0, k1, k2, k3, k4, k5⟩ := hSw
            simp only [List.getElem_toArray, List.getElem_cons_zero, List.getElem_cons_succ]
            go_simp
            all_goals with_reducible rfl
          simp only [List.getElem_toArray, List.getElem_cons_zero, List.getElem_cons_succ, Act.put, List.setIfInBounds_toArray, List.set_cons_zero, List.set_cons_succ]
          refine AnyL.takeS (i := 11) (v := ?_) rfl (by kernel_rfl) (by kernel_rfl) (by kernel_rfl) (by kernel_rfl) (fun _ _ _ h => h) (Or.inl ⟨by rfl, ?_⟩) c0 ?_
          rotate_left
          · intro w hSw
            obtain ⟨k0, k1, k2, k3, k4, k5⟩ := hSw
            simp only [List.getElem_toArray, List.getElem_cons_zero, List.getElem_cons_succ]
            go_simp
            all_goals with_reducible rfl
          simp only [List.getElem_toArray, List.getElem_cons_zero, List.getElem_cons_succ, Act.put, List.setIfInBounds_toArray, List.set_cons_zero, List.set_cons_succ]
          refine AnyL.next (i := 12) (by kernel_rfl) ?_
          refine wpOp_step rfl (fun K hK => ?_)
          have HK := Lib.hid hK
          clear hK
          simp only [List.getElem_toArray, List.getElem_cons_zero, List.getElem_cons_succ]
          rw [if_pos (by rfl)]
          go_simp
          go_at_call 21
          refine HD.out.mono ?_
          rintro e' w6 ⟨rfl, ⟨t6, hR6, hx6⟩, hs6⟩
          have HS6 := Lib.hid hs6
          have hq6 := HSS.out w6 hs6
          have HR6 := Lib.hid hR6
          have HX6 := Lib.hid hx6
          obtain ⟨y0, z0, y1, z1, y2, z2⟩ := eo_facts (HEo.out w6 hs6) hqX (.int .i64 aa) (.int .i64 ad)
          clear hR6 hx6 hs6
          refine HK.out _ _ ⟨.inr hq6, ?_⟩
          clear HK K
          refine AnyL.takeS (i := 13) (v := ?_) rfl (by kernel_rfl) (by kernel_rfl) (by kernel_rfl) (by kernel_rfl) (fun _ _ _ h => h) (Or.inl ⟨by rfl, ?_⟩) hq6 ?_
          rotate_left
          · intro w hSw
            obtain ⟨k0, k1, k2, k3, k4, k5⟩ := hSw
            simp only [List.getElem_toArray, List.getElem_cons_zero, List.getElem_cons_succ]
            go_simp
            all_goals with_reducible rfl
          simp only [List.getElem_toArray, List.getElem_cons_zero, List.getElem_cons_succ, Act.put, List.setIfInBounds_toArray, List.set_cons_zero, List.set_cons_succ]
          refine AnyL.takeS (i := 14) (v := ?_) rfl (by kernel_rfl) (by kernel_rfl) (by kernel_rfl) (by kernel_rfl) (fun _ _ _ h => h) (Or.inl ⟨by rfl, ?_⟩) hq6 ?_
          rotate_left
          · intro w hSw
            obtain ⟨k0, k1, k2, k3, k4, k5⟩ := hSw
            simp only [List.getElem_toArray, List.getElem_cons_zero, List.getElem_cons_succ]
            go_simp
            all_goals with_reducible rfl
          simp only [List.getElem_toArray, List.getElem_cons_zero, List.getElem_cons_succ, Act.put, List.setIfInBounds_toArray, List.set_cons_zero, List.set_cons_succ]
          refine AnyL.takeS (i := 15) (v := ?_) rfl (by kernel_rfl) (by kernel_rfl) (by kernel_rfl) (by kernel_rfl) (fun _ _ _ h => h) (Or.inl ⟨by rfl, ?_⟩) hq6 ?_
          rotate_left
          · intro w hSw
            obtain ⟨k0, k1, k2, k3, k4, k5⟩ := hSw
            simp only [List.getElem_toArray, List.getElem_cons_zero, List.getElem_cons_succ]
            go_simp
            all_goals with_reducible rfl
          simp only [List.getElem_toArray, List.getElem_cons_zero, List.getElem_cons_succ, Act.put, List.setIfInBounds_toArray, List.set_cons_zero, List.set_cons_succ]
          refine AnyL.takeS (i := 16) (v := ?_) rfl (by kernel_rfl) (by kernel_rfl) (by kernel_rfl) (by kernel_rfl) (fun _ _ _ h => h) (Or.inl ⟨by rfl, ?_⟩) hq6 ?_
          rotate_left
          · intro w hSw
            obtain ⟨k0, k1, k2, k3, k4, k5⟩ := hSw
            simp only [List.getElem_toArray, List.getElem_cons_zero, List.getElem_cons_succ]
            go_simp
            all_goals with_reducible rfl
          simp only [List.getElem_toArray, List.getElem_cons_zero, List.getElem_cons_succ, Act.put, List.setIfInBounds_toArray, List.set_cons_zero, List.set_cons_succ]
          refine AnyL.next (i := 17) (by kernel_rfl) ?_
          refine wpOp_step rfl (fun K hK => ?_)
          have HK := Lib.hid hK
          clear hK
          simp only [List.getElem_toArray, List.getElem_cons_zero, List.getElem_cons_succ]
          rw [if_pos (by rfl)]
          go_wp2_with fail
          have hq7 := HKp.out w6 (.int .i64 aa) (.int .i64 ad) (.string as_) HS6.out hq6
          obtain ⟨w7, hw7⟩ : ∃ w7, w7 = ((w6.setCell ⟨eo, q * 3, none⟩ (.int .i64 aa)).setCell ⟨eo, q * 3 + 1, none⟩ (.int .i64 ad)).setCell ⟨eo, q * 3 + 2, none⟩ (.string as_) := ⟨_, rfl⟩
          have HFN := Lib.hid (show TI B W0 W rb eo b9 m e idx cur gbe gst (k + 1) (k + 1) k A' c' (X.set q ⟨aa, ad, as_⟩) y t6 (IntKind.u64.wrap (r1 + 1)) w7 ∧ (X.set q ⟨aa, ad, as_⟩)[q]? = some ⟨aa, ad, as_⟩ ∧ as_.size ≤ 1048576 from by
            rw [hw7]
            exact ⟨HId.out.step (a := ⟨aa, ad, as_⟩) HS6.out HR6.out (u64_wrap _) HX6.out HUa.out HQe.out (by omega) (fun i hi e1 => by
              have := HIx.out.2.1 i k (by omega) hlt (by rw [e1, ← HQe.out])
              omega), List.getElem?_set_self hqX, undoes_size HUa.out.1⟩)
          rw [← hw7] at hq7
          rw [← hw7]
          clear hw7
          refine HK.out _ _ ⟨.inr hq7, ?_⟩
          clear HK K
          refine AnyL.done (by kernel_rfl) ?_ _
          go_wp2_with fail
          go_meet
          exact ⟨⟨aa, ad, as_⟩, t6, IntKind.u64.wrap (r1 + 1), X.set q ⟨aa, ad, as_⟩, HFN⟩
        case rest =>
          obtain ⟨a, t2, r2, X2, HQ2⟩ := hcut
          obtain ⟨w8, hw8⟩ : ∃ x, x = wc := ⟨_, rfl⟩
          rw [← hw8] at HQ2 ⊢
          obtain ⟨z, hz⟩ : ∃ z, z = a.s.size := ⟨_, rfl⟩
          have hzl : z ≤ 1048576 := by rw [hz]; exact HQ2.out.2.2
          have hqX : q < X2.length := by rw [HQ2.out.1.xl]; omega
          have hXq : X2[q] = a := (List.getElem?_eq_some_iff.1 HQ2.out.2.1).2
          have ha2 : w8.drew.cell? ⟨eo, q * 3 + 2, none⟩ = some (.string a.s) := by
            have h1 := ((HQ2.out.1.out).stay (F := []) (Stay.drew w8) (by simp)).cell (q * 3 + 2)
            rw [h1, eds_at X2 q hqX 2 (by omega), hXq]
            rfl
          have hb9 := HQ2.out.1.box.stay (F := []) (Stay.drew w8) (by simp)
          have f9 := hb9.free 1
          have hy0 := HQ2.out.1.y0
          have hy1 := HQ2.out.1.y1
          have hsum : IntKind.i64.wrap (y + a.s.size) = y + z := by rw [← hz]; simp only [IntKind.wrap, IntKind.bits, IntKind.signed]; simp; omega
          obtain ⟨w9, hw9⟩ : ∃ x, x = (w8.setCell ⟨b9, 1, none⟩ (.int .i64 (y + z))).drew := ⟨_, rfl⟩
          have HI9 := Lib.hid (show TI B W0 W rb eo b9 m e idx cur gbe gst (k + 1) (k + 1) (k + 1) A' c' X2 (y + z) t2 r2 w9 from by
            rw [hw9]
            exact (HQ2.out.1.add hzl).stay0 (Stay.drew _))
          obtain ⟨sz, hsz⟩ : ∃ s, s = a.s := ⟨_, rfl⟩
          rw [← hsz] at ha2 hsum
          have hHeld : (fun w' : World => w'.cell? ⟨b9, 1, none⟩ = some (.int .i64 y) ∧ w'.cell? ⟨b9, 0, none⟩ = some (.slice (some ⟨eo, 0, none⟩) m m) ∧ w'.cell? ⟨eo, q * 3 + 2, none⟩ = some (.string sz)) w8.drew := ⟨hb9.cell 1, hb9.cell 0, ha2⟩
          have HW9 := Lib.hid hw9
          clear hw8 HI5 HDo HKW HQ2 hz hzl hqX hXq ha2 hb9 hy0 hy1 hw9 hsz
          go_upto_region 9 with fail
          refine AnyL.begin_ (S := fun w' : World => w'.cell? ⟨b9, 1, none⟩ = some (.int .i64 y) ∧ w'.cell? ⟨b9, 0, none⟩ = some (.slice (some ⟨eo, 0, none⟩) m m) ∧ w'.cell? ⟨eo, q * 3 + 2, none⟩ = some (.string sz)) (n := 11) (by kernel_rfl) ?_
          refine AnyL.take (i := 0) (v := ?_) [1, 9, 11] rfl (by kernel_rfl) (by kernel_rfl) (by kernel_rfl) (by kernel_rfl) (fun _ _ _ h => h) (Or.inl ⟨by rfl, ?_⟩) hHeld ?_
          rotate_left
          · intro w hSw
            obtain ⟨k0, k1, k2⟩ := hSw
            simp only [List.getElem_toArray, List.getElem_cons_zero]
            go_simp
            all_goals with_reducible rfl
          simp only [List.getElem_toArray, List.getElem_cons_zero, Act.put, List.setIfInBounds_toArray, List.set_cons_zero, List.set_cons_succ]
          refine AnyL.take (i := 1) (v := ?_) [9, 11] rfl (by kernel_rfl) (by kernel_rfl) (by kernel_rfl) (by kernel_rfl) (fun _ _ _ h => h) (Or.inl ⟨by rfl, ?_⟩) hHeld ?_
          rotate_left
          · intro w hSw
            obtain ⟨k0, k1, k2⟩ := hSw
            simp only [List.getElem_toArray, List.getElem_cons_zero, List.getElem_cons_succ]
            go_simp
            all_goals with_reducible rfl
          simp only [List.getElem_toArray, List.getElem_cons_zero, List.getElem_cons_succ, Act.put, List.setIfInBounds_toArray, List.set_cons_zero, List.set_cons_succ]
          refine AnyL.take (i := 2) (v := ?_) [3, 5, 6, 7, 8, 9, 11] rfl (by kernel_rfl) (by kernel_rfl) (by kernel_rfl) (by kernel_rfl) (fun _ _ _ h => h) (Or.inl ⟨by rfl, ?_⟩) hHeld ?_
          rotate_left
          · intro w hSw
            obtain ⟨k0, k1, k2⟩ := hSw
            simp only [List.getElem_toArray, List.getElem_cons_zero, List.getElem_cons_succ]
            go_simp
            all_goals with_reducible rfl
          simp only [List.getElem_toArray, List.getElem_cons_zero, List.getElem_cons_succ, Act.put, List.setIfInBounds_toArray, List.set_cons_zero, List.set_cons_succ]
          refine AnyL.take (i := 3) (v := ?_) [5, 6, 7, 8, 9, 11] rfl (by kernel_rfl) (by kernel_rfl) (by kernel_rfl) (by kernel_rfl) (fun _ _ _ h => h) (Or.inl ⟨by rfl, ?_⟩) hHeld ?_
          rotate_left
          · intro w hSw
            obtain ⟨k0, k1, k2⟩ := hSw
            simp only [List.getElem_toArray, List.getElem_cons_zero, List.getElem_cons_succ]
            go_simp
            all_goals with_reducible rfl
          simp only [List.getElem_toArray, List.getElem_cons_zero, List.getElem_cons_succ, Act.put, List.setIfInBounds_toArray, List.set_cons_zero, List.set_cons_succ]
          refine AnyL.take (i := 4) (v := ?_) [5, 6, 7, 8, 9, 11] rfl (by kernel_rfl) (by kernel_rfl) (by kernel_rfl) (by kernel_rfl) (fun _ _ _ h => h) (Or.inl ⟨by rfl, ?_⟩) hHeld ?_
          rotate_left
          · intro w hSw
            obtain ⟨k0, k1, k2⟩ := hSw
            simp only [List.getElem_toArray, List.getElem_cons_zero, List.getElem_cons_succ]
            go_simp
            all_goals with_reducible rfl
          simp only [List.getElem_toArray, List.getElem_cons_zero, List.getElem_cons_succ, Act.put, List.setIfInBounds_toArray, List.set_cons_zero, List.set_cons_succ]
          refine AnyL.take (i := 5) (v := ?_) [6, 7, 8, 9, 11] rfl (by kernel_rfl) (by kernel_rfl) (by kernel_rfl) (by kernel_rfl) (fun _ _ _ h => h) (Or.inl ⟨by rfl, ?_⟩) hHeld ?_
          rotate_left
          · intro w hSw
            obtain ⟨k0, k1, k2⟩ := hSw
            simp only [List.getElem_toArray, List.getElem_cons_zero, List.getElem_cons_succ]
            go_simp
            all_goals with_reducible rfl
          simp only [List.getElem_toArray, List.getElem_cons_zero, List.getElem_cons_succ, Act.put, List.setIfInBounds_toArray, List.set_cons_zero, List.set_cons_succ]
          refine AnyL.take (i := 6) (v := ?_) [7, 8, 9, 11] rfl (by kernel_rfl) (by kernel_rfl) (by kernel_rfl) (by kernel_rfl) (fun _ _ _ h => h) (Or.inl ⟨by rfl, ?_⟩) hHeld ?_
          rotate_left
          · intro w hSw
            obtain ⟨k0, k1, k2⟩ := hSw
            simp only [List.getElem_toArray, List.getElem_cons_zero, List.getElem_cons_succ]
            go_simp
            all_goals with_reducible rfl
          simp only [List.getElem_toArray, List.getElem_cons_zero, List.getElem_cons_succ, Act.put, List.setIfInBounds_toArray, List.set_cons_zero, List.set_cons_succ]
          refine AnyL.take (i := 7) (v := ?_) [8, 9, 11] rfl (by kernel_rfl) (by kernel_rfl) (by kernel_rfl) (by kernel_rfl) (fun _ _ _ h => h) (Or.inl ⟨by rfl, ?_⟩) hHeld ?_
          rotate_left
          · intro w hSw
            obtain ⟨k0, k1, k2⟩ := hSw
            simp only [List.getElem_toArray, List.getElem_cons_zero, List.getElem_cons_succ]
            go_simp
            all_goals with_reducible rfl
          simp only [List.getElem_toArray, List.getElem_cons_zero, List.getElem_cons_succ, Act.put, List.setIfInBounds_toArray, List.set_cons_zero, List.set_cons_succ]
          refine AnyL.take (i := 8) (v := ?_) [9, 11] rfl (by kernel_rfl) (by kernel_rfl) (by kernel_rfl) (by kernel_rfl) (fun _ _ _ h => h) (Or.inl ⟨by rfl, ?_⟩) hHeld ?_
          rotate_left
          · intro w hSw
            obtain ⟨k0, k1, k2⟩ := hSw
            simp only [List.getElem_toArray, List.getElem_cons_zero, List.getElem_cons_succ]
            go_simp
            all_goals with_reducible rfl
          simp only [List.getElem_toArray, List.getElem_cons_zero, List.getElem_cons_succ, Act.put, List.setIfInBounds_toArray, List.set_cons_zero, List.set_cons_succ]
          refine AnyL.take (i := 9) (v := ?_) [11] rfl (by kernel_rfl) (by kernel_rfl) (by kernel_rfl) (by kernel_rfl) (fun _ _ _ h => h) (Or.inl ⟨by rfl, ?_⟩) hHeld ?_
          rotate_left
          · intro w hSw
            obtain ⟨k0, k1, k2⟩ := hSw
            simp only [List.getElem_toArray, List.getElem_cons_zero, List.getElem_cons_succ]
            go_simp
            all_goals with_reducible rfl
          simp only [List.getElem_toArray, List.getElem_cons_zero, List.getElem_cons_succ, Act.put, List.setIfInBounds_toArray, List.set_cons_zero, List.set_cons_succ]
          refine AnyL.take (i := 10) (v := ?_) [11] rfl (by kernel_rfl) (by kernel_rfl) (by kernel_rfl) (by kernel_rfl) (fun _ _ _ h => h) (Or.inl ⟨by rfl, ?_⟩) hHeld ?_
          rotate_left
          · intro w hSw
            obtain ⟨k0, k1, k2⟩ := hSw
            simp only [List.getElem_toArray, List.getElem_cons_zero, List.getElem_cons_succ]
            go_simp
            all_goals with_reducible rfl
          simp only [List.getElem_toArray, List.getElem_cons_zero, List.getElem_cons_succ, Act.put, List.setIfInBounds_toArray, List.set_cons_zero, List.set_cons_succ]
          refine AnyL.next (i := 11) (by kernel_rfl) ?_
          refine wpOp_step rfl (fun K hK => ?_)
          have HK := Lib.hid hK
          clear hK
          simp only [List.getElem_toArray, List.getElem_cons_zero, List.getElem_cons_succ]
          rw [if_pos (by rfl)]
          have hq90 := hHeld.1
          go_wp2_with fail
          refine HK.out _ _ ⟨.inl (by first | rfl | trivial), ?_⟩
          clear HK K
          refine AnyL.done (by kernel_rfl) ?_ _
          rw [← HW9.out]
          go_wp2_with fail
          go_roundw
          case rel => exact ⟨k + 1, A', c', X2, y + z, t2, r2, by omega, by go_num, rfl, HI9⟩
          case measure => simp [intOf]; omega
      · have hlt' : ¬ (k : Int) < m := by omega
        have hkm : m = k := by omega
        subst hkm
        obtain ⟨L7, hL7⟩ := HR.out.blk
        have nrb : ∀ {f : Nat} {L : List Value} {ty : TypeId}, Blk W f L ty → ty ≠ 77 → f ∉ [rb] := fun {f L ty} hf hne hm => by
          rw [List.mem_singleton] at hm
          subst hm
          exact hne (hf.type hL7)
        have hbb := HB.out.stay HI.out.stay (nrb HB.out (by decide))
        have h66 := H6.out.stay HI.out.stay (nrb H6.out (by decide))
        have c0 : wr.cell? ⟨bb, 0, none⟩ = some (.pointer (some ⟨rb, 0, none⟩)) := hbb.cell 0
        have c1 : wr.cell? ⟨bb, 1, none⟩ = some (.int .u64 sp) := hbb.cell 1
        have f1 := hbb.free 1
        have hsb : Stay [bb] wr (wr.setCell ⟨bb, 1, none⟩ (.int .u64 r1)) := Stay.setCell _ _ _ (by simp)
        have nbb : ∀ {f : Nat} {L : List Value} {ty : TypeId}, Blk wr f L ty → ty ≠ 98 → f ∉ [bb] := fun {f L ty} hf hne hm => by
          rw [List.mem_singleton] at hm
          subst hm
          exact hne (hf.type hbb)
        have HX9 := Lib.hid (HI.out.box.stay hsb (nbb HI.out.box (by decide)))
        have HX6 := Lib.hid (h66.stay hsb (nbb h66 (by decide)))
        have HSt := Lib.hid (stamp_any rb t1 r1 wr HI.out.R)
        have hml : m ≤ maxLen := by simp only [maxLen]; omega
        have HFin := Lib.hid (fun (w' : World) (q : Ending) (hs : Stay [b4 + 1] (wr.setCell ⟨bb, 1, none⟩ (.int .u64 r1)) w') (hq : q = .returned (.tuple #[.agg #[.slice (some ⟨eo, 0, none⟩) m m, .int .i64 y, .int .i64 gbe, .int .i64 gst], .slice dA m dc])) =>
          HI.out.fin HSw.out HB.out ⟨_, hL7⟩ hml (by rw [HW0.out]; exact HBl.out) hs (by rw [HE4.out]; omega) ⟨_, H6.out⟩ q hq)
        have hne : ¬ b4 + 1 = b9 := by
          have h1 := HI.out.b90
          have h2 := H6.out.lt
          have h3 := HW0.out
          omega
        have hne2 : ¬ b9 = b4 + 1 := fun e1 => hne e1.symm
        obtain ⟨W11, hW11⟩ : ∃ x, x = wr.setCell ⟨bb, 1, none⟩ (.int .u64 r1) := ⟨_, rfl⟩
        rw [← hW11] at HX9 HX6 HFin
        have HW11 := Lib.hid hW11
        clear hL7 nrb hbb h66 hsb nbb hml hW11 HI
        go_wp2_with fail
        refine HSt.out.mono ?_
        rintro e' w' ⟨rfl, rfl⟩
        go_upto_region 12 with fail
        rw [← HW11.out]
        have u0 : W11.cell? ⟨b9, 0, none⟩ = some (.slice (some ⟨eo, 0, none⟩) m m) := HX9.out.cell 0
        have u1 : W11.cell? ⟨b9, 1, none⟩ = some (.int .i64 y) := HX9.out.cell 1
        have u2 : W11.cell? ⟨b9, 2, none⟩ = some (.int .i64 gbe) := HX9.out.cell 2
        have u3 : W11.cell? ⟨b9, 3, none⟩ = some (.int .i64 gst) := HX9.out.cell 3
        obtain ⟨b6, hb6⟩ : ∃ b, b = b4 + 1 := ⟨_, rfl⟩
        rw [← hb6] at HX6 HFin hne hne2 ⊢
        have z0 : W11.cell? ⟨b6, 0, none⟩ = some (.slice none 0 0) := HX6.out.cell 0
        have z1 : W11.cell? ⟨b6, 1, none⟩ = some (.int .i64 0) := HX6.out.cell 1
        have z2 : W11.cell? ⟨b6, 2, none⟩ = some (.int .i64 0) := HX6.out.cell 2
        have z3 : W11.cell? ⟨b6, 3, none⟩ = some (.int .i64 0) := HX6.out.cell 3
        have y0 := HX6.out.free 0
        have y1 := HX6.out.free 1
        have y2 := HX6.out.free 2
        have y3 := HX6.out.free 3
        have HSs := Lib.hid (show ∀ (c0 c1 c2 c3 : Value), Stay [b6] W11 ((((W11.setCell ⟨b6, 0, none⟩ c0).setCell ⟨b6, 1, none⟩ c1).setCell ⟨b6, 2, none⟩ c2).setCell ⟨b6, 3, none⟩ c3) from fun c0 c1 c2 c3 => by
          have hss : ∀ (u : World) (j : Nat) (v : Value), Stay [b6] u (u.setCell ⟨b6, j, none⟩ v) := fun u j v => Stay.setCell _ _ _ (by simp)
          exact (((hss W11 0 c0).trans (hss _ 1 c1)).trans (hss _ 2 c2)).trans (hss _ 3 c3))
        clear hb6 HX9 HX6 c0 c1 f1
        go_wp2_with fail
        exact bodyPost_ret (v := .tuple #[.agg #[.slice (some ⟨eo, 0, none⟩) m m, .int .i64 y, .int .i64 gbe, .int .i64 gst], .slice dA m dc]) (by simp [results, Try.results64, go_sem, z0, z1, z2, z3]) rfl (HFin.out _ _ (HSs.out _ _ _ _) rfl)
end Go.Proofs.Ytjoeebjmjnddoaa
