/- shuttlelaw20: UndoLost (9): the walk. -/
import Derived.Test.YtjoeebjmjnddoaaUlaw0
import Derived.Test.YtjoeebjmjnddoaaRlast
import Derived.BigRegion
namespace Go.Proofs.Ytjoeebjmjnddoaa
open Go.RowKit
set_option maxRecDepth 20000 in
set_option maxHeartbeats 4000000 in
theorem undo_other (bb rb : Nat) (sp : Int) (dv uv : Value) (st sv gv : Int) (t : Rp) (rs : Int) (w : World) (h : Blk w bb (bcells rb sp dv uv st sv gv) 98) (hr : RopeAt w rb t rs) (hne : rs ≠ sp) (hg : 0 ≤ gv ∧ gv < 9223372036854775807) :
    Calls Try.prog 33 #[.pointer (some ⟨bb, 0, none⟩)] w fun e w' => e = .returned (.tuple #[.slice none 0 0, .int .i64 200]) ∧ Blk w' bb (bcells rb rs (.slice none 0 0) (.slice none 0 0) (gv + 1) (-1) (gv + 1)) 98 ∧ Stay [bb] w w' := by
  have HLo := Lib.hid (look_other bb rb sp dv uv st sv gv t rs w h hr hne hg)
  clear h hr hne hg
  go_enter Try.func33, Try.ntmps33
  go_wp2_with fail
  refine HLo.out.mono ?_
  rintro e w2 ⟨rfl, hb2, hs2⟩
  have HLa := Lib.hid (last_none bb 2 none 0 w2 (hb2.cell 2))
  have HB2 := Lib.hid (And.intro hb2 hs2)
  clear hb2 hs2
  go_wp2_with fail
  refine HLa.out.mono ?_
  rintro e w3 ⟨rfl, hs3⟩
  have hs4 := hs3.trans (Stay.alloc (F := []) w3 (.cells #[.slice none 0 0, .int .i64 0, .int .i64 0, .int .i64 0] 100))
  have HF := Lib.hid (And.intro (HB2.out.1.stay hs4 (by simp)) (HB2.out.2.trans (hs4.mono (by simp))))
  clear hs3 hs4
  go_wp2_with fail
  go_ret2
  exact ⟨rfl, HF.out⟩
theorem bs_lost {w0 w u : World} {B bb rb : Nat} {DA : Option Addr} {dc : Nat} {D : List MG} {UA : Option Addr} {uc : Nat} {U : List MG} {rs st sv gv : Int} {tx : List UInt8} (h : BS w0 w B bb rb DA dc D UA uc U rs st sv gv tx) {t : Rp} {rs2 : Int} {z : List UInt8} (hs : Stay [rb] w u) (hR : RopeAt u rb t rs2) (ht : t.text = z) (hu : U64 rs2) (hne : rs2 ≠ rs) (hgv : 0 ≤ gv ∧ gv < 9223372036854775807) :
    Calls Try.prog 33 #[.pointer (some ⟨bb, 0, none⟩)] u fun e w' => e = .returned (.tuple #[.slice none 0 0, .int .i64 200]) ∧ BS w0 w' B bb rb none 0 [] none 0 [] rs2 (gv + 1) (-1) (gv + 1) z := by
  obtain ⟨L, hL⟩ := h.rblk
  have hbu : Blk u bb _ 98 := h.bbk.stay hs (by rw [List.mem_singleton]; exact blk_ne_of h.bbk hL (by decide))
  refine (undo_other bb rb rs _ _ st sv gv t rs2 u hbu hR hne hgv).mono ?_
  rintro e w' ⟨rfl, hb2, hs2⟩
  have hb3 := (h.bel.trans (hs.toBelow h.sz (fun g hg => by rw [List.mem_singleton] at hg; rw [hg]; exact h.hrb)))
  have hz := Nat.le_trans h.sz hs.size
  obtain ⟨L2, hL2⟩ := hR.blk
  exact ⟨rfl, ⟨hb2, Win.nil _ _ _ _, Win.nil _ _ _ _, (fun g hg => by cases hg), (fun g hg => by cases hg), by simp [Ab], ⟨t, hR.stay hs2 (blk_noPair98 hbu) (by rw [List.mem_singleton]; exact blk_ne_of hL2 hbu (by decide)), ht⟩, hu, h.hbb, h.hrb,
    hb3.trans (hs2.toBelow hz (fun g hg => by rw [List.mem_singleton] at hg; rw [hg]; exact h.hbb)), Nat.le_trans hz hs2.size⟩⟩
/-- what the loop keeps -/
def LS (w0 : World) (B bb rb bx : Nat) (bl : List Value) (k : Nat) (w : World) : Prop :=
  ∃ (DA : Option Addr) (dc : Nat) (D : List MG) (rs st gv : Int) (T : List (List UInt8)), BS w0 w B bb rb DA dc D none 0 [] rs st 0 gv (T.getD (T.length - 1) []) ∧ DT D T ∧ (∀ g ∈ D, GI g) ∧ chg D ≤ 1024 ∧ (0 ≤ gv ∧ gv ≤ k) ∧ Blk w bx bl 37
theorem LS.stay0 {w0 w w' : World} {B bb rb bx k : Nat} {bl : List Value} (h : LS w0 B bb rb bx bl k w) (hs : Stay [] w w') : LS w0 B bb rb bx bl k w' := by
  obtain ⟨DA, dc, D, rs, st, gv, T, h1, h2, h3, h4, h5, h6⟩ := h
  exact ⟨DA, dc, D, rs, st, gv, T, h1.stay0 hs, h2, h3, h4, h5, h6.stay hs (by simp)⟩
theorem LS.bel {w0 w : World} {B bb rb bx k : Nat} {bl : List Value} (h : LS w0 B bb rb bx bl k w) : Below B w0 w := by
  obtain ⟨DA, dc, D, rs, st, gv, T, h1, _⟩ := h
  exact h1.bel
theorem ls_do {w0 w : World} {B bb rb bx k : Nat} {bl : List Value} (h : LS w0 B bb rb bx bl k w) (e : Ed) (ok : e.OK) (mo : Bool) (hk : k ≤ 100000) :
    Calls Try.prog 31 #[.pointer (some ⟨bb, 0, none⟩), .agg #[.int .i64 e.a, .int .i64 e.d, .string e.s], .bool mo] w fun en w' => ∃ er, en = .returned (.int .i64 er) ∧ LS w0 B bb rb bx bl (k + 1) w' := by
  obtain ⟨DA, dc, D, rs, st, gv, T, h1, h2, h3, h4, h5, h6⟩ := h
  refine (bs_do h1 h2 e ok mo h3 h4 ⟨h5.1, by omega⟩).mono ?_
  rintro en w' ⟨er, DA', dc', D', rs', st', gv', T', F, rfl, k1, k2, k3, k4, k5, k6, k7, _⟩
  exact ⟨er, rfl, DA', dc', D', rs', st', gv', T', k1, k2, k3, k4, ⟨k5.1, by have := k5.2; have := h5.2; push_cast; omega⟩, h6.stay k6 (k7.off h1.rblk h6 ⟨by decide, by decide, by decide⟩)⟩
/-- the steps as they stand, whatever is made behind them -/
theorem steps_cells {w : World} {A : Option Addr} {L : List USt} (h : Sl w w.heap.size A (L.flatMap USt.cells)) (hok : ∀ e ∈ L, e.OK) (k : Nat) (hk : k < L.length) :
    ∃ (b o : Nat) (e : Ed) (mo : Bool), A = some ⟨b, o, none⟩ ∧ e.OK ∧ ∀ u, Below w.heap.size w u → u.cell? ⟨b, o + k * 5 + 1, none⟩ = some (.int .i64 e.a) ∧ u.cell? ⟨b, o + k * 5 + 1 + 1, none⟩ = some (.int .i64 e.d) ∧ u.cell? ⟨b, o + k * 5 + 1 + 2, none⟩ = some (.string e.s) ∧ u.cell? ⟨b, o + k * 5 + 4, none⟩ = some (.bool mo) := by
  obtain ⟨b, o, rfl, hb, key⟩ := usteps_at h k hk
  refine ⟨b, o, L[k].e, L[k].m, rfl, (hok _ (List.getElem_mem hk)).e, fun u hu => ?_⟩
  have hc : ∀ j v, L[k].cells[j]? = some v → u.cell? ⟨b, o + (k * 5 + j), none⟩ = some v := fun j v hj => (World.cell?_of_block (hu.block b hb)).trans (key j v hj)
  exact ⟨hc 1 _ rfl, hc 2 _ rfl, hc 3 _ rfl, hc 4 _ rfl⟩
theorem u64_next (rs : Int) (h : U64 rs) : IntKind.u64.wrap (rs + 1) ≠ rs := by
  unfold U64 at h
  by_cases e : rs + 1 < 18446744073709551616
  · have : IntKind.u64.wrap (rs + 1) = rs + 1 := by
      simp only [IntKind.wrap, IntKind.bits, IntKind.signed]
      simp
      omega
    omega
  · have e2 : rs + 1 = 18446744073709551616 := by omega
    rw [e2]
    have : IntKind.u64.wrap 18446744073709551616 = 0 := by decide
    omega
set_option maxRecDepth 20000 in
set_option maxHeartbeats 32000000 in
theorem ulost_any (text : ByteArray) (A : Option Addr) (c : Nat) (L : List USt) (oa od : Int) (os : ByteArray) (w : World) (htx : text.size ≤ maxLen) (hsl : Sl w w.heap.size A (L.flatMap USt.cells)) (hlc : L.length ≤ c) (hc : c ≤ maxLen) (hok : ∀ e ∈ L, e.OK) (_ : L.length * 48 ≤ reachBytes) (ook : (⟨oa, od, os⟩ : Ed).OK) :
    Calls Try.prog 9 #[.string text, .slice A L.length c, .agg #[.int .i64 oa, .int .i64 od, .string os]] w fun e w' => e = .returned (.bool true) ∧ Below w.heap.size w w' := by
  have HNl := Lib.hid (fun (u : World) (h : 1048576 < text.size) => new_long text.data.toList u (by rw [bytes_length]; exact h) (by rw [bytes_length]; simpa [maxLen] using htx))
  have HN := Lib.hid (fun (u : World) (h : text.size ≤ 1048576) => new_any text.data.toList u (by rw [bytes_length]; exact h))
  rw [str_of] at HN HNl
  obtain ⟨W1, hW1⟩ : ∃ W, W = w.alloc (.cells #[.int .i64 oa, .int .i64 od, .string os] 37) := ⟨_, rfl⟩
  have hs1 : Stay [] w W1 := by rw [hW1]; exact Stay.alloc _ _
  have HS1 := Lib.hid hs1
  have HBx := Lib.hid (show Blk W1 w.heap.size [.int .i64 oa, .int .i64 od, .string os] 37 from by rw [hW1]; exact Blk.new w _ _)
  have HW1 := Lib.hid hW1
  have hsl1 : Sl W1 W1.heap.size A (L.flatMap USt.cells) := (hsl.below (hs1.toBelow (Nat.le_refl _) (by simp))).more hs1.size
  have HBy := Lib.hid (beyond_any text A c L W1 hsl1 (Nat.le_trans hlc hc))
  have HCl := Lib.hid (steps_cells hsl hok)
  have HOk := Lib.hid ook
  obtain ⟨n, hn⟩ : ∃ n, n = L.length := ⟨_, rfl⟩
  rw [← hn] at HBy HCl hlc ⊢
  have hnm : (n : Int) ≤ 9223372036854775807 := by simp only [maxLen] at hc; omega
  obtain ⟨B, hBe⟩ : ∃ B, B = w.heap.size := ⟨_, rfl⟩
  rw [← hBe] at HCl HBx ⊢
  have HBe := Lib.hid hBe
  clear hW1 hs1 hsl1 hsl hok ook hn hlc hc htx hBe
  go_enter Try.func9, Try.ntmps9
  go_upto_region 1 with fail
  rw [← HW1.out, ← HBe.out]
  go_wp2_with fail
  refine HBy.out.mono ?_
  rintro e w2 ⟨b, rfl, hbf, hs2⟩
  have HS2 := Lib.hid (HS1.out.trans hs2)
  have HBx2 := Lib.hid (HBx.out.stay hs2 (by simp))
  have HWk := Lib.hid (works_any w2)
  clear hs2 HBy HBx HW1
  cases b with
  | true =>
    clear hbf
    go_wp2_with fail
    refine HWk.out.mono ?_
    rintro e w3 ⟨rfl, hb3⟩
    have HF := Lib.hid (show Below B w w3 from by
      rw [HBe.out]
      exact (HS2.out.toBelow (Nat.le_refl _) (by simp)).trans ((Stay.below (F := []) hb3).toBelow HS2.out.size (by simp)))
    clear hb3
    go_wp2_with fail
    go_ret
    exact ⟨rfl, HF.out⟩
  | false =>
    have hn13 := hbf rfl
    clear hbf
    go_wp2_with fail
    refine HWk.out.mono ?_
    rintro e w3 ⟨rfl, hb3⟩
    have HS3 := Lib.hid (HS2.out.trans (Stay.below (F := []) hb3))
    have HBx3 := Lib.hid (HBx2.out.stay (Stay.below (F := []) hb3) (by simp))
    clear hb3 HWk HBx2
    by_cases hlong : 1048576 < text.size
    · have HN3 := Lib.hid (HNl.out w3 hlong)
      have HF := Lib.hid (show Below B w w3 from by
        rw [HBe.out]
        exact HS3.out.toBelow (Nat.le_refl _) (by simp))
      go_wp2_with fail
      refine HN3.out.mono ?_
      rintro e w4 ⟨rfl, rfl⟩
      go_wp2_with fail
      go_ret
      exact ⟨rfl, HF.out⟩
    · have HN3 := Lib.hid (HN.out w3 (by omega))
      clear HN HNl hlong
      go_wp2_with fail
      refine HN3.out.mono ?_
      rintro e w4 ⟨rb, t, rfl, hrb, hR, hx, hb4⟩
      have HU := Lib.hid (unew_any rb t 0 w4 hR)
      have HS4 := Lib.hid (HS3.out.trans (Stay.below (F := []) hb4))
      have HB4 := Lib.hid (And.intro hR (And.intro hx (show w.heap.size ≤ rb from Nat.le_trans HS3.out.size hrb)))
      have HBx4 := Lib.hid (HBx3.out.stay (Stay.below (F := []) hb4) (by simp))
      clear hR hx hrb hb4 HN3 HBx3
      go_wp2_with fail
      refine HU.out.mono ?_
      rintro e w5 ⟨rfl, hb5, hs5⟩
      have HLS := Lib.hid (show LS w B w4.heap.size rb B [.int .i64 oa, .int .i64 od, .string os] 0 w5 from by
        have h9 := bs_first HB4.out.1 HB4.out.2.1 HB4.out.2.2 (HS4.out.toBelow (Nat.le_refl _) (by simp)) hb5 hs5
        rw [← HBe.out] at h9
        exact ⟨none, 0, [], 0, 0, 0, [text.data.toList], h9, ⟨by simp, fun i hi => absurd hi (by simp)⟩, (fun g hg => by cases hg), by simp [chg], ⟨Int.le_refl _, by simp⟩, HBx4.out.stay hs5 (by simp)⟩)
      obtain ⟨bb, hbb⟩ : ∃ b, b = w4.heap.size := ⟨_, rfl⟩
      rw [← hbb] at HLS ⊢
      clear hb5 hs5 hbb HB4 HU HBx4
      go_wp2_with fail
      go_loopw [41] (fun iv wr => ∃ k : Nat, k ≤ n ∧ iv = .int .i64 k ∧ Hid (LS w B bb rb B [.int .i64 oa, .int .i64 od, .string os] k wr)) (fun iv _ => n - (intOf iv).toNat)
      case atStart => exact ⟨0, by omega, rfl, HLS⟩
      case round =>
        clear HLS
        obtain ⟨k, hk, rfl, HL⟩ := hrel
        by_cases hlt : k < n
        · have hlt' : (k : Int) < n := by omega
          have hk0 : (0 : Int) ≤ k := by omega
          obtain ⟨b, o, ⟨ea, ed, es⟩, mo, rfl, eok, hce⟩ := HCl.out k hlt
          have HCe := Lib.hid (show ∀ u, Below B w u → u.cell? ⟨b, o + k * 5 + 1, none⟩ = some (.int .i64 ea) ∧ u.cell? ⟨b, o + k * 5 + 1 + 1, none⟩ = some (.int .i64 ed) ∧ u.cell? ⟨b, o + k * 5 + 1 + 2, none⟩ = some (.string es) ∧ u.cell? ⟨b, o + k * 5 + 4, none⟩ = some (.bool mo) from hce)
          have hld := HL.out.stay0 (Stay.drew wr)
          have hHeld := HCe.out wr.drew hld.bel
          have HDo := Lib.hid (ls_do hld ⟨ea, ed, es⟩ eok mo (by omega))
          clear hce eok hld HCl
          go_upto_region 10 with fail
          refine AnyL.begin_ (S := fun w' : World => w'.cell? ⟨b, o + k * 5 + 1, none⟩ = some (.int .i64 ea) ∧ w'.cell? ⟨b, o + k * 5 + 1 + 1, none⟩ = some (.int .i64 ed) ∧ w'.cell? ⟨b, o + k * 5 + 1 + 2, none⟩ = some (.string es) ∧ w'.cell? ⟨b, o + k * 5 + 4, none⟩ = some (.bool mo)) (n := 99) (by kernel_rfl) ?_
          refine AnyL.takeS (i := 0) (v := ?_) rfl (by kernel_rfl) (by kernel_rfl) (by kernel_rfl) (by kernel_rfl) (fun _ _ _ h => h) (Or.inl ⟨by rfl, ?_⟩) hHeld ?_
          rotate_left
          · intro w hSw
            obtain ⟨k0, k1, k2, k3⟩ := hSw
            simp only [List.getElem_toArray, List.getElem_cons_zero]
            go_simp
            all_goals with_reducible rfl
          simp only [List.getElem_toArray, List.getElem_cons_zero, Act.put, List.setIfInBounds_toArray, List.set_cons_zero, List.set_cons_succ]
          refine AnyL.takeS (i := 1) (v := ?_) rfl (by kernel_rfl) (by kernel_rfl) (by kernel_rfl) (by kernel_rfl) (fun _ _ _ h => h) (Or.inl ⟨by rfl, ?_⟩) hHeld ?_
          rotate_left
          · intro w hSw
            obtain ⟨k0, k1, k2, k3⟩ := hSw
            simp only [List.getElem_toArray, List.getElem_cons_zero, List.getElem_cons_succ]
            go_simp
            all_goals with_reducible rfl
          simp only [List.getElem_toArray, List.getElem_cons_zero, List.getElem_cons_succ, Act.put, List.setIfInBounds_toArray, List.set_cons_zero, List.set_cons_succ]
          refine AnyL.takeS (i := 2) (v := ?_) rfl (by kernel_rfl) (by kernel_rfl) (by kernel_rfl) (by kernel_rfl) (fun _ _ _ h => h) (Or.inl ⟨by rfl, ?_⟩) hHeld ?_
          rotate_left
          · intro w hSw
            obtain ⟨k0, k1, k2, k3⟩ := hSw
            simp only [List.getElem_toArray, List.getElem_cons_zero, List.getElem_cons_succ]
            go_simp
            all_goals with_reducible rfl
          simp only [List.getElem_toArray, List.getElem_cons_zero, List.getElem_cons_succ, Act.put, List.setIfInBounds_toArray, List.set_cons_zero, List.set_cons_succ]
          refine AnyL.takeS (i := 3) (v := ?_) rfl (by kernel_rfl) (by kernel_rfl) (by kernel_rfl) (by kernel_rfl) (fun _ _ _ h => h) (Or.inl ⟨by rfl, ?_⟩) hHeld ?_
          rotate_left
          · intro w hSw
            obtain ⟨k0, k1, k2, k3⟩ := hSw
            simp only [List.getElem_toArray, List.getElem_cons_zero, List.getElem_cons_succ]
            go_simp
            all_goals with_reducible rfl
          simp only [List.getElem_toArray, List.getElem_cons_zero, List.getElem_cons_succ, Act.put, List.setIfInBounds_toArray, List.set_cons_zero, List.set_cons_succ]
          refine AnyL.takeS (i := 4) (v := ?_) rfl (by kernel_rfl) (by kernel_rfl) (by kernel_rfl) (by kernel_rfl) (fun _ _ _ h => h) (Or.inl ⟨by rfl, ?_⟩) hHeld ?_
          rotate_left
          · intro w hSw
            obtain ⟨k0, k1, k2, k3⟩ := hSw
            simp only [List.getElem_toArray, List.getElem_cons_zero, List.getElem_cons_succ]
            go_simp
            all_goals with_reducible rfl
          simp only [List.getElem_toArray, List.getElem_cons_zero, List.getElem_cons_succ, Act.put, List.setIfInBounds_toArray, List.set_cons_zero, List.set_cons_succ]
          refine AnyL.takeS (i := 5) (v := ?_) rfl (by kernel_rfl) (by kernel_rfl) (by kernel_rfl) (by kernel_rfl) (fun _ _ _ h => h) (Or.inl ⟨by rfl, ?_⟩) hHeld ?_
          rotate_left
          · intro w hSw
            obtain ⟨k0, k1, k2, k3⟩ := hSw
            simp only [List.getElem_toArray, List.getElem_cons_zero, List.getElem_cons_succ]
            go_simp
            all_goals with_reducible rfl
          simp only [List.getElem_toArray, List.getElem_cons_zero, List.getElem_cons_succ, Act.put, List.setIfInBounds_toArray, List.set_cons_zero, List.set_cons_succ]
          refine AnyL.takeS (i := 6) (v := ?_) rfl (by kernel_rfl) (by kernel_rfl) (by kernel_rfl) (by kernel_rfl) (fun _ _ _ h => h) (Or.inl ⟨by rfl, ?_⟩) hHeld ?_
          rotate_left
          · intro w hSw
            obtain ⟨k0, k1, k2, k3⟩ := hSw
            simp only [List.getElem_toArray, List.getElem_cons_zero, List.getElem_cons_succ]
            go_simp
            all_goals with_reducible rfl
          simp only [List.getElem_toArray, List.getElem_cons_zero, List.getElem_cons_succ, Act.put, List.setIfInBounds_toArray, List.set_cons_zero, List.set_cons_succ]
          refine AnyL.takeS (i := 7) (v := ?_) rfl (by kernel_rfl) (by kernel_rfl) (by kernel_rfl) (by kernel_rfl) (fun _ _ _ h => h) (Or.inl ⟨by rfl, ?_⟩) hHeld ?_
          rotate_left
          · intro w hSw
            obtain ⟨k0, k1, k2, k3⟩ := hSw
            simp only [List.getElem_toArray, List.getElem_cons_zero, List.getElem_cons_succ]
            go_simp
            all_goals with_reducible rfl
          simp only [List.getElem_toArray, List.getElem_cons_zero, List.getElem_cons_succ, Act.put, List.setIfInBounds_toArray, List.set_cons_zero, List.set_cons_succ]
          refine AnyL.takeS (i := 8) (v := ?_) rfl (by kernel_rfl) (by kernel_rfl) (by kernel_rfl) (by kernel_rfl) (fun _ _ _ h => h) (Or.inl ⟨by rfl, ?_⟩) hHeld ?_
          rotate_left
          · intro w hSw
            obtain ⟨k0, k1, k2, k3⟩ := hSw
            simp only [List.getElem_toArray, List.getElem_cons_zero, List.getElem_cons_succ]
            go_simp
            all_goals with_reducible rfl
          simp only [List.getElem_toArray, List.getElem_cons_zero, List.getElem_cons_succ, Act.put, List.setIfInBounds_toArray, List.set_cons_zero, List.set_cons_succ]
          refine AnyL.takeS (i := 9) (v := ?_) rfl (by kernel_rfl) (by kernel_rfl) (by kernel_rfl) (by kernel_rfl) (fun _ _ _ h => h) (Or.inl ⟨by rfl, ?_⟩) hHeld ?_
          rotate_left
          · intro w hSw
            obtain ⟨k0, k1, k2, k3⟩ := hSw
            simp only [List.getElem_toArray, List.getElem_cons_zero, List.getElem_cons_succ]
            go_simp
            all_goals with_reducible rfl
          simp only [List.getElem_toArray, List.getElem_cons_zero, List.getElem_cons_succ, Act.put, List.setIfInBounds_toArray, List.set_cons_zero, List.set_cons_succ]
          refine AnyL.takeS (i := 10) (v := ?_) rfl (by kernel_rfl) (by kernel_rfl) (by kernel_rfl) (by kernel_rfl) (fun _ _ _ h => h) (Or.inl ⟨by rfl, ?_⟩) hHeld ?_
          rotate_left
          · intro w hSw
            obtain ⟨k0, k1, k2, k3⟩ := hSw
            simp only [List.getElem_toArray, List.getElem_cons_zero, List.getElem_cons_succ]
            go_simp
            all_goals with_reducible rfl
          simp only [List.getElem_toArray, List.getElem_cons_zero, List.getElem_cons_succ, Act.put, List.setIfInBounds_toArray, List.set_cons_zero, List.set_cons_succ]
          refine AnyL.next (i := 11) (by kernel_rfl) ?_
          refine wpOp_step rfl (fun K hK => ?_)
          have HK := Lib.hid hK
          clear hK
          simp only [List.getElem_toArray, List.getElem_cons_zero, List.getElem_cons_succ]
          rw [if_pos (by rfl)]
          go_simp
          refine HDo.out.mono ?_
          rintro e' w5 ⟨er, rfl, h5⟩
          have H5 := Lib.hid h5
          clear h5
          have hq5 := HCe.out w5 H5.out.bel
          refine HK.out _ _ ⟨.inr hq5, ?_⟩
          clear HK K
          refine AnyL.done (by kernel_rfl) ?_ _
          go_wp2_with fail
          go_roundw
          case rel => exact ⟨k + 1, by omega, by go_num, H5⟩
          case measure => simp [intOf]; omega
        · have hk' : k = n := by omega
          subst hk'
          clear HCl
          obtain ⟨DA, dc, D, rs, st, gv, T, h1, _, _, _, h5, h6⟩ := HL.out
          have H1 := Lib.hid h1
          have hgv0 := h5.1
          have hgv1 := h5.2
          have x0 : wr.cell? ⟨B, 0, none⟩ = some (.int .i64 oa) := h6.cell 0
          have x1 : wr.cell? ⟨B, 1, none⟩ = some (.int .i64 od) := h6.cell 1
          have x2 : wr.cell? ⟨B, 2, none⟩ = some (.string os) := h6.cell 2
          obtain ⟨t9, hR9, ht9⟩ := h1.R
          have hcase := rdo_cases rb t9 rs ⟨oa, od, os⟩ wr hR9 h1.u HOk.out
          clear h1 h5 h6 hR9 HL
          rcases hcase with ⟨er, her, hrd⟩ | ⟨bk, z, _, _, _, hrd⟩
          · have HRo := Lib.hid (hrd wr (Stay.refl _ _))
            unfold RDo at HRo
            have q0 : decide (er = 0) = false := decide_eq_false her
            clear hrd
            go_wp2_with fail
            refine HRo.out.mono ?_
            rintro e w6 ⟨rfl, _, hs6⟩
            have HF := Lib.hid (show Below B w (w6.alloc (.cells #[.int .i64 0, .int .i64 0, .string ⟨#[]⟩] 37)) from H1.out.bel.trans ((hs6.alloc' (o := .cells #[.int .i64 0, .int .i64 0, .string ⟨#[]⟩] 37)).toBelow H1.out.sz (fun g hg => by rw [List.mem_singleton] at hg; rw [hg]; exact H1.out.hrb)))
            clear hs6
            go_wp2_with fail
            go_ret
            exact ⟨rfl, HF.out⟩
          · have HRo := Lib.hid (hrd wr (Stay.refl _ _))
            unfold RDo at HRo
            clear hrd
            go_wp2_with fail
            refine HRo.out.mono ?_
            rintro e w6 ⟨rfl, ⟨t6, hR6, ht6⟩, hs6⟩
            have hsa : Stay [] w6 (w6.alloc (.cells #[.int .i64 bk.a, .int .i64 bk.d, .string bk.s] 37)) := Stay.alloc _ _
            have HR6 := Lib.hid (And.intro (hR6.stay0 hsa) ht6)
            have HS6 := Lib.hid (hs6.trans (hsa.mono (by simp)))
            obtain ⟨w7, hw7⟩ : ∃ x, x = w6.alloc (.cells #[.int .i64 bk.a, .int .i64 bk.d, .string bk.s] 37) := ⟨_, rfl⟩
            have HW7 := Lib.hid hw7
            rw [← hw7] at HR6 HS6
            have HT7 := Lib.hid (text_any rb t6 _ w7 HR6.out.1)
            rw [ht6] at HT7
            obtain ⟨X, hX⟩ : ∃ X, X = str z := ⟨_, rfl⟩
            rw [← hX] at HT7
            have HX := Lib.hid hX
            clear hR6 ht6 hs6 hsa hw7 hX x0 x1 x2
            go_upto_region 15 with fail
            rw [← HW7.out]
            go_wp2_with fail
            refine HT7.out.mono ?_
            rintro e w8 ⟨rfl, hb8⟩
            have HU8 := Lib.hid (bs_lost H1.out (HS6.out.trans (Stay.below hb8)) (HR6.out.1.stay0 (Stay.below hb8)) HR6.out.2 (u64_wrap _) (u64_next rs H1.out.u) ⟨hgv0, by omega⟩)
            clear hb8 HT7
            go_wp2_with fail
            refine HU8.out.mono ?_
            rintro e w9 ⟨rfl, hB9⟩
            have H9 := Lib.hid hB9
            have HR9 := Lib.hid (bs_redo_none hB9)
            clear hB9 HU8
            go_wp2_with fail
            refine HR9.out.mono ?_
            rintro e w10 ⟨rfl, hs10⟩
            have H10 := Lib.hid (H9.out.stay0 hs10)
            have HD10 := Lib.hid (show Calls Try.prog 30 #[.pointer (some ⟨bb, 0, none⟩)] w10 fun e w' => e = .returned (.tuple #[.int .i64 0, .int .i64 0]) ∧ Stay [] w10 w' from bs_depth H10.out)
            clear hs10 HR9 H9
            go_wp2_with fail
            refine HD10.out.mono ?_
            rintro e w11 ⟨rfl, hs11⟩
            have H11 := Lib.hid (H10.out.stay0 hs11)
            have hne : ((gv + 1 : Int) != -1) = true := by simp; omega
            have HC11 := Lib.hid (show Calls Try.prog 35 #[.pointer (some ⟨bb, 0, none⟩)] w11 fun e w' => e = .returned (.bool true) ∧ Stay [] w11 w' from by have h9 := bs_changed H11.out; rw [hne] at h9; exact h9)
            clear hs11 HD10 H10 hne
            go_wp2_with fail
            refine HC11.out.mono ?_
            rintro e w12 ⟨rfl, hs12⟩
            have H12 := Lib.hid (H11.out.stay0 hs12)
            have HT12 := Lib.hid (bs_text H12.out)
            rw [← HX.out] at HT12
            clear hs12 HC11 H11
            go_wp2_with fail
            refine HT12.out.mono ?_
            rintro e w13 ⟨rfl, hs13⟩
            have H13 := Lib.hid (H12.out.stay0 hs13)
            have HSv := Lib.hid (bs_save H13.out)
            clear hs13 HT12 H12
            go_wp2_with fail
            refine HSv.out.mono ?_
            rintro e w14 ⟨rfl, hB14, _, _⟩
            have H14 := Lib.hid hB14
            have hne : ((gv + 1 : Int) != gv + 1) = false := by simp
            have HC14 := Lib.hid (show Calls Try.prog 35 #[.pointer (some ⟨bb, 0, none⟩)] w14 fun e w' => e = .returned (.bool false) ∧ Stay [] w14 w' from by have h9 := bs_changed H14.out; rw [hne] at h9; exact h9)
            clear hB14 HSv H13 hne
            go_wp2_with fail
            refine HC14.out.mono ?_
            rintro e w15 ⟨rfl, hs15⟩
            have HF := Lib.hid (H14.out.stay0 hs15).bel
            clear hs15
            go_wp2_with fail
            go_ret
            exact ⟨rfl, HF.out⟩
end Go.Proofs.Ytjoeebjmjnddoaa
