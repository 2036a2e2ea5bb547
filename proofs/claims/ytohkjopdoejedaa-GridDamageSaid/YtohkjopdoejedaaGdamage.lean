/- package grid: Damage. -/
import Derived.Test.YtohkjopdoejedaaGdone
import Derived.Laws.StructEq
import Derived.Lib.SliceRun
namespace Go.Proofs.Ytohkjopdoejedaa
open Go.RowKit
def looksB (a b : Ce) : Bool := decide (a.text = b.text) && decide (a.part = b.part) && decide (a.style = b.style)
theorem ba_inj {a b : ByteArray} (h : a.data.toList = b.data.toList) : a = b := by
  cases a with | mk a => cases b with | mk b => congr 1; exact Array.toList_inj.1 h
theorem str_eq (a b : ByteArray) : a.toList = b.toList ↔ a = b :=
  ⟨fun h => ba_inj (by rw [ByteArray.toList_eq, ByteArray.toList_eq] at h; exact h), fun h => by rw [h]⟩
def chgRow (o : Option (List Ce)) (r : List Ce) : List Bool := match o with
  | none => r.map fun _ => true
  | some q => r.mapIdx fun x c => !looksB (q.getD x Ce.zero) c
theorem chgRow_length (o : Option (List Ce)) (r : List Ce) : (chgRow o r).length = r.length := by
  cases o <;> simp [chgRow]
/-- from, to behind x cells -/
def dmK (cs : List Bool) (W : Nat) : Nat → Nat × Nat
  | 0 => (W, 0)
  | x + 1 => if cs.getD x false then (min (dmK cs W x).1 x, x + 1) else dmK cs W x
theorem dmK_bd (cs : List Bool) (W : Nat) : ∀ x, (dmK cs W x).1 ≤ W ∧ (dmK cs W x).2 ≤ x
  | 0 => ⟨Nat.le_refl _, Nat.le_refl _⟩
  | x + 1 => by
    have := dmK_bd cs W x
    unfold dmK
    split
    · simp only; omega
    · omega
theorem dmK_lt (cs : List Bool) (W : Nat) : ∀ x, 0 < (dmK cs W x).2 → (dmK cs W x).1 < (dmK cs W x).2
  | 0, h => by simp [dmK] at h
  | x + 1, h => by
    have := dmK_lt cs W x
    unfold dmK at h ⊢
    split
    · simp only; omega
    · rename_i hc
      rw [if_neg hc] at h
      exact this h
def zero35 : Value := .agg #[.int .i64 0, .int .i64 0, .int .i64 0, .int .i64 0]
theorem info35 : (Try.prog.info? 35).map (fun i => (i.zero, i.size, i.bytes)) = some (some zero35, 4, 32) := by kernel_rfl
def Sc.oldRow (S : Sc) (y : Nat) : Option (List Ce) := S.old.map fun l => l.getD y []
def Sc.dmRow (S : Sc) (y : Nat) : Nat × Nat := dmK (chgRow (S.oldRow y) (S.rows.getD y [])) S.W S.W
/-- the damage of the rows 0 .. k: X, Y, W -/
def Sc.dmg (S : Sc) : Nat → List (Nat × Nat × Nat)
  | 0 => []
  | k + 1 => S.dmg k ++ (if 0 < (S.dmRow k).2 then [((S.dmRow k).1, k, (S.dmRow k).2 - (S.dmRow k).1)] else [])
def rectCells (l : List (Nat × Nat × Nat)) : List Value := l.flatMap fun q => [.int .i64 q.1, .int .i64 q.2.1, .int .i64 q.2.2, .int .i64 1]
theorem dmg_len (S : Sc) : ∀ k, (S.dmg k).length ≤ k
  | 0 => Nat.le_refl _
  | k + 1 => by
    have := dmg_len S k
    unfold Sc.dmg
    split <;> simp <;> omega
theorem lk_neq (t1 t2 : ByteArray) (p1 p2 s1 s2 : Int) (w : World) : (binOp .neq 78 (.agg #[.string t1, .int .i8 p1, .int .u16 s1]) (.agg #[.string t2, .int .i8 p2, .int .u16 s2])).run Try.prog w = .ok (.bool (!(decide (t1 = t2) && decide (p1 = p2) && decide (s1 = s2)))) w := by
  have hS : Try.prog.underlying 78 = some (.struct (Try.prog.fieldsOf 78)) := by kernel_rfl
  have hp : Try.prog.stoodInHeld 78 = false := by kernel_rfl
  rw [run_neq_struct, show (10000 : Nat) = 9999 + 1 from rfl, run_equalIn_agg w 9999 78 _ _ hS hp]
  simp only [Program.fieldsOf, Try.underlying78]
  go_simp
  by_cases h1 : t1 = t2 <;> by_cases h2 : p1 = p2 <;> by_cases h3 : s1 = s2 <;> simp [h1, h2, h3, str_eq]
theorem lk_guard : Try.prog.eqGuardType Try.prog.depth 78 = false := by kernel_rfl
theorem nil64 (w : World) (a : Option Addr) (n c n' c' : Nat) : (binOp .eql 64 (.slice a n c) (.slice none n' c')).run Try.prog w = .ok (.bool a.isNone) w := Lib.run_eql_slice_nil w _ _ a n c n' c' Try.underlying64
theorem Blk.ce {w : World} {b : Nat} {r : List Ce} {t : TypeId} (h : Blk w b (rowCells r) t) (x : Nat) (hx : x < r.length) :
    w.cell? ⟨b, x * 6, none⟩ = some (.string (r[x]).text) ∧ w.cell? ⟨b, x * 6 + 1, none⟩ = some (.int .i8 (r[x]).part) ∧ w.cell? ⟨b, x * 6 + 2, none⟩ = some (.int .i64 (r[x]).at_) ∧
    w.cell? ⟨b, x * 6 + 3, none⟩ = some (.int .i64 (r[x]).len) ∧ w.cell? ⟨b, x * 6 + 4, none⟩ = some (.bool (r[x]).right) ∧ w.cell? ⟨b, x * 6 + 5, none⟩ = some (.int .u16 (r[x]).style) := by
  have key : ∀ j v, (r[x]).cells[j]? = some v → w.cell? ⟨b, x * 6 + j, none⟩ = some v := fun j v hj => by
    rw [h.cell, rowCells_at r x hx j (by have := (List.getElem?_eq_some_iff.1 hj).1; exact this), hj]
  exact ⟨key 0 _ rfl, key 1 _ rfl, key 2 _ rfl, key 3 _ rfl, key 4 _ rfl, key 5 _ rfl⟩
theorem box6 (w : World) (c : Ce) (t : TypeId) (W1 : World) (hW : W1 = w.alloc (.cells #[.string c.text, .int .i8 c.part, .int .i64 c.at_, .int .i64 c.len, .bool c.right, .int .u16 c.style] t)) (B : Nat) (hB : B = w.heap.size) :
    W1.cell? ⟨B, 0, none⟩ = some (.string c.text) ∧ W1.cell? ⟨B, 1, none⟩ = some (.int .i8 c.part) ∧ W1.cell? ⟨B, 2, none⟩ = some (.int .i64 c.at_) ∧
    W1.cell? ⟨B, 3, none⟩ = some (.int .i64 c.len) ∧ W1.cell? ⟨B, 4, none⟩ = some (.bool c.right) ∧ W1.cell? ⟨B, 5, none⟩ = some (.int .u16 c.style) := by
  subst hW
  subst hB
  exact ⟨box_cell _ _ _ 0 _ rfl, box_cell _ _ _ 1 _ rfl, box_cell _ _ _ 2 _ rfl, box_cell _ _ _ 3 _ rfl, box_cell _ _ _ 4 _ rfl, box_cell _ _ _ 5 _ rfl⟩
theorem Sm.oldNone {w : World} {s base : Nat} {os : List Nat} {S : Sc} (h : Sm w s base os S) (ho : S.old = none) (y : Nat) (hy : y < 1024) : w.cell? ⟨s, 1024 + y, none⟩ = some (.slice none 0 0) := by
  rw [h.scr.old y hy, h.non ho, oldRows_nil]
  unfold nils
  rw [List.getElem?_replicate, if_pos hy]
theorem Sm.oldSome {w : World} {s base : Nat} {os : List Nat} {S : Sc} {l : List (List Ce)} (h : Sm w s base os S) (ho : S.old = some l) (y : Nat) (hy : y < S.H) :
    ∃ o q, w.cell? ⟨s, 1024 + y, none⟩ = some (.slice (some ⟨o, 0, none⟩) S.W S.W) ∧ l[y]? = some q ∧ q.length = S.W ∧ Blk w o (lookRow q) 78 ∧ base + S.H ≤ o := by
  obtain ⟨h1, h2⟩ := h.olds l ho
  have hl := (h.ok.old l ho).1
  have hH := h.ok.h
  have ho1 : os[y]? = some (os[y]'(by omega)) := List.getElem?_eq_getElem (by omega)
  have hq1 : l[y]? = some (l[y]'(by omega)) := List.getElem?_eq_getElem (by omega)
  refine ⟨os[y]'(by omega), l[y]'(by omega), ?_, hq1, (h.ok.old l ho).2 _ (List.getElem_mem _), h2 y _ _ ho1 hq1, h.sepo _ (List.getElem_mem _)⟩
  rw [h.scr.old y (by omega)]
  unfold oldRows
  rw [List.getElem?_append_left (by simp; omega), List.getElem?_map, ho1]
  rfl
theorem Blk.lk {w : World} {b : Nat} {q : List Ce} {t : TypeId} (h : Blk w b (lookRow q) t) (x : Nat) (hx : x < q.length) :
    w.cell? ⟨b, x * 3, none⟩ = some (.string (q[x]).text) ∧ w.cell? ⟨b, x * 3 + 1, none⟩ = some (.int .i8 (q[x]).part) ∧ w.cell? ⟨b, x * 3 + 2, none⟩ = some (.int .u16 (q[x]).style) := by
  have key : ∀ j v, (q[x]).look[j]? = some v → w.cell? ⟨b, x * 3 + j, none⟩ = some v := fun j v hj => by
    rw [h.cell, lookRow_at q x hx j (by have := (List.getElem?_eq_some_iff.1 hj).1; exact this), hj]
  exact ⟨key 0 _ rfl, key 1 _ rfl, key 2 _ rfl⟩
set_option maxRecDepth 20000 in
set_option maxHeartbeats 4000000 in
theorem damage_any (s base : Nat) (os : List Nat) (S : Sc) (w : World) (h : Sm w s base os S) :
    Calls Try.prog 17 #[.pointer (some ⟨s, 0, none⟩)] w fun e w' => ∃ A c, e = .returned (.slice A (S.dmg S.H).length c) ∧ w'.ownsRow w.heap.size 35 4 (.slice A (S.dmg S.H).length c) (S.dmg S.H).length (rectCells (S.dmg S.H)) ∧ Below w.heap.size w w' := by
  have HS0 := Lib.hid h
  have hW0 := h.ok.w
  have hH0 := h.ok.h
  obtain ⟨W, hWe⟩ : ∃ W, W = S.W := ⟨_, rfl⟩
  obtain ⟨H, hHe⟩ : ∃ H, H = S.H := ⟨_, rfl⟩
  have HWe := Lib.hid hWe
  have HHe := Lib.hid hHe
  have c2049 := h.scr.h_
  rw [← hWe] at hW0
  rw [← hHe] at c2049 hH0
  have hH0' : (H : Int) ≤ 1024 := by omega
  have hH1' : (0 : Int) ≤ H := by omega
  have hlt := h.scr.lt
  rw [← hHe]
  clear hWe hHe h
  go_enter Try.func17, Try.ntmps17
  go_wp2_with fail
  go_quiet (fail)
  go_wp2_with fail
  go_loopw [3, 21] (fun lv yv wr => ∃ (k : Nat) (A : Option Addr) (c : Nat), k ≤ H ∧ lv = .slice A (S.dmg k).length c ∧ yv = .int .i64 k ∧ Hid (wr.ownsRow w.heap.size 35 4 (.slice A (S.dmg k).length c) (S.dmg k).length (rectCells (S.dmg k))) ∧ Hid (Stay [] w wr)) (fun _ yv _ => H - (intOf yv).toNat)
  case atStart => exact ⟨0, none, 0, by omega, rfl, rfl, World.ownsRow_nil _ _ _ _, (Stay.refl _ _).drewN'⟩
  case round =>
    obtain ⟨k, A, c, hk, rfl, rfl, HOk, HTk⟩ := hrel
    by_cases hlt2 : k < H
    · have hlt' : (k : Int) < H := by omega
      have hk0 : (0 : Int) ≤ k := by omega
      have hk1 : (k : Int) < 1024 := by omega
      have hkH : k < S.H := by rw [← HHe.out]; omega
      have HSk := Lib.hid (HS0.out.stay HTk.out (by simp))
      have hcell2 : wr.cell? ⟨s, k, none⟩ = some (.slice (some ⟨base + k, 0, none⟩) W W) := by rw [HSk.out.row k hkH, ← HWe.out]
      obtain ⟨r, hr, hrl, hrp, hrb⟩ := HSk.out.rowAt k hkH
      have hrl' : r.length = W := hrl.trans HWe.out.symm
      have HRb := Lib.hid hrb
      have HR := Lib.hid (And.intro hr hrl')
      obtain ⟨cs, hcs⟩ : ∃ cs, cs = chgRow (S.oldRow k) r := ⟨_, rfl⟩
      have HCs := Lib.hid hcs
      have HDm := Lib.hid (show S.dmRow k = dmK cs W W from by unfold Sc.dmRow; rw [List.getD_eq_getElem?_getD, hr, hcs, HWe.out]; rfl)
      clear hr hrl hrp hrb hrl' hcs
      go_wp2_with fail
      go_loopw [6, 7, 30] (fun fv tv xv wr2 => ∃ x : Nat, x ≤ W ∧ fv = .int .i64 (dmK cs W x).1 ∧ tv = .int .i64 (dmK cs W x).2 ∧ xv = .int .i64 x ∧ Hid (Stay [] wr wr2)) (fun _ _ xv _ => W - (intOf xv).toNat)
      case atStart => exact ⟨0, by omega, rfl, rfl, rfl, Stay.refl _ _⟩
      case round =>
        obtain ⟨x, hx, rfl, rfl, rfl, HTx⟩ := hrel
        have HRx := Lib.hid (HRb.out.stay HTx.out (by simp))
        have HSx := Lib.hid (HSk.out.stay HTx.out (by simp))
        by_cases hxl : x < W
        · have hxl' : (x : Int) < W := by omega
          have hx0 : (0 : Int) ≤ x := by omega
          obtain ⟨c0, c1, c2, c3, c4, c5⟩ := HRx.out.ce x (by rw [HR.out.2]; exact hxl)
          obtain ⟨ce, hce⟩ : ∃ ce, ce = r[x]'(by rw [HR.out.2]; exact hxl) := ⟨_, rfl⟩
          have HDs := Lib.hid (show dmK cs W (x + 1) = if cs.getD x false then (min (dmK cs W x).1 x, x + 1) else dmK cs W x from rfl)
          have HCx := Lib.hid (show cs.getD x false = match S.old with | none => true | some l => !looksB ((l.getD k []).getD x Ce.zero) ce from by
            rw [HCs.out]
            unfold chgRow Sc.oldRow
            cases S.old with
            | none => simp [HR.out.2, hxl]
            | some l => simp [HR.out.2, hxl, hce])
          rw [← hce] at c0 c1 c2 c3 c4 c5
          have HOf := Lib.hid (of_any ce)
          unfold Ce.agg Ce.lagg at HOf
          clear hce
          obtain ⟨tx, pa, at_, le, ri, st⟩ := ce
          simp only at c0 c1 c2 c3 c4 c5
          change Hid (∀ w, Calls Try.prog 42 #[.agg #[.string tx, .int .i8 pa, .int .i64 at_, .int .i64 le, .bool ri, .int .u16 st]] w fun e w' => e = .returned (.agg #[.string tx, .int .i8 pa, .int .u16 st]) ∧ Stay [] w w') at HOf
          obtain ⟨fr, hfr⟩ : ∃ fr, fr = (dmK cs W x).1 := ⟨_, rfl⟩
          obtain ⟨tt, htt⟩ : ∃ tt, tt = (dmK cs W x).2 := ⟨_, rfl⟩
          have HFT := Lib.hid (And.intro hfr htt)
          rw [← hfr, ← htt]
          clear hfr htt
          go_wp2_with fail
          clear c0 c1 c2 c3 c4 c5
          have HTy2 := Lib.hid (Stay.alloc (F := []) wr (.cells #[.string tx, .int .i8 pa, .int .i64 at_, .int .i64 le, .bool ri, .int .u16 st] 49))
          have HTy := Lib.hid (HTx.out.alloc' (o := .cells #[.string tx, .int .i8 pa, .int .i64 at_, .int .i64 le, .bool ri, .int .u16 st] 49))
          have HSy := Lib.hid (HSk.out.stay HTy.out (by simp))
          obtain ⟨B7, hB7⟩ : ∃ B7, B7 = wr.heap.size := ⟨_, rfl⟩
          obtain ⟨b0, b1, b2, b3, b4, b5⟩ := box6 wr ⟨tx, pa, at_, le, ri, st⟩ 49 _ rfl B7 hB7
          simp only at b0 b1 b2 b3 b4 b5
          rw [← hB7]
          clear hB7
          generalize wr.alloc (.cells #[.string tx, .int .i8 pa, .int .i64 at_, .int .i64 le, .bool ri, .int .u16 st] 49) = W7 at *
          cases hSo : S.old with
          | none =>
            have hso := HSy.out.oldNone hSo k (by omega)
            have HCx2 := Lib.hid (show cs.getD x false = true from by rw [HCx.out, hSo])
            clear hSo
            have hnil := nil64
            go_quiet (fail)
            go_wp2_with (refine wpList_min_i rfl _ _ _ rfl _ _ rfl rfl ?_; rintro mn hmn hmn1 hmn2)
            go_roundw
            case rel =>
              refine ⟨x + 1, by omega, ?_, ?_, by go_num, HTy.out.drewN'⟩
              · rw [HDs.out, if_pos HCx2.out, ← HFT.out.1]
                have := hmn
                show _ = Value.int .i64 ((min fr x : Nat) : Int)
                congr 1
                have h : mn = min (fr : Int) x := hmn
                omega
              · rw [HDs.out, if_pos HCx2.out]; go_num
            case measure => simp [intOf]; omega
          | some l =>
            obtain ⟨o, q, hso, hq, hql, hqb, hqo⟩ := HSy.out.oldSome hSo k hkH
            rw [← HWe.out] at hso
            have hxq : x < q.length := by rw [hql, ← HWe.out]; exact hxl
            obtain ⟨q0, q1, q2⟩ := hqb.lk x hxq
            obtain ⟨cq, hcq⟩ : ∃ cq, cq = q[x] := ⟨_, rfl⟩
            have HCx2 := Lib.hid (show cs.getD x false = !looksB cq ⟨tx, pa, at_, le, ri, st⟩ from by
              rw [HCx.out, hSo]
              simp [List.getD_eq_getElem?_getD, hq, hxq, hcq])
            rw [← hcq] at q0 q1 q2
            clear hSo hcq hq hql hxq
            obtain ⟨tx2, pa2, at2, le2, ri2, st2⟩ := cq
            simp only at q0 q1 q2
            have hqlt := hqb.lt
            have HQb := Lib.hid (And.intro hqb hqo)
            clear hqb hqo
            have hnil := nil64
            have hneq := lk_neq tx2 tx pa2 pa st2 st
            have hgu := lk_guard
            obtain ⟨bb, hbb⟩ : ∃ bb, bb = !(decide (tx2 = tx) && decide (pa2 = pa) && decide (st2 = st)) := ⟨_, rfl⟩
            rw [← hbb] at hneq
            have HCx3 := Lib.hid (show cs.getD x false = bb from by rw [HCx2.out, hbb]; rfl)
            clear hbb
            have hslt := HSy.out.scr.lt
            have HAft := Lib.hid (show ∀ w8, Stay [] W7.drew w8 → w8.cell? ⟨s, 1024 + k, none⟩ = some (.slice (some ⟨o, 0, none⟩) W W) ∧ w8.cell? ⟨o, x * 3, none⟩ = some (.string tx2) ∧ w8.cell? ⟨o, x * 3 + 1, none⟩ = some (.int .i8 pa2) ∧ w8.cell? ⟨o, x * 3 + 2, none⟩ = some (.int .u16 st2) ∧ Stay [] wr w8 from by
              intro w8 hst8
              exact ⟨(hst8.cell_ hslt (by simp)).trans hso, (hst8.cell_ hqlt (by simp)).trans q0, (hst8.cell_ hqlt (by simp)).trans q1, (hst8.cell_ hqlt (by simp)).trans q2, HTy2.out.trans ((Stay.drew _).trans hst8)⟩)
            clear hslt hqlt
            go_region_with (first
              | (go_at_call 42; refine (HOf.out _).mono ?_; rintro e w8 ⟨rfl, hst8⟩
                 obtain ⟨v0, v1, v2, v3, hst9⟩ := HAft.out w8 hst8
                 have HT8 := Lib.hid hst9
                 clear hst8 hst9))
            all_goals
              cases bb with
              | true =>
                go_wp2_with (refine wpList_min_i rfl _ _ _ rfl _ _ rfl rfl ?_; rintro mn hmn hmn1 hmn2)
                go_roundw
                case rel =>
                  refine ⟨x + 1, by omega, ?_, ?_, by go_num, HTx.out.trans (by first | exact HT8.out | exact HT8.out.drew' | exact HT8.out.drewN')⟩
                  · rw [HDs.out, if_pos HCx3.out, ← HFT.out.1]
                    show _ = Value.int .i64 ((min fr x : Nat) : Int)
                    congr 1
                    have h : mn = min (fr : Int) x := hmn
                    omega
                  · rw [HDs.out, if_pos HCx3.out]; go_num
                case measure => simp [intOf]; omega
              | false =>
                go_wp2_with fail
                go_roundw
                case rel =>
                  refine ⟨x + 1, by omega, ?_, ?_, by go_num, HTx.out.trans (by first | exact HT8.out | exact HT8.out.drew' | exact HT8.out.drewN')⟩
                  · rw [HDs.out, if_neg (by rw [HCx3.out]; exact Bool.false_ne_true), ← HFT.out.1]
                  · rw [HDs.out, if_neg (by rw [HCx3.out]; exact Bool.false_ne_true), ← HFT.out.2]
                case measure => simp [intOf]; omega
        · have hx' : x = W := by omega
          have hxl' : ¬ (x : Int) < W := by omega
          have HDx := Lib.hid (show S.dmRow k = dmK cs W x from by rw [hx']; exact HDm.out)
          have hbd := dmK_bd cs W x
          have hdl := dmK_lt cs W x
          obtain ⟨fr, hfr⟩ : ∃ fr, fr = (dmK cs W x).1 := ⟨_, rfl⟩
          obtain ⟨tt, htt⟩ : ∃ tt, tt = (dmK cs W x).2 := ⟨_, rfl⟩
          have HDr := Lib.hid (show S.dmRow k = (fr, tt) from by rw [HDx.out, hfr, htt])
          have HDg := Lib.hid (show S.dmg (k + 1) = S.dmg k ++ (if 0 < tt then [(fr, k, tt - fr)] else []) from by
            show S.dmg k ++ (if 0 < (S.dmRow k).2 then [((S.dmRow k).1, k, (S.dmRow k).2 - (S.dmRow k).1)] else []) = _
            rw [HDr.out])
          rw [← hfr, ← htt] at hbd hdl ⊢
          have htW : tt ≤ W := by omega
          clear hx' hfr htt
          have HO2 := Lib.hid (show ∀ cs, (wr.alloc (.cells cs 35)).ownsRow w.heap.size 35 4 (.slice A (S.dmg k).length c) (S.dmg k).length (rectCells (S.dmg k)) from fun cs => ((HTx.out.own HOk.out (by simp)).alloc _))
          have HT2 := Lib.hid (HTk.out.trans HTx.out)
          have hdn := dmg_len S k
          by_cases ht : 0 < tt
          · have ht' : (0 : Int) < tt := by omega
            have hft : fr < tt := hdl ht
            have HDg2 := Lib.hid (HDg.out.trans (by rw [if_pos ht]))
            have HN := Lib.hid (show ∀ (w : World) (cs : Array Value) (j : Nat) (u : Value), cs.toList[j]? = some u → (w.alloc (.cells cs 35)).cell? ((⟨w.heap.size, 0, none⟩ : Addr).add j) = some u from fun w cs j u h => by
              rw [add_lit', Nat.zero_add]
              exact box_cell w cs 35 j u (by simpa using h))
            obtain ⟨i35, hi35, hz350, hz351, hz352⟩ := info_parts info35
            have HI := Lib.hid (And.intro hi35 (And.intro hz350 (And.intro hz351 hz352)))
            clear hi35 hz350 hz351 hz352 hbd hdl
            have hm1 : (S.dmg k).length + 1 ≤ maxLen := by simp only [maxLen]; omega
            have hm2 : ((S.dmg k).length + 1) * 32 ≤ 140737488355328 := by omega
            have HM := Lib.hid (And.intro hm1 (And.intro hm2 (show w.heap.size ≤ wr.heap.size + 1 from by have := HT2.out.size; omega)))
            clear hm1 hm2
            obtain ⟨dn, hdne⟩ : ∃ dn, dn = (S.dmg k).length := ⟨_, rfl⟩
            have HDn := Lib.hid hdne
            rw [← hdne] at HO2 HM hdn ⊢
            clear hdne
            go_wp2_with (refine wpList_append_z rfl (.tmp 64) (.tmp 71) 42 rfl w.heap.size 35 i35 zero35 4 32 Try.underlying42 HI.out.1 HI.out.2.1 HI.out.2.2.1 HI.out.2.2.2 rfl (by omega) (.slice A dn c) dn _ rfl (HO2.out _) ⟨wr.heap.size, 0, none⟩ 1 1 rfl [.int .i64 fr, .int .i64 k, .int .i64 ((tt : Int) - fr), .int .i64 1] rfl (HN.out _ _) (by simp [Value.oneCell']) HM.out.1 HM.out.2.1 (by rw [size_alloc']; exact HM.out.2.2) ?_; intro A' c' w5 ho5 hg5 hv5)
            have HG5 := Lib.hid (And.intro ho5 (And.intro hg5 hv5))
            clear ho5 hg5 hv5
            go_roundw
            case rel =>
              obtain ⟨ho5, hg5, hv5⟩ := HG5.out
              refine ⟨k + 1, A', c', by omega, ?_, by go_num, ?_, ?_⟩
              · rw [HDg2.out, List.length_append, ← HDn.out]; rfl
              · show World.ownsRow _ _ _ _ _ _ _
                rw [HDg2.out, List.length_append, ← HDn.out]
                have e : rectCells (S.dmg k ++ [(fr, k, tt - fr)]) = rectCells (S.dmg k) ++ [.int .i64 fr, .int .i64 k, .int .i64 ((tt : Int) - fr), .int .i64 1] := by
                  unfold rectCells
                  rw [List.flatMap_append]
                  simp
                  omega
                rw [e]
                exact ho5
              · refine (HT2.out.alloc' (o := _)).new_ hg5 (fun g hg => .inr ?_)
                have := ((HO2.out #[]).lt g hg).1
                exact this
            case measure => simp [intOf]; omega
          · have ht' : ¬ (0 : Int) < tt := by omega
            have HDg2 := Lib.hid (show S.dmg (k + 1) = S.dmg k from HDg.out.trans (by rw [if_neg ht, List.append_nil]))
            go_wp2_with fail
            go_roundw
            case rel =>
              refine ⟨k + 1, A, c, by omega, ?_, by go_num, ?_, HT2.out⟩
              · rw [HDg2.out]
              · show World.ownsRow _ _ _ _ _ _ _
                rw [HDg2.out]
                exact HTx.out.own HOk.out (by simp)
            case measure => simp [intOf]; omega
    · have hk' : k = H := by omega
      have hlt' : ¬ (k : Int) < H := by omega
      subst hk'
      go_wp2_with fail
      exact bodyPost_ret (v := .slice A (S.dmg k).length c) (by simp [results, Try.results17, go_sem]) rfl ⟨A, c, rfl, HOk.out, HTk.out.toBelow (Nat.le_refl _) (by simp)⟩
end Go.Proofs.Ytohkjopdoejedaa
