/- the document's answer: stretches. -/
import Derived.Test.YtikgjnfimagpjaaLeq5
import Derived.Test.YtikgjnfimagpjaaLrs1
import Derived.Test.YtikgjnfimagpjaaLrunsw
import Derived.Deep.RegionWith
import Derived.Deep.DeepCutAuto
namespace Go.Proofs.Ytikgjnfimagpjaa
open Go.RowKit
theorem own_made (w : World) (e : TypeId) (B : Nat) (hB : B ≤ w.heap.size) (u : Value) : Own (w.alloc (.cells #[u] e)) e B (.slice (some ⟨w.heap.size, 0, none⟩) 1 1) [u] :=
  ⟨rfl, .inr ⟨w.heap.size, 1, #[u], rfl, hB, heap_alloc_new w _, Nat.le_refl _, by unfold maxLen; omega, rfl, rfl⟩⟩
/-- a row more -/
theorem Mem.more_row {w w' : World} {B : Nat} {F : List Nat} {ov ov' v : Value} {rvs : List Value} {rows : List (List Int)} {zs : List Int} (h : Mem w B F ov rvs rows) (hv : Own w 3 B v (ints .i64 zs))
    (hvo : ∀ x, v.ownBlock = some x → ov.ownBlock ≠ some x ∧ x ∉ F ∧ ∀ (j : Nat) (u : Value), rvs[j]? = some u → u.ownBlock ≠ some x) (ho : Own w' 25 B ov' (rvs ++ [v])) (ha : Appended w w' ov ov') (hF : ∀ g ∈ F, g < w.heap.size) :
    Mem w' B F ov' (rvs ++ [v]) (rows ++ [zs]) := by
  obtain ⟨hs, hvv⟩ := appended_stay ha
  have hold : ∀ (j : Nat) (u : Value), (rvs ++ [v])[j]? = some u → (rvs[j]? = some u ∧ j < rvs.length) ∨ (j = rvs.length ∧ u = v) := by
    intro j u hj
    by_cases hl : j < rvs.length
    · rw [List.getElem?_append_left hl] at hj
      exact .inl ⟨hj, hl⟩
    · rw [List.getElem?_append_right (by omega)] at hj
      have := (List.getElem?_eq_some_iff.1 hj).1
      simp at this
      have e : j = rvs.length := by omega
      subst e
      simp at hj
      exact .inr ⟨rfl, hj.symm⟩
  have far1 : ∀ x, (∃ y, y < w.heap.size ∧ y = x) → ov.ownBlock ≠ some x → ov'.ownBlock ≠ some x := fun x hx hne e => by
    rcases hvv with hv | ⟨g, hg, hsz⟩
    · exact hne (by rw [← hv]; exact e)
    · rw [hg] at e
      injection e with e
      obtain ⟨y, hy, rfl⟩ := hx
      omega
  refine ⟨ho, by simp [h.len], fun j u hj => ?_, fun j u hj x hx => ?_, fun i j u y hne hi hj x hx => ?_, fun x hx => ?_⟩
  · rcases hold j u hj with ⟨hj, hl⟩ | ⟨rfl, rfl⟩
    · have e : (rows ++ [zs]).getD j [] = rows.getD j [] := by
        simp only [List.getD_eq_getElem?_getD]
        rw [List.getElem?_append_left (by rw [← h.len]; exact hl)]
      rw [e]
      exact Stay.own hs (h.row j u hj) fun x hx hg => by
        have : ov.ownBlock = some x := by simpa using hg
        exact (h.far j u hj x hx).1 this
    · have e : (rows ++ [zs]).getD rvs.length [] = zs := by rw [h.len]; simp
      rw [e]
      exact Stay.own hs hv fun x hx hg => by
        have : ov.ownBlock = some x := by simpa using hg
        exact (hvo x hx).1 this
  · rcases hold j u hj with ⟨hj, hl⟩ | ⟨rfl, rfl⟩
    · have hf := h.far j u hj x hx
      exact ⟨far1 x ⟨x, ((h.row j u hj).lt x hx).2, rfl⟩ hf.1, hf.2⟩
    · have hf := hvo x hx
      exact ⟨far1 x ⟨x, (hv.lt x hx).2, rfl⟩ hf.1, hf.2.1⟩
  · rcases hold i u hi with ⟨hi2, hl⟩ | ⟨hi2, hu⟩
    · rcases hold j y hj with ⟨hj2, hl'⟩ | ⟨hj2, hy⟩
      · exact h.apart i j u y hne hi2 hj2 x hx
      · intro e
        rw [hy] at e
        exact (hvo x e).2.2 i u hi2 hx
    · rcases hold j y hj with ⟨hj2, hl'⟩ | ⟨hj2, hy⟩
      · rw [hu] at hx
        exact (hvo x hx).2.2 j y hj2
      · exact absurd (hi2.trans hj2.symm) hne
  · rcases hvv with hv | ⟨g, hg, hsz⟩
    · exact h.ofar x (by rw [← hv]; exact hx)
    · rw [hx] at hg
      injection hg with hg
      intro hm
      have := hF x hm
      omega
/-- what holds of the stretches of the first k places -/
structure StI (k : Nat) (q : List (List Int) × Bool) : Prop where
  len : q.1.length ≤ k
  ne : ∀ a, a < q.1.length → 0 < (q.1.getD a []).length
  bd : ∀ a, ∀ x ∈ q.1.getD a [], 0 ≤ x ∧ x < (k : Int)
  each : ∀ a, (q.1.getD a []).length ≤ k
  beg : q.2 = true → 0 < q.1.length
theorem StI.step {k : Nat} {q : List (List Int) × Bool} (h : StI k q) (d : Int) (lv : List Int) : StI (k + 1) (strStep d lv k q) := by
  unfold strStep
  split
  · exact ⟨by have := h.len; omega, h.ne, fun a x hx => by have := h.bd a x hx; omega, fun a => by have := h.each a; omega, h.beg⟩
  · split
    · rename_i hc
      have hl := h.beg hc.1
      have g : ∀ a, (q.1.set (q.1.length - 1) (q.1.getD (q.1.length - 1) [] ++ [(k : Int)])).getD a [] = if a = q.1.length - 1 then q.1.getD (q.1.length - 1) [] ++ [(k : Int)] else q.1.getD a [] := fun a => gset _ _ _ _ (by omega)
      refine ⟨by simp only [List.length_set]; have := h.len; omega, fun a ha => ?_, fun a x hx => ?_, fun a => ?_, fun _ => by simpa using hl⟩
      · simp only [List.length_set] at ha
        simp only [g]
        split
        · simp
        · exact h.ne a ha
      · simp only [g] at hx
        split at hx
        · rcases List.mem_append.1 hx with hx | hx
          · have := h.bd _ x hx; omega
          · simp at hx; omega
        · have := h.bd a x hx; omega
      · simp only [g]
        split
        · have := h.each (q.1.length - 1)
          simp only [List.length_append, List.length_singleton]; omega
        · have := h.each a; omega
    · have g : ∀ a, (q.1 ++ [[(k : Int)]]).getD a [] = if a = q.1.length then [(k : Int)] else q.1.getD a [] := fun a => gsnoc _ _ _
      refine ⟨by simp only [List.length_append, List.length_singleton]; have := h.len; omega, fun a ha => ?_, fun a x hx => ?_, fun a => ?_, fun _ => by simp⟩
      · simp only [List.length_append, List.length_singleton] at ha
        simp only [g]
        split
        · simp
        · exact h.ne a (by omega)
      · simp only [g] at hx
        split at hx
        · simp at hx; omega
        · have := h.bd a x hx; omega
      · simp only [g]
        split
        · simp
        · have := h.each a; omega
theorem sto_inv (zs lv : List Int) : ∀ k, StI k (sto zs lv k)
  | 0 => ⟨by simp [sto], by simp [sto], by simp [sto], by simp [sto], by simp [sto]⟩
  | k + 1 => (sto_inv zs lv k).step _ lv
set_option maxRecDepth 20000 in
set_option maxHeartbeats 8000000 in
theorem stretches_any (zs lv : List Int) (n : Nat) (A A2 : Option Addr) (c c2 : Nat) (w : World) (hn : n ≤ zs.length) (hn2 : n ≤ lv.length) (hl : n < 1048576)
    (h : Sl w w.heap.size A (ints .i8 (clsN zs n))) (h2 : Sl w w.heap.size A2 (ints .u8 lv)) :
    Calls Try.prog 49 #[.slice A n c, .slice A2 n c2] w fun e w' => ∃ OA oc rvs, e = .returned (.slice OA (sto zs lv n).1.length oc) ∧ Mem w' w.heap.size [] (.slice OA (sto zs lv n).1.length oc) rvs (sto zs lv n).1 ∧ Below w.heap.size w w' := by
  obtain ⟨i3, hi3, hz30, hz31, hz32⟩ := info_parts info3
  obtain ⟨i25, hi25, hz250, hz251, hz252⟩ := info_parts info25
  have HS := Lib.hid h
  have HS2 := Lib.hid h2
  have HCN := Lib.hid (clsN_length zs n hn)
  clear h h2
  go_enter Try.func49, Try.ntmps49
  go_wp2_with fail
  go_loopw [5, 6, 7] (fun ov bv iv wr => ∃ (k : Nat) (OA : Option Addr) (oc : Nat) (rvs : List Value), k ≤ n ∧ iv = .int .i64 k ∧ ov = .slice OA (sto zs lv k).1.length oc ∧ bv = .bool (sto zs lv k).2 ∧ Hid (Mem wr w.heap.size [] (.slice OA (sto zs lv k).1.length oc) rvs (sto zs lv k).1) ∧ Hid (Below w.heap.size w wr)) (fun _ _ i _ => n - (intOf i).toNat)
  case atStart => exact ⟨0, none, 0, [], by omega, rfl, rfl, rfl, Mem.start _ _ _, Below.refl _ _⟩
  case round =>
    obtain ⟨k, OA, oc, rvs, hk, rfl, rfl, rfl, HM, HB⟩ := hrel
    by_cases hlt : k < n
    · have hlt' : (k : Int) < n := by omega
      have hk0 : (0 : Int) ≤ k := by omega
      have HI := Lib.hid (sto_inv zs lv k)
      have HX := Lib.hid (show sto zs lv (k + 1) = strStep (clsL (zs.getD k 0)) lv k (sto zs lv k) from rfl)
      obtain ⟨ad, rfl, hadb, hcell⟩ := sl_at (HS.out.below HB.out) (i := k) (by rw [HCN.out]; exact hlt)
      rw [clsN_at zs n k hlt hn] at hcell
      obtain ⟨d, hd⟩ : ∃ d, d = clsL (zs.getD k 0) := ⟨_, rfl⟩
      rw [← hd] at hcell HX
      have hdd := Lib.hid hd.symm
      clear hd
      have hcell0 := Lib.hid (show ∀ W, Below w.heap.size w W → W.cell? (ad.add k) = some (.int .i8 d) from fun W hW => by
        obtain ⟨ad', had', hlt', hc'⟩ := sl_at HS.out (i := k) (by rw [HCN.out]; exact hlt)
        injection had' with had'
        subst had'
        rw [clsN_at zs n k hlt hn] at hc'
        rw [hW.cell (by rw [add_block]; exact hlt'), hc', hdd.out])
      obtain ⟨q, hq⟩ : ∃ q, q = sto zs lv k := ⟨_, rfl⟩
      rw [← hq] at HM HI HX ⊢
      clear hq
      obtain ⟨S, bg⟩ := q
      have HO := Lib.hid (fun W => out_any d W)
      obtain ⟨lb, hlb⟩ : ∃ lb, lb = leftB d := ⟨_, rfl⟩
      have HX2 := Lib.hid (show sto zs lv (k + 1) = if lb = true then (S, bg) else (if bg = true ∧ lv.getD (headL (S.getD (S.length - 1) [])).toNat 0 = lv.getD k 0 then S.set (S.length - 1) (S.getD (S.length - 1) [] ++ [(k : Int)]) else S ++ [[(k : Int)]], !(d == 10)) from by rw [HX.out, hlb]; rfl)
      rw [← hlb] at HO
      clear hlb HX
      simp only at HM ⊢
      cases lb with
      | true =>
        have HE := Lib.hid (HX2.out.trans (if_pos rfl))
        clear HX2
        go_wp2_with (first | (go_at_call 65; refine (HO.out _).mono ?_; rintro e w' ⟨rfl, rfl⟩))
        go_roundw
        case rel => exact ⟨k + 1, OA, oc, rvs, by omega, by go_num, by rw [HE.out], by rw [HE.out], by show Mem _ _ _ _ _ _; rw [HE.out]; exact HM.out, HB.out⟩
        case measure => simp [intOf]; omega
      | false =>
        have HE := Lib.hid (HX2.out.trans (if_neg (by simp)))
        clear HX2
        obtain ⟨S2, hS2⟩ : ∃ S2, S2 = (if bg = true ∧ lv.getD (headL (S.getD (S.length - 1) [])).toNat 0 = lv.getD k 0 then S.set (S.length - 1) (S.getD (S.length - 1) [] ++ [(k : Int)]) else S ++ [[(k : Int)]]) := ⟨_, rfl⟩
        rw [← hS2] at HE
        have HS2' := Lib.hid hS2
        clear hS2
        have hSk := HI.out.len
        simp only at hSk
        obtain ⟨cb, hcb⟩ : ∃ cb, cb = decide (bg = true ∧ lv.getD (headL (S.getD (S.length - 1) [])).toNat 0 = lv.getD k 0) := ⟨_, rfl⟩
        have HCB := Lib.hid hcb
        clear hcb
        go_upto_region 8 with (first | (go_at_call 65; refine (HO.out _).mono ?_; rintro e w' ⟨rfl, rfl⟩))
        go_cut [39] (fun cv wx => cv = .bool cb ∧ Stay [] wr wx)
        case first =>
          cases bg with
          | false =>
            go_wp2_with fail
            go_quiet (fail)
            go_wp2_with fail
            go_meet
            exact ⟨by rw [HCB.out]; simp, Stay.drewN _ _⟩
          | true =>
            have hSp := HI.out.beg rfl
            simp only at hSp
            obtain ⟨m, hm⟩ : ∃ m, S.length = m + 1 := ⟨S.length - 1, by omega⟩
            obtain ⟨g, RA, rl, rc, rfl, -, hcO, -, -, hrl, hoR, -⟩ := HM.out.at_ m (by omega)
            have hrp := HI.out.ne m (by simp only; omega)
            have hbd := HI.out.bd m
            simp only at hrp hbd
            obtain ⟨-, gr, rfl, -, -⟩ := hoR.form (by rw [ints_length]; omega)
            have hc0 := own_at hoR (i := 0) hrp
            have hh := hbd _ (headL_mem _ (List.length_pos_iff.1 hrp))
            obtain ⟨f, hf⟩ : ∃ f : Nat, headL (S.getD m []) = f := ⟨(headL (S.getD m [])).toNat, by omega⟩
            have hf' : (S.getD m []).getD 0 0 = f := hf
            rw [hf'] at hc0
            obtain ⟨ad2, rfl, had2, hx1⟩ := sl_at (HS2.out.below HB.out) (i := f) (by omega)
            obtain ⟨ad3, had3, -, hx2⟩ := sl_at (HS2.out.below HB.out) (i := k) (by omega)
            injection had3 with had3
            subst had3
            have HG := Lib.hid (show decide ((true : Bool) = true ∧ lv.getD (headL (S.getD (S.length - 1) [])).toNat 0 = lv.getD k 0) = (lv.getD f 0 == lv.getD k 0) from by
              rw [hm, Nat.add_sub_cancel, hf, Int.toNat_natCast]
              rw [Bool.eq_iff_iff]; simp)
            have HG2 := Lib.hid (HCB.out.trans HG.out)
            clear HG
            obtain ⟨x, hx⟩ : ∃ x, x = lv.getD f 0 := ⟨_, rfl⟩
            obtain ⟨y, hy⟩ : ∃ y, y = lv.getD k 0 := ⟨_, rfl⟩
            rw [← hx] at hx1 HG2
            rw [← hy] at hx2 HG2
            have hms : (S.length : Int) - 1 = m := by omega
            have hmw : IntKind.i64.wrap (m : Int) = m := by simp [IntKind.wrap, IntKind.signed, IntKind.bits]; omega
            have hm1 : (m : Int) < S.length := by omega
            have hm0 : (0 : Int) ≤ m := by omega
            have hmb : (m : Int) ≤ 9223372036854775806 := by omega
            have hrl1 : (0 : Int) < rl := by omega
            have hfn : (f : Int) < n := by omega
            have hf0 : (0 : Int) ≤ f := by omega
            clear hx hy hf hf' hm hrl hoR hh hbd hrp had2 hSp
            go_wp2_with fail
            go_quiet (fail)
            go_wp2_with fail
            go_meet
            exact ⟨by rw [HG2.out], Stay.drewN _ _⟩
        case rest =>
          obtain ⟨rfl, hst⟩ := hcut
          have hb0 := HB.out.trans (hst.toBelow (B := w.heap.size) HB.out.size (by simp))
          have HM1 := Lib.hid (HM.out.keep (G := []) hst (by simp))
          have HB1 := Lib.hid hb0
          have hsz := hb0.size
          clear hst hb0 HM HB
          have hfin : ∀ e : Bool, e = (d == 10) → sto zs lv (k + 1) = (S2, !e) := fun e he => by rw [he]; exact HE.out
          have HFin := Lib.hid hfin
          clear hfin
          cases cb with
          | true =>
            have hct := of_decide_eq_true HCB.out.symm
            have hSp := HI.out.beg hct.1
            simp only at hSp
            have HS3 := Lib.hid (HS2'.out.trans (if_pos hct))
            obtain ⟨m, hm⟩ : ∃ m, S.length = m + 1 := ⟨S.length - 1, by omega⟩
            obtain ⟨g, RA, rl, rc, rfl, hv, hcO, hfO, hgl, hrl, hoR, -⟩ := HM1.out.at_ m (by omega)
            have hea := HI.out.each m
            simp only at hea
            have HV := Lib.hid hv
            have HRO := Lib.hid hoR
            have HRL := Lib.hid (show (ints .i64 (S.getD m [])).length = rl by rw [ints_length, hrl])
            have hrk : rl ≤ k := by omega
            have HS4 := Lib.hid (show S2 = S.set m (S.getD m [] ++ [(k : Int)]) from by rw [HS3.out, hm, Nat.add_sub_cancel])
            have hms : (S.length : Int) - 1 = m := by omega
            have hm1 : (m : Int) < S.length := by omega
            have hm0 : (0 : Int) ≤ m := by omega
            have hBg := (HM1.out.own.lt g rfl).1
            clear hct hSp hm hv hoR hrl hea HCB HS2' HS3
            cases hd10 : (d == 10) with
            | true =>
              have HF := Lib.hid (HFin.out _ hd10.symm)
              have HD := Lib.hid hd10
              go_wp2_with (first
                | (at_builtin; refine wpList_append_sl2 _ rfl (.tmp 47) (.tmp 49) 25 rfl w.heap.size 3 i3 _ 8 Try.underlying25 hi3 hz30 hz31 hz32 rfl (.slice RA rl rc) rl _ HRL.out rfl (HRO.out.alloc _) _ _ _ 1 [.int .i64 k] rfl rfl (sl_one' _ _ _ _ (by simp)) (one_int _ _) (by unfold maxLen; omega) (by omega) (by rw [size_alloc']; omega) ?_; intro RA2 rc2 w8 ho8 ha8
                   obtain ⟨hc8, hf8, hg8⟩ := (HM1.out.keep (G := []) (Stay.alloc _ _) (by simp)).after HV.out ha8
                   have HB8 := Lib.hid ((HB1.out.alloc hsz (.cells #[.int .i64 k] 3)).trans (appended_below ha8 (by rw [size_alloc']; omega) (fun g hg => (HRO.out.lt g hg).1)))
                   have HM8 := Lib.hid ((HM1.out.keep (G := []) (Stay.alloc _ _) (by simp)).put HV.out (by rw [ints_snoc] at ho8; exact ho8) ha8 (by simp))
                   have HB9 := Lib.hid (show Below w.heap.size w (w8.setCell ⟨g, m, none⟩ (.slice RA2 (rl + 1) rc2)) from HB8.out.setCell (p := ⟨g, m, none⟩) hBg _)
                   have hcell9 := hcell0.out _ HB9.out
                   clear ho8 ha8))
              go_roundw
              case rel => exact ⟨k + 1, some ⟨g, 0, none⟩, oc, rvs.set m _, by omega, by go_num, by rw [HF.out, HS4.out]; simp, by rw [HF.out]; show Value.bool (!(d == 10)) = _; rw [HD.out], by show Mem _ _ _ _ _ _; rw [HF.out, HS4.out]; simp only [List.length_set]; exact HM8.out, HB9.out⟩
              case measure => simp [intOf]; omega
            | false =>
              have HF := Lib.hid (HFin.out _ hd10.symm)
              have HD := Lib.hid hd10
              go_wp2_with (first
                | (at_builtin; refine wpList_append_sl2 _ rfl (.tmp 47) (.tmp 49) 25 rfl w.heap.size 3 i3 _ 8 Try.underlying25 hi3 hz30 hz31 hz32 rfl (.slice RA rl rc) rl _ HRL.out rfl (HRO.out.alloc _) _ _ _ 1 [.int .i64 k] rfl rfl (sl_one' _ _ _ _ (by simp)) (one_int _ _) (by unfold maxLen; omega) (by omega) (by rw [size_alloc']; omega) ?_; intro RA2 rc2 w8 ho8 ha8
                   obtain ⟨hc8, hf8, hg8⟩ := (HM1.out.keep (G := []) (Stay.alloc _ _) (by simp)).after HV.out ha8
                   have HB8 := Lib.hid ((HB1.out.alloc hsz (.cells #[.int .i64 k] 3)).trans (appended_below ha8 (by rw [size_alloc']; omega) (fun g hg => (HRO.out.lt g hg).1)))
                   have HM8 := Lib.hid ((HM1.out.keep (G := []) (Stay.alloc _ _) (by simp)).put HV.out (by rw [ints_snoc] at ho8; exact ho8) ha8 (by simp))
                   have HB9 := Lib.hid (show Below w.heap.size w (w8.setCell ⟨g, m, none⟩ (.slice RA2 (rl + 1) rc2)) from HB8.out.setCell (p := ⟨g, m, none⟩) hBg _)
                   have hcell9 := hcell0.out _ HB9.out
                   clear ho8 ha8))
              go_roundw
              case rel => exact ⟨k + 1, some ⟨g, 0, none⟩, oc, rvs.set m _, by omega, by go_num, by rw [HF.out, HS4.out]; simp, by rw [HF.out]; show Value.bool (!(d == 10)) = _; rw [HD.out], by show Mem _ _ _ _ _ _; rw [HF.out, HS4.out]; simp only [List.length_set]; exact HM8.out, HB9.out⟩
              case measure => simp [intOf]; omega
          | false =>
            have hct := of_decide_eq_false HCB.out.symm
            have HS3 := Lib.hid (HS2'.out.trans (if_neg hct))
            clear hct HCB HS2'
            cases hd10 : (d == 10) with
            | true =>
              have HF := Lib.hid (HFin.out _ hd10.symm)
              have HD := Lib.hid hd10
              go_wp2_with (first
                | (at_builtin; refine wpList_append_sl2 _ rfl (.tmp 52) (.tmp 55) 37 rfl w.heap.size 25 i25 _ 24 Try.underlying37 hi25 hz250 hz251 hz252 rfl (.slice OA S.length oc) S.length rvs HM1.out.len rfl ((HM1.out.own.alloc _).alloc _) _ _ _ 1 [.slice (some ⟨wc.heap.size, 0, none⟩) 1 1] rfl rfl (sl_one' _ _ _ _ (by simp)) (by simp [Value.oneCell']) (by unfold maxLen; omega) (by omega) (by rw [size_alloc', size_alloc']; omega) ?_; intro OA2 oc2 w8 ho8 ha8
                   have HM8 := Lib.hid (Mem.more_row (zs := [(k : Int)]) ((HM1.out.keep (G := []) (Stay.alloc wc (.cells #[.int .i64 k] 3)) (by simp)).keep (G := []) (Stay.alloc _ _) (by simp)) ((own_made wc 3 w.heap.size hsz (.int .i64 k)).alloc _)
                     (fun x hx => by
                       have hxe : x = wc.heap.size := by simpa [Value.ownBlock] using hx.symm
                       refine ⟨fun e => ?_, by simp, fun j u hj e => ?_⟩
                       · have := (HM1.out.own.lt x e).2; omega
                       · have := ((HM1.out.row j u hj).lt x e).2; omega) ho8 ha8 (by simp))
                   have HB9 := Lib.hid (((HB1.out.alloc hsz (.cells #[.int .i64 k] 3)).alloc (by rw [size_alloc']; omega) (.cells #[.slice (some ⟨wc.heap.size, 0, none⟩) 1 1] 25)).trans (appended_below ha8 (by rw [size_alloc', size_alloc']; omega) (fun g hg => (HM1.out.own.lt g hg).1)))
                   have hcell9 := hcell0.out _ HB9.out
                   clear ho8 ha8))
              go_roundw
              case rel => exact ⟨k + 1, OA2, oc2, _, by omega, by go_num, by rw [HF.out, HS3.out]; simp, by rw [HF.out]; show Value.bool (!(d == 10)) = _; rw [HD.out], by show Mem _ _ _ _ _ _; rw [HF.out, HS3.out]; simp only [List.length_append, List.length_singleton]; exact HM8.out, HB9.out⟩
              case measure => simp [intOf]; omega
            | false =>
              have HF := Lib.hid (HFin.out _ hd10.symm)
              have HD := Lib.hid hd10
              go_wp2_with (first
                | (at_builtin; refine wpList_append_sl2 _ rfl (.tmp 52) (.tmp 55) 37 rfl w.heap.size 25 i25 _ 24 Try.underlying37 hi25 hz250 hz251 hz252 rfl (.slice OA S.length oc) S.length rvs HM1.out.len rfl ((HM1.out.own.alloc _).alloc _) _ _ _ 1 [.slice (some ⟨wc.heap.size, 0, none⟩) 1 1] rfl rfl (sl_one' _ _ _ _ (by simp)) (by simp [Value.oneCell']) (by unfold maxLen; omega) (by omega) (by rw [size_alloc', size_alloc']; omega) ?_; intro OA2 oc2 w8 ho8 ha8
                   have HM8 := Lib.hid (Mem.more_row (zs := [(k : Int)]) ((HM1.out.keep (G := []) (Stay.alloc wc (.cells #[.int .i64 k] 3)) (by simp)).keep (G := []) (Stay.alloc _ _) (by simp)) ((own_made wc 3 w.heap.size hsz (.int .i64 k)).alloc _)
                     (fun x hx => by
                       have hxe : x = wc.heap.size := by simpa [Value.ownBlock] using hx.symm
                       refine ⟨fun e => ?_, by simp, fun j u hj e => ?_⟩
                       · have := (HM1.out.own.lt x e).2; omega
                       · have := ((HM1.out.row j u hj).lt x e).2; omega) ho8 ha8 (by simp))
                   have HB9 := Lib.hid (((HB1.out.alloc hsz (.cells #[.int .i64 k] 3)).alloc (by rw [size_alloc']; omega) (.cells #[.slice (some ⟨wc.heap.size, 0, none⟩) 1 1] 25)).trans (appended_below ha8 (by rw [size_alloc', size_alloc']; omega) (fun g hg => (HM1.out.own.lt g hg).1)))
                   have hcell9 := hcell0.out _ HB9.out
                   clear ho8 ha8))
              go_roundw
              case rel => exact ⟨k + 1, OA2, oc2, _, by omega, by go_num, by rw [HF.out, HS3.out]; simp, by rw [HF.out]; show Value.bool (!(d == 10)) = _; rw [HD.out], by show Mem _ _ _ _ _ _; rw [HF.out, HS3.out]; simp only [List.length_append, List.length_singleton]; exact HM8.out, HB9.out⟩
              case measure => simp [intOf]; omega
    · have hk' : k = n := by omega
      subst hk'
      go_wp2_with fail
      go_ret
      exact ⟨OA, oc, rvs, rfl, HM.out, HB.out⟩
end Go.Proofs.Ytikgjnfimagpjaa
