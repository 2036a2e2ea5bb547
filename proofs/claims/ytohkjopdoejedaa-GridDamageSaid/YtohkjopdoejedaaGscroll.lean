/- package grid: Scroll. -/
import Derived.Test.YtohkjopdoejedaaGmove
import Derived.Deep.RegionHeld3
namespace Go.Proofs.Ytohkjopdoejedaa
open Go.RowKit
def mvUp (a b c d : Nat) (n : Int) (rows : List (List Ce)) : Nat → List (List Ce)
  | 0 => rows
  | j + 1 => mvRow a b c d n (mvUp a b c d n rows j) (c + j)
def mvDn (a b c d : Nat) (n : Int) (rows : List (List Ce)) : Nat → List (List Ce)
  | 0 => rows
  | j + 1 => mvRow a b c d n (mvDn a b c d n rows j) (d - 1 - j)
def scrollR (a b c d : Nat) (n : Int) (rows : List (List Ce)) : List (List Ce) :=
  if 0 < n then mvUp a b c d n (mapR (loseL a b) c d rows) (d - c) else mvDn a b c d n (mapR (loseL a b) c d rows) (d - c)
/-- Scroll -/
def Sc.scroll (S : Sc) (x y wd hg n : Int) : Sc :=
  if n = 0 then S else { S with rows := scrollR (spanL x wd S.W).1.toNat (spanL x wd S.W).2.toNat (spanL y hg S.H).1.toNat (spanL y hg S.H).2.toNat n S.rows }
theorem two_boxes (V : World) (u v : Value) : (((V.alloc (.cells #[u] 3)).alloc (.cells #[v] 3)).drew).cell? ⟨V.heap.size, 0, none⟩ = some u ∧ (((V.alloc (.cells #[u] 3)).alloc (.cells #[v] 3)).drew).cell? ⟨V.heap.size + 1, 0, none⟩ = some v ∧
    (((V.alloc (.cells #[u] 3)).alloc (.cells #[v] 3)).drew).heap.size = V.heap.size + 2 ∧ Stay [] V (((V.alloc (.cells #[u] 3)).alloc (.cells #[v] 3)).drew) := by
  have h1 := box_cell (V.alloc (.cells #[u] 3)) #[v] 3 0 v rfl
  rw [size_alloc'] at h1
  refine ⟨?_, h1, ?_, (((Stay.refl _ _).alloc').alloc').drew'⟩
  · exact (((Stay.refl [] _).alloc').drew'.cell_ (a := ⟨V.heap.size, 0, none⟩) (by simp) (by simp)).trans (box_cell V #[u] 3 0 u rfl)
  · show ((V.alloc (.cells #[u] 3)).alloc (.cells #[v] 3)).heap.size = _
    rw [size_alloc', size_alloc']
theorem boxes_meet (V wx : World) (u v : Value) (B b6 b7 : Nat) (hB : V.heap.size = B) (hw : (wx = ((V.alloc (.cells #[u] 3)).alloc (.cells #[v] 3)).drew ∧ b6 = V.heap.size ∧ b7 = V.heap.size + 1) ∨ (wx = ((V.alloc (.cells #[v] 3)).alloc (.cells #[u] 3)).drew ∧ b6 = V.heap.size + 1 ∧ b7 = V.heap.size)) :
    (b6 ≠ b7 ∧ B ≤ b6 ∧ B ≤ b7 ∧ wx.heap.size = B + 2 ∧ b6 < B + 2 ∧ b7 < B + 2) ∧ wx.cell? ⟨b6, 0, none⟩ = some u ∧ wx.cell? ⟨b7, 0, none⟩ = some v ∧ Stay [] V wx := by
  rcases hw with ⟨rfl, rfl, rfl⟩ | ⟨rfl, rfl, rfl⟩
  · obtain ⟨h1, h2, h3, h4⟩ := two_boxes V u v
    exact ⟨by omega, h1, h2, h4⟩
  · obtain ⟨h1, h2, h3, h4⟩ := two_boxes V v u
    exact ⟨by omega, h2, h1, h4⟩
set_option maxRecDepth 20000 in
set_option maxHeartbeats 4000000 in
theorem scroll_any (s base : Nat) (os : List Nat) (S : Sc) (x y wd hg n : Int) (w : World) (hx : I64 x) (hy : I64 y) (hw : I64 wd) (hh : I64 hg) (hn : I64 n) (h : Sm w s base os S) :
    Calls Try.prog 20 #[.pointer (some ⟨s, 0, none⟩), .agg #[.int .i64 x, .int .i64 y, .int .i64 wd, .int .i64 hg], .int .i64 n] w fun e w' => e = .returned (.tuple #[]) ∧ Sm w' s base os (S.scroll x y wd hg n) ∧ Stay (foot s base S.H) w w' := by
  obtain ⟨a, b, ha, hb, hab, hbw, ha', hb'⟩ := span_nat x wd S.W
  obtain ⟨c, d, hc, hd, hcd, hdh, hc', hd'⟩ := span_nat y hg S.H
  have HSp1 := Lib.hid (fun W => span_any x wd S.W W hx hw ⟨by omega, by have := h.ok.w; omega⟩)
  have HSp2 := Lib.hid (fun W => span_any y hg S.H W hy hh ⟨by omega, by have := h.ok.h; omega⟩)
  rw [ha, hb] at HSp1
  rw [hc, hd] at HSp2
  have HSc := Lib.hid (show S.scroll x y wd hg n = if n = 0 then S else { S with rows := scrollR a b c d n S.rows } from by unfold Sc.scroll; rw [ha', hb', hc', hd'])
  have HS0 := Lib.hid h
  have hW0 := h.ok.w
  have hH0 := h.ok.h
  obtain ⟨W, hWe⟩ : ∃ W, W = S.W := ⟨_, rfl⟩
  obtain ⟨H, hHe⟩ : ∃ H, H = S.H := ⟨_, rfl⟩
  have HWe := Lib.hid hWe
  have HHe := Lib.hid hHe
  rw [← hWe] at HSp1 hbw hW0
  rw [← hHe] at HSp2 hdh hH0 ⊢
  have hlt := h.scr.lt
  have HF0 := Lib.hid (show ∀ i ∈ foot s base H, i < w.heap.size from by
    intro i hi
    rw [mem_foot, hHe] at hi
    rcases hi with rfl | ⟨h1, h2⟩
    · exact hlt
    · have := h.lt (i - base) (by omega)
      omega)
  clear ha hb ha' hb' hc hd hc' hd' hx hy hw hh h hWe hHe
  obtain ⟨B, hB⟩ : ∃ B, B = w.heap.size := ⟨_, rfl⟩
  obtain ⟨V, hV⟩ : ∃ V, V = ((w.alloc (.cells #[.pointer (some ⟨s, 0, none⟩)] 25)).alloc (.cells #[.int .i64 x, .int .i64 y, .int .i64 wd, .int .i64 hg] 35)).alloc (.cells #[.int .i64 n] 3) := ⟨_, rfl⟩
  have HT1 := Lib.hid (show Stay [] w V from by rw [hV]; exact (((Stay.refl _ _).alloc').alloc').alloc')
  have HZ1 := Lib.hid (show V.heap.size = B + 3 from by rw [hV, hB]; simp)
  have h0 : V.cell? ⟨B, 0, none⟩ = some (.pointer (some ⟨s, 0, none⟩)) := by
    rw [hV, hB]
    exact ((((Stay.refl [] _).alloc').alloc').cell_ (a := ⟨w.heap.size, 0, none⟩) (by simp) (by simp)).trans (box_cell _ _ _ 0 _ rfl)
  have hr : ∀ j u, (#[Value.int .i64 x, .int .i64 y, .int .i64 wd, .int .i64 hg] : Array Value)[j]? = some u → V.cell? ⟨B + 1, j, none⟩ = some u := by
    intro j u hj
    have h1 := box_cell (w.alloc (.cells #[.pointer (some ⟨s, 0, none⟩)] 25)) _ 35 j u hj
    rw [size_alloc', ← hB] at h1
    rw [hV]
    exact (((Stay.refl [] _).alloc').cell_ (a := ⟨B + 1, j, none⟩) (by rw [hB]; simp) (by simp)).trans h1
  have hn3 : V.cell? ⟨B + 1 + 1, 0, none⟩ = some (.int .i64 n) := by
    have h1 := box_cell ((w.alloc (.cells #[.pointer (some ⟨s, 0, none⟩)] 25)).alloc (.cells #[.int .i64 x, .int .i64 y, .int .i64 wd, .int .i64 hg] 35)) #[.int .i64 n] 3 0 _ rfl
    rw [size_alloc', size_alloc', ← hB] at h1
    rw [hV]
    exact h1
  have hr0 := hr 0 _ rfl
  have hr1 := hr 1 _ rfl
  have hr2 := hr 2 _ rfl
  have hr3 := hr 3 _ rfl
  clear hr
  by_cases hn0 : n = 0
  · have HE := Lib.hid (show S.scroll x y wd hg n = S from HSc.out.trans (if_pos hn0))
    subst hn0
    have HB := Lib.hid hB
    have HV := Lib.hid hV
    clear hB hV
    go_enter Try.func20, Try.ntmps20
    go_wp2_with fail
    exact bodyPost_ret (v := .tuple #[]) (by simp [results, Try.results20, go_sem]) rfl ⟨rfl, by rw [HE.out, ← HV.out]; exact HS0.out.stay HT1.out (by simp), by rw [← HV.out]; exact HT1.out.mono (by simp)⟩
  · have HE := Lib.hid (HSc.out.trans (if_neg hn0))
    have hn0' : ¬ (n == 0) = true := by simpa using hn0
    have HB := Lib.hid hB
    have HV := Lib.hid hV
    clear hB hV
    have hVs := (HS0.out.stay HT1.out (by simp)).scr.w_
    have hVs9 := (HS0.out.stay HT1.out (by simp)).scr.h_
    rw [← HWe.out] at hVs
    rw [← HHe.out] at hVs9
    go_enter Try.func20, Try.ntmps20
    go_wp2_with fail
    rw [← HB.out, ← HV.out]
    go_upto_region 2 with fail
    go_cut [6, 7] (fun p6 p7 wx => ∃ b6 b7 : Nat, p6 = .pointer (some ⟨b6, 0, none⟩) ∧ p7 = .pointer (some ⟨b7, 0, none⟩) ∧ Hid ((b6 ≠ b7 ∧ B + 3 ≤ b6 ∧ B + 3 ≤ b7 ∧ wx.heap.size = B + 3 + 2 ∧ b6 < B + 3 + 2 ∧ b7 < B + 3 + 2) ∧ wx.cell? ⟨b6, 0, none⟩ = some (.int .i64 a) ∧ wx.cell? ⟨b7, 0, none⟩ = some (.int .i64 b) ∧ Stay [] V wx))
    case first =>
      clear hn3 hr1 hr3 hVs9
      have n1 := World.new_ne V _ hr0
      have n2 := World.new_ne V _ hr2
      have n3 := World.new_ne V _ h0
      have n4 := World.new_ne V _ hVs
      go_region_held3 (fun w' => w'.cell? ⟨B + 1, 0, none⟩ = some (.int .i64 x) ∧ w'.cell? ⟨B + 1, 2, none⟩ = some (.int .i64 wd) ∧ w'.cell? ⟨B, 0, none⟩ = some (.pointer (some ⟨s, 0, none⟩)) ∧ w'.cell? ⟨s, 2048, none⟩ = some (.int .i64 W)) (go_keep)
        (first | (go_at_call 43; refine (HSp1.out _).mono ?_; rintro e w' ⟨rfl, rfl⟩))
      all_goals
        go_wp2_with fail
        go_meet
        exact ⟨_, _, rfl, rfl, boxes_meet V _ (.int .i64 a) (.int .i64 b) (B + 3) _ _ HZ1.out (by first | exact .inl ⟨rfl, rfl, rfl⟩ | exact .inr ⟨rfl, rfl, rfl⟩)⟩
    case rest =>
      obtain ⟨b6, b7, rfl, rfl, HC6⟩ := hcut
      have HT6 := Lib.hid HC6.out.2.2.2
      have HN6 := Lib.hid HC6.out.1
      obtain ⟨V2, hV2⟩ : ∃ V2, V2 = wc := ⟨_, rfl⟩
      rw [← hV2] at HC6 HT6 HN6 ⊢
      have HV2 := Lib.hid hV2
      have hold : ∀ (b j : Nat) (u : Value), V.cell? ⟨b, j, none⟩ = some u → b < B + 3 → V2.cell? ⟨b, j, none⟩ = some u := fun b j u h1 h2 => (HT6.out.cell_ (a := ⟨b, j, none⟩) (by rw [HZ1.out]; exact h2) (by simp)).trans h1
      have k0 := hold _ _ _ h0 (by omega)
      have k1 := hold _ _ _ hr1 (by omega)
      have k3 := hold _ _ _ hr3 (by omega)
      have k9 := hold _ _ _ hVs9 (by have := HF0.out s (by rw [mem_foot]; exact .inl rfl); have := HB.out; omega)
      have kn := hold _ _ _ hn3 (by omega)
      clear hold h0 hr0 hr1 hr2 hr3 hVs hVs9 hn3 hV2
      go_upto_region 3 with fail
      go_cut [8, 9] (fun p8 p9 wx => ∃ b8 b9 : Nat, p8 = .pointer (some ⟨b8, 0, none⟩) ∧ p9 = .pointer (some ⟨b9, 0, none⟩) ∧ Hid ((b8 ≠ b9 ∧ B + 5 ≤ b8 ∧ B + 5 ≤ b9 ∧ wx.heap.size = B + 5 + 2 ∧ b8 < B + 5 + 2 ∧ b9 < B + 5 + 2) ∧ wx.cell? ⟨b8, 0, none⟩ = some (.int .i64 c) ∧ wx.cell? ⟨b9, 0, none⟩ = some (.int .i64 d) ∧ Stay [] V2 wx))
      case first =>
        clear kn
        have n1 := World.new_ne V2 _ k0
        have n2 := World.new_ne V2 _ k1
        have n3 := World.new_ne V2 _ k3
        have n4 := World.new_ne V2 _ k9
        go_region_held3 (fun w' => w'.cell? ⟨B + 1, 1, none⟩ = some (.int .i64 y) ∧ w'.cell? ⟨B + 1, 3, none⟩ = some (.int .i64 hg) ∧ w'.cell? ⟨B, 0, none⟩ = some (.pointer (some ⟨s, 0, none⟩)) ∧ w'.cell? ⟨s, 2049, none⟩ = some (.int .i64 H)) (go_keep)
          (first | (go_at_call 43; refine (HSp2.out _).mono ?_; rintro e w' ⟨rfl, rfl⟩))
        all_goals
          go_wp2_with fail
          go_meet
          exact ⟨_, _, rfl, rfl, boxes_meet V2 _ (.int .i64 c) (.int .i64 d) (B + 5) _ _ HN6.out.2.2.2.1 (by first | exact .inl ⟨rfl, rfl, rfl⟩ | exact .inr ⟨rfl, rfl, rfl⟩)⟩
      case rest =>
        obtain ⟨b8, b9, rfl, rfl, HC8⟩ := hcut
        have HT8 := Lib.hid HC8.out.2.2.2
        have HN8 := Lib.hid HC8.out.1
        obtain ⟨V3, hV3⟩ : ∃ V3, V3 = wc := ⟨_, rfl⟩
        rw [← hV3] at HC8 HT8 HN8 ⊢
        clear hV3
        have HT9 := Lib.hid (show Stay [] w V3 from HT1.out.trans (HT6.out.trans HT8.out))
        have HBx := Lib.hid (show ∀ w', Stay (foot s base H) V3 w' → w'.cell? ⟨B, 0, none⟩ = some (.pointer (some ⟨s, 0, none⟩)) ∧ w'.cell? ⟨B + 1 + 1, 0, none⟩ = some (.int .i64 n) ∧ w'.cell? ⟨b6, 0, none⟩ = some (.int .i64 a) ∧ w'.cell? ⟨b7, 0, none⟩ = some (.int .i64 b) ∧ w'.cell? ⟨b8, 0, none⟩ = some (.int .i64 c) ∧ w'.cell? ⟨b9, 0, none⟩ = some (.int .i64 d) from by
          intro w' hs
          have hsz := HN8.out.2.2.2.1
          have hsz2 := HN6.out.2.2.2.1
          have key : ∀ (b j : Nat) (u : Value), V3.cell? ⟨b, j, none⟩ = some u → B ≤ b → b < B + 5 + 2 → w'.cell? ⟨b, j, none⟩ = some u := fun b j u h1 h2 h3 =>
            (hs.cell_ (a := ⟨b, j, none⟩) (by rw [hsz]; exact h3) (fun hm => by have := HF0.out b hm; have := HB.out; omega)).trans h1
          have key2 : ∀ (b j : Nat) (u : Value), V2.cell? ⟨b, j, none⟩ = some u → b < B + 3 + 2 → V3.cell? ⟨b, j, none⟩ = some u := fun b j u h1 h2 => (HT8.out.cell_ (a := ⟨b, j, none⟩) (by rw [hsz2]; exact h2) (by simp)).trans h1
          obtain ⟨p1, p2, p3, p4, p5, p6⟩ := HN6.out
          obtain ⟨q1, q2, q3, q4, q5, q6⟩ := HN8.out
          exact ⟨key _ _ _ (key2 _ _ _ k0 (by omega)) (by omega) (by omega), key _ _ _ (key2 _ _ _ kn (by omega)) (by omega) (by omega), key _ _ _ (key2 _ _ _ HC6.out.2.1 (by omega)) (by omega) (by omega), key _ _ _ (key2 _ _ _ HC6.out.2.2.1 (by omega)) (by omega) (by omega), key _ _ _ HC8.out.2.1 (by omega) (by omega), key _ _ _ HC8.out.2.2.1 (by omega) (by omega)⟩)
        have hmf : ∀ (fn : Fn) (first cap : Array Value) (w : World), (Instr.makeFunc fn first cap).run Try.prog w = .ok (.func fn first cap) w := fun _ _ _ _ => rfl
        have HSV := Lib.hid (HS0.out.stay HT9.out (by simp))
        have hn1 := hn.1
        have hn2 := hn.2
        have HI := Lib.hid hn
        clear k0 k1 k3 k9 kn hn
        obtain ⟨g0, gn, ga, gb, gc, gd⟩ := HBx.out V3 (Stay.refl _ _)
        go_wp2_with fail
        go_loopw [10] (fun yv wr => ∃ k : Nat, c ≤ k ∧ k ≤ d ∧ yv = .int .i64 k ∧ Hid (Sm wr s base os { S with rows := mapR (loseL a b) c k S.rows }) ∧ Hid (Stay (foot s base H) V3 wr)) (fun yv _ => d - (intOf yv).toNat)
        case atStart =>
          refine ⟨c, Nat.le_refl _, hcd, rfl, ?_, Stay.refl _ _⟩
          show Sm _ _ _ _ _
          rw [mapR_start]
          exact HSV.out
        case round =>
          clear g0 gn ga gb gc gd
          obtain ⟨k, hck, hkd, rfl, HSk, HTk⟩ := hrel
          obtain ⟨g0, gn, ga, gb, gc, gd⟩ := HBx.out wr HTk.out
          by_cases hlt2 : k < d
          · have hlt' : (k : Int) < d := by omega
            have hk0 : (0 : Int) ≤ k := by omega
            have hk1 : (k : Int) < 1024 := by omega
            have hkH : k < S.H := by rw [← HHe.out]; omega
            have hcell2 : wr.cell? ⟨s, k, none⟩ = some (.slice (some ⟨base + k, 0, none⟩) W W) := by rw [HSk.out.row k hkH, ← HWe.out]
            obtain ⟨r, hr, hrl, hrp, hrb⟩ := HSk.out.rowAt k hkH
            have hr0 : S.rows[k]? = some r := by
              have h1 : (mapR (loseL a b) c k S.rows)[k]? = some r := hr
              rw [mapR_at] at h1
              simpa using h1
            have hrl' : r.length = W := hrl.trans HWe.out.symm
            have hlo := lose_any r (base + k) 0 W a b (rowCells r) 49 wr.drew (by omega) (by omega) (by omega) hrp (by simp only [maxLen]; omega) (by rw [rowCells_length]; omega) (by rw [lay_whole r r rfl]; exact hrb.stay (F := []) (Stay.drew _) (by simp))
            rw [hrl', lay_whole r _ (loseL_length _ _ _)] at hlo
            have HLo := Lib.hid hlo
            have HFin := Lib.hid (show ∀ w4, Blk w4 (base + k) (rowCells (loseL a b r)) 49 → Stay [base + k] wr.drew w4 → Sm w4 s base os { S with rows := mapR (loseL a b) c (k + 1) S.rows } ∧ Stay (foot s base H) V3 w4 from by
              intro w4 h1 h2
              have h3 := (Stay.drew (F := [base + k]) wr).trans h2
              refine ⟨?_, HTk.out.trans (h3.mono (by intro g hg; simp at hg; rw [mem_foot]; omega))⟩
              have h4 := HSk.out.setRow k hkH (loseL a b r) (by rw [loseL_length]; exact hrl) (loseL_part hrp) h1 h3
              have h5 : (mapR (loseL a b) c k S.rows).set k (loseL a b r) = mapR (loseL a b) c (k + 1) S.rows := mapR_step _ _ _ _ _ hr0 hck
              exact h5 ▸ h4)
            clear hr hrl hrp hrb hr0 hrl' hlo
            go_wp2_with fail
            go_still_tail 8, (by kernel_rfl)
            change wpList _ _ _ _ _ wr.drew
            generalize wr.drew = w2 at *
            go_wp2_with fail
            refine HLo.out.mono ?_
            rintro e w4 ⟨rfl, hb4, hs4⟩
            have HF4 := Lib.hid (HFin.out w4 hb4 hs4)
            clear hb4 hs4
            go_wp2_with fail
            go_roundw
            case rel => exact ⟨k + 1, by omega, by omega, by go_num, HF4.out.1, HF4.out.2⟩
            case measure => simp [intOf]; omega
          · have hkd' : k = d := by omega
            have hlt' : ¬ (k : Int) < d := by omega
            obtain ⟨rows1, hrows1⟩ : ∃ rows1, rows1 = mapR (loseL a b) c d S.rows := ⟨_, rfl⟩
            have HR1 := Lib.hid (show Sm wr s base os { S with rows := rows1 } from by rw [hrows1, ← hkd']; exact HSk.out)
            have HEr := Lib.hid (show scrollR a b c d n S.rows = if 0 < n then mvUp a b c d n rows1 (d - c) else mvDn a b c d n rows1 (d - c) from by unfold scrollR; rw [← hrows1])
            clear hkd' hrows1
            by_cases hpos : 0 < n
            · have HEr2 := Lib.hid (HEr.out.trans (if_pos hpos))
              go_wp2_with fail
              go_loopw [12] (fun yv wq => ∃ j : Nat, j ≤ d - c ∧ yv = .int .i64 ((c + j : Nat) : Int) ∧ Hid (Sm wq s base os { S with rows := mvUp a b c d n rows1 j }) ∧ Hid (Stay (foot s base H) V3 wq)) (fun yv _ => d - (intOf yv).toNat)
              case atStart => exact ⟨0, by omega, rfl, HR1.out, HTk.out⟩
              case round =>
                clear g0 gn ga gb gc gd
                obtain ⟨j, hj, rfl, HSj, HTj⟩ := hrel
                obtain ⟨g0, gn, ga, gb, gc, gd⟩ := HBx.out _ HTj.out
                by_cases hlt3 : j < d - c
                · obtain ⟨yn, hyn⟩ : ∃ yn, yn = c + j := ⟨_, rfl⟩
                  have HYn := Lib.hid hyn
                  have hyd : yn < d := by omega
                  have hyd' : (yn : Int) < d := by omega
                  have hy0 : (0 : Int) ≤ yn := by omega
                  have hy1 : (yn : Int) < 1024 := by omega
                  have HMv := Lib.hid (move_any s base os { S with rows := mvUp a b c d n rows1 j } (B + 1 + 1) b8 b9 B b6 b7 n a b c d yn _ gn gc gd g0 ga gb (by omega) hyd (by show d ≤ S.H; rw [← HHe.out]; exact hdh) hab (by show b ≤ S.W; rw [← HWe.out]; exact hbw) HI.out hn0 HSj.out)
                  rw [← hyn]
                  clear hyn
                  go_wp2_with (first
                    | (go_at_call 45; refine HMv.out.mono ?_; rintro e w4 ⟨rfl, hs4, ht4⟩; have HS4 := Lib.hid hs4; have HT4 := Lib.hid ht4; clear hs4 ht4))
                  go_roundw
                  case rel =>
                    refine ⟨j + 1, by omega, ?_, ?_, HTj.out.trans (HT4.out.mono (by intro g hg; simp at hg; rw [mem_foot]; have := HYn.out; omega))⟩
                    · have := HYn.out
                      show _ = Value.int .i64 ((c + (j + 1) : Nat) : Int)
                      congr 1
                      omega
                    · have h1 := HS4.out
                      rw [HYn.out] at h1
                      exact h1
                  case measure => simp [intOf]; omega
                · have hjd : j = d - c := by omega
                  have hlt4 : ¬ ((c + j : Nat) : Int) < d := by omega
                  obtain ⟨yn, hyn⟩ : ∃ yn, yn = c + j := ⟨_, rfl⟩
                  rw [← hyn] at hlt4 ⊢
                  have HFi := Lib.hid (show Sm _ s base os (S.scroll x y wd hg n) from by rw [HE.out, HEr2.out, ← hjd]; exact HSj.out)
                  have HTi := Lib.hid (HT9.out.mono (G := foot s base H) (by simp) |>.trans HTj.out)
                  clear hjd hyn
                  go_wp2_with fail
                  exact bodyPost_ret (v := .tuple #[]) (by simp [results, Try.results20, go_sem]) rfl ⟨rfl, HFi.out, HTi.out⟩
            · have HEr2 := Lib.hid (HEr.out.trans (if_neg hpos))
              go_wp2_with fail
              go_loopw [13] (fun yv wq => ∃ j : Nat, j ≤ d - c ∧ yv = .int .i64 ((d : Int) - 1 - j) ∧ Hid (Sm wq s base os { S with rows := mvDn a b c d n rows1 j }) ∧ Hid (Stay (foot s base H) V3 wq)) (fun yv _ => ((intOf yv) + 1 - c).toNat)
              case atStart => exact ⟨0, by omega, by simp, HR1.out, HTk.out⟩
              case round =>
                clear g0 gn ga gb gc gd
                obtain ⟨j, hj, rfl, HSj, HTj⟩ := hrel
                obtain ⟨g0, gn, ga, gb, gc, gd⟩ := HBx.out _ HTj.out
                by_cases hlt3 : j < d - c
                · obtain ⟨yn, hyn⟩ : ∃ yn, yn = d - 1 - j := ⟨_, rfl⟩
                  have HYn := Lib.hid hyn
                  have hyd : yn < d := by omega
                  have hcy : c ≤ yn := by omega
                  have hyd' : (c : Int) ≤ yn := by omega
                  have hy0 : (0 : Int) ≤ yn := by omega
                  have hy1 : (yn : Int) < 1024 := by omega
                  have HMv := Lib.hid (move_any s base os { S with rows := mvDn a b c d n rows1 j } (B + 1 + 1) b8 b9 B b6 b7 n a b c d yn _ gn gc gd g0 ga gb hcy hyd (by show d ≤ S.H; rw [← HHe.out]; exact hdh) hab (by show b ≤ S.W; rw [← HWe.out]; exact hbw) HI.out hn0 HSj.out)
                  rw [show (d : Int) - 1 - j = yn by omega]
                  clear hyn
                  go_wp2_with (first
                    | (go_at_call 45; refine HMv.out.mono ?_; rintro e w4 ⟨rfl, hs4, ht4⟩; have HS4 := Lib.hid hs4; have HT4 := Lib.hid ht4; clear hs4 ht4))
                  go_roundw
                  case rel =>
                    refine ⟨j + 1, by omega, ?_, ?_, HTj.out.trans (HT4.out.mono (by intro g hg; simp at hg; rw [mem_foot]; have := HYn.out; omega))⟩
                    · have := HYn.out
                      show _ = Value.int .i64 ((d : Int) - 1 - ((j + 1 : Nat) : Int))
                      congr 1
                      omega
                    · have h1 := HS4.out
                      rw [HYn.out] at h1
                      exact h1
                  case measure => simp [intOf]; omega
                · have hjd : j = d - c := by omega
                  have hlt4 : ¬ (c : Int) ≤ (d : Int) - 1 - j := by omega
                  have HFi := Lib.hid (show Sm _ s base os (S.scroll x y wd hg n) from by rw [HE.out, HEr2.out, ← hjd]; exact HSj.out)
                  have HTi := Lib.hid (HT9.out.mono (G := foot s base H) (by simp) |>.trans HTj.out)
                  obtain ⟨yi, hyi⟩ : ∃ yi : Int, yi = (d : Int) - 1 - j := ⟨_, rfl⟩
                  rw [← hyi] at hlt4 ⊢
                  clear hjd hyi
                  go_wp2_with fail
                  exact bodyPost_end (v := .tuple #[]) (by simp [results, Try.results20, go_sem]) rfl ⟨rfl, HFi.out, HTi.out⟩
theorem scroll_nil (x y wd hg n : Int) (w : World) : Calls Try.prog 20 #[.pointer none, .agg #[.int .i64 x, .int .i64 y, .int .i64 wd, .int .i64 hg], .int .i64 n] w fun e w' => e = .returned (.tuple #[]) ∧ Stay [] w w' := by
  have hx := box_cell w #[.pointer none] 25 0 _ rfl
  have h0 : (((w.alloc (.cells #[.pointer none] 25)).alloc (.cells #[.int .i64 x, .int .i64 y, .int .i64 wd, .int .i64 hg] 35)).alloc (.cells #[.int .i64 n] 3)).cell? ⟨w.heap.size, 0, none⟩ = some (.pointer none) :=
    ((((Stay.refl [] _).alloc').alloc').cell_ (a := ⟨w.heap.size, 0, none⟩) (by simp) (by simp)).trans hx
  have HT := Lib.hid ((((Stay.refl [] w).alloc' (o := .cells #[.pointer none] 25)).alloc' (o := .cells #[.int .i64 x, .int .i64 y, .int .i64 wd, .int .i64 hg] 35)).alloc' (o := .cells #[.int .i64 n] 3))
  clear hx
  go_enter Try.func20, Try.ntmps20
  go_wp2_with fail
  exact bodyPost_ret (v := .tuple #[]) (by simp [results, Try.results20, go_sem]) rfl ⟨rfl, HT.out⟩
end Go.Proofs.Ytohkjopdoejedaa
