/- shuttlelaw24: calls as they lie in the input; heavy. -/
import Derived.Test.YtohkjopdoejedaaGwell2
import Derived.Test.YtohkjopdoejedaaGalive
namespace Go.Proofs.Ytohkjopdoejedaa
open Go.RowKit
/-- one call, plain; the slice's value beside its cells -/
structure St where
  d : Int
  x : Int
  y : Int
  A : Option Addr
  c : Nat
  L : List Ce
  rx : Int
  ry : Int
  rw_ : Int
  rh : Int
  n : Int
def St.cells (s : St) : List Value := [.int .i64 s.d, .int .i64 s.x, .int .i64 s.y, .slice s.A s.L.length s.c, .int .i64 s.rx, .int .i64 s.ry, .int .i64 s.rw_, .int .i64 s.rh, .int .i64 s.n]
def stCells (l : List St) : List Value := l.flatMap St.cells
theorem stCells_length (l : List St) : (stCells l).length = l.length * 9 := by
  induction l with
  | nil => rfl
  | cons c l ih =>
    show (c.cells ++ stCells l).length = _
    rw [List.length_append, ih]
    simp [St.cells]
    omega
theorem stCells_at : ∀ (l : List St) (k : Nat) (hk : k < l.length) (j : Nat), j < 9 → (stCells l)[k * 9 + j]? = (l[k]).cells[j]?
  | [], k, hk, _, _ => by simp at hk
  | c :: l, 0, _, j, hj => by
    show (c.cells ++ stCells l)[0 * 9 + j]? = _
    rw [List.getElem?_append_left (by simp [St.cells]; omega)]
    simp
  | c :: l, k + 1, hk, j, hj => by
    have hc : c.cells.length = 9 := rfl
    show (c.cells ++ stCells l)[(k + 1) * 9 + j]? = _
    rw [List.getElem?_append_right (by omega), hc, show (k + 1) * 9 + j - 9 = k * 9 + j by omega]
    exact stCells_at l k (by simpa using hk) j hj
structure StOK (w : World) (B : Nat) (s : St) : Prop where
  d : I64 s.d
  x : I64 s.x
  y : I64 s.y
  rx : I64 s.rx
  ry : I64 s.ry
  rw_ : I64 s.rw_
  rh : I64 s.rh
  n : I64 s.n
  sl : Sl w B s.A (rowCells s.L)
  cap : s.L.length ≤ s.c ∧ s.c ≤ maxLen
  len : s.L.length ≤ 4398046511104
  ce : PartOK s.L
/-- the calls of a script, in memory below block B -/
structure Steps (w : World) (B : Nat) (A : Option Addr) (c : Nat) (ss : List St) : Prop where
  sl : Sl w B A (stCells ss)
  cap : ss.length ≤ c ∧ c ≤ maxLen
  ok : ∀ s ∈ ss, StOK w B s
theorem Steps.keep {w w' : World} {B : Nat} {A : Option Addr} {c : Nat} {ss : List St} (h : Steps w B A c ss) (hb : Below B w w') : Steps w' B A c ss :=
  ⟨h.sl.below hb, h.cap, fun s hs => let k := h.ok s hs; ⟨k.d, k.x, k.y, k.rx, k.ry, k.rw_, k.rh, k.n, k.sl.below hb, k.cap, k.len, k.ce⟩⟩
theorem Steps.at_ {w : World} {B : Nat} {A : Option Addr} {c : Nat} {ss : List St} (h : Steps w B A c ss) (k : Nat) (hk : k < ss.length) :
    ∃ sb so, A = some ⟨sb, so, none⟩ ∧ sb < B ∧ ∀ j v, (ss[k]).cells[j]? = some v → w.cell? ⟨sb, so + k * 9 + j, none⟩ = some v := by
  have h0 := stCells_at ss 0 (by omega) 0 (by omega)
  obtain ⟨ad, e, hb, hc0⟩ := h.sl (0 * 9 + 0) _ h0
  obtain ⟨sb, so, sp⟩ := ad
  have hsp : sp = none := by
    cases sp with
    | none => rfl
    | some x =>
      exfalso
      have h1 : (⟨sb, so, some x⟩ : Addr).add (0 * 9 + 0) = ⟨sb, so, some x⟩ := rfl
      rw [h1] at hc0
      unfold World.cell? at hc0
      simp at hc0
      split at hc0 <;> simp at hc0
  subst hsp
  refine ⟨sb, so, e, hb, fun j v hj => ?_⟩
  have hj9 : j < 9 := by have := (List.getElem?_eq_some_iff.1 hj).1; exact this
  obtain ⟨ad', e', _, hc⟩ := h.sl (k * 9 + j) v (by rw [stCells_at ss k hk j hj9]; exact hj)
  rw [e] at e'
  injection e' with e'
  subst e'
  rw [add_lit', ← Nat.add_assoc] at hc
  exact hc
def inB (w h : Int) : Bool := decide (0 ≤ w) && decide (0 ≤ h) && decide (w ≤ 1024) && decide (h ≤ 1024)
/-- heavy: the count behind the calls -/
def hvF : Int → Int → Int → List St → Int
  | _, _, n, [] => n
  | w, h, n, s :: t =>
    if n ≤ 8388608 then
      let b := decide (s.d = 6) && inB s.x s.y
      let w' := if b then s.x else w
      let h' := if b then s.y else h
      hvF w' h' (if inB w' h' then n + 1 + s.L.length + w' * h' else n + 1 + s.L.length) t
    else n
def hvB (w h : Int) (ss : List St) : Bool := decide (8388608 < hvF w h 0 ss)
set_option maxRecDepth 20000 in
set_option maxHeartbeats 4000000 in
theorem heavy_any (wd hg : Int) (A : Option Addr) (c : Nat) (ss : List St) (B : Nat) (w : World) (h : Steps w B A c ss) :
    Calls Try.prog 9 #[.int .i64 wd, .int .i64 hg, .slice A ss.length c] w fun e w' => e = .returned (.bool (hvB wd hg ss)) ∧ w = w' := by
  have HS := Lib.hid h
  obtain ⟨n, hne⟩ : ∃ n, n = ss.length := ⟨_, rfl⟩
  have HN := Lib.hid hne
  have hcap := h.cap
  rw [← hne] at hcap ⊢
  have hnm : (n : Int) ≤ 9223372036854775807 := by
    have := hcap.2
    simp only [maxLen] at this
    omega
  clear h hne
  go_enter Try.func9, Try.ntmps9
  go_wp2_with fail
  go_loop [0, 1, 7, 8] (fun wv hv nv iv => ∃ (w' h' m : Int) (k : Nat), wv = .int .i64 w' ∧ hv = .int .i64 h' ∧ nv = .int .i64 m ∧ iv = .int .i64 k ∧ k ≤ n ∧ (0 ≤ m ∧ m ≤ 9223372036854775807) ∧ Hid (hvF wd hg 0 ss = hvF w' h' m (ss.drop k))) (fun _ _ _ iv => n - (intOf iv).toNat)
  case atStart => exact ⟨wd, hg, 0, 0, rfl, rfl, rfl, rfl, by omega, by omega, rfl⟩
  case round =>
    obtain ⟨w', h', m, k, rfl, rfl, rfl, rfl, hk, ⟨hm1, hm2⟩, HV⟩ := hrel
    by_cases hlt : k < n
    · have hlt' : (k : Int) < n := by omega
      have hk0 : (0 : Int) ≤ k := by omega
      by_cases hm : m ≤ 8388608
      · have hkl : k < ss.length := by rw [← HN.out]; exact hlt
        obtain ⟨sb, so, rfl, hadB, key⟩ := HS.out.at_ k hkl
        have hok := HS.out.ok _ (List.getElem_mem hkl)
        have HV2 := Lib.hid (show hvF wd hg 0 ss = hvF w' h' m (ss[k] :: ss.drop (k + 1)) from by rw [HV.out, List.drop_eq_getElem_cons hkl])
        obtain ⟨st, hst⟩ : ∃ st, st = ss[k] := ⟨_, rfl⟩
        rw [← hst] at key hok HV2
        obtain ⟨d, x, y, LA, lc, L, rx, ry, rw_, rh, sn⟩ := st
        have c0 := key 0 _ rfl
        have c1 := key 1 _ rfl
        have c2 := key 2 _ rfl
        have c3 := key 3 _ rfl
        rw [Nat.add_zero] at c0
        simp only at c0 c1 c2 c3
        have hLm : (L.length : Int) ≤ 4398046511104 := by
          have := hok.len
          simp only at this
          omega
        obtain ⟨ll, hll⟩ : ∃ ll, ll = L.length := ⟨_, rfl⟩
        rw [← hll] at c3 hLm
        clear key hst hok HV
        have hnn : m + 1 + ll ≤ 9223372036854775807 - 2097152 := by omega
        have hmul : ∀ u v : Int, 0 ≤ u → 0 ≤ v → u ≤ 1024 → v ≤ 1024 → 0 ≤ u * v ∧ u * v ≤ 1048576 := fun u v h1 h2 h3 h4 => ⟨Int.mul_nonneg h1 h2, by
          have := Int.mul_le_mul h3 h4 h2 (by omega)
          omega⟩
        have HSt := Lib.hid (show hvF wd hg 0 ss = hvF (if (decide (d = 6) && inB x y) = true then x else w') (if (decide (d = 6) && inB x y) = true then y else h') (if inB (if (decide (d = 6) && inB x y) = true then x else w') (if (decide (d = 6) && inB x y) = true then y else h') = true then m + 1 + ll + (if (decide (d = 6) && inB x y) = true then x else w') * (if (decide (d = 6) && inB x y) = true then y else h') else m + 1 + ll) (ss.drop (k + 1)) from by
          rw [HV2.out, hll]
          show (if m ≤ 8388608 then _ else m) = _
          rw [if_pos hm])
        clear HV2 hll
        by_cases hb : d = 6 ∧ 0 ≤ x ∧ 0 ≤ y ∧ x ≤ 1024 ∧ y ≤ 1024
        · obtain ⟨rfl, b1, b2, b3, b4⟩ := hb
          have hI : inB x y = true := by simp [inB, b1, b2, b3, b4]
          obtain ⟨p, hp⟩ : ∃ p, x * y = p := ⟨_, rfl⟩
          obtain ⟨hp1, hp2⟩ := hmul x y b1 b2 b3 b4
          rw [hp] at hp1 hp2
          have HV3 := Lib.hid (show hvF wd hg 0 ss = hvF x y (m + 1 + ll + p) (ss.drop (k + 1)) from by
            rw [HSt.out, hI, ← hp]; simp [hI])
          clear HSt hI hmul
          go_wp2_with fail
          go_round
          case rel => exact ⟨x, y, m + 1 + ll + p, k + 1, rfl, rfl, rfl, by go_num, by omega, by omega, HV3.out⟩
          case measure => simp [intOf]; omega
        · have hbb : (decide (d = 6) && inB x y) = false := by
            rw [Bool.eq_false_iff]
            intro e
            apply hb
            simp [inB] at e
            omega
          have HV3 := Lib.hid (show hvF wd hg 0 ss = hvF w' h' (if inB w' h' = true then m + 1 + ll + w' * h' else m + 1 + ll) (ss.drop (k + 1)) from by
            rw [HSt.out, hbb]; simp)
          have hcs : (d ≠ 6) ∨ (d = 6 ∧ x < 0) ∨ (d = 6 ∧ ¬ x < 0 ∧ y < 0) ∨ (d = 6 ∧ ¬ x < 0 ∧ ¬ y < 0 ∧ 1024 < x) ∨ (d = 6 ∧ ¬ x < 0 ∧ ¬ y < 0 ∧ ¬ 1024 < x ∧ 1024 < y) := by omega
          clear HSt hbb hb
          by_cases hw : 0 ≤ w' ∧ 0 ≤ h' ∧ w' ≤ 1024 ∧ h' ≤ 1024
          · obtain ⟨b1, b2, b3, b4⟩ := hw
            obtain ⟨p, hp⟩ : ∃ p, w' * h' = p := ⟨_, rfl⟩
            obtain ⟨hp1, hp2⟩ := hmul w' h' b1 b2 b3 b4
            rw [hp] at hp1 hp2
            have HV4 := Lib.hid (show hvF wd hg 0 ss = hvF w' h' (m + 1 + ll + p) (ss.drop (k + 1)) from by
              rw [HV3.out, hp]; simp [inB, b1, b2, b3, b4])
            clear HV3 hmul
            rcases hcs with e1 | ⟨e1, e2⟩ | ⟨e1, e2, e3⟩ | ⟨e1, e2, e3, e4⟩ | ⟨e1, e2, e3, e4, e5⟩
            all_goals
              go_wp2_with fail
              go_round
              case rel => exact ⟨w', h', m + 1 + ll + p, k + 1, rfl, rfl, rfl, by go_num, by omega, by omega, HV4.out⟩
              case measure => simp [intOf]; omega
          · have HV4 := Lib.hid (show hvF wd hg 0 ss = hvF w' h' (m + 1 + ll) (ss.drop (k + 1)) from by
              rw [HV3.out, if_neg (by
                intro e
                apply hw
                simp [inB] at e
                omega)])
            clear HV3 hmul
            have hws : w' < 0 ∨ (¬ w' < 0 ∧ h' < 0) ∨ (¬ w' < 0 ∧ ¬ h' < 0 ∧ 1024 < w') ∨ (¬ w' < 0 ∧ ¬ h' < 0 ∧ ¬ 1024 < w' ∧ 1024 < h') := by omega
            clear hw
            rcases hcs with e1 | ⟨e1, e2⟩ | ⟨e1, e2, e3⟩ | ⟨e1, e2, e3, e4⟩ | ⟨e1, e2, e3, e4, e5⟩ <;> rcases hws with f1 | ⟨f1, f2⟩ | ⟨f1, f2, f3⟩ | ⟨f1, f2, f3, f4⟩
            all_goals
              go_wp2_with fail
              go_round
              case rel => exact ⟨w', h', m + 1 + ll, k + 1, rfl, rfl, rfl, by go_num, by omega, by omega, HV4.out⟩
              case measure => simp [intOf]; omega
      · have HF := Lib.hid (show hvB wd hg ss = true from by
          have hkl : k < ss.length := by rw [← HN.out]; exact hlt
          unfold hvB
          rw [HV.out, List.drop_eq_getElem_cons hkl]
          show decide (8388608 < (if m ≤ 8388608 then _ else m)) = true
          rw [if_neg hm]
          simp
          omega)
        go_wp2_with fail
        exact bodyPost_ret (v := .bool true) (by simp [results, Try.results9, go_sem]) rfl ⟨by rw [HF.out], rfl⟩
    · have hk' : k = n := by omega
      have hlt' : ¬ (k : Int) < n := by omega
      have HF := Lib.hid (show hvB wd hg ss = decide (8388608 < m) from by
        unfold hvB
        rw [HV.out, hk', HN.out, List.drop_length]
        rfl)
      clear hk'
      go_wp2_with fail
      exact bodyPost_ret (v := .bool (decide (8388608 < m))) (by simp [results, Try.results9, go_sem]) rfl ⟨by rw [HF.out], rfl⟩
end Go.Proofs.Ytohkjopdoejedaa
