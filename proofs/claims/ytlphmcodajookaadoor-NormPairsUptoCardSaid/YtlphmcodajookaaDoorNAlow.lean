/- NAlow: several texts, one behind another: Niter, Nfind, Nmarkw, Nsmall, Npair, Nmap, Npairs, Nsplit. -/
import Derived.Test.YtlphmcodajookaaDoorNAplain
import Derived.Test.YtlphmcodajookaaDoorNAbase
import Derived.Laws.RangeAny
import Derived.Test.YtlphmcodajookaaDoorProg
import Derived.Lib.Hide
import Derived.Deep.DeepCutAuto
import Derived.Sort.Grow
import Derived.Deep.RegionHeld3
import Derived.Deep.RegionHeldLaw
/- a string ranged over: its characters as lists of bytes. -/
namespace Go.Proofs.YtlphmcodajookaaDoor
open Go.RowKit
theorem get_getD (s : ByteArray) (k : Nat) : s.get! k = s.data.toList.getD k 0 := by
  show s.data[k]! = _
  rw [List.getD_eq_getElem?_getD, Array.getElem?_toList]
  rw [Array.getElem!_eq_getD]
  rw [Array.getD_eq_getD_getElem?]
  rfl
theorem drop_getD {α : Type} (l : List α) (i k : Nat) (d : α) : (l.drop i).getD k d = l.getD (i + k) d := by
  rw [List.getD_eq_getElem?_getD, List.getD_eq_getElem?_getD, List.getElem?_drop]
theorem decode_dL (s : ByteArray) (i : Nat) : Utf8.decode s i = dL (s.data.toList.drop i) := by
  rw [Lib.decode_at]
  unfold dL
  rw [drop_getD, drop_getD, drop_getD, drop_getD, ← get_getD, ← get_getD, ← get_getD, ← get_getD, List.length_drop]
  rfl
/-- the bytes of a string from a place on -/
def restS (s : ByteArray) (p : Nat) : List UInt8 := s.data.toList.drop p
theorem restS_zero (s : ByteArray) : restS s 0 = s.data.toList := rfl
theorem restS_ne {s : ByteArray} {p : Nat} : restS s p ≠ [] ↔ p < s.size := by
  unfold restS
  rw [Ne, List.drop_eq_nil_iff]
  show ¬ s.data.size ≤ p ↔ p < s.data.size
  omega
theorem restS_add (s : ByteArray) (p n : Nat) : restS s (p + n) = (restS s p).drop n := by unfold restS; rw [List.drop_drop]
theorem restS_len (s : ByteArray) (p : Nat) : (restS s p).length = s.size - p := by unfold restS; rw [List.length_drop]; rfl
theorem next_some {P : Program} (w : World) (s : ByteArray) (p : Nat) (ty : TypeId) (h : restS s p ≠ []) : (Instr.next (.pointer (some ⟨w.heap.size, 0, none⟩)) true ty).run P (w.iter s p) = .ok (.tuple #[.bool true, .int .i64 p, .int .i32 (dL (restS s p)).1]) (w.iter s (p + (dL (restS s p)).2)) := by
  have := run_next_any (P := P) w s p ty (restS_ne.1 h)
  rw [decode_dL] at this
  exact this
theorem next_none {P : Program} (w : World) (s : ByteArray) (p : Nat) (ty : TypeId) (h : restS s p = []) : (Instr.next (.pointer (some ⟨w.heap.size, 0, none⟩)) true ty).run P (w.iter s p) = .ok (.tuple #[.bool false]) (w.iter s p) :=
  run_next_end w s p ty (fun hl => restS_ne.2 hl h)
theorem iter_stay (w : World) (s : ByteArray) (p : Nat) : Stay [] w (w.iter s p) := Stay.alloc _ _
/-- an iterator over a string -/
def IterS (w : World) (ib : Nat) (s : ByteArray) (p : Nat) : Prop := w.heap[ib]? = some (.stringIter s p)
theorem IterS.lt {w : World} {ib : Nat} {s : ByteArray} {p : Nat} (h : IterS w ib s p) : ib < w.heap.size := (Array.getElem?_eq_some_iff.1 h).1
theorem IterS.stay {w w' : World} {F : List Nat} {ib : Nat} {s : ByteArray} {p : Nat} (h : IterS w ib s p) (hs : Stay F w w') (hF : ib ∉ F) : IterS w' ib s p := (hs.block ib h.lt hF).trans h
theorem IterS.new (w : World) (s : ByteArray) : IterS (w.iter s 0) w.heap.size s 0 := heap_alloc_new w _
theorem IterS.noBlk {w : World} {ib : Nat} {s : ByteArray} {p : Nat} (h : IterS w ib s p) {b : Nat} {l : List Value} {t : TypeId} (hb : Blk w b l t) : b ≠ ib := fun e => by
  subst e
  unfold Blk at hb
  unfold IterS at h
  rw [h] at hb
  cases hb
theorem snext_some {P : Program} {w : World} {ib : Nat} {s : ByteArray} {p : Nat} (h : IterS w ib s p) (ty : TypeId) (hn : restS s p ≠ []) :
    ∃ w1, (Instr.next (.pointer (some ⟨ib, 0, none⟩)) true ty).run P w = .ok (.tuple #[.bool true, .int .i64 p, .int .i32 (dL (restS s p)).1]) w1 ∧ IterS w1 ib s (p + (dL (restS s p)).2) ∧ Stay [ib] w w1 := by
  have hp := restS_ne.1 hn
  have hlt := h.lt
  unfold IterS at h
  refine ⟨{ w with heap := w.heap.setIfInBounds ib (.stringIter s (p + (dL (restS s p)).2)) }, ?_, ?_, ?_⟩
  · unfold restS
    rw [← decode_dL]
    simp only [Instr.next, getObj, setObj, Sem.run_bind, Sem.run, h, Result.andThen, hp, if_true]
    simp [goInt]
  · unfold IterS
    simp [hlt]
  · refine ⟨rfl, rfl, rfl, by simp, fun i _ hi => ?_⟩
    simp only [List.mem_singleton] at hi
    show (w.heap.setIfInBounds ib _)[i]? = _
    rw [Array.getElem?_setIfInBounds_ne (by omega)]
theorem snext_none {P : Program} {w : World} {ib : Nat} {s : ByteArray} {p : Nat} (h : IterS w ib s p) (ty : TypeId) (hn : restS s p = []) :
    (Instr.next (.pointer (some ⟨ib, 0, none⟩)) true ty).run P w = .ok (.tuple #[.bool false]) w := by
  have hp : ¬ p < s.size := fun hl => restS_ne.2 hl hn
  unfold IterS at h
  simp [Instr.next, getObj, Sem.run, h, hp]
/-- how far an iterator is -/
def leftS (w : World) (ib : Nat) : Nat := match w.heap[ib]? with | some (.stringIter s p) => s.size - p | _ => 0
theorem leftS_eq {w : World} {ib : Nat} {s : ByteArray} {p : Nat} (h : IterS w ib s p) : leftS w ib = (restS s p).length := by
  unfold leftS
  unfold IterS at h
  rw [h, restS_len]
/-- the bytes of numbers -/
def encs (l : List Int) : List UInt8 := l.flatMap enc
theorem encs_nil : encs [] = [] := rfl
theorem encs_cons (r : Int) (l : List Int) : encs (r :: l) = enc r ++ encs l := rfl
theorem encs_ne {r : Int} {l : List Int} : encs (r :: l) ≠ [] := fun h => by
  have := congrArg List.length h
  rw [encs_cons, List.length_append, List.length_nil] at this
  have := (enc_pos r).1
  omega
theorem dL_encs {r : Int} {l : List Int} (h : okR r) : dL (encs (r :: l)) = (r.toNat, (enc r).length) := dL_enc h _
theorem encs_drop (r : Int) (l : List Int) : (encs (r :: l)).drop (enc r).length = encs l := by rw [encs_cons, List.drop_left]
end Go.Proofs.YtlphmcodajookaaDoor
/- class: find: the walk. -/
namespace Go.Proofs.YtlphmcodajookaaDoor
open Go.RowKit
theorem flat_at {α : Type} (f : α → List Value) (k : Nat) (hf : ∀ x, (f x).length = k) : ∀ (L : List α) (i : Nat) (hi : i < L.length) (j : Nat), j < k → (L.flatMap f)[i * k + j]? = (f L[i])[j]?
  | x :: L, 0, _, j, hj => by
    simp only [List.flatMap_cons, Nat.zero_mul, Nat.zero_add, List.getElem_cons_zero]
    rw [List.getElem?_append_left (by rw [hf]; exact hj)]
  | x :: L, i + 1, hi, j, hj => by
    simp only [List.flatMap_cons, List.getElem_cons_succ]
    rw [List.getElem?_append_right (by rw [hf, Nat.add_mul]; omega), hf, ← flat_at f k hf L i (by simpa using hi) j hj]
    congr 1
    rw [Nat.add_mul]; omega
theorem getD_get {α : Type} (l : List α) (k : Nat) (d : α) (h : k < l.length) : l.getD k d = l[k] := by rw [List.getD_eq_getElem?_getD, List.getElem?_eq_getElem h]; rfl
theorem findT_at {r : Int} : ∀ {l : List (Int × Int)} {v : Int} (k : Nat), l.Pairwise (fun a b => a.1 < b.1) → k ≤ l.length → (k = 0 ∨ (l.getD (k - 1) (0, 0)).1 ≤ r) → (k = l.length ∨ r < (l.getD k (0, 0)).1) → findT v l r = if k = 0 then v else (l.getD (k - 1) (0, 0)).2
  | [], v, k, _, hk, _, _ => by
    obtain rfl : k = 0 := by simpa using hk
    rfl
  | (a, x) :: l, v, 0, hs, _, _, h2 => by
    unfold findT
    have : r < a := by
      rcases h2 with h2 | h2
      · simp at h2
      · simpa using h2
    rw [if_neg (by omega), if_pos rfl]
  | (a, x) :: l, v, k + 1, hs, hk, h1, h2 => by
    rw [List.pairwise_cons] at hs
    have hk' : k ≤ l.length := by simpa using hk
    have ha : a ≤ r := by
      rcases h1 with h1 | h1
      · omega
      · rw [Nat.add_sub_cancel] at h1
        cases k with
        | zero => simpa using h1
        | succ k =>
          rw [List.getD_cons_succ, getD_get _ _ _ (by omega)] at h1
          have := hs.1 l[k] (List.getElem_mem _)
          simp only at this
          omega
    unfold findT
    rw [if_pos ha, findT_at (l := l) (v := x) k hs.2 hk' ?_ ?_]
    · cases k with
      | zero => simp
      | succ k => simp
    · cases k with
      | zero => exact .inl rfl
      | succ k =>
        right
        rcases h1 with h1 | h1
        · omega
        · simpa using h1
    · rcases h2 with h2 | h2
      · left; simpa using h2
      · right; simpa using h2
def FindR (fa fx : Nat → Int) (n : Nat) (q : Int) (e : Ending) : Prop := ∃ k z, k < n ∧ fa k ≤ q ∧ (k + 1 = n ∨ q < fa (k + 1)) ∧ e = .returned (.tuple #[.int .u8 (fx k), .int .i32 z])
set_option maxRecDepth 20000 in
set_option maxHeartbeats 4000000 in
theorem find_any (fa fx : Nat → Int) (n c b o : Nat) (r : Int) (w : World) (hn : 1 ≤ n ∧ n ≤ 1000) (hb : ∀ j, j < n → 0 ≤ fa j ∧ fa j ≤ 1114111) (h0 : fa 0 = 0)
    (hc : ∀ j, j < n → w.cell? ⟨b, o + j * 2, none⟩ = some (.int .i32 (fa j)) ∧ w.cell? ⟨b, o + j * 2 + 1, none⟩ = some (.int .u8 (fx j))) :
    Calls Tryd.prog 120 #[.slice (some ⟨b, o, none⟩) n c, .int .i32 r] w fun e w' => FindR fa fx n (knownR r) e ∧ ∃ q, w' = w.drewN q := by
  have HC := Lib.hid hc
  have HB := Lib.hid hb
  have H0 := Lib.hid h0
  have HN := Lib.hid hn
  clear hc hb h0
  have hqb := knownR_bounds r
  obtain ⟨q, hq⟩ : ∃ q, q = knownR r := ⟨_, rfl⟩
  rw [← hq] at hqb ⊢
  obtain ⟨kb, hkb⟩ : ∃ kb : Bool, kb = (decide (r < 0) || decide (1114111 < r) || (decide (55296 ≤ r) && decide (r ≤ 57343))) := ⟨_, rfl⟩
  have HK := Lib.hid (show q = if kb = true then 65533 else r from by
    rw [hq]
    unfold knownR
    subst hkb
    simp only [Bool.or_eq_true, Bool.and_eq_true, decide_eq_true_eq, or_assoc])
  clear hq
  go_enter Tryd.func120, Tryd.ntmps120
  go_upto_region 1 with fail
  go_cut [22] (fun rv wx => rv = .bool kb ∧ wx = w)
  case first => as_aux_lemma =>
    clear HC HB H0 HN HK
    by_cases h1 : r < 0
    · rw [decide_eq_true h1, Bool.true_or, Bool.true_or] at hkb
      subst hkb
      go_wp2_with fail
      go_meet
      exact ⟨rfl, rfl⟩
    · rw [decide_eq_false h1, Bool.false_or] at hkb
      by_cases h2 : 1114111 < r
      · rw [decide_eq_true h2, Bool.true_or] at hkb
        subst hkb
        go_wp2_with fail
        go_meet
        exact ⟨rfl, rfl⟩
      · rw [decide_eq_false h2, Bool.false_or] at hkb
        by_cases h3 : 55296 ≤ r
        · rw [decide_eq_true h3, Bool.true_and] at hkb
          by_cases h4 : r ≤ 57343
          · rw [decide_eq_true h4] at hkb
            subst hkb
            go_wp2_with fail
            go_meet
            exact ⟨rfl, rfl⟩
          · rw [decide_eq_false h4] at hkb
            subst hkb
            go_wp2_with fail
            go_meet
            exact ⟨rfl, rfl⟩
        · rw [decide_eq_false h3, Bool.false_and] at hkb
          subst hkb
          go_wp2_with fail
          go_meet
          exact ⟨rfl, rfl⟩
  case rest =>
    obtain ⟨rfl, hwc⟩ := hcut
    rw [hwc]
    clear hkb hwc
    go_upto_if 22 with fail
    go_cut [1] (fun rv wx => rv = .int .i32 q ∧ wx = w)
    case first => as_aux_lemma =>
      cases kb with
      | true =>
        obtain rfl : q = 65533 := HK.out
        clear HC HB H0 HN HK hqb
        go_wp2_with fail
        go_meet
        exact ⟨rfl, rfl⟩
      | false =>
        have e : r = q := HK.out.symm
        subst e
        clear HC HB H0 HN HK hqb
        go_wp2_with fail
        go_meet
        exact ⟨rfl, rfl⟩
    case rest =>
      obtain ⟨rfl, hwc⟩ := hcut
      rw [hwc]
      clear HK hwc
      have HQ := Lib.hid hqb
      clear hqb hn
      go_upto_region 4 with fail
      go_loopw [6, 7] (fun lv hv wr => ∃ lo hi : Nat, lv = .int .i64 lo ∧ hv = .int .i64 hi ∧ lo < hi ∧ hi ≤ n ∧ Hid (fa lo ≤ q) ∧ Hid (hi = n ∨ q < fa hi) ∧ wr = w)
        (fun lv hv _ => (intOf hv).toNat - (intOf lv).toNat)
      case atStart => exact ⟨0, n, rfl, rfl, by have := HN.out; omega, Nat.le_refl _, by show _ ≤ _; rw [H0.out]; exact HQ.out.1, .inl rfl, rfl⟩
      case round =>
        obtain ⟨lo, hi, rfl, rfl, hlh, hhn, HLo, HHi, hwr⟩ := hrel
        subst hwr
        have hnb := HN.out.2
        by_cases hd : (1 : Int) < (hi : Int) - lo
        · obtain ⟨m, hm⟩ : ∃ m : Nat, m = (lo + hi) / 2 := ⟨_, rfl⟩
          have hm1 : lo < m := by omega
          have hm2 : m < hi := by omega
          have hw1 : IntKind.i64.wrap ((hi : Int) - lo) = (hi : Int) - lo := by simp only [IntKind.wrap, IntKind.bits, IntKind.signed]; simp; omega
          have hw2 : IntKind.i64.wrap ((lo : Int) + hi) = (lo : Int) + hi := by simp only [IntKind.wrap, IntKind.bits, IntKind.signed]; simp; omega
          have hq1 : ((lo : Int) + hi).tdiv 2 = m := by rw [Int.tdiv_eq_ediv_of_nonneg (by omega), hm]; omega
          have hm3 : IntKind.i64.wrap (m : Int) = m := by simp only [IntKind.wrap, IntKind.bits, IntKind.signed]; simp; omega
          have p0 : wr.cell? ⟨b, o + m * 2, none⟩ = some (.int .i32 (fa m)) := (HC.out m (by omega)).1
          have hm0 : (0 : Int) ≤ m := by omega
          have hmn : (m : Int) < n := by omega
          clear hm
          by_cases hc : q < fa m
          · obtain ⟨am, ham⟩ : ∃ a, a = fa m := ⟨_, rfl⟩
            rw [← ham] at hc p0
            have HAm := Lib.hid ham
            clear ham
            go_wp2_with fail
            go_roundw
            case rel => exact ⟨lo, m, rfl, rfl, by omega, by omega, HLo, .inr (by rw [← HAm.out]; exact hc), by trivial⟩
            case measure => simp [intOf]; omega
          · obtain ⟨am, ham⟩ : ∃ a, a = fa m := ⟨_, rfl⟩
            rw [← ham] at hc p0
            have HAm := Lib.hid ham
            clear ham
            go_wp2_with fail
            go_roundw
            case rel => exact ⟨m, hi, rfl, rfl, by omega, by omega, by show _ ≤ _; rw [← HAm.out]; omega, HHi, by trivial⟩
            case measure => simp [intOf]; omega
        · have hw1 : IntKind.i64.wrap ((hi : Int) - lo) = (hi : Int) - lo := by simp only [IntKind.wrap, IntKind.bits, IntKind.signed]; simp; omega
          obtain rfl : hi = lo + 1 := by omega
          clear hlh
          have p1 : wr.cell? ⟨b, o + lo * 2 + 1, none⟩ = some (.int .u8 (fx lo)) := (HC.out lo (by omega)).2
          have hl0 : (0 : Int) ≤ lo := by omega
          have hln : (lo : Int) < n := by omega
          obtain ⟨xv, hxv⟩ : ∃ x, x = fx lo := ⟨_, rfl⟩
          rw [← hxv] at p1
          have HX := Lib.hid hxv
          obtain ⟨hi, hhi⟩ : ∃ h : Nat, h = lo + 1 := ⟨_, rfl⟩
          have HHh := Lib.hid hhi
          rw [← hhi] at hhn HHi hd hw1 ⊢
          clear hxv hhi
          by_cases hc : (hi : Int) < n
          · have p2 : wr.cell? ⟨b, o + hi * 2, none⟩ = some (.int .i32 (fa hi)) := (HC.out hi (by omega)).1
            have hab := HB.out hi (by omega)
            obtain ⟨am, ham⟩ : ∃ a, a = fa hi := ⟨_, rfl⟩
            rw [← ham] at p2 hab
            have HAm := Lib.hid ham
            clear ham
            have hws : IntKind.i32.wrap (am - 1) = am - 1 := by simp only [IntKind.wrap, IntKind.bits, IntKind.signed]; simp; omega
            have d1 : decide (n ≤ lo) = false := decide_eq_false (by omega)
            have d2 : decide (n ≤ hi) = false := decide_eq_false (by omega)
            have hh0 : (0 : Int) ≤ hi := by omega
            clear hab hnb
            go_wp2_with fail
            go_quiet (fail)
            go_wp2_with fail
            go_ret2
            exact ⟨⟨lo, am - 1, by omega, HLo, by rw [← HHh.out]; exact HHi.out, by rw [← HX.out]; rfl⟩, _, rfl⟩
          · clear hnb
            go_wp2_with fail
            go_ret2
            exact ⟨⟨lo, 1114111, by omega, HLo, .inl (by have := HHh.out; omega), by rw [← HX.out]; rfl⟩, 0, rfl⟩
end Go.Proofs.YtlphmcodajookaaDoor
/- class: marks, Mark: the walk (printed by gen_tabw.py). -/
namespace Go.Proofs.YtlphmcodajookaaDoor
open Go.RowKit Go.Sort
def markCells : List Value := (((0, 0) :: markTab) : List (Int × Int)).flatMap fun x => [.int .i32 x.1, .int .u8 x.2]
def markAct (r : Int) : Act := ⟨#[.int .i32 r, undef, .int .u8 0, .int .i32 0, undef, .agg #[.int .i32 0, .int .u8 0], .agg #[.int .i32 768, .int .u8 230], .agg #[.int .i32 789, .int .u8 232], .agg #[.int .i32 790, .int .u8 220], .agg #[.int .i32 794, .int .u8 232], .agg #[.int .i32 795, .int .u8 216], .agg #[.int .i32 796, .int .u8 220], .agg #[.int .i32 801, .int .u8 202], .agg #[.int .i32 803, .int .u8 220], .agg #[.int .i32 807, .int .u8 202], .agg #[.int .i32 809, .int .u8 220], .agg #[.int .i32 820, .int .u8 1], .agg #[.int .i32 825, .int .u8 220], .agg #[.int .i32 829, .int .u8 230], .agg #[.int .i32 837, .int .u8 240], .agg #[.int .i32 838, .int .u8 230], .agg #[.int .i32 839, .int .u8 220], .agg #[.int .i32 842, .int .u8 230], .agg #[.int .i32 845, .int .u8 220], .agg #[.int .i32 847, .int .u8 0], .agg #[.int .i32 848, .int .u8 230], .agg #[.int .i32 851, .int .u8 220], .agg #[.int .i32 855, .int .u8 230], .agg #[.int .i32 856, .int .u8 232], .agg #[.int .i32 857, .int .u8 220], .agg #[.int .i32 859, .int .u8 230], .agg #[.int .i32 860, .int .u8 233], .agg #[.int .i32 861, .int .u8 234], .agg #[.int .i32 863, .int .u8 233], .agg #[.int .i32 864, .int .u8 234], .agg #[.int .i32 866, .int .u8 233], .agg #[.int .i32 867, .int .u8 230], .agg #[.int .i32 880, .int .u8 0], .agg #[.int .i32 1155, .int .u8 230], .agg #[.int .i32 1160, .int .u8 0], .agg #[.int .i32 1425, .int .u8 230], .agg #[.int .i32 1456, .int .u8 10], .agg #[.int .i32 1457, .int .u8 11], .agg #[.int .i32 1458, .int .u8 12], .agg #[.int .i32 1459, .int .u8 13], .agg #[.int .i32 1460, .int .u8 14], .agg #[.int .i32 1461, .int .u8 15], .agg #[.int .i32 1462, .int .u8 16], .agg #[.int .i32 1463, .int .u8 17], .agg #[.int .i32 1464, .int .u8 18], .agg #[.int .i32 1465, .int .u8 19], .agg #[.int .i32 1467, .int .u8 20], .agg #[.int .i32 1468, .int .u8 21], .agg #[.int .i32 1469, .int .u8 22], .agg #[.int .i32 1470, .int .u8 0], .agg #[.int .i32 1471, .int .u8 23], .agg #[.int .i32 1472, .int .u8 0], .agg #[.int .i32 1473, .int .u8 24], .agg #[.int .i32 1474, .int .u8 25], .agg #[.int .i32 1475, .int .u8 0], .agg #[.int .i32 1476, .int .u8 230], .agg #[.int .i32 1477, .int .u8 220], .agg #[.int .i32 1478, .int .u8 0], .agg #[.int .i32 1479, .int .u8 18], .agg #[.int .i32 1480, .int .u8 0], .agg #[.int .i32 1552, .int .u8 230], .agg #[.int .i32 1560, .int .u8 30], .agg #[.int .i32 1561, .int .u8 31], .agg #[.int .i32 1562, .int .u8 32], .agg #[.int .i32 1563, .int .u8 0], .agg #[.int .i32 1611, .int .u8 27], .agg #[.int .i32 1612, .int .u8 28], .agg #[.int .i32 1613, .int .u8 29], .agg #[.int .i32 1614, .int .u8 30], .agg #[.int .i32 1615, .int .u8 31], .agg #[.int .i32 1616, .int .u8 32], .agg #[.int .i32 1617, .int .u8 33], .agg #[.int .i32 1618, .int .u8 34], .agg #[.int .i32 1619, .int .u8 230], .agg #[.int .i32 1621, .int .u8 220], .agg #[.int .i32 1623, .int .u8 230], .agg #[.int .i32 1631, .int .u8 220], .agg #[.int .i32 1632, .int .u8 0], .agg #[.int .i32 1648, .int .u8 35], .agg #[.int .i32 1649, .int .u8 0], .agg #[.int .i32 1750, .int .u8 230], .agg #[.int .i32 1757, .int .u8 0], .agg #[.int .i32 1759, .int .u8 230], .agg #[.int .i32 1763, .int .u8 220], .agg #[.int .i32 1764, .int .u8 230], .agg #[.int .i32 1765, .int .u8 0], .agg #[.int .i32 1767, .int .u8 230], .agg #[.int .i32 1769, .int .u8 0], .agg #[.int .i32 1770, .int .u8 220], .agg #[.int .i32 1771, .int .u8 230], .agg #[.int .i32 1773, .int .u8 220], .agg #[.int .i32 1774, .int .u8 0], .agg #[.int .i32 3640, .int .u8 103], .agg #[.int .i32 3642, .int .u8 9], .agg #[.int .i32 3643, .int .u8 0], .agg #[.int .i32 3656, .int .u8 107], .agg #[.int .i32 3660, .int .u8 0], .agg #[.int .i32 6832, .int .u8 230], .agg #[.int .i32 6912, .int .u8 0], .agg #[.int .i32 7616, .int .u8 230], .agg #[.int .i32 7680, .int .u8 0], .agg #[.int .i32 8400, .int .u8 230], .agg #[.int .i32 8413, .int .u8 0], .agg #[.int .i32 8417, .int .u8 230], .agg #[.int .i32 8418, .int .u8 0], .agg #[.int .i32 8421, .int .u8 230], .agg #[.int .i32 8448, .int .u8 0], .agg #[.int .i32 12330, .int .u8 218], .agg #[.int .i32 12331, .int .u8 228], .agg #[.int .i32 12332, .int .u8 232], .agg #[.int .i32 12333, .int .u8 222], .agg #[.int .i32 12334, .int .u8 0], .agg #[.int .i32 12441, .int .u8 8], .agg #[.int .i32 12443, .int .u8 0], .agg #[.int .i32 65056, .int .u8 230], .agg #[.int .i32 65072, .int .u8 0], .agg #[.int .i32 0, .int .u8 0, .int .i32 768, .int .u8 230, .int .i32 789, .int .u8 232, .int .i32 790, .int .u8 220, .int .i32 794, .int .u8 232, .int .i32 795, .int .u8 216, .int .i32 796, .int .u8 220, .int .i32 801, .int .u8 202, .int .i32 803, .int .u8 220, .int .i32 807, .int .u8 202, .int .i32 809, .int .u8 220, .int .i32 820, .int .u8 1, .int .i32 825, .int .u8 220, .int .i32 829, .int .u8 230, .int .i32 837, .int .u8 240, .int .i32 838, .int .u8 230, .int .i32 839, .int .u8 220, .int .i32 842, .int .u8 230, .int .i32 845, .int .u8 220, .int .i32 847, .int .u8 0, .int .i32 848, .int .u8 230, .int .i32 851, .int .u8 220, .int .i32 855, .int .u8 230, .int .i32 856, .int .u8 232, .int .i32 857, .int .u8 220, .int .i32 859, .int .u8 230, .int .i32 860, .int .u8 233, .int .i32 861, .int .u8 234, .int .i32 863, .int .u8 233, .int .i32 864, .int .u8 234, .int .i32 866, .int .u8 233, .int .i32 867, .int .u8 230, .int .i32 880, .int .u8 0, .int .i32 1155, .int .u8 230, .int .i32 1160, .int .u8 0, .int .i32 1425, .int .u8 230, .int .i32 1456, .int .u8 10, .int .i32 1457, .int .u8 11, .int .i32 1458, .int .u8 12, .int .i32 1459, .int .u8 13, .int .i32 1460, .int .u8 14, .int .i32 1461, .int .u8 15, .int .i32 1462, .int .u8 16, .int .i32 1463, .int .u8 17, .int .i32 1464, .int .u8 18, .int .i32 1465, .int .u8 19, .int .i32 1467, .int .u8 20, .int .i32 1468, .int .u8 21, .int .i32 1469, .int .u8 22, .int .i32 1470, .int .u8 0, .int .i32 1471, .int .u8 23, .int .i32 1472, .int .u8 0, .int .i32 1473, .int .u8 24, .int .i32 1474, .int .u8 25, .int .i32 1475, .int .u8 0, .int .i32 1476, .int .u8 230, .int .i32 1477, .int .u8 220, .int .i32 1478, .int .u8 0, .int .i32 1479, .int .u8 18, .int .i32 1480, .int .u8 0, .int .i32 1552, .int .u8 230, .int .i32 1560, .int .u8 30, .int .i32 1561, .int .u8 31, .int .i32 1562, .int .u8 32, .int .i32 1563, .int .u8 0, .int .i32 1611, .int .u8 27, .int .i32 1612, .int .u8 28, .int .i32 1613, .int .u8 29, .int .i32 1614, .int .u8 30, .int .i32 1615, .int .u8 31, .int .i32 1616, .int .u8 32, .int .i32 1617, .int .u8 33, .int .i32 1618, .int .u8 34, .int .i32 1619, .int .u8 230, .int .i32 1621, .int .u8 220, .int .i32 1623, .int .u8 230, .int .i32 1631, .int .u8 220, .int .i32 1632, .int .u8 0, .int .i32 1648, .int .u8 35, .int .i32 1649, .int .u8 0, .int .i32 1750, .int .u8 230, .int .i32 1757, .int .u8 0, .int .i32 1759, .int .u8 230, .int .i32 1763, .int .u8 220, .int .i32 1764, .int .u8 230, .int .i32 1765, .int .u8 0, .int .i32 1767, .int .u8 230, .int .i32 1769, .int .u8 0, .int .i32 1770, .int .u8 220, .int .i32 1771, .int .u8 230, .int .i32 1773, .int .u8 220, .int .i32 1774, .int .u8 0, .int .i32 3640, .int .u8 103, .int .i32 3642, .int .u8 9, .int .i32 3643, .int .u8 0, .int .i32 3656, .int .u8 107, .int .i32 3660, .int .u8 0, .int .i32 6832, .int .u8 230, .int .i32 6912, .int .u8 0, .int .i32 7616, .int .u8 230, .int .i32 7680, .int .u8 0, .int .i32 8400, .int .u8 230, .int .i32 8413, .int .u8 0, .int .i32 8417, .int .u8 230, .int .i32 8418, .int .u8 0, .int .i32 8421, .int .u8 230, .int .i32 8448, .int .u8 0, .int .i32 12330, .int .u8 218, .int .i32 12331, .int .u8 228, .int .i32 12332, .int .u8 232, .int .i32 12333, .int .u8 222, .int .i32 12334, .int .u8 0, .int .i32 12441, .int .u8 8, .int .i32 12443, .int .u8 0, .int .i32 65056, .int .u8 230, .int .i32 65072, .int .u8 0], undef, undef, undef, undef, undef], []⟩
theorem mark_tab_sorted : markTab.Pairwise (fun a b => a.1 < b.1) := by decide +kernel
theorem mark_tab_bounds : ∀ x ∈ markTab, 0 ≤ x.1 ∧ x.1 ≤ 1114111 := by decide +kernel
theorem tab_cells (T : List (Int × Int)) : ∀ j, j < T.length → (T.flatMap fun x => [Value.int .i32 x.1, .int .u8 x.2])[j * 2]? = some (.int .i32 (T.getD j (0, 0)).1) ∧ (T.flatMap fun x => [Value.int .i32 x.1, .int .u8 x.2])[j * 2 + 1]? = some (.int .u8 (T.getD j (0, 0)).2) := by
  intro j hj
  have h := fun q hq => flat_at (fun x : Int × Int => [Value.int .i32 x.1, .int .u8 x.2]) 2 (fun _ => rfl) T j hj q hq
  rw [getD_get T j _ hj]
  exact ⟨by have := h 0 (by omega); rwa [Nat.add_zero] at this, h 1 (by omega)⟩
set_option maxRecDepth 20000 in
set_option maxHeartbeats 4000000 in
theorem marks_any (r : Int) (w : World) :
    Calls Tryd.prog 82 #[.int .i32 r] w fun e w' => (∃ z, e = .returned (.tuple #[.int .u8 (markN r), .int .i32 z])) ∧ ∃ q os, w' = grow (w.drewN q) os := by
  obtain ⟨m, hm⟩ : ∃ m, m = markN r := ⟨_, rfl⟩
  rw [← hm]
  have HM := Lib.hid hm
  clear hm
  obtain ⟨W, hW⟩ : ∃ W, W = w.alloc (.cells markCells.toArray 121) := ⟨_, rfl⟩
  have hbk : Blk W w.heap.size markCells 121 := by rw [hW]; exact Blk.new w _ _
  have HS := Lib.hid (show ∃ os, W = grow w os from ⟨_, by rw [hW, alloc_eq_grow]⟩)
  obtain ⟨b, hb⟩ : ∃ b, b = w.heap.size := ⟨_, rfl⟩
  rw [← hb] at hbk
  have HB := Lib.hid hb
  have HW := Lib.hid hW
  have HF := Lib.hid (find_any (fun j => (((0, 0) :: markTab).getD j (0, 0)).1) (fun j => (((0, 0) :: markTab).getD j (0, 0)).2) 116 116 b 0 r W (by omega) (fun j hj => by
    have hl : ((0, 0) :: markTab).length = 116 := by decide +kernel
    rw [getD_get _ _ _ (by rw [hl]; exact hj)]
    have := List.getElem_mem (l := ((0, 0) :: markTab)) (n := j) (by rw [hl]; exact hj)
    rcases List.mem_cons.1 this with h | h
    · rw [h]; simp
    · exact mark_tab_bounds _ h) rfl (fun j hj => by
    have hl : ((0, 0) :: markTab).length = 116 := by decide +kernel
    have := tab_cells ((0, 0) :: markTab) j (by rw [hl]; exact hj)
    rw [Nat.zero_add]
    exact ⟨(hbk.cell _).trans this.1, (hbk.cell _).trans this.2⟩))
  clear hW hbk hb
  go_enter Tryd.func82, Tryd.ntmps82
  go_upto_region 1 with fail
  refine wp_region_lit ?_
  refine wpList_valsN 117 _ _ (markAct r) (by kernel_rfl) ?_
  simp only [List.append_eq, List.cons_append, List.nil_append, List.drop_succ_cons, List.drop_zero]
  refine wpList_table 121 Tryd.zeroCells121 markCells.toArray (.tmp 4) (.tmp 121) rfl rfl (by kernel_rfl) rfl (by kernel_rfl) (by kernel_rfl) (by kernel_rfl) (by kernel_rfl) (by kernel_rfl) ?_
  rw [← HW.out, ← HB.out]
  have hact : ((markAct r).put (some 4) (.pointer (some ⟨b, 0, none⟩))).put none undef = ⟨#[.int .i32 r, undef, .int .u8 0, .int .i32 0, .pointer (some ⟨b, 0, none⟩), .agg #[.int .i32 0, .int .u8 0], .agg #[.int .i32 768, .int .u8 230], .agg #[.int .i32 789, .int .u8 232], .agg #[.int .i32 790, .int .u8 220], .agg #[.int .i32 794, .int .u8 232], .agg #[.int .i32 795, .int .u8 216], .agg #[.int .i32 796, .int .u8 220], .agg #[.int .i32 801, .int .u8 202], .agg #[.int .i32 803, .int .u8 220], .agg #[.int .i32 807, .int .u8 202], .agg #[.int .i32 809, .int .u8 220], .agg #[.int .i32 820, .int .u8 1], .agg #[.int .i32 825, .int .u8 220], .agg #[.int .i32 829, .int .u8 230], .agg #[.int .i32 837, .int .u8 240], .agg #[.int .i32 838, .int .u8 230], .agg #[.int .i32 839, .int .u8 220], .agg #[.int .i32 842, .int .u8 230], .agg #[.int .i32 845, .int .u8 220], .agg #[.int .i32 847, .int .u8 0], .agg #[.int .i32 848, .int .u8 230], .agg #[.int .i32 851, .int .u8 220], .agg #[.int .i32 855, .int .u8 230], .agg #[.int .i32 856, .int .u8 232], .agg #[.int .i32 857, .int .u8 220], .agg #[.int .i32 859, .int .u8 230], .agg #[.int .i32 860, .int .u8 233], .agg #[.int .i32 861, .int .u8 234], .agg #[.int .i32 863, .int .u8 233], .agg #[.int .i32 864, .int .u8 234], .agg #[.int .i32 866, .int .u8 233], .agg #[.int .i32 867, .int .u8 230], .agg #[.int .i32 880, .int .u8 0], .agg #[.int .i32 1155, .int .u8 230], .agg #[.int .i32 1160, .int .u8 0], .agg #[.int .i32 1425, .int .u8 230], .agg #[.int .i32 1456, .int .u8 10], .agg #[.int .i32 1457, .int .u8 11], .agg #[.int .i32 1458, .int .u8 12], .agg #[.int .i32 1459, .int .u8 13], .agg #[.int .i32 1460, .int .u8 14], .agg #[.int .i32 1461, .int .u8 15], .agg #[.int .i32 1462, .int .u8 16], .agg #[.int .i32 1463, .int .u8 17], .agg #[.int .i32 1464, .int .u8 18], .agg #[.int .i32 1465, .int .u8 19], .agg #[.int .i32 1467, .int .u8 20], .agg #[.int .i32 1468, .int .u8 21], .agg #[.int .i32 1469, .int .u8 22], .agg #[.int .i32 1470, .int .u8 0], .agg #[.int .i32 1471, .int .u8 23], .agg #[.int .i32 1472, .int .u8 0], .agg #[.int .i32 1473, .int .u8 24], .agg #[.int .i32 1474, .int .u8 25], .agg #[.int .i32 1475, .int .u8 0], .agg #[.int .i32 1476, .int .u8 230], .agg #[.int .i32 1477, .int .u8 220], .agg #[.int .i32 1478, .int .u8 0], .agg #[.int .i32 1479, .int .u8 18], .agg #[.int .i32 1480, .int .u8 0], .agg #[.int .i32 1552, .int .u8 230], .agg #[.int .i32 1560, .int .u8 30], .agg #[.int .i32 1561, .int .u8 31], .agg #[.int .i32 1562, .int .u8 32], .agg #[.int .i32 1563, .int .u8 0], .agg #[.int .i32 1611, .int .u8 27], .agg #[.int .i32 1612, .int .u8 28], .agg #[.int .i32 1613, .int .u8 29], .agg #[.int .i32 1614, .int .u8 30], .agg #[.int .i32 1615, .int .u8 31], .agg #[.int .i32 1616, .int .u8 32], .agg #[.int .i32 1617, .int .u8 33], .agg #[.int .i32 1618, .int .u8 34], .agg #[.int .i32 1619, .int .u8 230], .agg #[.int .i32 1621, .int .u8 220], .agg #[.int .i32 1623, .int .u8 230], .agg #[.int .i32 1631, .int .u8 220], .agg #[.int .i32 1632, .int .u8 0], .agg #[.int .i32 1648, .int .u8 35], .agg #[.int .i32 1649, .int .u8 0], .agg #[.int .i32 1750, .int .u8 230], .agg #[.int .i32 1757, .int .u8 0], .agg #[.int .i32 1759, .int .u8 230], .agg #[.int .i32 1763, .int .u8 220], .agg #[.int .i32 1764, .int .u8 230], .agg #[.int .i32 1765, .int .u8 0], .agg #[.int .i32 1767, .int .u8 230], .agg #[.int .i32 1769, .int .u8 0], .agg #[.int .i32 1770, .int .u8 220], .agg #[.int .i32 1771, .int .u8 230], .agg #[.int .i32 1773, .int .u8 220], .agg #[.int .i32 1774, .int .u8 0], .agg #[.int .i32 3640, .int .u8 103], .agg #[.int .i32 3642, .int .u8 9], .agg #[.int .i32 3643, .int .u8 0], .agg #[.int .i32 3656, .int .u8 107], .agg #[.int .i32 3660, .int .u8 0], .agg #[.int .i32 6832, .int .u8 230], .agg #[.int .i32 6912, .int .u8 0], .agg #[.int .i32 7616, .int .u8 230], .agg #[.int .i32 7680, .int .u8 0], .agg #[.int .i32 8400, .int .u8 230], .agg #[.int .i32 8413, .int .u8 0], .agg #[.int .i32 8417, .int .u8 230], .agg #[.int .i32 8418, .int .u8 0], .agg #[.int .i32 8421, .int .u8 230], .agg #[.int .i32 8448, .int .u8 0], .agg #[.int .i32 12330, .int .u8 218], .agg #[.int .i32 12331, .int .u8 228], .agg #[.int .i32 12332, .int .u8 232], .agg #[.int .i32 12333, .int .u8 222], .agg #[.int .i32 12334, .int .u8 0], .agg #[.int .i32 12441, .int .u8 8], .agg #[.int .i32 12443, .int .u8 0], .agg #[.int .i32 65056, .int .u8 230], .agg #[.int .i32 65072, .int .u8 0], .agg #[.int .i32 0, .int .u8 0, .int .i32 768, .int .u8 230, .int .i32 789, .int .u8 232, .int .i32 790, .int .u8 220, .int .i32 794, .int .u8 232, .int .i32 795, .int .u8 216, .int .i32 796, .int .u8 220, .int .i32 801, .int .u8 202, .int .i32 803, .int .u8 220, .int .i32 807, .int .u8 202, .int .i32 809, .int .u8 220, .int .i32 820, .int .u8 1, .int .i32 825, .int .u8 220, .int .i32 829, .int .u8 230, .int .i32 837, .int .u8 240, .int .i32 838, .int .u8 230, .int .i32 839, .int .u8 220, .int .i32 842, .int .u8 230, .int .i32 845, .int .u8 220, .int .i32 847, .int .u8 0, .int .i32 848, .int .u8 230, .int .i32 851, .int .u8 220, .int .i32 855, .int .u8 230, .int .i32 856, .int .u8 232, .int .i32 857, .int .u8 220, .int .i32 859, .int .u8 230, .int .i32 860, .int .u8 233, .int .i32 861, .int .u8 234, .int .i32 863, .int .u8 233, .int .i32 864, .int .u8 234, .int .i32 866, .int .u8 233, .int .i32 867, .int .u8 230, .int .i32 880, .int .u8 0, .int .i32 1155, .int .u8 230, .int .i32 1160, .int .u8 0, .int .i32 1425, .int .u8 230, .int .i32 1456, .int .u8 10, .int .i32 1457, .int .u8 11, .int .i32 1458, .int .u8 12, .int .i32 1459, .int .u8 13, .int .i32 1460, .int .u8 14, .int .i32 1461, .int .u8 15, .int .i32 1462, .int .u8 16, .int .i32 1463, .int .u8 17, .int .i32 1464, .int .u8 18, .int .i32 1465, .int .u8 19, .int .i32 1467, .int .u8 20, .int .i32 1468, .int .u8 21, .int .i32 1469, .int .u8 22, .int .i32 1470, .int .u8 0, .int .i32 1471, .int .u8 23, .int .i32 1472, .int .u8 0, .int .i32 1473, .int .u8 24, .int .i32 1474, .int .u8 25, .int .i32 1475, .int .u8 0, .int .i32 1476, .int .u8 230, .int .i32 1477, .int .u8 220, .int .i32 1478, .int .u8 0, .int .i32 1479, .int .u8 18, .int .i32 1480, .int .u8 0, .int .i32 1552, .int .u8 230, .int .i32 1560, .int .u8 30, .int .i32 1561, .int .u8 31, .int .i32 1562, .int .u8 32, .int .i32 1563, .int .u8 0, .int .i32 1611, .int .u8 27, .int .i32 1612, .int .u8 28, .int .i32 1613, .int .u8 29, .int .i32 1614, .int .u8 30, .int .i32 1615, .int .u8 31, .int .i32 1616, .int .u8 32, .int .i32 1617, .int .u8 33, .int .i32 1618, .int .u8 34, .int .i32 1619, .int .u8 230, .int .i32 1621, .int .u8 220, .int .i32 1623, .int .u8 230, .int .i32 1631, .int .u8 220, .int .i32 1632, .int .u8 0, .int .i32 1648, .int .u8 35, .int .i32 1649, .int .u8 0, .int .i32 1750, .int .u8 230, .int .i32 1757, .int .u8 0, .int .i32 1759, .int .u8 230, .int .i32 1763, .int .u8 220, .int .i32 1764, .int .u8 230, .int .i32 1765, .int .u8 0, .int .i32 1767, .int .u8 230, .int .i32 1769, .int .u8 0, .int .i32 1770, .int .u8 220, .int .i32 1771, .int .u8 230, .int .i32 1773, .int .u8 220, .int .i32 1774, .int .u8 0, .int .i32 3640, .int .u8 103, .int .i32 3642, .int .u8 9, .int .i32 3643, .int .u8 0, .int .i32 3656, .int .u8 107, .int .i32 3660, .int .u8 0, .int .i32 6832, .int .u8 230, .int .i32 6912, .int .u8 0, .int .i32 7616, .int .u8 230, .int .i32 7680, .int .u8 0, .int .i32 8400, .int .u8 230, .int .i32 8413, .int .u8 0, .int .i32 8417, .int .u8 230, .int .i32 8418, .int .u8 0, .int .i32 8421, .int .u8 230, .int .i32 8448, .int .u8 0, .int .i32 12330, .int .u8 218, .int .i32 12331, .int .u8 228, .int .i32 12332, .int .u8 232, .int .i32 12333, .int .u8 222, .int .i32 12334, .int .u8 0, .int .i32 12441, .int .u8 8, .int .i32 12443, .int .u8 0, .int .i32 65056, .int .u8 230, .int .i32 65072, .int .u8 0], undef, undef, undef, undef, undef], []⟩ := by kernel_rfl
  rw [hact]
  clear hact
  generalize (Value.agg #[Value.int .i32 0, Value.int .u8 0]) = y0
  generalize (Value.agg #[Value.int .i32 768, Value.int .u8 230]) = y1
  generalize (Value.agg #[Value.int .i32 789, Value.int .u8 232]) = y2
  generalize (Value.agg #[Value.int .i32 790, Value.int .u8 220]) = y3
  generalize (Value.agg #[Value.int .i32 794, Value.int .u8 232]) = y4
  generalize (Value.agg #[Value.int .i32 795, Value.int .u8 216]) = y5
  generalize (Value.agg #[Value.int .i32 796, Value.int .u8 220]) = y6
  generalize (Value.agg #[Value.int .i32 801, Value.int .u8 202]) = y7
  generalize (Value.agg #[Value.int .i32 803, Value.int .u8 220]) = y8
  generalize (Value.agg #[Value.int .i32 807, Value.int .u8 202]) = y9
  generalize (Value.agg #[Value.int .i32 809, Value.int .u8 220]) = y10
  generalize (Value.agg #[Value.int .i32 820, Value.int .u8 1]) = y11
  generalize (Value.agg #[Value.int .i32 825, Value.int .u8 220]) = y12
  generalize (Value.agg #[Value.int .i32 829, Value.int .u8 230]) = y13
  generalize (Value.agg #[Value.int .i32 837, Value.int .u8 240]) = y14
  generalize (Value.agg #[Value.int .i32 838, Value.int .u8 230]) = y15
  generalize (Value.agg #[Value.int .i32 839, Value.int .u8 220]) = y16
  generalize (Value.agg #[Value.int .i32 842, Value.int .u8 230]) = y17
  generalize (Value.agg #[Value.int .i32 845, Value.int .u8 220]) = y18
  generalize (Value.agg #[Value.int .i32 847, Value.int .u8 0]) = y19
  generalize (Value.agg #[Value.int .i32 848, Value.int .u8 230]) = y20
  generalize (Value.agg #[Value.int .i32 851, Value.int .u8 220]) = y21
  generalize (Value.agg #[Value.int .i32 855, Value.int .u8 230]) = y22
  generalize (Value.agg #[Value.int .i32 856, Value.int .u8 232]) = y23
  generalize (Value.agg #[Value.int .i32 857, Value.int .u8 220]) = y24
  generalize (Value.agg #[Value.int .i32 859, Value.int .u8 230]) = y25
  generalize (Value.agg #[Value.int .i32 860, Value.int .u8 233]) = y26
  generalize (Value.agg #[Value.int .i32 861, Value.int .u8 234]) = y27
  generalize (Value.agg #[Value.int .i32 863, Value.int .u8 233]) = y28
  generalize (Value.agg #[Value.int .i32 864, Value.int .u8 234]) = y29
  generalize (Value.agg #[Value.int .i32 866, Value.int .u8 233]) = y30
  generalize (Value.agg #[Value.int .i32 867, Value.int .u8 230]) = y31
  generalize (Value.agg #[Value.int .i32 880, Value.int .u8 0]) = y32
  generalize (Value.agg #[Value.int .i32 1155, Value.int .u8 230]) = y33
  generalize (Value.agg #[Value.int .i32 1160, Value.int .u8 0]) = y34
  generalize (Value.agg #[Value.int .i32 1425, Value.int .u8 230]) = y35
  generalize (Value.agg #[Value.int .i32 1456, Value.int .u8 10]) = y36
  generalize (Value.agg #[Value.int .i32 1457, Value.int .u8 11]) = y37
  generalize (Value.agg #[Value.int .i32 1458, Value.int .u8 12]) = y38
  generalize (Value.agg #[Value.int .i32 1459, Value.int .u8 13]) = y39
  generalize (Value.agg #[Value.int .i32 1460, Value.int .u8 14]) = y40
  generalize (Value.agg #[Value.int .i32 1461, Value.int .u8 15]) = y41
  generalize (Value.agg #[Value.int .i32 1462, Value.int .u8 16]) = y42
  generalize (Value.agg #[Value.int .i32 1463, Value.int .u8 17]) = y43
  generalize (Value.agg #[Value.int .i32 1464, Value.int .u8 18]) = y44
  generalize (Value.agg #[Value.int .i32 1465, Value.int .u8 19]) = y45
  generalize (Value.agg #[Value.int .i32 1467, Value.int .u8 20]) = y46
  generalize (Value.agg #[Value.int .i32 1468, Value.int .u8 21]) = y47
  generalize (Value.agg #[Value.int .i32 1469, Value.int .u8 22]) = y48
  generalize (Value.agg #[Value.int .i32 1470, Value.int .u8 0]) = y49
  generalize (Value.agg #[Value.int .i32 1471, Value.int .u8 23]) = y50
  generalize (Value.agg #[Value.int .i32 1472, Value.int .u8 0]) = y51
  generalize (Value.agg #[Value.int .i32 1473, Value.int .u8 24]) = y52
  generalize (Value.agg #[Value.int .i32 1474, Value.int .u8 25]) = y53
  generalize (Value.agg #[Value.int .i32 1475, Value.int .u8 0]) = y54
  generalize (Value.agg #[Value.int .i32 1476, Value.int .u8 230]) = y55
  generalize (Value.agg #[Value.int .i32 1477, Value.int .u8 220]) = y56
  generalize (Value.agg #[Value.int .i32 1478, Value.int .u8 0]) = y57
  generalize (Value.agg #[Value.int .i32 1479, Value.int .u8 18]) = y58
  generalize (Value.agg #[Value.int .i32 1480, Value.int .u8 0]) = y59
  generalize (Value.agg #[Value.int .i32 1552, Value.int .u8 230]) = y60
  generalize (Value.agg #[Value.int .i32 1560, Value.int .u8 30]) = y61
  generalize (Value.agg #[Value.int .i32 1561, Value.int .u8 31]) = y62
  generalize (Value.agg #[Value.int .i32 1562, Value.int .u8 32]) = y63
  generalize (Value.agg #[Value.int .i32 1563, Value.int .u8 0]) = y64
  generalize (Value.agg #[Value.int .i32 1611, Value.int .u8 27]) = y65
  generalize (Value.agg #[Value.int .i32 1612, Value.int .u8 28]) = y66
  generalize (Value.agg #[Value.int .i32 1613, Value.int .u8 29]) = y67
  generalize (Value.agg #[Value.int .i32 1614, Value.int .u8 30]) = y68
  generalize (Value.agg #[Value.int .i32 1615, Value.int .u8 31]) = y69
  generalize (Value.agg #[Value.int .i32 1616, Value.int .u8 32]) = y70
  generalize (Value.agg #[Value.int .i32 1617, Value.int .u8 33]) = y71
  generalize (Value.agg #[Value.int .i32 1618, Value.int .u8 34]) = y72
  generalize (Value.agg #[Value.int .i32 1619, Value.int .u8 230]) = y73
  generalize (Value.agg #[Value.int .i32 1621, Value.int .u8 220]) = y74
  generalize (Value.agg #[Value.int .i32 1623, Value.int .u8 230]) = y75
  generalize (Value.agg #[Value.int .i32 1631, Value.int .u8 220]) = y76
  generalize (Value.agg #[Value.int .i32 1632, Value.int .u8 0]) = y77
  generalize (Value.agg #[Value.int .i32 1648, Value.int .u8 35]) = y78
  generalize (Value.agg #[Value.int .i32 1649, Value.int .u8 0]) = y79
  generalize (Value.agg #[Value.int .i32 1750, Value.int .u8 230]) = y80
  generalize (Value.agg #[Value.int .i32 1757, Value.int .u8 0]) = y81
  generalize (Value.agg #[Value.int .i32 1759, Value.int .u8 230]) = y82
  generalize (Value.agg #[Value.int .i32 1763, Value.int .u8 220]) = y83
  generalize (Value.agg #[Value.int .i32 1764, Value.int .u8 230]) = y84
  generalize (Value.agg #[Value.int .i32 1765, Value.int .u8 0]) = y85
  generalize (Value.agg #[Value.int .i32 1767, Value.int .u8 230]) = y86
  generalize (Value.agg #[Value.int .i32 1769, Value.int .u8 0]) = y87
  generalize (Value.agg #[Value.int .i32 1770, Value.int .u8 220]) = y88
  generalize (Value.agg #[Value.int .i32 1771, Value.int .u8 230]) = y89
  generalize (Value.agg #[Value.int .i32 1773, Value.int .u8 220]) = y90
  generalize (Value.agg #[Value.int .i32 1774, Value.int .u8 0]) = y91
  generalize (Value.agg #[Value.int .i32 3640, Value.int .u8 103]) = y92
  generalize (Value.agg #[Value.int .i32 3642, Value.int .u8 9]) = y93
  generalize (Value.agg #[Value.int .i32 3643, Value.int .u8 0]) = y94
  generalize (Value.agg #[Value.int .i32 3656, Value.int .u8 107]) = y95
  generalize (Value.agg #[Value.int .i32 3660, Value.int .u8 0]) = y96
  generalize (Value.agg #[Value.int .i32 6832, Value.int .u8 230]) = y97
  generalize (Value.agg #[Value.int .i32 6912, Value.int .u8 0]) = y98
  generalize (Value.agg #[Value.int .i32 7616, Value.int .u8 230]) = y99
  generalize (Value.agg #[Value.int .i32 7680, Value.int .u8 0]) = y100
  generalize (Value.agg #[Value.int .i32 8400, Value.int .u8 230]) = y101
  generalize (Value.agg #[Value.int .i32 8413, Value.int .u8 0]) = y102
  generalize (Value.agg #[Value.int .i32 8417, Value.int .u8 230]) = y103
  generalize (Value.agg #[Value.int .i32 8418, Value.int .u8 0]) = y104
  generalize (Value.agg #[Value.int .i32 8421, Value.int .u8 230]) = y105
  generalize (Value.agg #[Value.int .i32 8448, Value.int .u8 0]) = y106
  generalize (Value.agg #[Value.int .i32 12330, Value.int .u8 218]) = y107
  generalize (Value.agg #[Value.int .i32 12331, Value.int .u8 228]) = y108
  generalize (Value.agg #[Value.int .i32 12332, Value.int .u8 232]) = y109
  generalize (Value.agg #[Value.int .i32 12333, Value.int .u8 222]) = y110
  generalize (Value.agg #[Value.int .i32 12334, Value.int .u8 0]) = y111
  generalize (Value.agg #[Value.int .i32 12441, Value.int .u8 8]) = y112
  generalize (Value.agg #[Value.int .i32 12443, Value.int .u8 0]) = y113
  generalize (Value.agg #[Value.int .i32 65056, Value.int .u8 230]) = y114
  generalize (Value.agg #[Value.int .i32 65072, Value.int .u8 0]) = y115
  generalize (Value.agg #[Value.int .i32 0, Value.int .u8 0, Value.int .i32 768, Value.int .u8 230, Value.int .i32 789, Value.int .u8 232, Value.int .i32 790, Value.int .u8 220, Value.int .i32 794, Value.int .u8 232, Value.int .i32 795, Value.int .u8 216, Value.int .i32 796, Value.int .u8 220, Value.int .i32 801, Value.int .u8 202, Value.int .i32 803, Value.int .u8 220, Value.int .i32 807, Value.int .u8 202, Value.int .i32 809, Value.int .u8 220, Value.int .i32 820, Value.int .u8 1, Value.int .i32 825, Value.int .u8 220, Value.int .i32 829, Value.int .u8 230, Value.int .i32 837, Value.int .u8 240, Value.int .i32 838, Value.int .u8 230, Value.int .i32 839, Value.int .u8 220, Value.int .i32 842, Value.int .u8 230, Value.int .i32 845, Value.int .u8 220, Value.int .i32 847, Value.int .u8 0, Value.int .i32 848, Value.int .u8 230, Value.int .i32 851, Value.int .u8 220, Value.int .i32 855, Value.int .u8 230, Value.int .i32 856, Value.int .u8 232, Value.int .i32 857, Value.int .u8 220, Value.int .i32 859, Value.int .u8 230, Value.int .i32 860, Value.int .u8 233, Value.int .i32 861, Value.int .u8 234, Value.int .i32 863, Value.int .u8 233, Value.int .i32 864, Value.int .u8 234, Value.int .i32 866, Value.int .u8 233, Value.int .i32 867, Value.int .u8 230, Value.int .i32 880, Value.int .u8 0, Value.int .i32 1155, Value.int .u8 230, Value.int .i32 1160, Value.int .u8 0, Value.int .i32 1425, Value.int .u8 230, Value.int .i32 1456, Value.int .u8 10, Value.int .i32 1457, Value.int .u8 11, Value.int .i32 1458, Value.int .u8 12, Value.int .i32 1459, Value.int .u8 13, Value.int .i32 1460, Value.int .u8 14, Value.int .i32 1461, Value.int .u8 15, Value.int .i32 1462, Value.int .u8 16, Value.int .i32 1463, Value.int .u8 17, Value.int .i32 1464, Value.int .u8 18, Value.int .i32 1465, Value.int .u8 19, Value.int .i32 1467, Value.int .u8 20, Value.int .i32 1468, Value.int .u8 21, Value.int .i32 1469, Value.int .u8 22, Value.int .i32 1470, Value.int .u8 0, Value.int .i32 1471, Value.int .u8 23, Value.int .i32 1472, Value.int .u8 0, Value.int .i32 1473, Value.int .u8 24, Value.int .i32 1474, Value.int .u8 25, Value.int .i32 1475, Value.int .u8 0, Value.int .i32 1476, Value.int .u8 230, Value.int .i32 1477, Value.int .u8 220, Value.int .i32 1478, Value.int .u8 0, Value.int .i32 1479, Value.int .u8 18, Value.int .i32 1480, Value.int .u8 0, Value.int .i32 1552, Value.int .u8 230, Value.int .i32 1560, Value.int .u8 30, Value.int .i32 1561, Value.int .u8 31, Value.int .i32 1562, Value.int .u8 32, Value.int .i32 1563, Value.int .u8 0, Value.int .i32 1611, Value.int .u8 27, Value.int .i32 1612, Value.int .u8 28, Value.int .i32 1613, Value.int .u8 29, Value.int .i32 1614, Value.int .u8 30, Value.int .i32 1615, Value.int .u8 31, Value.int .i32 1616, Value.int .u8 32, Value.int .i32 1617, Value.int .u8 33, Value.int .i32 1618, Value.int .u8 34, Value.int .i32 1619, Value.int .u8 230, Value.int .i32 1621, Value.int .u8 220, Value.int .i32 1623, Value.int .u8 230, Value.int .i32 1631, Value.int .u8 220, Value.int .i32 1632, Value.int .u8 0, Value.int .i32 1648, Value.int .u8 35, Value.int .i32 1649, Value.int .u8 0, Value.int .i32 1750, Value.int .u8 230, Value.int .i32 1757, Value.int .u8 0, Value.int .i32 1759, Value.int .u8 230, Value.int .i32 1763, Value.int .u8 220, Value.int .i32 1764, Value.int .u8 230, Value.int .i32 1765, Value.int .u8 0, Value.int .i32 1767, Value.int .u8 230, Value.int .i32 1769, Value.int .u8 0, Value.int .i32 1770, Value.int .u8 220, Value.int .i32 1771, Value.int .u8 230, Value.int .i32 1773, Value.int .u8 220, Value.int .i32 1774, Value.int .u8 0, Value.int .i32 3640, Value.int .u8 103, Value.int .i32 3642, Value.int .u8 9, Value.int .i32 3643, Value.int .u8 0, Value.int .i32 3656, Value.int .u8 107, Value.int .i32 3660, Value.int .u8 0, Value.int .i32 6832, Value.int .u8 230, Value.int .i32 6912, Value.int .u8 0, Value.int .i32 7616, Value.int .u8 230, Value.int .i32 7680, Value.int .u8 0, Value.int .i32 8400, Value.int .u8 230, Value.int .i32 8413, Value.int .u8 0, Value.int .i32 8417, Value.int .u8 230, Value.int .i32 8418, Value.int .u8 0, Value.int .i32 8421, Value.int .u8 230, Value.int .i32 8448, Value.int .u8 0, Value.int .i32 12330, Value.int .u8 218, Value.int .i32 12331, Value.int .u8 228, Value.int .i32 12332, Value.int .u8 232, Value.int .i32 12333, Value.int .u8 222, Value.int .i32 12334, Value.int .u8 0, Value.int .i32 12441, Value.int .u8 8, Value.int .i32 12443, Value.int .u8 0, Value.int .i32 65056, Value.int .u8 230, Value.int .i32 65072, Value.int .u8 0]) = yy
  go_wp2_with fail
  refine HF.out.mono ?_
  rintro e w2 ⟨⟨k, z, hk, h1, h2, rfl⟩, q, rfl⟩
  have hv : (fun j => (((0, 0) :: markTab).getD j (0, 0)).2) k = m := by
    show (((0, 0) :: markTab).getD k (0, 0)).2 = _
    rw [HM.out]
    have hl : markTab.length = 115 := by decide +kernel
    unfold markN
    rw [findT_at (r := knownR r) (v := 0) k mark_tab_sorted (by omega) ?_ ?_]
    · cases k with
      | zero => rfl
      | succ k => rfl
    · cases k with
      | zero => exact .inl rfl
      | succ k => exact .inr h1
    · rcases h2 with h2 | h2
      · left; omega
      · right; exact h2
  rw [hv]
  clear hv h1 h2 hk HF
  go_wp2_with fail
  go_ret2
  obtain ⟨os, ho⟩ := HS.out
  exact ⟨⟨z, rfl⟩, q, os, by rw [ho]; rfl⟩
set_option maxRecDepth 20000 in
set_option maxHeartbeats 4000000 in
theorem mark_grow (r : Int) (w : World) : Calls Tryd.prog 39 #[.int .i32 r] w fun e w' => e = .returned (.int .u8 (markN r)) ∧ ∃ q os, w' = grow (w.drewN q) os := by
  have H := Lib.hid (marks_any r w)
  generalize markN r = m at H ⊢
  go_enter Tryd.func39, Tryd.ntmps39
  go_wp2_with fail
  refine H.out.mono ?_
  rintro e w2 ⟨⟨z, rfl⟩, hs⟩
  have HS := Lib.hid hs
  clear hs H
  go_wp2_with fail
  go_ret
  exact ⟨rfl, HS.out⟩
theorem Stay.grow_ {F : List Nat} (w : World) (q : Nat) (os : Array Obj) : Stay F w (grow (w.drewN q) os) := ⟨rfl, rfl, rfl, by show w.heap.size ≤ (w.heap ++ os).size; rw [Array.size_append]; omega, fun i hi _ => by show (w.heap ++ os)[i]? = _; rw [Array.getElem?_append_left hi]⟩
theorem mark_any (r : Int) (w : World) : Calls Tryd.prog 39 #[.int .i32 r] w fun e w' => e = .returned (.int .u8 (markN r)) ∧ Stay [] w w' := (mark_grow r w).mono fun _ _ ⟨h1, q, os, h2⟩ => ⟨h1, by rw [h2]; exact Stay.grow_ w q os⟩
end Go.Proofs.YtlphmcodajookaaDoor
/- norm: single, of, number, row, marks; cmp.Compare of bytes. -/
namespace Go.Proofs.YtlphmcodajookaaDoor
open Go.RowKit
set_option maxRecDepth 20000 in
theorem single_any (r : Int) (w : World) : Calls Tryd.prog 105 #[.int .i32 r] w fun e w' => e = .returned (.int .i32 (singleN r)) ∧ w' = w := by
  by_cases h1 : r = 8490
  · subst h1
    go_enter Tryd.func105, Tryd.ntmps105
    go_wp2_with fail
    go_ret
    exact ⟨rfl, rfl⟩
  · by_cases h2 : r = 8486
    · subst h2
      go_enter Tryd.func105, Tryd.ntmps105
      go_wp2_with fail
      go_ret
      exact ⟨rfl, rfl⟩
    · by_cases h3 : r = 8491
      · subst h3
        go_enter Tryd.func105, Tryd.ntmps105
        go_wp2_with fail
        go_ret
        exact ⟨rfl, rfl⟩
      · have e : singleN r = r := by unfold singleN; rw [if_neg h1, if_neg h2, if_neg h3]
        rw [e]
        clear e
        go_enter Tryd.func105, Tryd.ntmps105
        go_wp2_with fail
        go_ret
        exact ⟨rfl, rfl⟩
/-- a row's bytes -/
def rowOf (b : Int) : List Int := ((rowsN.find? fun x => decide (x.1 = b)).map (·.2)).getD []
def rowS (b : Int) : ByteArray := ⟨(encs (rowOf b)).toArray⟩
theorem rowOf_else {b : Int} (h : ∀ x ∈ rowsN, x.1 ≠ b) : rowOf b = [] := by
  unfold rowOf
  rw [List.find?_eq_none.2 (fun x hx => by simpa using h x hx)]; rfl
set_option maxRecDepth 20000 in
set_option maxHeartbeats 4000000 in
theorem row_any (b : Int) (w : World) : Calls Tryd.prog 65 #[.int .i32 b] w fun e w' => e = .returned (.string (rowS b)) ∧ w' = w := by
  by_cases h768 : b = 768
  · subst h768
    go_enter Tryd.func65, Tryd.ntmps65
    go_wp2_with fail
    go_ret
    exact ⟨by kernel_rfl, rfl⟩
  by_cases h769 : b = 769
  · subst h769
    go_enter Tryd.func65, Tryd.ntmps65
    go_wp2_with fail
    go_ret
    exact ⟨by kernel_rfl, rfl⟩
  by_cases h770 : b = 770
  · subst h770
    go_enter Tryd.func65, Tryd.ntmps65
    go_wp2_with fail
    go_ret
    exact ⟨by kernel_rfl, rfl⟩
  by_cases h771 : b = 771
  · subst h771
    go_enter Tryd.func65, Tryd.ntmps65
    go_wp2_with fail
    go_ret
    exact ⟨by kernel_rfl, rfl⟩
  by_cases h772 : b = 772
  · subst h772
    go_enter Tryd.func65, Tryd.ntmps65
    go_wp2_with fail
    go_ret
    exact ⟨by kernel_rfl, rfl⟩
  by_cases h774 : b = 774
  · subst h774
    go_enter Tryd.func65, Tryd.ntmps65
    go_wp2_with fail
    go_ret
    exact ⟨by kernel_rfl, rfl⟩
  by_cases h775 : b = 775
  · subst h775
    go_enter Tryd.func65, Tryd.ntmps65
    go_wp2_with fail
    go_ret
    exact ⟨by kernel_rfl, rfl⟩
  by_cases h776 : b = 776
  · subst h776
    go_enter Tryd.func65, Tryd.ntmps65
    go_wp2_with fail
    go_ret
    exact ⟨by kernel_rfl, rfl⟩
  by_cases h778 : b = 778
  · subst h778
    go_enter Tryd.func65, Tryd.ntmps65
    go_wp2_with fail
    go_ret
    exact ⟨by kernel_rfl, rfl⟩
  by_cases h779 : b = 779
  · subst h779
    go_enter Tryd.func65, Tryd.ntmps65
    go_wp2_with fail
    go_ret
    exact ⟨by kernel_rfl, rfl⟩
  by_cases h780 : b = 780
  · subst h780
    go_enter Tryd.func65, Tryd.ntmps65
    go_wp2_with fail
    go_ret
    exact ⟨by kernel_rfl, rfl⟩
  by_cases h807 : b = 807
  · subst h807
    go_enter Tryd.func65, Tryd.ntmps65
    go_wp2_with fail
    go_ret
    exact ⟨by kernel_rfl, rfl⟩
  by_cases h808 : b = 808
  · subst h808
    go_enter Tryd.func65, Tryd.ntmps65
    go_wp2_with fail
    go_ret
    exact ⟨by kernel_rfl, rfl⟩
  by_cases h12441 : b = 12441
  · subst h12441
    go_enter Tryd.func65, Tryd.ntmps65
    go_wp2_with fail
    go_ret
    exact ⟨by kernel_rfl, rfl⟩
  by_cases h12442 : b = 12442
  · subst h12442
    go_enter Tryd.func65, Tryd.ntmps65
    go_wp2_with fail
    go_ret
    exact ⟨by kernel_rfl, rfl⟩
  have e : rowS b = ⟨#[]⟩ := by
    unfold rowS
    rw [rowOf_else (fun x hx => by
      have : ∀ x ∈ rowsN.map (·.1), x ≠ b := by
        show ∀ x ∈ ([768, 769, 770, 771, 772, 774, 775, 776, 778, 779, 780, 807, 808, 12441, 12442] : List Int), x ≠ b
        simp only [List.mem_cons, List.not_mem_nil, or_false]
        omega
      exact this x.1 (List.mem_map_of_mem hx))]
    rfl
  rw [e]
  clear e
  go_enter Tryd.func65, Tryd.ntmps65
  go_wp2_with fail
  go_ret
  exact ⟨rfl, rfl⟩
def markL : List Int := [768, 769, 770, 771, 772, 774, 775, 776, 778, 779, 780, 807, 808, 12441, 12442]
theorem nmarks_any (w : World) : Calls Tryd.prog 106 #[] w fun e w' => e = .returned (.slice (some ⟨w.heap.size, 0, none⟩) 15 15) ∧ Blk w' w.heap.size (markL.map fun x => .int .i32 x) 21 ∧ Stay [] w w' := by
  have HB := Lib.hid (Blk.new w (markL.map fun x => .int .i32 x) 21)
  have HS := Lib.hid (show Stay [] w (w.alloc (.cells (markL.map fun x => Value.int .i32 x).toArray 21)) from Stay.alloc _ _)
  go_enter Tryd.func106, Tryd.ntmps106
  go_wp2_with fail
  go_ret
  exact ⟨rfl, HB.out, HS.out⟩
/-- the order of two numbers -/
def cmp8 (x y : Int) : Int := if x < y then -1 else if y < x then 1 else 0
theorem isnan8_any (x : Int) (w : World) : Calls Tryd.prog 129 #[.int .u8 x] w fun e w' => e = .returned (.bool false) ∧ w' = w := by
  go_enter Tryd.func129, Tryd.ntmps129
  go_wp2_with fail
  go_ret
  exact ⟨rfl, rfl⟩
set_option maxRecDepth 20000 in
set_option maxHeartbeats 4000000 in
theorem compare8_any (x y : Int) (w : World) : Calls Tryd.prog 111 #[.int .u8 x, .int .u8 y] w fun e w' => e = .returned (.int .i64 (cmp8 x y)) ∧ w' = w := by
  have H := Lib.hid (fun z => isnan8_any z w)
  by_cases h1 : x < y
  · have e : cmp8 x y = -1 := if_pos h1
    rw [e]
    clear e
    go_enter Tryd.func111, Tryd.ntmps111
    go_wp2_with (go_at_call 129; refine (H.out _).mono ?_; rintro e w' ⟨rfl, rfl⟩)
    go_ret
    exact ⟨rfl, rfl⟩
  · by_cases h2 : y < x
    · have e : cmp8 x y = 1 := by unfold cmp8; rw [if_neg h1, if_pos h2]
      rw [e]
      clear e
      go_enter Tryd.func111, Tryd.ntmps111
      go_wp2_with (go_at_call 129; refine (H.out _).mono ?_; rintro e w' ⟨rfl, rfl⟩)
      go_ret
      exact ⟨rfl, rfl⟩
    · have e : cmp8 x y = 0 := by unfold cmp8; rw [if_neg h1, if_neg h2]
      rw [e]
      clear e
      go_enter Tryd.func111, Tryd.ntmps111
      go_wp2_with (go_at_call 129; refine (H.out _).mono ?_; rintro e w' ⟨rfl, rfl⟩)
      go_ret
      exact ⟨rfl, rfl⟩
/-- an item as a value -/
def It.cells (x : It) : List Value := [.int .i32 x.r, .int .u8 x.b.toNat, .bool x.bad, .int .u8 (keyI x)]
theorem It.len (x : It) : x.cells.length = 4 := rfl
theorem number_any (r b m : Int) (bad : Bool) (w : World) : Calls Tryd.prog 116 #[.agg #[.int .i32 r, .int .u8 b, .bool bad, .int .u8 m]] w fun e w' => e = .returned (.int .u8 m) ∧ Stay [] w w' := by
  have HS := Lib.hid (show Stay [] w (w.alloc (.cells #[.int .i32 r, .int .u8 b, .bool bad, .int .u8 m] 67)) from Stay.alloc _ _)
  go_enter Tryd.func116, Tryd.ntmps116
  go_wp2_with fail
  go_ret
  exact ⟨rfl, HS.out⟩
set_option maxRecDepth 20000 in
set_option maxHeartbeats 4000000 in
theorem of_any (r : Int) (w : World) : Calls Tryd.prog 114 #[.int .i32 r] w fun e w' => e = .returned (.agg #[.int .i32 r, .int .u8 0, .bool false, .int .u8 (markN r)]) ∧ Stay [] w w' := by
  obtain ⟨m, hm⟩ : ∃ m, m = markN r := ⟨_, rfl⟩
  have H := Lib.hid (fun w => mark_any r w)
  rw [← hm] at H ⊢
  clear hm
  obtain ⟨W, hW⟩ : ∃ W, W = w.alloc (.cells #[.int .i32 0, .int .u8 0, .bool false, .int .u8 0] 67) := ⟨_, rfl⟩
  have hb : Blk W w.heap.size [.int .i32 0, .int .u8 0, .bool false, .int .u8 0] 67 := by rw [hW]; exact Blk.new w _ _
  have hs : Stay [] w W := by rw [hW]; exact Stay.alloc _ _
  have HW := Lib.hid (And.intro hW (And.intro hb hs))
  clear hW hb hs
  go_enter Tryd.func114, Tryd.ntmps114
  go_upto_region 1 with fail
  rw [← HW.out.1]
  go_wp2_with fail
  refine (H.out W).mono ?_
  rintro e w2 ⟨rfl, hs⟩
  obtain ⟨b, hb⟩ : ∃ b, b = w.heap.size := ⟨_, rfl⟩
  have hbk := HW.out.2.1.stay hs (by simp)
  have HS := Lib.hid (HW.out.2.2.trans hs)
  have HBe := Lib.hid (show w.heap.size ≤ b from by omega)
  rw [← hb] at hbk ⊢
  have a0 := hbk.cell 0
  have a1 := hbk.cell 1
  have a2 := hbk.cell 2
  have a3 := hbk.cell 3
  simp at a0 a1 a2 a3
  have f0 := hbk.free 0
  have f1 := hbk.free 1
  have f2 := hbk.free 2
  have f3 := hbk.free 3
  have HB := Lib.hid hbk
  clear hs hb hbk H HW
  go_wp2_with fail
  obtain ⟨V, hV⟩ : ∃ V, V = ((((w2.setCell ⟨b, 0, none⟩ (.int .i32 r)).setCell ⟨b, 1, none⟩ (.int .u8 0)).setCell ⟨b, 2, none⟩ (.bool false)).setCell ⟨b, 3, none⟩ (.int .u8 m)) := ⟨_, rfl⟩
  rw [← hV]
  have hbv : Blk V b [.int .i32 r, .int .u8 0, .bool false, .int .u8 m] 67 := by
    rw [hV]
    exact (((HB.out.set 0 _).set 1 _).set 2 _).set 3 _
  have hsv : Stay [] w V := HS.out.trans' (G := [b]) (by
    rw [hV]
    exact (((Stay.setCell _ _ _ (by simp)).set' (.inl (by simp))).set' (.inl (by simp))).set' (.inl (by simp))) (fun g hg => .inr (by simp at hg; rw [hg]; exact HBe.out))
  have x0 := hbv.cell 0
  have x1 := hbv.cell 1
  have x2 := hbv.cell 2
  have x3 := hbv.cell 3
  exact bodyPost_ret (v := .agg #[.int .i32 r, .int .u8 0, .bool false, .int .u8 m]) (by simp at x0 x1 x2 x3; simp [results, Tryd.results114, go_sem, x0, x1, x2, x3]) rfl ⟨rfl, hsv⟩
end Go.Proofs.YtlphmcodajookaaDoor
/- norm: Pair: plain and the walk. -/
namespace Go.Proofs.YtlphmcodajookaaDoor
open Go.RowKit
/-- what a letter is with a row's mark -/
def rowFind (a : Int) : List Int → Int
  | x :: y :: l => if x = a then y else rowFind a l
  | _ => 0
theorem pairsOf_getD (m a : Int) (l : List Int) : (((pairsOf m l).find? fun t => decide (t.2.1 = a) && decide (t.2.2 = m)).map (·.1)).getD 0 = rowFind a l := by
  induction l using rowFind.induct a with
  | case1 y l =>
    unfold pairsOf rowFind
    simp
  | case2 x y l hx ih =>
    unfold pairsOf rowFind
    rw [if_neg hx]
    simp only [List.find?_cons, hx, decide_false, Bool.false_and]
    exact ih
  | case3 l h =>
    have e1 : pairsOf m l = [] := by
      match l, h with
      | [], _ => rfl
      | [_], _ => rfl
      | a :: b :: l, h => exact absurd rfl (h a b l)
    have e2 : rowFind a l = 0 := by
      match l, h with
      | [], _ => rfl
      | [_], _ => rfl
      | a :: b :: l, h => exact absurd rfl (h a b l)
    rw [e1, e2]; rfl
theorem pairsOf_mark (m : Int) : ∀ (l : List Int) (t : Int × Int × Int), t ∈ pairsOf m l → t.2.2 = m
  | [], _, h => by simp [pairsOf] at h
  | [_], _, h => by simp [pairsOf] at h
  | a :: c :: l, t, h => by
    unfold pairsOf at h
    rcases List.mem_cons.1 h with e | e
    · rw [e]
    · exact pairsOf_mark m l t e
theorem pairsOf_none {m b : Int} (a : Int) (h : m ≠ b) (l : List Int) : ((pairsOf m l).find? fun t => decide (t.2.1 = a) && decide (t.2.2 = b)) = none := by
  rw [List.find?_eq_none]
  intro t ht
  rw [pairsOf_mark m l t ht]
  simp [h]
theorem tab_none {a b : Int} : ∀ {R : List (Int × List Int)}, (∀ x ∈ R, x.1 ≠ b) → ((R.flatMap fun x => pairsOf x.1 x.2).find? fun t => decide (t.2.1 = a) && decide (t.2.2 = b)) = none
  | [], _ => rfl
  | x :: R, h => by
    rw [List.flatMap_cons, List.find?_append, pairsOf_none a (h x (by simp)), tab_none (fun y hy => h y (by simp [hy]))]; rfl
theorem pairT_rows {a b : Int} : ∀ {R : List (Int × List Int)}, (R.map (·.1)).Nodup → pairT (R.flatMap fun x => pairsOf x.1 x.2) a b = rowFind a (((R.find? fun x => decide (x.1 = b)).map (·.2)).getD [])
  | [], _ => rfl
  | x :: R, h => by
    rw [List.map_cons, List.nodup_cons] at h
    unfold pairT
    rw [List.flatMap_cons, List.find?_append]
    by_cases hb : x.1 = b
    · rw [List.find?_cons_of_pos (by simpa using hb), tab_none (fun y hy e => h.1 (by rw [hb, ← e]; exact List.mem_map_of_mem hy)), Option.or_none]
      subst hb
      exact pairsOf_getD _ _ _
    · rw [List.find?_cons_of_neg (by simpa using hb), pairsOf_none a hb, Option.none_or]
      exact pairT_rows h.2
theorem pairT_row (a b : Int) : pairT tabN a b = rowFind a (rowOf b) := pairT_rows (by decide +kernel)
theorem rows_ok : rowsN.all (fun x => x.2.all fun r => decide (okR r)) = true := by decide +kernel
theorem rowOf_ok (b : Int) : ∀ r ∈ rowOf b, okR r := fun r hr => by
  unfold rowOf at hr
  cases h : rowsN.find? (fun x => decide (x.1 = b)) with
  | none => rw [h] at hr; cases hr
  | some x =>
    rw [h] at hr
    have h1 := List.mem_of_find?_eq_some h
    have h2 := List.all_eq_true.1 rows_ok x h1
    have h3 := List.all_eq_true.1 h2 r hr
    simpa using h3
theorem restS_row (b : Int) : restS (rowS b) 0 = encs (rowOf b) := by
  rw [restS_zero]
  unfold rowS
  simp
set_option maxRecDepth 20000 in
set_option maxHeartbeats 4000000 in
theorem pair_any (a b : Int) (w : World) (ha : -2147483648 ≤ a ∧ a ≤ 2147483647) (hb : -2147483648 ≤ b ∧ b ≤ 2147483647) :
    Calls Tryd.prog 24 #[.int .i32 a, .int .i32 b] w fun e w' => e = .returned (.int .i32 (pairN a b)) ∧ Stay [] w w' := by
  have HR := Lib.hid (row_any b w)
  obtain ⟨p, hp⟩ : ∃ p, p = pairN a b := ⟨_, rfl⟩
  rw [← hp]
  obtain ⟨l, hl⟩ : ∃ l, IntKind.i32.wrap (a - 4352) = l := ⟨_, rfl⟩
  obtain ⟨v, hv⟩ : ∃ v, IntKind.i32.wrap (b - 4449) = v := ⟨_, rfl⟩
  obtain ⟨s, hs⟩ : ∃ s, IntKind.i32.wrap (a - 44032) = s := ⟨_, rfl⟩
  obtain ⟨t, ht⟩ : ∃ t, IntKind.i32.wrap (b - 4519) = t := ⟨_, rfl⟩
  have hl' : l = a - 4352 ∨ (a < -2147479296 ∧ 1000000 ≤ l) := by
    rw [← hl]; simp only [IntKind.wrap, IntKind.bits, IntKind.signed]; simp; omega
  have hv' : v = b - 4449 ∨ (b < -2147479199 ∧ 1000000 ≤ v) := by
    rw [← hv]; simp only [IntKind.wrap, IntKind.bits, IntKind.signed]; simp; omega
  have hs' : s = a - 44032 ∨ (a < -2147439616 ∧ 1000000 ≤ s) := by
    rw [← hs]; simp only [IntKind.wrap, IntKind.bits, IntKind.signed]; simp; omega
  have ht' : t = b - 4519 ∨ (b < -2147479129 ∧ 1000000 ≤ t) := by
    rw [← ht]; simp only [IntKind.wrap, IntKind.bits, IntKind.signed]; simp; omega
  have hsb : -2147483648 ≤ s ∧ s ≤ 2147483647 := by
    rw [← hs]; simp only [IntKind.wrap, IntKind.bits, IntKind.signed]; simp; omega
  obtain ⟨kb, hkb⟩ : ∃ kb : Bool, kb = (decide (0 ≤ l) && decide (l < 19) && decide (0 ≤ v) && decide (v < 21)) := ⟨_, rfl⟩
  obtain ⟨kc, hkc⟩ : ∃ kc : Bool, kc = (decide (0 ≤ s) && decide (s < 11172) && decide (s.tmod 28 = 0) && decide (0 < t) && decide (t < 28)) := ⟨_, rfl⟩
  have HKb := Lib.hid (show (kb = true ↔ 4352 ≤ a ∧ a < 4371 ∧ 4449 ≤ b ∧ b < 4470) ∧ (kb = true → l = a - 4352 ∧ v = b - 4449) from by
    rw [hkb]
    simp only [Bool.and_eq_true, decide_eq_true_eq]
    omega)
  have HKc := Lib.hid (show (kc = true ↔ 44032 ≤ a ∧ a < 55204 ∧ (a - 44032) % 28 = 0 ∧ 4519 < b ∧ b < 4547) ∧ (kc = true → t = b - 4519) from by
    rw [hkc]
    simp only [Bool.and_eq_true, decide_eq_true_eq]
    have : 0 ≤ s → s.tmod 28 = s % 28 := fun h => Int.tmod_eq_emod_of_nonneg h
    omega)
  have HP := Lib.hid (show (kb = true → p = 44032 + (l * 21 + v) * 28) ∧ (kb = false → kc = true → p = a + t) ∧ (kb = false → kc = false → p = rowFind a (rowOf b)) from by
    rw [hp]
    unfold pairN
    refine ⟨fun h => ?_, fun h1 h2 => ?_, fun h1 h2 => ?_⟩
    · have e := HKb.out.1.1 h
      have e2 := HKb.out.2 h
      have e3 : hangP a b = 44032 + ((a - 4352) * 21 + (b - 4449)) * 28 := if_pos e
      rw [e3, if_pos (by omega), e2.1, e2.2]
    · have e1 : ¬ (4352 ≤ a ∧ a < 4371 ∧ 4449 ≤ b ∧ b < 4470) := fun h => by rw [HKb.out.1.2 h] at h1; cases h1
      have e2 := HKc.out.1.1 h2
      have e3 : hangP a b = a + (b - 4519) := by unfold hangP; rw [if_neg e1, if_pos e2]
      rw [e3, if_pos (by omega), HKc.out.2 h2]
    · have e1 : ¬ (4352 ≤ a ∧ a < 4371 ∧ 4449 ≤ b ∧ b < 4470) := fun h => by rw [HKb.out.1.2 h] at h1; cases h1
      have e2 : ¬ (44032 ≤ a ∧ a < 55204 ∧ (a - 44032) % 28 = 0 ∧ 4519 < b ∧ b < 4547) := fun h => by rw [HKc.out.1.2 h] at h2; cases h2
      have e3 : hangP a b = 0 := by unfold hangP; rw [if_neg e1, if_neg e2]
      rw [e3, if_neg (by omega), pairT_row])
  have HB := Lib.hid (And.intro ha hb)
  clear hp hl' hv' hs' ht' ha hb
  go_enter Tryd.func24, Tryd.ntmps24
  go_upto_region 2 with fail
  go_cut [29] (fun bv wx => bv = .bool kb ∧ wx = w)
  case first => as_aux_lemma =>
    clear HR HKb HKc HP HB hkc hl hv hs ht hsb
    by_cases c1 : 0 ≤ l
    · rw [decide_eq_true c1, Bool.true_and] at hkb
      by_cases c2 : l < 19
      · rw [decide_eq_true c2, Bool.true_and] at hkb
        by_cases c3 : 0 ≤ v
        · rw [decide_eq_true c3, Bool.true_and] at hkb
          by_cases c4 : v < 21
          · rw [decide_eq_true c4] at hkb
            subst hkb
            go_wp2_with fail
            go_meet
            exact ⟨rfl, rfl⟩
          · rw [decide_eq_false c4] at hkb
            subst hkb
            go_wp2_with fail
            go_meet
            exact ⟨rfl, rfl⟩
        · rw [decide_eq_false c3, Bool.false_and] at hkb
          subst hkb
          go_wp2_with fail
          go_meet
          exact ⟨rfl, rfl⟩
      · rw [decide_eq_false c2, Bool.false_and, Bool.false_and] at hkb
        subst hkb
        go_wp2_with fail
        go_meet
        exact ⟨rfl, rfl⟩
    · rw [decide_eq_false c1, Bool.false_and, Bool.false_and, Bool.false_and] at hkb
      subst hkb
      go_wp2_with fail
      go_meet
      exact ⟨rfl, rfl⟩
  case rest =>
    obtain ⟨rfl, hwc⟩ := hcut
    rw [hwc]
    clear hkb hwc hl hv
    cases kb with
    | true =>
      have e1 := HKb.out.1.1 rfl
      have e2 := HKb.out.2 rfl
      have e3 := HP.out.1 rfl
      have w1 : IntKind.i32.wrap (l * 21) = l * 21 := by simp only [IntKind.wrap, IntKind.bits, IntKind.signed]; simp; omega
      have w2 : IntKind.i32.wrap (l * 21 + v) = l * 21 + v := by simp only [IntKind.wrap, IntKind.bits, IntKind.signed]; simp; omega
      have w3 : IntKind.i32.wrap ((l * 21 + v) * 28) = (l * 21 + v) * 28 := by simp only [IntKind.wrap, IntKind.bits, IntKind.signed]; simp; omega
      have w4 : IntKind.i32.wrap (44032 + (l * 21 + v) * 28) = p := by rw [e3]; simp only [IntKind.wrap, IntKind.bits, IntKind.signed]; simp; omega
      clear e1 e2 e3 HKb HKc HP HB HR hkc hs ht hsb
      go_wp2_with fail
      go_ret
      exact ⟨rfl, Stay.refl _ _⟩
    | false =>
      go_upto_region 5 with fail
      go_cut [58] (fun bv wx => bv = .bool kc ∧ wx = w)
      case first => as_aux_lemma =>
        clear HR HKb HKc HP HB hs ht
        by_cases c1 : 0 ≤ s
        · rw [decide_eq_true c1, Bool.true_and] at hkc
          by_cases c2 : s < 11172
          · rw [decide_eq_true c2, Bool.true_and] at hkc
            obtain ⟨m, hm⟩ : ∃ m, s.tmod 28 = m := ⟨_, rfl⟩
            rw [hm] at hkc
            have hmw : IntKind.i32.wrap m = m := by
              have := Int.tmod_eq_emod_of_nonneg (b := 28) c1
              simp only [IntKind.wrap, IntKind.bits, IntKind.signed]; simp; omega
            by_cases c3 : m = 0
            · rw [decide_eq_true c3, Bool.true_and] at hkc
              by_cases c4 : 0 < t
              · rw [decide_eq_true c4, Bool.true_and] at hkc
                by_cases c5 : t < 28
                · rw [decide_eq_true c5] at hkc
                  subst hkc
                  go_wp2_with fail
                  go_meet
                  exact ⟨rfl, rfl⟩
                · rw [decide_eq_false c5] at hkc
                  subst hkc
                  go_wp2_with fail
                  go_meet
                  exact ⟨rfl, rfl⟩
              · rw [decide_eq_false c4, Bool.false_and] at hkc
                subst hkc
                go_wp2_with fail
                go_meet
                exact ⟨rfl, rfl⟩
            · rw [decide_eq_false c3, Bool.false_and, Bool.false_and] at hkc
              subst hkc
              go_wp2_with fail
              go_meet
              exact ⟨rfl, rfl⟩
          · rw [decide_eq_false c2, Bool.false_and, Bool.false_and, Bool.false_and] at hkc
            subst hkc
            go_wp2_with fail
            go_meet
            exact ⟨rfl, rfl⟩
        · rw [decide_eq_false c1, Bool.false_and, Bool.false_and, Bool.false_and, Bool.false_and] at hkc
          subst hkc
          go_wp2_with fail
          go_meet
          exact ⟨rfl, rfl⟩
      case rest =>
        obtain ⟨rfl, hwc⟩ := hcut
        rw [hwc]
        clear hkc hwc hs hsb
        cases kc with
        | true =>
          have e1 := HKc.out.1.1 rfl
          have e2 := HKc.out.2 rfl
          have e3 := HP.out.2.1 rfl rfl
          have w4 : IntKind.i32.wrap (a + t) = p := by rw [e3]; simp only [IntKind.wrap, IntKind.bits, IntKind.signed]; simp; omega
          clear e1 e2 e3 HKb HKc HP HB HR ht
          go_wp2_with fail
          go_ret
          exact ⟨rfl, Stay.refl _ _⟩
        | false =>
          have HE := Lib.hid (HP.out.2.2 rfl rfl)
          clear HP HKb HKc ht
          obtain ⟨rs, hrs⟩ : ∃ rs, rs = rowS b := ⟨_, rfl⟩
          have HI := Lib.hid (show restS rs 0 = encs (rowOf b) from by rw [hrs]; exact restS_row b)
          rw [← hrs] at HR
          clear hrs
          obtain ⟨W, hW⟩ : ∃ W, W = w.iter rs 0 := ⟨_, rfl⟩
          have HIt := Lib.hid (show IterS W w.heap.size rs 0 from by rw [hW]; exact IterS.new w rs)
          have HS := Lib.hid (show Stay [] w W from by rw [hW]; exact iter_stay _ _ _)
          obtain ⟨ib, hib⟩ : ∃ ib, ib = w.heap.size := ⟨_, rfl⟩
          rw [← hib] at HIt
          have HW := Lib.hid (And.intro hW hib)
          have HIb := Lib.hid (show w.heap.size ≤ ib from by omega)
          clear hW hib
          go_wp2_with fail
          refine HR.out.mono ?_
          rintro e w1 ⟨rfl, rfl⟩
          clear HR
          go_wp2_with fail
          rw [← HW.out.1, ← HW.out.2]
          clear HW
          go_loopw [9] (fun lv wr => ∃ (st : Option Int) (rest : List Int) (q : Nat), lv = .int .i32 (st.getD (-1)) ∧ Hid (IterS wr ib rs q) ∧ Hid (restS rs q = encs rest) ∧ Hid (∀ x ∈ st.toList ++ rest, okR x) ∧ Hid (p = rowFind a (st.toList ++ rest)) ∧ Hid (Stay [] w1 wr))
            (fun _ wr => leftS wr ib)
          case atStart => exact ⟨none, rowOf b, 0, rfl, HIt, HI, rowOf_ok b, HE, HS⟩
          case round =>
            clear HIt HI HE HS
            obtain ⟨st, rest, q, rfl, HIt, HR, HO, HE, HS⟩ := hrel
            cases rest with
            | nil =>
              have hnx := snext_none (P := Tryd.prog) HIt.out 0 HR.out
              have he : p = 0 := by
                rw [HE.out]
                cases st <;> rfl
              subst he
              clear HIt HR HO HE
              go_wp2_with fail
              go_ret
              exact ⟨rfl, HS.out⟩
            | cons c rest =>
              have hc := HO.out c (by simp)
              have hd : dL (restS rs q) = (c.toNat, (enc c).length) := by rw [HR.out]; exact dL_encs hc
              obtain ⟨w2, hnx, hit, hst⟩ := snext_some (P := Tryd.prog) HIt.out 0 (by rw [HR.out]; exact encs_ne)
              rw [hd] at hnx hit
              have hc0 : ((c.toNat : Nat) : Int) = c := by unfold okR at hc; omega
              simp only [hc0] at hnx
              have HIt2 := Lib.hid hit
              have HR2 := Lib.hid (show restS rs (q + (enc c).length) = encs rest from by rw [restS_add, HR.out, encs_drop])
              have HS2 := Lib.hid (HS.out.trans' hst (fun g hg => .inr (by simp at hg; rw [hg]; exact HIb.out)))
              have HM := Lib.hid (show leftS w2 ib < leftS wr ib from by
                rw [leftS_eq hit, leftS_eq HIt.out, HR2.out, HR.out, encs_cons, List.length_append]
                have := (enc_pos c).1
                omega)
              clear hd hit hst hc0 HIt HR HS
              cases st with
              | none =>
                simp only [Option.getD_none]
                clear hc
                go_wp2_with fail
                go_roundw
                case rel => exact ⟨some c, rest, _, rfl, HIt2, HR2, HO, HE, HS2⟩
                case measure => exact HM.out
              | some x =>
                simp only [Option.getD_some]
                have hx := HO.out x (by simp)
                have hx1 : ¬ x = -1 := by unfold okR at hx; omega
                clear hc hx
                by_cases hxa : x = a
                · subst hxa
                  have he : p = c := by rw [HE.out]; exact if_pos rfl
                  subst he
                  clear HE HO
                  go_wp2_with fail
                  go_ret
                  exact ⟨rfl, HS2.out⟩
                · have HE2 := Lib.hid (show p = rowFind a rest from by rw [HE.out]; exact if_neg hxa)
                  have HO2 := Lib.hid (show ∀ y ∈ rest, okR y from fun y hy => HO.out y (by simp [hy]))
                  clear HE HO
                  go_wp2_with fail
                  go_roundw
                  case rel => exact ⟨none, rest, _, rfl, HIt2, HR2, HO2, HE2, HS2⟩
                  case measure => exact HM.out
end Go.Proofs.YtlphmcodajookaaDoor
/- norm: the map from letters to pairs as it lies in memory. -/
namespace Go.Proofs.YtlphmcodajookaaDoor
open Go.RowKit
def entT (t : Int × Int × Int) (b : Nat) : MapEntry := ⟨.int .i32 t.1, .agg #[.int .i32 t.2.1, .int .i32 t.2.2], b⟩
/-- the entries of a map, first to last, each with a stamp -/
def MapT (w : World) (mb : Nat) (T : List (Int × Int × Int)) : Prop :=
  ∃ (bs : List Nat) (ck : Nat), bs.length = T.length ∧ w.heap[mb]? = some (.map (List.zipWith entT T bs).toArray ck)
theorem u53 : Tryd.prog.underlying 53 = some (.map 21 104) := by kernel_rfl
theorem u21 : Tryd.prog.underlying 21 = some (.int .i32) := by kernel_rfl
theorem zero104 (w : World) : (zeroValue 104).run Tryd.prog w = .ok (.agg #[.int .i32 0, .int .i32 0]) w := by kernel_rfl
section
variable {w w' : World} {mb : Nat} {T : List (Int × Int × Int)}
theorem MapT.lt (h : MapT w mb T) : mb < w.heap.size := by
  obtain ⟨bs, ck, _, h⟩ := h
  exact (Array.getElem?_eq_some_iff.1 h).1
theorem MapT.stay {F : List Nat} (h : MapT w mb T) (hs : Stay F w w') (hF : mb ∉ F) : MapT w' mb T := by
  have := h.lt
  obtain ⟨bs, ck, h1, h2⟩ := h
  exact ⟨bs, ck, h1, (hs.block mb this hF).trans h2⟩
theorem MapT.new (w : World) : MapT (w.alloc (.map #[] 0)) w.heap.size [] := ⟨[], 0, rfl, heap_alloc_new w _⟩
theorem MapT.noBlk (h : MapT w mb T) {b : Nat} {l : List Value} {t : TypeId} (hb : Blk w b l t) : b ≠ mb := fun e => by
  subst e
  obtain ⟨bs, ck, _, h⟩ := h
  unfold Blk at hb
  rw [h] at hb
  cases hb
theorem MapT.noIter (h : MapT w mb T) {ib : Nat} {s : ByteArray} {p : Nat} (hb : IterS w ib s p) : ib ≠ mb := fun e => by
  subst e
  obtain ⟨bs, ck, _, h⟩ := h
  unfold IterS at hb
  rw [h] at hb
  cases hb
/-- what the look-up finds -/
def findZ (k : Int) : List (Int × Int × Int) → Nat → Option (Nat × Int × Int)
  | [], _ => none
  | t :: T, i => if k = t.1 then some (i, t.2) else findZ k T (i + 1)
theorem findNow_z (k : Int) : ∀ (T : List (Int × Int × Int)) (bs : List Nat) (i : Nat), bs.length = T.length → Instr.findNow (.int .i32) (.int .i32 k) (List.zipWith entT T bs) i = some ((findZ k T i).map fun p => (p.1, Value.agg #[.int .i32 p.2.1, .int .i32 p.2.2]))
  | [], [], _, _ => rfl
  | t :: T, b :: bs, i, h => by
    rw [List.zipWith_cons_cons, Instr.findNow, findZ]
    show (match Instr.sameNow (.int .i32) (.int .i32 k) (.int .i32 t.1) with | some true => some (some (i, Value.agg #[.int .i32 t.2.1, .int .i32 t.2.2])) | some false => Instr.findNow (.int .i32) (.int .i32 k) (List.zipWith entT T bs) (i + 1) | none => none) = _
    simp only [Instr.sameNow, if_true]
    by_cases e : k = t.1
    · rw [if_pos e]
      simp [e]
    · rw [if_neg e]
      have : (k == t.1) = false := by simpa using e
      rw [this]
      exact findNow_z k T bs (i + 1) (by simpa using h)
theorem findZ_look (k : Int) : ∀ (T : List (Int × Int × Int)) (i : Nat), (findZ k T i).map (·.2) = lookT T k
  | [], _ => rfl
  | t :: T, i => by
    unfold findZ lookT
    by_cases e : k = t.1
    · rw [if_pos e, List.find?_cons_of_pos (by simp [e])]; rfl
    · rw [if_neg e, List.find?_cons_of_neg (by simpa using fun h => e h.symm)]
      exact findZ_look k T (i + 1)
theorem findZ_none {k : Int} : ∀ (T : List (Int × Int × Int)) (i : Nat), (∀ t ∈ T, t.1 ≠ k) → findZ k T i = none
  | [], _, _ => rfl
  | t :: T, i, h => by
    rw [findZ, if_neg (fun e => h t (by simp) e.symm)]
    exact findZ_none T (i + 1) (fun y hy => h y (by simp [hy]))
theorem checkKey21 (b : Bool) (k : Int) (w : World) : (Instr.checkKey b 10000 21 (.int .i32 k)).run Tryd.prog w = .ok () w := by
  have : ∀ n, (Instr.checkKey b (n + 1) 21 (.int .i32 k)).run Tryd.prog w = .ok () w := fun n => by
    simp only [Instr.checkKey, Sem.run_bind, run_underlying u21, Result.andThen_ok]
    rfl
  exact this 9999
theorem findKey21 (k : Int) (T : List (Int × Int × Int)) (bs : List Nat) (hl : bs.length = T.length) (w : World) : (Instr.findKey 21 (.int .i32 k) (List.zipWith entT T bs)).run Tryd.prog w = .ok ((findZ k T 0).map fun p => (p.1, Value.agg #[.int .i32 p.2.1, .int .i32 p.2.2])) w := by
  simp only [Instr.findKey, Sem.run_bind, run_underlying u21, Result.andThen_ok, findNow_z k T bs 0 hl]
  rfl
theorem look_t (h : MapT w mb T) (k : Int) : (Instr.lookup 53 (.map (some mb)) (.int .i32 k) true).run Tryd.prog w = .ok (match lookT T k with | some (a, b) => .tuple #[.agg #[.int .i32 a, .int .i32 b], .bool true] | none => .tuple #[.agg #[.int .i32 0, .int .i32 0], .bool false]) w := by
  obtain ⟨bs, ck, hl, hh⟩ := h
  have hg : (getObj mb).run Tryd.prog w = .ok (.map (List.zipWith entT T bs).toArray ck) w := by simp only [getObj, Sem.run, hh]
  simp only [Instr.lookup, Sem.run_bind, run_underlying u53, Result.andThen_ok, hg, Sem.run_pure, checkKey21, findKey21 k T bs hl]
  rw [← findZ_look k T 0]
  cases findZ k T 0 with
  | none =>
    simp only [Option.map_none, Sem.run_bind, zero104, Result.andThen_ok, Sem.run_pure, if_true]
  | some p =>
    simp only [Option.map_some, Sem.run_bind, Sem.run_pure, Result.andThen_ok, if_true]
theorem upd_t (h : MapT w mb T) {k : Int} (hk : ∀ t ∈ T, t.1 ≠ k) (a b : Int) :
    ∃ w', (Instr.mapUpdate 53 (.map (some mb)) (.int .i32 k) (.agg #[.int .i32 a, .int .i32 b])).run Tryd.prog w = .ok () w' ∧ MapT w' mb (T ++ [(k, a, b)]) ∧ Stay [mb] w w' := by
  have hlt := h.lt
  obtain ⟨bs, ck, hl, hh⟩ := h
  have hg : (getObj mb).run Tryd.prog w = .ok (.map (List.zipWith entT T bs).toArray ck) w := by simp only [getObj, Sem.run, hh]
  have hz : List.zipWith entT (T ++ [(k, a, b)]) (bs ++ [ck]) = List.zipWith entT T bs ++ [entT (k, a, b) ck] := by
    rw [List.zipWith_append hl.symm]; rfl
  refine ⟨{ w with heap := w.heap.setIfInBounds mb (.map ((List.zipWith entT T bs).toArray.push (entT (k, a, b) ck)) (ck + 1)) }, ?_, ⟨bs ++ [ck], ck + 1, by simp [hl], ?_⟩, ?_⟩
  · have hs : ∀ o', (setObj mb o').run Tryd.prog w = .ok () { w with heap := w.heap.setIfInBounds mb o' } := fun o' => by
      simp only [setObj, Sem.run]
      rw [hh]
    simp only [Instr.mapUpdate, Sem.run_bind, run_underlying u53, Result.andThen_ok, hg, checkKey21, findKey21 k T bs hl, findZ_none T 0 hk, Option.map_none, hs]
    rfl
  · rw [hz]
    simp [hlt]
  · refine ⟨rfl, rfl, rfl, by simp, fun i _ hi => ?_⟩
    simp only [List.mem_singleton] at hi
    show (w.heap.setIfInBounds mb _)[i]? = _
    rw [Array.getElem?_setIfInBounds_ne (by omega)]
end
end Go.Proofs.YtlphmcodajookaaDoor
/- norm: pairs: the walk. -/
namespace Go.Proofs.YtlphmcodajookaaDoor
open Go.RowKit
theorem rows_pos : rowsN.all (fun x => x.2.all fun r => decide (0 < r)) = true := by decide +kernel
theorem rowOf_pos (b : Int) : ∀ r ∈ rowOf b, 0 < r := fun r hr => by
  unfold rowOf at hr
  cases h : rowsN.find? (fun x => decide (x.1 = b)) with
  | none => rw [h] at hr; cases hr
  | some x =>
    rw [h] at hr
    have h2 := List.all_eq_true.1 rows_pos x (List.mem_of_find?_eq_some h)
    have h3 := List.all_eq_true.1 h2 r hr
    simpa using h3
/-- the table up to a row -/
def tabUp (i : Nat) : List (Int × Int × Int) := (rowsN.take i).flatMap fun x => pairsOf x.1 x.2
theorem tabUp_all : tabUp 15 = tabN := rfl
theorem tabUp_next : ∀ i, i < 15 → tabUp (i + 1) = tabUp i ++ pairsOf (markL.getD i 0) (rowOf (markL.getD i 0)) := by decide +kernel
theorem tab_nodup : (tabN.map (·.1)).Nodup := by decide +kernel
theorem tabUp_prefix (i : Nat) : ∃ r, tabN = tabUp i ++ r := ⟨(rowsN.drop i).flatMap fun x => pairsOf x.1 x.2, by
  unfold tabN tabUp
  rw [← List.flatMap_append, List.take_append_drop]⟩
theorem tab_fresh {i : Nat} {T r : List (Int × Int × Int)} {t : Int × Int × Int} (h : T ++ t :: r = tabUp i) : ∀ x ∈ T, x.1 ≠ t.1 := fun x hx e => by
  obtain ⟨r', hr⟩ := tabUp_prefix i
  have hn := tab_nodup
  rw [hr, ← h, List.append_assoc, List.map_append, List.nodup_append] at hn
  exact hn.2.2 x.1 (List.mem_map_of_mem hx) t.1 (by simp) e
set_option maxRecDepth 20000 in
set_option maxHeartbeats 4000000 in
theorem pairs_any (w : World) : Calls Tryd.prog 64 #[] w fun e w' => ∃ mb, e = .returned (.map (some mb)) ∧ w.heap.size ≤ mb ∧ MapT w' mb tabN ∧ Stay [] w w' := by
  have hmk : ∀ w, (Instr.makeMap 53 none).run Tryd.prog w = .ok (.map (some w.heap.size)) (w.alloc (.map #[] 0)) := fun w => by kernel_rfl
  obtain ⟨W1, hW1⟩ : ∃ W, W = w.alloc (.map #[] 0) := ⟨_, rfl⟩
  have HM1 := Lib.hid (show MapT W1 w.heap.size (tabUp 0) from by rw [hW1]; exact MapT.new w)
  have HS1 := Lib.hid (show Stay [] w W1 from by rw [hW1]; exact Stay.alloc _ _)
  obtain ⟨mb, hmb⟩ : ∃ m, m = w.heap.size := ⟨_, rfl⟩
  rw [← hmb] at HM1
  have HW1 := Lib.hid (And.intro hW1 hmb)
  have HMb := Lib.hid (show w.heap.size ≤ mb from by omega)
  have HN := Lib.hid (nmarks_any W1)
  have HR := Lib.hid (fun b w => row_any b w)
  clear hW1 hmb
  go_enter Tryd.func64, Tryd.ntmps64
  go_upto_region 2 with fail
  rw [← HW1.out.1, ← HW1.out.2]
  clear hmk HW1
  go_wp2_with fail
  refine HN.out.mono ?_
  rintro e w2 ⟨rfl, hbl, hs2⟩
  obtain ⟨lb, hlb⟩ : ∃ b, b = W1.heap.size := ⟨_, rfl⟩
  rw [← hlb] at hbl ⊢
  have HL := Lib.hid hbl
  have HS2 := Lib.hid (HS1.out.trans hs2)
  have HM2 := Lib.hid (HM1.out.stay hs2 (by simp))
  have HLb := Lib.hid (show w.heap.size ≤ lb from by have := HS1.out.size; omega)
  clear hbl hs2 hlb HN HM1 HS1
  go_wp2_with fail
  go_loopw [10] (fun iv wr => ∃ i : Nat, iv = .int .i64 i ∧ i ≤ 15 ∧ Hid (MapT wr mb (tabUp i)) ∧ Hid (Blk wr lb (markL.map fun x => .int .i32 x) 21) ∧ Hid (Stay [] w wr)) (fun iv _ => 15 - (intOf iv).toNat)
  case atStart => exact ⟨0, rfl, by omega, HM2, HL, HS2⟩
  case round =>
    clear HM2 HL HS2
    obtain ⟨i, rfl, hi, HM, HL, HS⟩ := hrel
    by_cases hi2 : i < 15
    · obtain ⟨m, hm⟩ : ∃ m, m = markL.getD i 0 := ⟨_, rfl⟩
      have c0 : wr.cell? ⟨lb, i, none⟩ = some (.int .i32 m) := by
        rw [HL.out.cell i, List.getElem?_map, hm, List.getD_eq_getElem?_getD, List.getElem?_eq_getElem (by simpa [markL] using hi2)]
        rfl
      have hi0 : (0 : Int) ≤ i := by omega
      have hi15 : (i : Int) < 15 := by omega
      obtain ⟨rs, hrs⟩ : ∃ rs, rs = rowS m := ⟨_, rfl⟩
      have HRw := Lib.hid (show Calls Tryd.prog 65 #[.int .i32 m] wr fun e w' => e = .returned (.string rs) ∧ w' = wr from by rw [hrs]; exact HR.out m wr)
      have HI := Lib.hid (show restS rs 0 = encs (rowOf m) from by rw [hrs]; exact restS_row m)
      have HT := Lib.hid (show tabUp i ++ pairsOf m (rowOf m) = tabUp (i + 1) from by rw [hm]; exact (tabUp_next i hi2).symm)
      have HO := Lib.hid (show ∀ r ∈ rowOf m, okR r ∧ 0 < r from fun r hr => ⟨rowOf_ok m r hr, rowOf_pos m r hr⟩)
      obtain ⟨W, hW⟩ : ∃ W, W = wr.iter rs 0 := ⟨_, rfl⟩
      have hit : IterS W wr.heap.size rs 0 := by rw [hW]; exact IterS.new wr rs
      have hst : Stay [] wr W := by rw [hW]; exact iter_stay _ _ _
      obtain ⟨ib, hib⟩ : ∃ ib, ib = wr.heap.size := ⟨_, rfl⟩
      rw [← hib] at hit
      have HIt := Lib.hid hit
      have HMw := Lib.hid (HM.out.stay hst (by simp))
      have HLw := Lib.hid (HL.out.stay hst (by simp))
      have HSw := Lib.hid (HS.out.trans hst)
      have HW := Lib.hid (And.intro hW hib)
      have HIb := Lib.hid (show w.heap.size ≤ ib from by have := HS.out.size; omega)
      clear hm hrs hW hib hit hst HM HL HS HR
      go_wp2_with fail
      refine HRw.out.mono ?_
      rintro e w1 ⟨rfl, rfl⟩
      clear HRw c0
      go_wp2_with fail
      rw [← HW.out.1, ← HW.out.2]
      clear HW
      go_loopw [4] (fun lv wr => ∃ (st : Option Int) (rest : List Int) (q : Nat) (T : List (Int × Int × Int)), lv = .int .i32 (st.getD 0) ∧ Hid (IterS wr ib rs q) ∧ Hid (restS rs q = encs rest) ∧ Hid (∀ x ∈ st.toList ++ rest, okR x ∧ 0 < x) ∧ Hid (MapT wr mb T) ∧ Hid (T ++ pairsOf m (st.toList ++ rest) = tabUp (i + 1)) ∧ Hid (Blk wr lb (markL.map fun x => .int .i32 x) 21) ∧ Hid (Stay [] w wr))
        (fun _ wr => leftS wr ib)
      case atStart => exact ⟨none, rowOf m, 0, tabUp i, rfl, HIt, HI, HO, HMw, HT, HLw, HSw⟩
      case round =>
        clear HIt HI HO HMw HT HLw HSw
        obtain ⟨st, rest, q, T, rfl, HIt, HR, HO, HM, HT, HL, HS⟩ := hrel
        cases rest with
        | nil =>
          have hnx := snext_none (P := Tryd.prog) HIt.out 0 HR.out
          have HT2 := Lib.hid (show MapT wr mb (tabUp (i + 1)) from by
            have e : pairsOf m (st.toList ++ []) = [] := by cases st <;> rfl
            rw [← HT.out, e, List.append_nil]
            exact HM.out)
          have hnw : IntKind.i64.wrap ((i : Int) + 1) = (i : Int) + 1 := by simp only [IntKind.wrap, IntKind.bits, IntKind.signed]; simp; omega
          clear HIt HR HO HM HT
          go_wp2_with fail
          go_roundw
          case rel => exact ⟨i + 1, by go_num, by omega, HT2, HL, HS⟩
          case measure => simp [intOf]; omega
        | cons c rest =>
          have hc := HO.out c (by simp)
          have hd : dL (restS rs q) = (c.toNat, (enc c).length) := by rw [HR.out]; exact dL_encs hc.1
          obtain ⟨w2, hnx, hit, hst⟩ := snext_some (P := Tryd.prog) HIt.out 0 (by rw [HR.out]; exact encs_ne)
          rw [hd] at hnx hit
          have hc0 : ((c.toNat : Nat) : Int) = c := by omega
          simp only [hc0] at hnx
          have HIt2 := Lib.hid hit
          have HR2 := Lib.hid (show restS rs (q + (enc c).length) = encs rest from by rw [restS_add, HR.out, encs_drop])
          have HS2 := Lib.hid (HS.out.trans' hst (fun g hg => .inr (by simp at hg; rw [hg]; exact HIb.out)))
          have HM2 := Lib.hid (HM.out.stay hst (by simpa using (HM.out.noIter HIt.out).symm))
          have HL2 := Lib.hid (HL.out.stay hst (by simpa using HIt.out.noBlk HL.out))
          have HMe := Lib.hid (show leftS w2 ib < leftS wr ib from by
            rw [leftS_eq hit, leftS_eq HIt.out, HR2.out, HR.out, encs_cons, List.length_append]
            have := (enc_pos c).1
            omega)
          clear hd hit hst hc0 HIt HR HS HM HL hc
          cases st with
          | none =>
            simp only [Option.getD_none]
            go_wp2_with fail
            go_roundw
            case rel => exact ⟨some c, rest, _, T, rfl, HIt2, HR2, HO, HM2, HT, HL2, HS2⟩
            case measure => exact HMe.out
          | some x =>
            simp only [Option.getD_some]
            have hx := HO.out x (by simp)
            have hx1 : ¬ x = 0 := by omega
            obtain ⟨w3, hup, hm3, hs3⟩ := upd_t HM2.out (k := c) (tab_fresh (t := (c, x, m)) (r := pairsOf m rest) HT.out) x m
            have HM3 := Lib.hid hm3
            have HT3 := Lib.hid (show (T ++ [(c, x, m)]) ++ pairsOf m rest = tabUp (i + 1) from by
              rw [List.append_assoc]
              exact HT.out)
            have HO3 := Lib.hid (show ∀ y ∈ rest, okR y ∧ 0 < y from fun y hy => HO.out y (by simp [hy]))
            have HIt3 := Lib.hid (HIt2.out.stay hs3 (by simpa using HM2.out.noIter HIt2.out))
            have HL3 := Lib.hid (HL2.out.stay hs3 (by simpa using HM2.out.noBlk HL2.out))
            have HS3 := Lib.hid (HS2.out.trans' hs3 (fun g hg => .inr (by simp at hg; rw [hg]; exact HMb.out)))
            have HMe3 := Lib.hid (show leftS w3 ib < leftS wr ib from by
              rw [leftS_eq HIt3.out, ← leftS_eq HIt2.out]; exact HMe.out)
            clear hx hm3 hs3 HM2 HT HO HIt2 HL2 HS2 HMe
            go_wp2_with fail
            go_roundw
            case rel => exact ⟨none, rest, _, T ++ [(c, x, m)], rfl, HIt3, HR2, HO3, HM3, HT3, HL3, HS3⟩
            case measure => exact HMe3.out
    · obtain rfl : i = 15 := by omega
      have HF := Lib.hid (show MapT wr mb tabN from by rw [← tabUp_all]; exact HM.out)
      clear HM hi2
      go_wp2_with fail
      go_ret
      exact ⟨mb, rfl, HMb.out, HF.out, HS.out⟩
end Go.Proofs.YtlphmcodajookaaDoor
/- norm: split: the walk. -/
namespace Go.Proofs.YtlphmcodajookaaDoor
open Go.RowKit
/-- a row of numbers that a call made -/
def Runes (w : World) (l : List Int) (e : Ending) (w' : World) : Prop :=
  ∃ (A : Option Addr) (c : Nat), e = .returned (.slice A l.length c) ∧ Win w' w.heap.size 21 1 A l.length c (ints .i32 l) ∧ Stay [] w w'
theorem info21 : (Tryd.prog.info? 21).map (fun i => (i.zero, i.size, i.bytes)) = some (some (.int .i32 0), 1, 4) := by kernel_rfl
def depB : Nat → Int → Bool
  | 0, r => isHang (singleN r) || (lookN (singleN r)).isNone
  | n + 1, r => isHang (singleN r) || match lookN (singleN r) with
    | none => true
    | some (a, _) => depB n a
theorem dep_lines : tabN.all (fun t => depB 2 t.2.1) = true := by decide +kernel
theorem dep_all (r : Int) : depB 3 r = true := by
  unfold depB
  cases h : lookN (singleN r) with
  | none => simp
  | some t =>
    obtain ⟨a, b⟩ := t
    have := List.all_eq_true.1 dep_lines _ (look_mem h)
    simp only at this
    simp [this]
theorem win_new (w : World) (l : List Int) (hl : l.length ≤ maxLen) : Win (w.alloc (.cells (ints .i32 l).toArray 21)) w.heap.size 21 1 (some ⟨w.heap.size, 0, none⟩) l.length l.length (ints .i32 l) :=
  ⟨by simp [ints], Nat.le_refl _, hl, .inr ⟨w.heap.size, 0, _, rfl, Nat.le_refl _, Blk.new w _ _, by simp [ints], by rw [List.drop_zero, Nat.mul_one]; exact List.take_of_length_le (by simp [ints])⟩⟩
theorem splitF_len : ∀ (n : Nat) (r : Int), (splitF n r).length ≤ n + 3
  | 0, r => by simp [splitF]
  | n + 1, r => by
    rcases split_cases n r with ⟨_, e⟩ | ⟨a, b, _, _, e⟩ | ⟨_, e⟩ <;> rw [e]
    · unfold hangN
      split <;> simp
    · have := splitF_len n a
      rw [List.length_append, List.length_singleton]
      omega
    · simp
set_option maxRecDepth 20000 in
set_option maxHeartbeats 4000000 in
theorem split_step (n : Nat) (r : Int) (w : World) (mb : Nat) (hm : MapT w mb tabN) (hr : -2147483648 ≤ r ∧ r ≤ 2147483647) (hn : n ≤ 5)
    (ih : ∀ (a b : Int) (w' : World), isHang (singleN r) = false → lookN (singleN r) = some (a, b) → MapT w' mb tabN → Calls Tryd.prog 63 #[.map (some mb), .int .i32 a] w' (Runes w' (splitF n a))) :
    Calls Tryd.prog 63 #[.map (some mb), .int .i32 r] w (Runes w (splitF (n + 1) r)) := by
  have HS := Lib.hid (single_any r w)
  obtain ⟨r1, hr1⟩ : ∃ x, x = singleN r := ⟨_, rfl⟩
  have hb1 : -2147483648 ≤ r1 ∧ r1 ≤ 2147483647 := by
    rw [hr1]; unfold singleN
    repeat' split
    all_goals omega
  have hsp : splitF (n + 1) r = if isHang r1 = true then hangN r1 else match lookN r1 with | some (a, b) => splitF n a ++ [b] | none => [r1] := by rw [hr1]; rfl
  obtain ⟨L, hL⟩ : ∃ L, L = splitF (n + 1) r := ⟨_, rfl⟩
  rw [← hL]
  have HL := Lib.hid (hL.trans hsp)
  rw [← hr1] at ih HS
  have hlk := look_t hm r1
  rw [show lookT tabN r1 = lookN r1 from rfl] at hlk
  obtain ⟨s, hs⟩ : ∃ s, IntKind.i32.wrap (r1 - 44032) = s := ⟨_, rfl⟩
  have hs' : s = r1 - 44032 ∨ (r1 < -2147439616 ∧ 1000000 ≤ s) := by
    rw [← hs]; simp only [IntKind.wrap, IntKind.bits, IntKind.signed]; simp; omega
  obtain ⟨kb, hkb⟩ : ∃ kb : Bool, kb = (decide (0 ≤ s) && decide (s < 11172)) := ⟨_, rfl⟩
  have HK := Lib.hid (show isHang r1 = kb ∧ (kb = true → s = r1 - 44032 ∧ 44032 ≤ r1 ∧ r1 < 55204) from by
    have h1 : isHang r1 = kb := by
      rw [hkb]; unfold isHang
      rw [Bool.eq_iff_iff]
      simp only [Bool.and_eq_true, decide_eq_true_eq]
      omega
    refine ⟨h1, fun h => ?_⟩
    rw [hkb] at h
    simp only [Bool.and_eq_true, decide_eq_true_eq] at h
    omega)
  have HM := Lib.hid hm
  have HIh := Lib.hid ih
  have HLk := Lib.hid hlk
  have HB1 := Lib.hid hb1
  have hin : (Tryd.prog.info? 21).map (fun i => (i.zero, i.size, i.bytes)) = some (some (.int .i32 0), 1, 4) := info21
  obtain ⟨i21, hi, hz, hsz, hy⟩ := info_parts hin
  have HI := Lib.hid (And.intro hi (And.intro hz (And.intro hsz hy)))
  clear hr1 hb1 hsp hs' hm ih hlk hL hin hi hz hsz hy
  go_enter Tryd.func63, Tryd.ntmps63
  go_wp2_with fail
  refine HS.out.mono ?_
  rintro e w1 ⟨rfl, hw1⟩
  rw [hw1]
  clear hw1 HS
  go_upto_region 3 with fail
  go_cut [18] (fun bv wx => bv = .bool kb ∧ wx = w)
  case first => as_aux_lemma =>
    clear HK HM HIh HLk hs
    by_cases c1 : 0 ≤ s
    · rw [decide_eq_true c1, Bool.true_and] at hkb
      by_cases c2 : s < 11172
      · rw [decide_eq_true c2] at hkb
        subst hkb
        go_wp2_with fail
        go_meet
        exact ⟨rfl, rfl⟩
      · rw [decide_eq_false c2] at hkb
        subst hkb
        go_wp2_with fail
        go_meet
        exact ⟨rfl, rfl⟩
    · rw [decide_eq_false c1, Bool.false_and] at hkb
      subst hkb
      go_wp2_with fail
      go_meet
      exact ⟨rfl, rfl⟩
  case rest =>
    obtain ⟨rfl, hwc⟩ := hcut
    rw [hwc]
    clear hwc hkb hs
    cases kb with
    | true =>
      obtain ⟨e1, e2, e3⟩ := HK.out.2 rfl
      have hL : L = hangN r1 := HL.out.trans (if_pos HK.out.1)
      clear HK HL HIh HLk HM HB1
      obtain ⟨x1, hx1⟩ : ∃ x, x = 4352 + s / 588 := ⟨_, rfl⟩
      obtain ⟨x2, hx2⟩ : ∃ x, x = 4449 + s / 28 % 21 := ⟨_, rfl⟩
      obtain ⟨q, hq⟩ : ∃ x, x = s % 28 := ⟨_, rfl⟩
      have hL2 : L = [x1, x2] ++ if q = 0 then [] else [4519 + q] := by
        rw [hL, hx1, hx2, hq, e1]; rfl
      have d1 : s.tdiv 588 = s / 588 := Int.tdiv_eq_ediv_of_nonneg (by omega)
      have d2 : s.tdiv 28 = s / 28 := Int.tdiv_eq_ediv_of_nonneg (by omega)
      have d3 : (s / 28).tmod 21 = s / 28 % 21 := Int.tmod_eq_emod_of_nonneg (by omega)
      have d4 : s.tmod 28 = q := by rw [hq]; exact Int.tmod_eq_emod_of_nonneg (by omega)
      have w1 : IntKind.i32.wrap (s / 588) = s / 588 := by simp only [IntKind.wrap, IntKind.bits, IntKind.signed]; simp; omega
      have w2 : IntKind.i32.wrap (s / 28) = s / 28 := by simp only [IntKind.wrap, IntKind.bits, IntKind.signed]; simp; omega
      have w3 : IntKind.i32.wrap (s / 28 % 21) = s / 28 % 21 := by simp only [IntKind.wrap, IntKind.bits, IntKind.signed]; simp; omega
      have w4 : IntKind.i32.wrap (4352 + s / 588) = x1 := by rw [hx1]; simp only [IntKind.wrap, IntKind.bits, IntKind.signed]; simp; omega
      have w5 : IntKind.i32.wrap (4449 + s / 28 % 21) = x2 := by rw [hx2]; simp only [IntKind.wrap, IntKind.bits, IntKind.signed]; simp; omega
      have w6 : IntKind.i32.wrap q = q := by simp only [IntKind.wrap, IntKind.bits, IntKind.signed]; simp; omega
      have w7 : IntKind.i32.wrap (4519 + q) = 4519 + q := by simp only [IntKind.wrap, IntKind.bits, IntKind.signed]; simp; omega
      have HW0 := Lib.hid (win_new w [x1, x2] (by simp [maxLen]))
      have HS0 := Lib.hid (show Stay [] w (w.alloc (.cells (ints .i32 [x1, x2]).toArray 21)) from Stay.alloc _ _)
      have HQ := Lib.hid (show 0 ≤ q ∧ q < 28 from by omega)
      have HLx := Lib.hid hL2
      obtain ⟨W, hW⟩ : ∃ W, W = w.alloc (.cells (ints .i32 [x1, x2]).toArray 21) := ⟨_, rfl⟩
      rw [← hW] at HW0 HS0
      have HWe := Lib.hid hW
      clear hx1 hx2 hq hL hL2 e1 e2 e3 hW
      by_cases hq0 : q = 0
      · subst hq0
        go_wp2_with fail
        go_ret
        refine ⟨some ⟨w.heap.size, 0, none⟩, 2, ?_, ?_, ?_⟩
        · rw [HLx.out]; rfl
        · rw [HLx.out]
          have := HW0.out
          rw [HWe.out] at this
          exact this
        · have := HS0.out
          rw [HWe.out] at this
          exact this
      · have hq1 : 0 < q := by have := HQ.out; omega
        have HWn := Lib.hid (cells_new W [.int .i32 (4519 + q)] 21 W.heap.size rfl)
        have HW2 := Lib.hid (HW0.out.stay0 (Stay.alloc W (.cells #[.int .i32 (4519 + q)] 21)))
        have HS2 := Lib.hid (HS0.out.alloc' (o := .cells #[.int .i32 (4519 + q)] 21))
        have hsz : w.heap.size ≤ (W.alloc (.cells #[.int .i32 (4519 + q)] 21)).heap.size := HS2.out.size
        have HSz := Lib.hid hsz
        clear hsz
        go_upto_region 6 with fail
        have e : w.alloc (.cells #[.int .i32 x1, .int .i32 x2] 21) = W := HWe.out.symm
        rw [e]
        clear e
        go_wp2_with (refine wpList_append_win rfl (.tmp 30) (.tmp 34) 22 rfl w.heap.size 21 1 i21 _ 4 Tryd.underlying22 HI.out.1 HI.out.2.1 HI.out.2.2.1 HI.out.2.2.2 rfl (by omega) (some ⟨w.heap.size, 0, none⟩) 2 2 (ints .i32 [x1, x2]) rfl HW2.out ⟨W.heap.size, 0, none⟩ 1 1 rfl [.int .i32 (4519 + q)] rfl (by omega) HWn.out (by simp [Value.oneCell']) (by simp [maxLen]) (by omega) HSz.out ?_
                     intro A' c' w8 hw8 hs8 _
                     have H8 := Lib.hid hw8
                     have HS8 := Lib.hid (HS2.out.trans' hs8 (fun g hg => .inr (by simp [Ab] at hg; omega)))
                     clear hw8 hs8)
        go_ret
        have e : L = [x1, x2, 4519 + q] := by rw [HLx.out, if_neg hq0]; rfl
        subst e
        exact ⟨A', c', rfl, H8.out, HS8.out⟩
    | false =>
      have hh : isHang r1 = false := HK.out.1
      have hL : L = match lookN r1 with | some (a, b) => splitF n a ++ [b] | none => [r1] := HL.out.trans (if_neg (by simp [hh]))
      have hlk := HLk.out
      clear HK HL
      cases hl : lookN r1 with
      | none =>
        rw [hl] at hL hlk
        simp only at hL hlk
        subst hL
        obtain ⟨W, hW⟩ : ∃ W, W = w.alloc (.cells #[.int .i32 0, .int .i32 0] 104) := ⟨_, rfl⟩
        have hs : Stay [] w W := by rw [hW]; exact Stay.alloc _ _
        have HWn := Lib.hid ((win_new W [r1] (by simp [maxLen])).mono hs.size)
        have HS := Lib.hid (show Stay [] w (W.alloc (.cells (ints .i32 [r1]).toArray 21)) from hs.alloc')
        have HW := Lib.hid hW
        clear hW hs hh hl HLk HIh
        go_wp2_with fail
        go_ret
        have e := HW.out
        subst e
        have h1 := HWn.out
        rw [size_alloc'] at h1
        exact ⟨some ⟨w.heap.size + 1, 0, none⟩, 1, rfl, h1, HS.out⟩
      | some t =>
        obtain ⟨a, b⟩ := t
        rw [hl] at hL hlk
        simp only at hL hlk
        have HC := Lib.hid (fun w' hm => HIh.out a b w' hh hl hm)
        obtain ⟨W, hW⟩ : ∃ W, W = w.alloc (.cells #[.int .i32 a, .int .i32 b] 104) := ⟨_, rfl⟩
        have hs : Stay [] w W := by rw [hW]; exact Stay.alloc _ _
        have hbk : Blk W w.heap.size [.int .i32 a, .int .i32 b] 104 := by rw [hW]; exact Blk.new w _ _
        obtain ⟨bx, hbx⟩ : ∃ b, b = w.heap.size := ⟨_, rfl⟩
        rw [← hbx] at hbk
        have HBk := Lib.hid hbk
        have HS := Lib.hid hs
        have HMw := Lib.hid (HM.out.stay hs (by simp))
        have HW := Lib.hid (And.intro hW hbx)
        have HLe := Lib.hid hL
        have c0 := hbk.cell 0
        have c1 := hbk.cell 1
        simp at c0 c1
        clear hW hs hbk hbx hh hl hL HLk HIh HM
        go_upto_region 9 with fail
        rw [← HW.out.1, ← HW.out.2]
        clear hlk
        go_upto_region 10 with fail
        have HLn := Lib.hid (show (splitF n a).length ≤ 8 from Nat.le_trans (splitF_len n a) (by omega))
        go_region_held_law (fun w' => w'.cell? ⟨bx, 0, none⟩ = some (.int .i32 a) ∧ w'.cell? ⟨bx, 1, none⟩ = some (.int .i32 b)) (first | exact hq | exact ⟨c0, c1⟩ | go_keep)
          (first
            | (go_at_call 63; refine (HC.out _ (HMw.out.stay (F := []) (Stay.drew _) (by simp))).mono ?_; rintro e w3 ⟨A3, c3, rfl, hw3, hs3⟩; have HB3 := Lib.hid (show Blk w3 bx [.int .i32 a, .int .i32 b] 104 from (HBk.out.stay (F := []) (Stay.drew _) (by simp)).stay hs3 (by simp)); have hq := And.intro (HB3.out.cell 0) (HB3.out.cell 1); simp at hq; have HS3 := Lib.hid (show Stay [] w w3 from (HS.out.trans (Stay.drew _)).trans hs3); have HA3 := Lib.hid (show ∀ g ∈ Ab A3, bx < g from fun g hg => by have h1 := (hw3.ab g hg).1; have h2 := HBk.out.lt; simp at h1; omega); have HW3 := Lib.hid (hw3.mono (B' := w.heap.size) (by have := HS.out.size; simp; omega)); clear hw3 hs3)
            | (go_at_call 63; refine (HC.out _ (HMw.out.stay (F := []) ((Stay.drew _).alloc') (by simp))).mono ?_; rintro e w3 ⟨A3, c3, rfl, hw3, hs3⟩; have HB3 := Lib.hid (show Blk w3 bx [.int .i32 a, .int .i32 b] 104 from (HBk.out.stay (F := []) ((Stay.drew _).alloc') (by simp)).stay hs3 (by simp)); have HNb := Lib.hid (show Blk w3 W.heap.size [.int .i32 b] 21 from Blk.stay (F := []) (Blk.new W.drew [.int .i32 b] 21) hs3 (by simp)); have hq := And.intro (HB3.out.cell 0) (HB3.out.cell 1); simp at hq; have HS3 := Lib.hid (show Stay [] w w3 from (HS.out.trans ((Stay.drew _).alloc')).trans hs3); have HA3 := Lib.hid (show ∀ g ∈ Ab A3, bx < g from fun g hg => by have h1 := (hw3.ab g hg).1; have h2 := HBk.out.lt; simp at h1; omega); have HW3 := Lib.hid (hw3.mono (B' := w.heap.size) (by have := HS.out.size; simp; omega)); clear hw3 hs3)
            | (refine step_append_win (by rfl) (.tmp 47) (.tmp 50) 22 (by rfl) w.heap.size 21 1 i21 _ 4 Tryd.underlying22 HI.out.1 HI.out.2.1 HI.out.2.2.1 HI.out.2.2.2 (by rfl) (by omega) A3 (splitF n a).length c3 (ints .i32 (splitF n a)) (by rfl) (HW3.out.stay0 (Stay.alloc _ _)) ⟨w3.heap.size, 0, none⟩ 1 1 (by rfl) [.int .i32 b] (by rfl) (by omega) (cells_new w3 [.int .i32 b] 21 w3.heap.size rfl) (by simp [Value.oneCell']) (by have := HLn.out; simp only [maxLen]; omega) (by have := HLn.out; omega) (Nat.le_trans HS3.out.size (by simp)) ?_; intro A' c' w8 hw8 hs8 _; have H8 := Lib.hid hw8; have HB8 := Lib.hid (show Blk w8 bx [.int .i32 a, .int .i32 b] 104 from (HB3.out.stay (F := []) (Stay.alloc _ _) (by simp)).stay hs8 (fun hg => Nat.lt_irrefl _ (HA3.out _ hg))); have hq := And.intro (HB8.out.cell 0) (HB8.out.cell 1); simp at hq; have HS8 := Lib.hid ((HS3.out.alloc').trans' hs8 (fun g hg => .inr (HW3.out.ab g hg).1)); clear hw8 hs8)
            | (refine step_append_win (by rfl) (.tmp 47) (.tmp 50) 22 (by rfl) w.heap.size 21 1 i21 _ 4 Tryd.underlying22 HI.out.1 HI.out.2.1 HI.out.2.2.1 HI.out.2.2.2 (by rfl) (by omega) A3 (splitF n a).length c3 (ints .i32 (splitF n a)) (by rfl) (HW3.out) ⟨W.heap.size, 0, none⟩ 1 1 (by rfl) [.int .i32 b] (by rfl) (by omega) (fun j u hj => by rw [add_lit', Nat.zero_add, HNb.out.cell j]; exact hj) (by simp [Value.oneCell']) (by have := HLn.out; simp only [maxLen]; omega) (by have := HLn.out; omega) (HS3.out.size) ?_; intro A' c' w8 hw8 hs8 _; have H8 := Lib.hid hw8; have HB8 := Lib.hid (show Blk w8 bx [.int .i32 a, .int .i32 b] 104 from (HB3.out).stay hs8 (fun hg => Nat.lt_irrefl _ (HA3.out _ hg))); have hq := And.intro (HB8.out.cell 0) (HB8.out.cell 1); simp at hq; have HS8 := Lib.hid ((HS3.out).trans' hs8 (fun g hg => .inr (HW3.out.ab g hg).1)); clear hw8 hs8))
        all_goals
          go_wp2_with fail
          go_ret
          have e : L = splitF n a ++ [b] := HLe.out
          subst e
          refine ⟨A', c', ?_, ?_, HS8.out⟩
          · rw [List.length_append]; simp
          · have h9 := H8.out
            rw [List.length_append, ints_app]
            exact h9
theorem split_n : ∀ (n : Nat) (r : Int) (w : World) (mb : Nat), n ≤ 5 → depB n r = true → MapT w mb tabN → (-2147483648 ≤ r ∧ r ≤ 2147483647) → Calls Tryd.prog 63 #[.map (some mb), .int .i32 r] w (Runes w (splitF (n + 1) r))
  | 0, r, w, mb, _, hd, hm, hr => split_step 0 r w mb hm hr (by omega) fun a b w' h1 h2 _ => by
    unfold depB at hd
    rw [h1, h2] at hd
    simp at hd
  | n + 1, r, w, mb, hn, hd, hm, hr => split_step (n + 1) r w mb hm hr (by omega) fun a b w' h1 h2 hm' => by
    unfold depB at hd
    rw [h1, h2] at hd
    simp only [Bool.false_or] at hd
    have hl := line_at h2
    have := hl.oa
    exact split_n n a w' mb (by omega) hd hm' (by unfold okR at this; omega)
theorem split_any (r : Int) (w : World) (mb : Nat) (hm : MapT w mb tabN) (hr : -2147483648 ≤ r ∧ r ≤ 2147483647) : Calls Tryd.prog 63 #[.map (some mb), .int .i32 r] w (Runes w (splitN r)) :=
  split_n 3 r w mb (by omega) (dep_all r) hm hr
set_option maxRecDepth 20000 in
set_option maxHeartbeats 4000000 in
theorem nsplit_any (r : Int) (w : World) (hr : -2147483648 ≤ r ∧ r ≤ 2147483647) : Calls Tryd.prog 22 #[.int .i32 r] w (Runes w (splitN r)) := by
  have H1 := Lib.hid (pairs_any w)
  go_enter Tryd.func22, Tryd.ntmps22
  go_wp2_with fail
  refine H1.out.mono ?_
  rintro e w1 ⟨mb, rfl, hmb, hm, hs⟩
  have H2 := Lib.hid (split_any r w1 mb hm hr)
  have HS := Lib.hid hs
  clear hm hs H1 hmb
  go_wp2_with fail
  refine H2.out.mono ?_
  rintro e w2 ⟨A, c, rfl, hw, hs⟩
  have HF := Lib.hid (show Runes w (splitN r) (.returned (.slice A (splitN r).length c)) w2 from ⟨A, c, rfl, hw.mono HS.out.size, HS.out.trans hs⟩)
  clear hw hs H2
  go_wp2_with fail
  go_ret
  exact HF.out
end Go.Proofs.YtlphmcodajookaaDoor
