/- shuttlelaw24: row. -/
import Derived.Test.YtohkjopdoejedaaGnil
namespace Go.Proofs.Ytohkjopdoejedaa
open Go.RowKit
theorem flat_at (rows : List (List Ce)) (W : Nat) (h : ∀ r ∈ rows, r.length = W) (y x : Nat) (hy : y < rows.length) (hx : x < W) : rows.flatten[y * W + x]? = (rows.getD y [])[x]? := by
  induction rows generalizing y with
  | nil => simp at hy
  | cons r rows ih =>
    have hr := h r (by simp)
    rw [List.flatten_cons]
    cases y with
    | zero => rw [Nat.zero_mul, Nat.zero_add, List.getElem?_append_left (by omega)]; rfl
    | succ y =>
      rw [List.getElem?_append_right (by rw [Nat.succ_mul]; omega), hr, show (y + 1) * W + x - W = y * W + x by rw [Nat.succ_mul]; omega]
      exact ih (fun q hq => h q (by simp [hq])) y (by simpa using hy)
theorem flat_len (rows : List (List Ce)) (W : Nat) (h : ∀ r ∈ rows, r.length = W) : rows.flatten.length = rows.length * W := by
  induction rows with
  | nil => simp
  | cons r rows ih =>
    rw [List.flatten_cons, List.length_append, ih (fun q hq => h q (by simp [hq])), h r (by simp), List.length_cons, Nat.succ_mul]
    omega
theorem owned_form {w : World} {base size n : Nat} {e : TypeId} {v : Value} {xs : List Value} (h : w.ownsRow base e size v n xs) (hn : 0 < n) : ∃ g cap, v = .slice (some ⟨g, 0, none⟩) n cap ∧ base ≤ g ∧ g < w.heap.size := by
  rcases h.2 with ⟨_, h0⟩ | ⟨g, cap, _, hv, _⟩
  · omega
  · subst hv
    have := h.lt g rfl
    exact ⟨g, cap, rfl, this.1, this.2⟩
theorem rowS_snoc (l : List Ce) (x : Nat) (hx : x < l.length) : rowS (l.take (x + 1)) = addC (rowS (l.take x)) l[x] := by
  unfold rowS
  rw [List.take_succ_eq_append_getElem hx, List.foldl_append]
  rfl
theorem str_nil : (str []).toList = [] := by rw [ByteArray.toList_eq]; rfl
theorem str_size (l : List UInt8) : (str l).size = l.length := by simp [str, ByteArray.size]
theorem addC_size (out : ByteArray) (c : Ce) (h : c.text.size ≤ 1024) : (addC out c).size ≤ out.size + 1025 := by
  unfold addC
  simp only
  split <;> split <;> (try split) <;> simp only [ByteArray.size_append, str_size, List.length_cons, List.length_nil] <;> omega
theorem foldC_size (l : List Ce) (h : ∀ c ∈ l, c.text.size ≤ 1024) (out : ByteArray) : (l.foldl addC out).size ≤ out.size + 1025 * l.length := by
  induction l generalizing out with
  | nil => simp
  | cons c l ih =>
    have h1 := ih (fun q hq => h q (by simp [hq])) (addC out c)
    have h2 := addC_size out c (h c (by simp))
    simp only [List.foldl_cons, List.length_cons]
    omega
theorem rowS_size (l : List Ce) (h : ∀ c ∈ l, c.text.size ≤ 1024) : (rowS l).size ≤ 1025 * l.length := by
  have := foldC_size l h (str [])
  rw [str_size] at this
  unfold rowS
  simpa using this
set_option maxRecDepth 20000 in
set_option maxHeartbeats 4000000 in
theorem row_any (s base : Nat) (os : List Nat) (S : Sc) (y : Nat) (w : World) (hy : y < S.H) (htx : ∀ c ∈ S.rows.getD y [], c.text.size ≤ 1024) (h : Sm w s base os S) :
    Calls Try.prog 27 #[.pointer (some ⟨s, 0, none⟩), .int .i64 y] w fun e w' => e = .returned (.string (rowS (S.rows.getD y []))) ∧ Below w.heap.size w w' := by
  have HG := Lib.hid (grid_any s base os S w h)
  have hH := h.ok.h
  have hW := h.ok.w
  have hlr := h.ok.len
  have hrw : ∀ r ∈ S.rows, r.length = S.W := fun r hr => (h.ok.row r hr).1
  have hrl : (S.rows.getD y []).length = S.W := by
    rw [List.getD_eq_getElem?_getD, List.getElem?_eq_getElem (by omega)]
    exact hrw _ (List.getElem_mem _)
  have HAt := Lib.hid (fun x (hx : x < S.W) => flat_at S.rows S.W hrw y x (by omega) hx)
  have HFl := Lib.hid (flat_len S.rows S.W hrw)
  obtain ⟨r, hr⟩ : ∃ r, r = S.rows.getD y [] := ⟨_, rfl⟩
  rw [← hr] at hrl HAt htx ⊢
  have HTx := Lib.hid htx
  clear htx
  obtain ⟨W, hWe⟩ : ∃ W, W = S.W := ⟨_, rfl⟩
  obtain ⟨H, hHe⟩ : ∃ H, H = S.H := ⟨_, rfl⟩
  rw [← hWe] at HG hW hrl HAt HFl
  rw [← hHe] at HG hH hy hlr
  obtain ⟨M, hM⟩ : ∃ M, M = H * W := ⟨_, rfl⟩
  rw [← hM] at HG
  have hM1 : (y + 1) * W ≤ M := by rw [hM]; exact Nat.mul_le_mul (by omega) (Nat.le_refl _)
  have hM2 : M ≤ 1048576 := by rw [hM]; exact Nat.mul_le_mul hH hW
  rw [hlr, ← hM] at HFl
  obtain ⟨P0, hP0⟩ : ∃ P0, P0 = y * W := ⟨_, rfl⟩
  obtain ⟨P1, hP1⟩ : ∃ P1, P1 = (y + 1) * W := ⟨_, rfl⟩
  rw [← hP1] at hM1
  rw [← hP0] at HAt
  have hP01 : P0 + W = P1 := by rw [hP1, hP0, Nat.succ_mul]
  have hm0 : IntKind.i64.wrap ((y : Int) * W) = P0 := by rw [← Int.natCast_mul, ← hP0]; simp only [IntKind.wrap, IntKind.bits, IntKind.signed]; simp; omega
  have hm1 : IntKind.i64.wrap (((y : Int) + 1) * W) = P1 := by
    rw [show ((y : Int) + 1) * W = ((P1 : Nat) : Int) by rw [hP1]; push_cast; rfl]; simp only [IntKind.wrap, IntKind.bits, IntKind.signed]; simp; omega
  have hy1 : (y : Int) < 1024 := by omega
  have hP1M : (P1 : Int) ≤ M := by omega
  have HRl := Lib.hid hrl
  clear h hlr hrw hrl hr hWe hHe hM hP0 hP1
  go_enter Try.func27, Try.ntmps27
  go_wp2_with fail
  refine HG.out.mono ?_
  rintro e w1 ⟨A, c, rfl, ho, hb⟩
  have HO := Lib.hid ho
  have HB := Lib.hid hb
  obtain ⟨X, hX⟩ : ∃ X, X = S.X := ⟨_, rfl⟩
  obtain ⟨Y, hY⟩ : ∃ Y, Y = S.Y := ⟨_, rfl⟩
  rw [← hX, ← hY]
  clear ho hb hX hY HG
  have b0 := box_cell w1 #[.int .i64 W, .int .i64 H, .slice A M c, .int .i64 X, .int .i64 Y] 40 0 _ rfl
  have b2 := box_cell w1 #[.int .i64 W, .int .i64 H, .slice A M c, .int .i64 X, .int .i64 Y] 40 2 _ rfl
  have HT1 := Lib.hid (Stay.alloc (F := []) w1 (.cells #[.int .i64 W, .int .i64 H, .slice A M c, .int .i64 X, .int .i64 Y] 40))
  have hsz := size_alloc' w1 (.cells #[.int .i64 W, .int .i64 H, .slice A M c, .int .i64 X, .int .i64 Y] 40)
  go_wp2_with fail
  obtain ⟨W2, hW2⟩ : ∃ W2, W2 = w1.alloc (.cells #[.int .i64 W, .int .i64 H, .slice A M c, .int .i64 X, .int .i64 Y] 40) := ⟨_, rfl⟩
  obtain ⟨B1, hB1⟩ : ∃ B1, B1 = w1.heap.size := ⟨_, rfl⟩
  rw [← hW2] at b0 b2 HT1 hsz ⊢
  rw [← hB1] at b0 b2 hsz ⊢
  have HSz := Lib.hid hsz
  have hlB : B1 < W2.heap.size := by omega
  have HO2 := Lib.hid (HT1.out.own HO.out (by simp))
  have HB2 := Lib.hid (HB.out.trans (HT1.out.toBelow HB.out.size (by simp)))
  clear hW2 hB1 hsz HO HB HT1
  go_loopw [6, 7] (fun ov xv wr => ∃ k : Nat, k ≤ W ∧ ov = .string (rowS (r.take k)) ∧ xv = .int .i64 k ∧ Hid (Stay [] W2 wr)) (fun _ xv _ => W - (intOf xv).toNat)
  case atStart => exact ⟨0, by omega, rfl, rfl, Stay.refl _ _⟩
  case round =>
    obtain ⟨k, hk, rfl, rfl, HTk⟩ := hrel
    have e0 : wr.cell? ⟨B1, 0, none⟩ = some (.int .i64 W) := (HTk.out.cell_ (a := ⟨B1, 0, none⟩) hlB (by simp)).trans b0
    have e2 : wr.cell? ⟨B1, 2, none⟩ = some (.slice A M c) := (HTk.out.cell_ (a := ⟨B1, 2, none⟩) hlB (by simp)).trans b2
    by_cases hlt2 : k < W
    · have hlt' : (k : Int) < W := by omega
      have hk0 : (0 : Int) ≤ k := by omega
      have hMp : 0 < M := by omega
      have hok := HTk.out.own HO2.out (by simp)
      obtain ⟨g, cap, hv, -, -⟩ := owned_form hok hMp
      injection hv with hA _ hc
      subst hA
      have hlen := HFl.out
      obtain ⟨q, hq⟩ : ∃ q, q = P0 + k := ⟨_, rfl⟩
      have hqM : q < M := by omega
      have hqi : (P0 : Int) + k = q := by omega
      have hqw : IntKind.i64.wrap (q : Int) = q := by simp only [IntKind.wrap, IntKind.bits, IntKind.signed]; simp; omega
      have hqM' : (q : Int) < M := by omega
      have hkr : k < r.length := by rw [HRl.out]; exact hlt2
      have hfa : S.rows.flatten[q]'(by rw [hlen]; exact hqM) = r[k] := by
        have h1 := HAt.out k hlt2
        rw [← hq, List.getElem?_eq_getElem (by rw [hlen]; exact hqM), List.getElem?_eq_getElem hkr] at h1
        injection h1
      have key : ∀ j v, (r[k]).cells[j]? = some v → wr.cell? ⟨g, q * 6 + j, none⟩ = some v := fun j v hj => by
        have hj6 : j < 6 := by have := (List.getElem?_eq_some_iff.1 hj).1; exact this
        rw [World.ownsRow.cellAt hok (q * 6 + j) (by omega), rowCells_at _ q (by rw [hlen]; exact hqM) j hj6, hfa, hj]
      have HSn := Lib.hid (rowS_snoc r k hkr)
      obtain ⟨ce, hce⟩ : ∃ ce, ce = r[k] := ⟨_, rfl⟩
      rw [← hce] at key HSn
      obtain ⟨out, hout⟩ : ∃ out, out = rowS (r.take k) := ⟨_, rfl⟩
      rw [← hout] at HSn ⊢
      have c0 := key 0 _ rfl
      rw [Nat.add_zero] at c0
      have c1 := key 1 _ rfl
      have c2 := key 2 _ rfl
      have c3 := key 3 _ rfl
      have c4 := key 4 _ rfl
      have c5 := key 5 _ rfl
      have hos : out.size ≤ 1025 * k := by
        have h1 := rowS_size (r.take k) (fun c hc => HTx.out c (List.mem_of_mem_take hc))
        rw [List.length_take, Nat.min_eq_left (by omega)] at h1
        rw [hout]; exact h1
      have hts : ce.text.size ≤ 1024 := by rw [hce]; exact HTx.out _ (List.getElem_mem _)
      clear key hce hfa hkr hok hq hlen hout
      obtain ⟨tx, pa, at_, le, ri, st⟩ := ce
      simp only at c0 c1 c2 c3 c4 c5 hts
      unfold addC at HSn
      simp only at HSn
      have hk2 : k < 1024 := by omega
      have s1 : ¬ 9223372036854775807 < out.size + 1 := by omega
      have s2 : ¬ 9223372036854775807 < out.size + tx.size := by omega
      have s3 : ¬ 9223372036854775807 < out.size + 1 + 1 := by omega
      have s4 : ¬ 9223372036854775807 < out.size + tx.size + 1 := by omega
      have HX2 : Hid (∀ o : ByteArray, rowS (r.take (k + 1)) = o → Hid (Stay [] W2 wr) → ∃ k_1 : Nat, k_1 ≤ W ∧ Value.string o = .string (rowS (r.take k_1)) ∧ Value.int .i64 ((k : Int) + 1) = .int .i64 k_1 ∧
          Hid (Stay [] W2 (wr.alloc (.cells #[.string tx, .int .i8 pa, .int .i64 at_, .int .i64 le, .bool ri, .int .u16 st] 49)))) := by
        show ∀ o, _
        intro o h1 h2
        exact ⟨k + 1, by omega, by rw [h1], by go_num, h2.out.alloc'⟩
      by_cases hp : 0 < pa
      · rw [if_pos hp] at HSn
        by_cases hs : st = 0
        · have HS2 := Lib.hid (show rowS (r.take (k + 1)) = out ++ str [119] from by rw [HSn.out, if_neg (by simpa using hs)])
          subst hs
          clear HSn
          go_wp2_with fail
          go_roundw
          case rel => exact HX2.out _ HS2.out HTk
          case measure => simp [intOf]; omega
        · have HS2 := Lib.hid (show rowS (r.take (k + 1)) = out ++ str [119] ++ str [39] from by rw [HSn.out, if_pos (by simpa using hs)])
          have hsb : (st != 0) = true := by simpa using hs
          clear HSn hs
          go_wp2_with fail
          go_roundw
          case rel => exact HX2.out _ HS2.out HTk
          case measure => simp [intOf]; omega
      · rw [if_neg hp] at HSn
        by_cases ht : tx = str []
        · rw [if_pos ht] at HSn
          have htb : (tx.toList == ([] : List UInt8)) = true := by rw [ht, str_nil]; rfl
          have htb2 : tx.toList = ([] : List UInt8) := by rw [ht, str_nil]
          by_cases hs : st = 0
          · have HS2 := Lib.hid (show rowS (r.take (k + 1)) = out ++ str [46] from by rw [HSn.out, if_neg (by simpa using hs)])
            subst hs
            clear HSn ht
            go_wp2_with fail
            go_roundw
            case rel => exact HX2.out _ HS2.out HTk
            case measure => simp [intOf]; omega
          · have HS2 := Lib.hid (show rowS (r.take (k + 1)) = out ++ str [46] ++ str [39] from by rw [HSn.out, if_pos (by simpa using hs)])
            have hsb : (st != 0) = true := by simpa using hs
            clear HSn hs ht
            go_wp2_with fail
            go_roundw
            case rel => exact HX2.out _ HS2.out HTk
            case measure => simp [intOf]; omega
        · rw [if_neg ht] at HSn
          have htb2 : ¬ tx.toList = ([] : List UInt8) := fun e => ht ((str_eq tx (str [])).1 (by rw [e, str_nil]))
          have htb : (tx.toList == ([] : List UInt8)) = false := by simpa using htb2
          by_cases hs : st = 0
          · have HS2 := Lib.hid (show rowS (r.take (k + 1)) = out ++ tx from by rw [HSn.out, if_neg (by simpa using hs)])
            subst hs
            clear HSn ht
            go_wp2_with fail
            go_roundw
            case rel => exact HX2.out _ HS2.out HTk
            case measure => simp [intOf]; omega
          · have HS2 := Lib.hid (show rowS (r.take (k + 1)) = out ++ tx ++ str [39] from by rw [HSn.out, if_pos (by simpa using hs)])
            have hsb : (st != 0) = true := by simpa using hs
            clear HSn hs ht
            go_wp2_with fail
            go_roundw
            case rel => exact HX2.out _ HS2.out HTk
            case measure => simp [intOf]; omega
    · have hk' : k = W := by omega
      have hlt' : ¬ (k : Int) < W := by omega
      have HRf := Lib.hid (show rowS (r.take k) = rowS r from by rw [List.take_of_length_le (by rw [HRl.out, hk']; exact Nat.le_refl _)])
      have HBf := Lib.hid (HB2.out.trans (HTk.out.toBelow HB2.out.size (by simp)))
      subst hk'
      go_wp2_with fail
      exact bodyPost_ret (v := .string (rowS (r.take k))) (by simp [results, Try.results27, go_sem]) rfl ⟨by rw [HRf.out], HBf.out⟩
end Go.Proofs.Ytohkjopdoejedaa
