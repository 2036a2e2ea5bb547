/- package grid: chain, blank. -/
import Derived.Test.YtohkjopdoejedaaGspec
import Derived.Test.YtohkjopdoejedaaStay
import Derived.Test.YtohkjopdoejedaaProg
namespace Go.Proofs.Ytohkjopdoejedaa
open Go.RowKit
/-- cells from the place o of a block on -/
def CAt (w : World) (b o : Nat) (l : List Ce) : Prop := ∀ k (hk : k < l.length), ∀ (j : Nat) (v : Value), (l[k]).cells[j]? = some v → w.cell? ⟨b, o + k * 6 + j, none⟩ = some v
theorem CAt.part {w : World} {b o : Nat} {l : List Ce} (h : CAt w b o l) (k : Nat) (hk : k < l.length) : w.cell? ⟨b, o + k * 6 + 1, none⟩ = some (.int .i8 (l.getD k Ce.zero).part) := by
  rw [List.getD_eq_getElem?_getD, List.getElem?_eq_getElem hk]
  exact h k hk 1 _ rfl
set_option maxHeartbeats 2000000 in
theorem chain_any (l : List Ce) (b o c i : Nat) (w : World) (hl : l.length ≤ 16777216) (hi : i < l.length) (hp : ∀ k, -128 ≤ (l.getD k Ce.zero).part ∧ (l.getD k Ce.zero).part < 128) (h : CAt w b o l) :
    Calls Try.prog 46 #[.slice (some ⟨b, o, none⟩) l.length c, .int .i64 i] w fun e w' => e = .returned (.tuple #[.int .i64 (chainE l i), .bool (chainC l i)]) ∧ w = w' := by
  have hc := h.part i hi
  have HE := Lib.hid (show chainE l i = if (l.getD i Ce.zero).part ≠ 0 then i + 1 else i + 1 + more 1 (l.drop (i + 1)) from rfl)
  have HC := Lib.hid (show chainC l i = decide ((l.getD i Ce.zero).part ≠ 0) from rfl)
  obtain ⟨p, hpp⟩ : ∃ p, p = (l.getD i Ce.zero).part := ⟨_, rfl⟩
  rw [← hpp] at hc HE HC
  clear hpp
  have hi1 : (i : Int) < l.length := by omega
  have hi0 : (0 : Int) ≤ i := by omega
  by_cases hp0 : p = 0
  · have hpe : (p != 0) = false := by simp [hp0]
    have HE2 := Lib.hid (HE.out.trans (if_neg (by simp [hp0])))
    have HC2 := Lib.hid (HC.out.trans (by simp [hp0] : decide (p ≠ 0) = false))
    clear hp0
    go_enter Try.func46, Try.ntmps46
    go_wp2_with fail
    go_loop [4] (fun ev => ∃ k : Nat, k ≤ l.length ∧ i < k ∧ ev = .int .i64 k ∧ Hid (chainE l i = k + more ((k : Int) - i) (l.drop k))) (fun ev => l.length - (intOf ev).toNat)
    case atStart => exact ⟨i + 1, by omega, by omega, by go_num, by rw [HE2.out]; congr 2; omega⟩
    case round =>
      obtain ⟨k, hk, hik, rfl, HK⟩ := hrel
      by_cases hlt : k < l.length
      · have hck := h.part k hlt
        have hpk := hp k
        have HM := Lib.hid (show more ((k : Int) - i) (l.drop k) = if (l.getD k Ce.zero).part = (k : Int) - i then more ((k : Int) - i + 1) (l.drop (k + 1)) + 1 else 0 from by
          rw [List.drop_eq_getElem_cons hlt, List.getD_eq_getElem?_getD, List.getElem?_eq_getElem hlt]; rfl)
        obtain ⟨q, hq⟩ : ∃ q, q = (l.getD k Ce.zero).part := ⟨_, rfl⟩
        rw [← hq] at hck hpk HM
        obtain ⟨hpk1, hpk2⟩ := hpk
        have hk1 : (k : Int) < l.length := by omega
        have hk0 : (0 : Int) ≤ k := by omega
        clear hq
        by_cases hqe : q = (k : Int) - i
        · have HM2 := Lib.hid (HM.out.trans (if_pos hqe))
          have hqb : (q == (k : Int) - i) = true := by simpa using hqe
          clear hqe
          go_wp2_with fail
          go_round
          case rel =>
            have hkk : ((k + 1 : Nat) : Int) - i = (k : Int) - i + 1 := by omega
            refine ⟨k + 1, by omega, by omega, by go_num, ?_⟩
            show chainE l i = _
            rw [HK.out, HM2.out, hkk]
            omega
          case measure => simp [intOf]; omega
        · have HM2 := Lib.hid (HM.out.trans (if_neg hqe))
          have hqb : (q == (k : Int) - i) = false := by simpa using hqe
          clear hqe
          go_wp2_with fail
          exact bodyPost_ret (v := .tuple #[.int .i64 k, .bool false]) (by simp [results, Try.results46, go_sem]) rfl ⟨by rw [HK.out, HM2.out, HC2.out]; rfl, rfl⟩
      · have hk' : k = l.length := by omega
        have HK2 := Lib.hid (show chainE l i = k from by rw [HK.out, hk', List.drop_length]; rfl)
        have hk1 : ¬ (k : Int) < l.length := by omega
        clear hk'
        go_wp2_with fail
        exact bodyPost_ret (v := .tuple #[.int .i64 k, .bool false]) (by simp [results, Try.results46, go_sem]) rfl ⟨by rw [HK2.out, HC2.out], rfl⟩
  · have hpe : (p != 0) = true := by simpa using hp0
    have HE2 := Lib.hid (HE.out.trans (if_pos hp0))
    have HC2 := Lib.hid (HC.out.trans (by simpa using hp0 : decide (p ≠ 0) = true))
    clear hp0
    go_enter Try.func46, Try.ntmps46
    go_wp2_with fail
    exact bodyPost_ret (v := .tuple #[.int .i64 ((i : Int) + 1), .bool true]) (by simp [results, Try.results46, go_sem]) rfl ⟨by rw [HE2.out, HC2.out]; simp, rfl⟩
end Go.Proofs.Ytohkjopdoejedaa
