/- package rope: feed. -/
import Derived.Test.YtjoeebjmjnddoaaRfeed0
namespace Go.Proofs.Ytjoeebjmjnddoaa
open Go.RowKit
theorem box_c (w : World) (x y : Value) (t : TypeId) : (w.alloc (.cells #[x, y] t)).cell? ⟨w.heap.size, 0, none⟩ = some x := by
  rw [cell_of_row (w.alloc (.cells #[x, y] t)) w.heap.size 0 _ t (0, 0) (heap_alloc_new w _)]
  rfl
theorem index_any (l : List UInt8) (w : World) (h : 0 < nl l) : Calls Try.prog 69 #[.string (str l), .int .u8 10] w fun e w' => e = .returned (.int .i64 ((feedL 1 l : Int) - 1)) ∧ w = w' := by
  refine (Try.strings_IndexByte (str l) 10 w).mono ?_
  rintro e w' ⟨rfl, rfl⟩
  have h1 := indexNl l h
  have e : Lib.indexByte (str l).data.toList ((10 : Int).toNat.toUInt8) = (feedL 1 l : Int) - 1 := by
    show Lib.indexByte l 10 = _
    omega
  exact ⟨by rw [e], rfl⟩
set_option maxRecDepth 20000 in
set_option maxHeartbeats 4000000 in
theorem feed_leaf (l : List UInt8) (i : Nat) (w : World) (hi : i ≤ nl l) (hm : l.length ≤ 4398046511104) : Calls Try.prog 56 #[leafV l, .int .i64 i] w fun e w' => e = .returned (.int .i64 (feedL i l)) ∧ Stay [] w w' := by
  have ha1 := asrt3
  unfold leafV
  have HLe := Lib.hid (fun j (hj : j ≤ i) => feedL_le l j (by omega))
  have HSt := Lib.hid (fun j (hj : j < i) => feedL_step l j (by omega))
  have HNl := Lib.hid (fun j (hj : j < i) => show 0 < nl (l.drop (feedL j l)) from by rw [feedL_nl l j (by omega)]; omega)
  have HIx := Lib.hid (fun j (hj : j < i) u => index_any (l.drop (feedL j l)) u (by rw [feedL_nl l j (by omega)]; omega))
  have hs := str_size l
  have HE := Lib.hid (fun j => str_ext' l j (str l).size (str_size l))
  have hil : i ≤ l.length := Nat.le_trans hi (nl_le l)
  obtain ⟨s, hse⟩ : ∃ s, s = str l := ⟨_, rfl⟩
  rw [← hse] at hs HE ⊢
  obtain ⟨q, hq⟩ : ∃ q, q = nl l := ⟨_, rfl⟩
  rw [← hq] at hi ⊢
  rw [← hs] at hm HLe hil
  clear hse hq hs hi
  have b0 := box_c w (.string s) (.int .i64 q) 108
  have HT := Lib.hid (Stay.alloc (F := []) w (.cells #[.string s, .int .i64 q] 108))
  obtain ⟨W1, hW1⟩ : ∃ W1, W1 = w.alloc (.cells #[.string s, .int .i64 q] 108) := ⟨_, rfl⟩
  rw [← hW1] at b0 HT
  have HW := Lib.hid hW1
  clear hW1
  go_enter Try.func56, Try.ntmps56
  go_wp2_with fail
  rw [← HW.out]
  obtain ⟨B, hB⟩ : ∃ B, B = w.heap.size := ⟨_, rfl⟩
  rw [← hB] at b0 ⊢
  clear hB HW
  go_loop [1, 6] (fun iv av => ∃ (k : Nat), k ≤ i ∧ iv = .int .i64 ((i : Int) - k) ∧ av = .int .i64 (feedL k l)) (fun iv _ => (intOf iv).toNat)
  case atStart => exact ⟨0, by omega, by simp, by rw [feedL_zero]; rfl⟩
  case round =>
    obtain ⟨k, hk, rfl, rfl⟩ := hrel
    by_cases hlt : k < i
    · have h1 := HLe.out k hk
      have h3 := HLe.out (k + 1) (by omega)
      rw [HSt.out k hlt] at h3
      have HSk := Lib.hid (HSt.out k hlt)
      have HI := Lib.hid (HIx.out k hlt W1)
      rw [← HE.out] at HI
      obtain ⟨p, hp⟩ : ∃ p, p = feedL k l := ⟨_, rfl⟩
      rw [← hp] at h1 h3 HSk HI ⊢
      obtain ⟨r, hr⟩ : ∃ r, r = feedL 1 (l.drop p) := ⟨_, rfl⟩
      rw [← hr] at h3 HSk HI
      have hlt' : 0 < (i : Int) - k := by omega
      have hp0 : (0 : Int) ≤ p := by omega
      have hps : (p : Int) ≤ s.size := by omega
      have hps2 : p ≤ s.size := h1
      have hpr : (p : Int) + r ≤ 4398046511104 := by omega
      clear hp hr h1 h3 HE HIx
      go_wp2_with fail
      refine HI.out.mono ?_
      rintro e w' ⟨rfl, rfl⟩
      go_wp2_with fail
      go_round
      case rel => exact ⟨k + 1, by omega, congrArg (Value.int .i64) (by omega), congrArg (Value.int .i64) (by rw [HSk.out]; omega)⟩
      case measure => simp [intOf]; omega
    · have hk' : k = i := by omega
      subst hk'
      have hz : ¬ 0 < (k : Int) - k := by omega
      clear HE HIx hlt
      go_wp2_with fail
      go_ret
      exact ⟨rfl, HT.out⟩
def FeedOk (t : Rp) : Prop := ∀ (v : Value) (w : World) (i : Nat), Node w v t → i ≤ t.nls → t.len ≤ 4398046511104 → Calls Try.prog 56 #[v, .int .i64 i] w fun e w' => e = .returned (.int .i64 (feedL i t.text)) ∧ Stay [] w w'
set_option maxRecDepth 20000 in
set_option maxHeartbeats 8000000 in
theorem feed_pair (v : Value) (a b : Rp) (w : World) (i : Nat) (hnode : Node w v (.pair a b)) (hi : i ≤ (Rp.pair a b).nls) (hm : (Rp.pair a b).len ≤ 4398046511104) (iha : FeedOk a) (ihb : FeedOk b) :
    Calls Try.prog 56 #[v, .int .i64 i] w fun e w' => e = .returned (.int .i64 (feedL i (a.text ++ b.text))) ∧ Stay [] w w' := by
  obtain ⟨g, va, vb, rfl, hg, ha, hb, na, nb⟩ := hnode
  have c0 : w.cell? ⟨g, 0, none⟩ = some va := by rw [cell_of_row w g 0 _ 111 (0, 0) hg]; rfl
  have c1 : w.cell? ⟨g, 1, none⟩ = some vb := by rw [cell_of_row w g 1 _ 111 (0, 0) hg]; rfl
  obtain ⟨T, p, fb, ff, D⟩ := node_dyn ha
  have hmb := D.mb
  have hcb := D.cb
  have hmf := D.mf
  have hcf := D.cf
  have hv := D.val
  subst hv
  have HB := Lib.hid (fun u (hs : Stay [] w u) => D.bytes u (ha.stay hs (NoPair.nil w)))
  have HF := Lib.hid (fun u (hs : Stay [] w u) => D.feeds u (ha.stay hs (NoPair.nil w)))
  rw [Rp.len_pair] at hm
  rw [Rp.nls_pair] at hi
  have HKc := Lib.hid (show ∀ u, Stay [] w u → u.cell? ⟨g, 0, none⟩ = some (.iface T p) ∧ u.cell? ⟨g, 1, none⟩ = some vb from fun u hs => ⟨(hs.cell_ (a := ⟨g, 0, none⟩) (World.block_lt_of_cell? _ _ c0) (by simp)).trans c0, (hs.cell_ (a := ⟨g, 1, none⟩) (World.block_lt_of_cell? _ _ c1) (by simp)).trans c1⟩)
  have has1 := asrt4
  have has2 := asrt2
  have HA := Lib.hid (fun u (hs : Stay [] w u) (h : i ≤ a.nls) => iha _ u i (ha.stay hs (NoPair.nil w)) h (by omega))
  have HBb := Lib.hid (fun u (hs : Stay [] w u) (h : ¬ i ≤ a.nls) => ihb _ u (i - a.nls) (hb.stay hs (NoPair.nil w)) (by omega) (by omega))
  have HR := Lib.hid (feedL_app a.text b.text i)
  have hfb := feedL_le b.text (i - a.nls) (show i - a.nls ≤ b.nls by omega)
  change feedL (i - a.nls) b.text ≤ b.len at hfb
  obtain ⟨k, hk⟩ : ∃ k, k = a.len := ⟨_, rfl⟩
  obtain ⟨f, hf⟩ : ∃ f, f = a.nls := ⟨_, rfl⟩
  rw [← hk] at HB hm
  rw [← hf] at HF HA HBb hi hfb
  have HL := Lib.hid (show a.text.length = k ∧ nl a.text = f from ⟨hk.symm, hf.symm⟩)
  have hfk : f ≤ k := by rw [hf, hk]; exact nl_le _
  have hbl : b.nls ≤ b.len := nl_le _
  clear D ha hb hg iha ihb na nb hk hf
  by_cases hle : i ≤ f
  · have hle' : ¬ (f : Int) < i := by omega
    have HA' := Lib.hid (fun u hs => HA.out u hs hle)
    have HR' := Lib.hid (HR.out.trans (if_pos (by rw [HL.out.2]; exact hle)))
    go_enter Try.func56, Try.ntmps56
    go_wp2_with fail
    refine (HF.out _ (Stay.refl _ _)).mono ?_
    rintro e w1 ⟨rfl, hs⟩
    have HS := Lib.hid hs
    clear hs c0 c1
    obtain ⟨c0, c1⟩ := HKc.out w1 HS.out
    go_wp2_with fail
    ((with_reducible refine (HA'.out _ HS.out).mono ?_); rintro e w2 ⟨rfl, hs⟩)
    have HS2 := Lib.hid (HS.out.trans hs)
    clear hs
    go_wp2_with fail
    go_ret
    exact ⟨by rw [HR'.out]; rfl, HS2.out⟩
  · have hle' : (f : Int) < i := by omega
    have HB' := Lib.hid (fun u hs => HBb.out u hs hle)
    have HR' := Lib.hid (HR.out.trans (if_neg (by rw [HL.out.2]; exact hle)))
    rw [HL.out.1, HL.out.2] at HR'
    have hsub : IntKind.i64.wrap ((i : Int) - f) = ((i - f : Nat) : Int) := by simp only [IntKind.wrap, IntKind.bits, IntKind.signed]; simp; omega
    obtain ⟨r, hr⟩ : ∃ r, r = feedL (i - f) b.text := ⟨_, rfl⟩
    rw [← hr] at HB' HR' hfb
    have hsum : IntKind.i64.wrap ((k : Int) + r) = (k : Int) + r := by simp only [IntKind.wrap, IntKind.bits, IntKind.signed]; simp; omega
    clear hr HBb HA
    go_enter Try.func56, Try.ntmps56
    go_wp2_with fail
    refine (HF.out _ (Stay.refl _ _)).mono ?_
    rintro e w1 ⟨rfl, hs⟩
    have HS := Lib.hid hs
    clear hs c0 c1
    obtain ⟨c0, c1⟩ := HKc.out w1 HS.out
    have HSd := Lib.hid (HS.out.drew')
    go_wp2_with fail
    go_region_held3 (fun w' => w'.cell? ⟨g, 0, none⟩ = some (.iface T p) ∧ w'.cell? ⟨g, 1, none⟩ = some vb) (first | exact hq | exact ⟨c0, c1⟩ | go_keep)
      (first
        | (((with_reducible refine (HB.out _ HSd.out).mono ?_); rintro e w2 ⟨rfl, hs⟩); have HT2 := Lib.hid (HSd.out.trans hs); have hq := HKc.out _ HT2.out; clear hs)
        | (((with_reducible refine (HF.out _ HT2.out).mono ?_); rintro e w3 ⟨rfl, hs⟩); have HT3 := Lib.hid (HT2.out.trans hs); have hq := HKc.out _ HT3.out; clear hs)
        | (go_at_call 56; ((with_reducible refine (HB'.out _ HT3.out).mono ?_); rintro e w4 ⟨rfl, hs⟩); have HT4 := Lib.hid (HT3.out.trans hs); have hq := HKc.out _ HT4.out; clear hs))
    all_goals
      go_wp2_with fail
      go_ret
      exact ⟨by rw [HR'.out]; simp, HT4.out⟩
theorem feed_any : ∀ (t : Rp), FeedOk t
  | .leaf l => fun v w i hn hi hm => by
    cases hn
    exact feed_leaf l i w hi hm
  | .pair a b => fun v w i hn hi hm => feed_pair v a b w i hn hi hm (feed_any a) (feed_any b)
end Go.Proofs.Ytjoeebjmjnddoaa
