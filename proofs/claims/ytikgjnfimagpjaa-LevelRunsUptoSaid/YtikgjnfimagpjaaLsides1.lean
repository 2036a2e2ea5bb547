/- package level: the closure of Sides; Clone, IndexFunc, DeleteFunc at it. -/
import Derived.Test.YtikgjnfimagpjaaLrunsw
import Derived.Lib.SliceRun
namespace Go.Proofs.Ytikgjnfimagpjaa
open Go.RowKit
def offB (n : Nat) (z : Int) : Bool := decide (z < 0) || decide ((n : Int) ≤ z)
theorem off_any (n : Nat) (z : Int) (p : Nat) (w : World) (hc : w.cell? ⟨p, 0, none⟩ = some (.int .i64 n)) :
    Calls Try.prog 56 #[.int .i64 z, .pointer (some ⟨p, 0, none⟩)] w fun e w' => e = .returned (.bool (offB n z)) ∧ w = w' := by
  cases h0 : decide (z < 0) with
  | true =>
    have HX := Lib.hid (show offB n z = true from by unfold offB; rw [h0]; rfl)
    go_enter Try.func56, Try.ntmps56
    go_wp2
    go_ret
    exact ⟨ret_bool' HX.out, rfl⟩
  | false =>
    have HX := Lib.hid (show offB n z = decide ((n : Int) ≤ z) from by unfold offB; rw [h0]; rfl)
    go_enter Try.func56, Try.ntmps56
    go_wp2
    go_ret
    exact ⟨ret_bool' HX.out, rfl⟩
theorem own_empty (w : World) (e : TypeId) : Own (w.alloc (.cells #[] e)) e w.heap.size (.slice (some ⟨w.heap.size, 0, none⟩) 0 0) [] :=
  ⟨rfl, .inr ⟨w.heap.size, 0, #[], rfl, Nat.le_refl _, heap_alloc_new w _, Nat.le_refl _, Nat.zero_le _, rfl, rfl⟩⟩
theorem clone_any (xs : List Int) (A : Option Addr) (c : Nat) (w : World) (hl : xs.length ≤ 2097152) (h : Sl w w.heap.size A (ints .i64 xs)) :
    Calls Try.prog 55 #[.slice A xs.length c] w fun e w' => ∃ v, e = .returned v ∧ Own w' 3 w.heap.size v (ints .i64 xs) ∧ Below w.heap.size w w' := by
  obtain ⟨i3, hi3, hz30, hz31, hz32⟩ := info_parts info3
  have hq0 := fun (w : World) (A : Option Addr) (n c : Nat) => Lib.run_eql_slice_nil (P := Try.prog) w 25 3 A n c 0 0 Try.underlying25
  cases A with
  | none =>
    have hx : xs = [] := by
      cases xs with
      | nil => rfl
      | cons z r =>
        obtain ⟨ad, h, _⟩ := h 0 _ rfl
        cases h
    subst hx
    go_enter Try.func55, Try.ntmps55
    go_wp2
    exact bodyPost_ret (v := .slice none 0 0) (by simp [results, Try.results55, go_sem]) rfl ⟨_, rfl, Own.nil_ _ _ _, Below.refl _ _⟩
  | some ad =>
    have HA := Lib.hid (h.alloc (Nat.le_refl _) (.cells #[] 3))
    have HE := Lib.hid (own_empty w 3)
    go_enter Try.func55, Try.ntmps55
    go_wp2_with (first
      | (at_builtin; refine wpList_append_sl2 _ rfl (.tmp 5) (.tmp 6) 25 rfl w.heap.size 3 i3 _ 8 Try.underlying25 hi3 hz30 hz31 hz32 rfl (.slice (some ⟨w.heap.size, 0, none⟩) 0 0) 0 [] rfl rfl HE.out w.heap.size (some ad) c xs.length (ints .i64 xs) (by simp) rfl HA.out (ints_one _ _) (by unfold maxLen; omega) (by omega) (by simp) ?_; intro A2 c2 w8 ho8 ha8
         have HB := Lib.hid (((Below.refl w.heap.size w).alloc (Nat.le_refl _) (.cells #[] 3)).trans (appended_below ha8 (by simp) (fun g hg => Nat.le_of_eq (by simpa [Value.ownBlock] using hg))))
         have HO := Lib.hid ho8
         clear ho8 ha8))
    exact bodyPost_ret (v := .slice A2 xs.length c2) (by simp [results, Try.results55, go_sem]) rfl ⟨_, rfl, by simpa using HO.out, HB.out⟩
def offFn (p : Nat) : Value := .func (.func 56) #[] #[.pointer (some ⟨p, 0, none⟩)]
def keepL (n : Nat) (xs : List Int) : List Int := xs.filter fun z => !offB n z
theorem index_any (n : Nat) (p : Nat) (xs : List Int) (A : Option Addr) (c : Nat) (w : World) (hl : xs.length ≤ 2097152) (h : Sl w w.heap.size A (ints .i64 xs)) (hc : w.cell? ⟨p, 0, none⟩ = some (.int .i64 n)) :
    Calls Try.prog 66 #[.slice A xs.length c, offFn p] w fun e w' => (∃ r : Int, e = .returned (.int .i64 r) ∧ ((r = -1 ∧ ∀ j, j < xs.length → offB n (xs.getD j 0) = false) ∨ ∃ k : Nat, k < xs.length ∧ r = k ∧ offB n (xs.getD k 0) = true ∧ ∀ j, j < k → offB n (xs.getD j 0) = false)) ∧ w = w' := by
  have HF := Lib.hid (fun z => off_any n z p w hc)
  clear hc
  unfold offFn
  go_enter Try.func66, Try.ntmps66
  go_wp2
  go_loop [8] (fun i => ∃ k : Nat, k ≤ xs.length ∧ i = .int .i64 k ∧ Hid (∀ j, j < k → offB n (xs.getD j 0) = false)) (fun i => xs.length - (intOf i).toNat)
  case atStart => exact ⟨0, by omega, rfl, by intro j hj; omega⟩
  case round =>
    obtain ⟨k, hk, rfl, HA⟩ := hrel
    by_cases hlt : k < xs.length
    · obtain ⟨ad, rfl, hadb, hcell⟩ := sl_at h hlt
      obtain ⟨z, hz⟩ : ∃ z, z = xs.getD k 0 := ⟨_, rfl⟩
      rw [← hz] at hcell
      have HZ := Lib.hid hz
      have HS := Lib.hid h
      clear hz h
      cases ho : offB n z with
      | true =>
        have HF2 := Lib.hid (HF.out z)
        rw [ho] at HF2
        have HX := Lib.hid ho
        clear ho
        go_wp2_with (first
          | (go_at_call 56; refine HF2.out.mono ?_; rintro e w' ⟨rfl, rfl⟩))
        go_ret
        exact ⟨⟨k, rfl, .inr ⟨k, hlt, rfl, by rw [← HZ.out]; exact HX.out, HA.out⟩⟩, rfl⟩
      | false =>
        have HF2 := Lib.hid (HF.out z)
        rw [ho] at HF2
        have HX := Lib.hid ho
        clear ho
        go_wp2_with (first
          | (go_at_call 56; refine HF2.out.mono ?_; rintro e w' ⟨rfl, rfl⟩))
        go_round
        case rel => exact ⟨k + 1, by omega, by go_num, Lib.hid fun j hj => by
          by_cases e : j = k
          · subst e; rw [← HZ.out]; exact HX.out
          · exact HA.out j (by omega)⟩
        case measure => simp [intOf]; omega
    · have e : k = xs.length := by omega
      subst e
      go_wp2
      go_ret
      exact ⟨⟨-1, rfl, .inl ⟨rfl, HA.out⟩⟩, rfl⟩
theorem keepL_none (n : Nat) : ∀ (xs : List Int), (∀ j, j < xs.length → offB n (xs.getD j 0) = false) → keepL n xs = xs
  | [], _ => rfl
  | z :: xs, h => by
    have h0 := h 0 (by simp)
    simp only [List.getD_cons_zero] at h0
    have ih := keepL_none n xs fun j hj => by simpa using h (j + 1) (by simpa using hj)
    unfold keepL at *
    simp [h0, ih]
theorem keepL_snoc (n : Nat) (xs : List Int) (j : Nat) (hj : j < xs.length) : keepL n (xs.take (j + 1)) = keepL n (xs.take j) ++ (if offB n (xs.getD j 0) = true then [] else [xs.getD j 0]) := by
  rw [← take_snoc' xs j hj]
  unfold keepL
  rw [List.filter_append]
  cases h : offB n (xs.getD j 0) <;> simp [List.getD_eq_getElem?_getD] at * <;> simp [h]
theorem own_setCells {e : TypeId} {B g n c : Nat} : ∀ (vs : List Value) (o : Nat) (w : World) (xs : List Value), Own w e B (.slice (some ⟨g, 0, none⟩) n c) xs → ∃ ys, Own (w.setCells g o vs) e B (.slice (some ⟨g, 0, none⟩) n c) ys ∧ ys.length = xs.length ∧ ys.take o = xs.take o ∧ Stay [g] w (w.setCells g o vs)
  | [], o, w, xs, h => ⟨xs, h, rfl, rfl, Stay.refl _ _⟩
  | v :: r, o, w, xs, h => by
    obtain ⟨ys, h1, h2, h3, h4⟩ := own_setCells r (o + 1) (w.setCell ⟨g, o, none⟩ v) (xs.set o v) (h.stored o v)
    refine ⟨ys, h1, by simpa using h2, ?_, (Stay.setCell (F := [g]) w ⟨g, o, none⟩ v (by simp)).trans h4⟩
    have := congrArg (List.take o) h3
    rw [List.take_take, List.take_take, Nat.min_eq_left (by omega)] at this
    rw [this]
    rw [List.take_set_of_le (Nat.le_refl o)]
set_option maxHeartbeats 1000000 in
theorem delete_any (n p : Nat) (xs : List Int) (SA : Option Addr) (c B : Nat) (w : World) (hl : xs.length ≤ 2097152) (hv : Own w 3 B (.slice SA xs.length c) (ints .i64 xs)) (hc : w.cell? ⟨p, 0, none⟩ = some (.int .i64 n)) (hp : ∀ g, (Value.slice SA xs.length c).ownBlock = some g → g ≠ p) (hpl : p < w.heap.size) :
    Calls Try.prog 54 #[.slice SA xs.length c, offFn p] w fun e w' => ∃ A' c', e = .returned (.slice A' (keepL n xs).length c') ∧ Own w' 3 B (.slice A' (keepL n xs).length c') (ints .i64 (keepL n xs)) ∧ Stay ((Value.slice SA xs.length c).ownBlock.toList) w w' := by
  have HI := Lib.hid (index_any n p xs SA c w hl hv.sl hc)
  have HV := Lib.hid hv
  clear hv
  by_cases hnone : ∀ j, j < xs.length → offB n (xs.getD j 0) = false
  · have HK := Lib.hid (keepL_none n xs hnone)
    have HN := Lib.hid hnone
    clear hnone
    unfold offFn at HI ⊢
    go_enter Try.func54, Try.ntmps54
    go_wp2_with (first
      | (go_at_call 66; refine HI.out.mono ?_; rintro e w' ⟨⟨r, rfl, hr⟩, rfl⟩
         have hr1 : r = -1 := by
           rcases hr with ⟨h, _⟩ | ⟨k, hk, _, ht, _⟩
           · exact h
           · rw [HN.out k hk] at ht; cases ht
         subst hr1
         clear hr))
    exact bodyPost_ret (v := .slice SA xs.length c) (by simp [results, Try.results54, go_sem]) rfl ⟨SA, c, by rw [HK.out], by rw [HK.out]; exact HV.out, Stay.refl _ _⟩
  · have hpos : 0 < xs.length := by
      rcases Nat.eq_zero_or_pos xs.length with h | h
      · exact absurd (fun j hj => by omega) hnone
      · exact h
    obtain ⟨-, g, rfl, hBg, hgl⟩ := HV.out.form (by simpa using hpos)
    have hgp := hp g rfl
    have hcc := HV.out.cap
    rw [ints_length] at hcc
    have HN := Lib.hid hnone
    have HC := Lib.hid hc
    clear hnone hp hc
    unfold offFn at HI ⊢
    go_enter Try.func54, Try.ntmps54
    go_wp2_with (first
      | (go_at_call 66; refine HI.out.mono ?_; rintro e w' ⟨⟨r, rfl, hr⟩, rfl⟩
         have hr1 : ∃ k : Nat, k < xs.length ∧ r = k ∧ offB n (xs.getD k 0) = true ∧ ∀ j, j < k → offB n (xs.getD j 0) = false := by
           rcases hr with ⟨_, h⟩ | h
           · exact absurd h HN.out
           · exact h
         obtain ⟨k0, hk0, rfl, ht, hall⟩ := hr1
         have HA := Lib.hid (And.intro ht hall)
         have bk : ((k0 : Int) == -1) = false := by simp
         clear hr ht hall))
    go_loopg [5, 6, 7] (xs.length - (k0 + 1)) (fun gk iv jv _ wr => ∃ (i j : Nat) (ys : List Int), iv = .int .i64 i ∧ jv = .int .i64 j ∧ i < j ∧ j ≤ xs.length ∧ gk = xs.length - j ∧ Hid (ys.length = xs.length ∧ i = (keepL n (xs.take j)).length ∧ ys.take i = keepL n (xs.take j) ∧ ys.drop j = xs.drop j) ∧
      Own wr 3 B (.slice (some ⟨g, 0, none⟩) xs.length c) (ints .i64 ys) ∧ Stay [g] w wr)
    case atStart =>
      have hk := keepL_snoc n xs k0 hk0
      rw [HA.out.1, if_pos rfl, List.append_nil] at hk
      have hn := keepL_none n (xs.take k0) fun j hj => by
        simp only [List.length_take] at hj
        rw [take_getD xs k0 j (by omega)]
        exact HA.out.2 j (by omega)
      rw [hn] at hk
      refine ⟨k0, k0 + 1, xs, rfl, by go_num, by omega, by omega, rfl, Lib.hid ⟨rfl, ?_, ?_, rfl⟩, HV.out, Stay.refl _ _⟩
      · rw [hk]; simp; omega
      · rw [hk]
    case round =>
      obtain ⟨i, j, ys, rfl, rfl, hij, hj, hgk, HY, hown, hst⟩ := hrel
      have HO := Lib.hid hown
      have HSt := Lib.hid hst
      have hcp := Lib.hid (show wr.cell? ⟨p, 0, none⟩ = some (.int .i64 n) from by
        rw [← HC.out]
        exact World.cell?_of_block (hst.block p hpl (by simp; exact fun e => hgp e.symm)))
      clear hst HA
      by_cases hlt : j < xs.length
      · have hcell := own_at hown (i := j) (by rw [HY.out.1]; exact hlt)
        have hci := own_at hown (i := i) (by rw [HY.out.1]; omega)
        have hfi := hown.free i
        have hgw := (hown.lt g rfl).2
        have hz : ys.getD j 0 = xs.getD j 0 := by
          have h1 := drop_cons ys j (by rw [HY.out.1]; exact hlt)
          rw [HY.out.2.2.2, drop_cons xs j hlt] at h1
          injection h1 with h1
          exact h1.symm
        rw [hz] at hcell
        obtain ⟨z, hz2⟩ : ∃ z, z = xs.getD j 0 := ⟨_, rfl⟩
        rw [← hz2] at hcell
        have HZ := Lib.hid hz2
        have HK := Lib.hid (keepL_snoc n xs j hlt)
        have HFF := Lib.hid (off_any n z p wr hcp.out)
        have hjl : (j : Int) < xs.length := by omega
        have hil : (i : Int) < xs.length := by omega
        clear hz hz2 hown
        cases ho : offB n z with
        | true =>
          rw [ho] at HFF
          have HX := Lib.hid (HK.out.trans (by rw [← HZ.out, ho, if_pos rfl, List.append_nil] : _ = keepL n (xs.take j)))
          clear ho
          go_wp2_with (first
            | (go_at_call 56; refine HFF.out.mono ?_; rintro e w' ⟨rfl, rfl⟩))
          go_roundg (xs.length - (j + 1))
          case measure => omega
          case rel => exact ⟨i, j + 1, ys, rfl, by go_num, by omega, by omega, rfl, Lib.hid ⟨HY.out.1, by rw [HX.out]; exact HY.out.2.1, by rw [HX.out]; exact HY.out.2.2.1, by
            have := congrArg (List.drop 1) HY.out.2.2.2
            simpa [List.drop_drop, Nat.add_comm] using this⟩, HO.out, HSt.out⟩
        | false =>
          rw [ho] at HFF
          have HX := Lib.hid (HK.out.trans (by rw [← HZ.out, ho, if_neg (by simp)] : _ = keepL n (xs.take j) ++ [z]))
          clear ho
          go_wp2_with (first
            | (go_at_call 56; refine HFF.out.mono ?_; rintro e w' ⟨rfl, rfl⟩))
          go_roundg (xs.length - (j + 1))
          case measure => omega
          case rel => exact ⟨i + 1, j + 1, ys.set i z, by go_num, by go_num, by omega, by omega, rfl, Lib.hid ⟨by simp [HY.out.1], by rw [HX.out]; simp; exact HY.out.2.1, by
              rw [HX.out, ← HY.out.2.2.1]
              have h1 : i < (ys.set i z).length := by simp [HY.out.1]; omega
              rw [List.take_succ_eq_append_getElem h1, List.take_set_of_le (Nat.le_refl i)]
              simp, by
            have := congrArg (List.drop 1) HY.out.2.2.2
            rw [List.drop_set_of_lt (by omega)]
            simpa [List.drop_drop, Nat.add_comm] using this⟩, own_put HO.out i z, HSt.out.set' (.inl (by simp))⟩
      · have e : j = xs.length := by omega
        subst e
        have hcl := fun ty => Lib.run_clear_slice (P := Try.prog) wr 25 3 ty (.int .i64 0) Try.underlying25 zero3 rfl rfl g i (xs.length - i) (c - i) (by omega)
          (fun t ht => by rw [own_at HO.out (i := i + t) (by rw [HY.out.1]; omega)]; rfl) (fun t ht => HO.out.free _)
        obtain ⟨ys2, ho2, hl2, ht2, hs2⟩ := own_setCells (List.replicate (xs.length - i) (.int .i64 0)) i wr _ HO.out
        have HO2 := Lib.hid (And.intro ho2 (And.intro ht2 hs2))
        have hci : (c == i) = false := by
          have : c ≠ i := by omega
          simpa using this
        clear hown ho2 hl2 ht2 hs2
        have hii : (i : Int) ≤ xs.length := by omega
        have hic : (i : Int) ≤ c := by omega
        have HL := Lib.hid (show i = (keepL n xs).length ∧ ys.take i = keepL n xs from by
          have h1 := HY.out.2.1
          have h2 := HY.out.2.2.1
          rw [List.take_length] at h1 h2
          exact ⟨h1, h2⟩)
        go_wp2
        refine bodyPost_ret (v := .slice (some ⟨g, 0, none⟩) i c) (by simp [results, Try.results54, go_sem]) rfl ⟨some ⟨g, 0, none⟩, c, by rw [← HL.out.1], ?_, HSt.out.trans HO2.out.2.2⟩
        have := own_short HO2.out.1 i (by omega)
        rw [HO2.out.2.1, ints, ← List.map_take, HL.out.2] at this
        rw [← HL.out.1]
        exact this
end Go.Proofs.Ytikgjnfimagpjaa
