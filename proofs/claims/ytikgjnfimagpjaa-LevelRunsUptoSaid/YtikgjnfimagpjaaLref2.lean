/- package level: the document's Paragraph, strong. -/
import Derived.Test.YtikgjnfimagpjaaLref1
import Derived.Test.YtikgjnfimagpjaaLplain2
namespace Go.Proofs.Ytikgjnfimagpjaa
open Go.RowKit
theorem min_i64 {P : Program} (a b : Int) (ts : Array TypeId) (t : TypeId) (w : World) : (Builtin.min_ ts t #[.int .i64 a, .int .i64 b]).run P w = .ok (.int .i64 (if b < a then b else a)) w := by
  by_cases h : b < a
  · simp [Builtin.min_, Builtin.min2, go_sem, h]
  · simp [Builtin.min_, Builtin.min2, go_sem, h]
theorem para_any (zs : List Int) (A : Option Addr) (c at_ : Nat) (w : World) (hl : zs.length ≤ 2097152) (ha : at_ ≤ zs.length) (h : Sl w w.heap.size A (ints .i8 zs)) :
    Calls Try.prog 39 #[.slice A zs.length c, .int .i64 at_] w fun e w' => e = .returned (.int .i64 (paraE at_ (zs.drop at_))) ∧ w = w' := by
  go_enter Try.func39, Try.ntmps39
  go_wp2
  go_loop [1] (fun i => ∃ k : Nat, k ≤ zs.length ∧ i = .int .i64 k ∧ Hid (paraE at_ (zs.drop at_) = paraE k (zs.drop k))) (fun i => zs.length - (intOf i).toNat)
  case atStart => exact ⟨at_, ha, rfl, rfl⟩
  case round =>
    obtain ⟨k, hk, rfl, HF⟩ := hrel
    by_cases hlt : k < zs.length
    · obtain ⟨ad, rfl, hadb, hcell⟩ := sl_at h hlt
      have HE := Lib.hid (HF.out.trans (by rw [drop_cons zs k hlt]; rfl : _ = if zs.getD k 0 = 10 then k + 1 else paraE (k + 1) (zs.drop (k + 1))))
      obtain ⟨z, hz⟩ : ∃ z, z = zs.getD k 0 := ⟨_, rfl⟩
      rw [← hz] at HE hcell
      have hk1 : (k : Int) < zs.length := by omega
      clear hz HF
      by_cases h10 : z = 10
      · have b10 : (z != 10) = false := by simpa using h10
        have HV := Lib.hid (HE.out.trans (if_pos h10))
        have hmin := Lib.hid (fun ts t w => (min_i64 (P := Try.prog) zs.length ((k : Int) + 1) ts t w).trans (by
          by_cases e : (k : Int) + 1 < zs.length
          · rw [if_pos e]
          · rw [if_neg e, show (zs.length : Int) = (k : Int) + 1 by omega]) : ∀ (ts : Array TypeId) (t : TypeId) (w : World), (Builtin.min_ ts t #[.int .i64 zs.length, .int .i64 ((k : Int) + 1)]).run Try.prog w = .ok (.int .i64 ((k : Int) + 1)) w)
        clear h10
        go_wp2_with (first
          | (refine wpList_min rfl (.tmp 19) (.tmp 21) #[3, 3] rfl (.int .i64 zs.length) (.int .i64 ((k : Int) + 1)) (.int .i64 ((k : Int) + 1)) rfl rfl hmin.out ?_))
        go_ret
        exact ⟨by rw [HV.out]; rfl, rfl⟩
      · have b10 : (z != 10) = true := by simpa using h10
        have HV := Lib.hid (HE.out.trans (if_neg h10))
        clear h10
        go_wp2_with fail
        go_round
        case rel => exact ⟨k + 1, by omega, by go_num, HV.out⟩
        case measure => simp [intOf]; omega
    · have e : k = zs.length := by omega
      subst e
      have hmin := Lib.hid (fun ts t w => (min_i64 (P := Try.prog) zs.length ((zs.length : Int) + 1) ts t w).trans (by rw [if_neg (by omega)]) : ∀ (ts : Array TypeId) (t : TypeId) (w : World), (Builtin.min_ ts t #[.int .i64 zs.length, .int .i64 ((zs.length : Int) + 1)]).run Try.prog w = .ok (.int .i64 zs.length) w)
      have HV := Lib.hid (HF.out.trans (by rw [List.drop_length]; rfl : _ = zs.length))
      clear HF
      go_wp2_with (first
        | (refine wpList_min rfl (.tmp 19) (.tmp 21) #[3, 3] rfl (.int .i64 zs.length) (.int .i64 ((zs.length : Int) + 1)) (.int .i64 zs.length) rfl rfl hmin.out ?_))
      go_ret
      exact ⟨by rw [HV.out]; rfl, rfl⟩
theorem strongR_more (l pr : List Int) (tb : Nat) (hp : ∀ i, i < tb → opensB (l.getD i 0) = true → pr.getD i 0 < 0 ∨ (i : Int) < pr.getD i 0) : ∀ (f g j : Nat), tb - j < f → tb - j < g → strongR l pr tb f j = strongR l pr tb g j
  | 0, _, j, h, _ => by omega
  | _, 0, j, _, h => by omega
  | f + 1, g + 1, j, hf, hg => by
    unfold strongR
    by_cases hj : tb ≤ j
    · rw [if_pos hj, if_pos hj]
    rw [if_neg hj, if_neg hj]
    have h1 := strongR_more l pr tb hp f g (j + 1) (by omega) (by omega)
    rw [h1]
    by_cases ho : opensB (l.getD j 0) = true
    · rcases hp j (by omega) ho with h | h
      · rw [if_pos h, if_pos h]
      · rw [strongR_more l pr tb hp f g ((pr.getD j 0).toNat + 1) (by omega) (by omega)]
    · rw [if_neg ho, if_neg ho]
set_option maxHeartbeats 2000000 in
theorem strong_any (l pr : List Int) (A A2 : Option Addr) (c c2 n from_ tb : Nat) (w : World) (hn : l.length = n) (hn2 : pr.length = n) (hl : n ≤ 2097152) (ht : tb ≤ n) (hf : from_ ≤ n)
    (hp : ∀ i, i < n → opensB (l.getD i 0) = true → pr.getD i 0 < 0 ∨ ((i : Int) < pr.getD i 0 ∧ pr.getD i 0 < n)) (h : Sl w w.heap.size A (ints .i8 l)) (h2 : Sl w w.heap.size A2 (ints .i64 pr)) :
    Calls Try.prog 40 #[.slice A n c, .slice A2 n c2, .int .i64 from_, .int .i64 tb] w fun e w' => e = .returned (.bool (strongR l pr tb (n + 1) from_)) ∧ w = w' := by
  have HM := Lib.hid (strongR_more l pr tb (fun i hi ho => by rcases hp i (by omega) ho with h | h; exact .inl h; exact .inr h.1))
  have HP := Lib.hid hp
  have HL := Lib.hid (And.intro hn hn2)
  clear hp hn hn2
  go_enter Try.func40, Try.ntmps40
  go_wp2
  go_loop [9] (fun i => ∃ k : Nat, k ≤ n + 1 ∧ i = .int .i64 k ∧ Hid (strongR l pr tb (n + 1) from_ = strongR l pr tb (n + 1) k)) (fun i => tb - (intOf i).toNat)
  case atStart => exact ⟨from_, by omega, rfl, rfl⟩
  case round =>
    obtain ⟨k, hk, rfl, HF⟩ := hrel
    by_cases hlt : k < tb
    · obtain ⟨ad, rfl, hadb, hcell⟩ := sl_at h (i := k) (by rw [HL.out.1]; omega)
      obtain ⟨ad2, rfl, hadb2, hcell2⟩ := sl_at h2 (i := k) (by rw [HL.out.2]; omega)
      have HE := Lib.hid (HF.out.trans (show strongR l pr tb (n + 1) k = if tb ≤ k then false else if l.getD k 0 = 0 then false else if l.getD k 0 = 1 ∨ l.getD k 0 = 2 then true
        else if opensB (l.getD k 0) = true then (if pr.getD k 0 < 0 then false else strongR l pr tb n ((pr.getD k 0).toNat + 1)) else strongR l pr tb n (k + 1) from rfl))
      have HP1 := Lib.hid (HP.out k (by omega))
      obtain ⟨d, hd⟩ : ∃ d, d = l.getD k 0 := ⟨_, rfl⟩
      obtain ⟨y, hy⟩ : ∃ y, y = pr.getD k 0 := ⟨_, rfl⟩
      rw [← hd, ← hy] at HE HP1
      rw [← hd] at hcell
      rw [← hy] at hcell2
      have HE1 := Lib.hid (HE.out.trans (if_neg (by omega)))
      have HO := Lib.hid (fun w => begins_any d w)
      have hk1 : (k : Int) < n := by omega
      have hk2 : (k : Int) < tb := by omega
      clear hd hy HF HE
      by_cases h0 : d = 0
      · have b0 : (d == 0) = true := by simpa using h0
        have HV := Lib.hid (HE1.out.trans (if_pos h0))
        clear h0
        go_wp2_with fail
        go_ret
        exact ⟨ret_bool' HV.out, rfl⟩
      have b0 : (d == 0) = false := by simpa using h0
      have HE2 := Lib.hid (HE1.out.trans (if_neg h0))
      clear h0 HE1
      by_cases h1 : d = 1
      · have b1 : (d == 1) = true := by simpa using h1
        have HV := Lib.hid (HE2.out.trans (if_pos (.inl h1)))
        clear h1
        go_wp2_with fail
        go_ret
        exact ⟨ret_bool' HV.out, rfl⟩
      have b1 : (d == 1) = false := by simpa using h1
      by_cases h2 : d = 2
      · have b2 : (d == 2) = true := by simpa using h2
        have HV := Lib.hid (HE2.out.trans (if_pos (.inr h2)))
        clear h1 h2
        go_wp2_with fail
        go_ret
        exact ⟨ret_bool' HV.out, rfl⟩
      have b2 : (d == 2) = false := by simpa using h2
      have HE3 := Lib.hid (HE2.out.trans (if_neg (by omega)))
      clear h1 h2 HE2
      cases ho : opensB d with
      | true =>
        rw [ho] at HO HE3 HP1
        clear ho
        have HE4 := Lib.hid (HE3.out.trans (if_pos rfl))
        rcases HP1.out rfl with hy | ⟨hy, hyn⟩
        · have by1 : decide (y < 0) = true := by simpa using hy
          have HV := Lib.hid (HE4.out.trans (if_pos hy))
          clear hy
          go_wp2_with (first
            | (go_at_call 34; refine (HO.out _).mono ?_; rintro e w' ⟨rfl, rfl⟩))
          go_ret
          exact ⟨ret_bool' HV.out, rfl⟩
        · obtain ⟨q, rfl⟩ : ∃ q : Nat, y = q := ⟨y.toNat, by omega⟩
          have HV := Lib.hid (HE4.out.trans ((if_neg (by omega)).trans (by
            rw [Int.toNat_natCast]
            exact HM.out n (n + 1) (q + 1) (by omega) (by omega)) : _ = strongR l pr tb (n + 1) (q + 1)))
          have by1 : decide ((q : Int) < 0) = false := by simp
          have hqn : q < n := by omega
          have hqk : k < q := by omega
          clear hy hyn HE4 HE3
          go_wp2_with (first
            | (go_at_call 34; refine (HO.out _).mono ?_; rintro e w' ⟨rfl, rfl⟩))
          go_round
          case rel => exact ⟨q + 1, by omega, by go_num, HV.out⟩
          case measure => simp [intOf]; omega
      | false =>
        rw [ho] at HO HE3
        clear ho
        have HV := Lib.hid (HE3.out.trans ((if_neg (by simp)).trans (HM.out n (n + 1) (k + 1) (by omega) (by omega)) : _ = strongR l pr tb (n + 1) (k + 1)))
        go_wp2_with (first
          | (go_at_call 34; refine (HO.out _).mono ?_; rintro e w' ⟨rfl, rfl⟩))
        go_round
        case rel => exact ⟨k + 1, by omega, by go_num, HV.out⟩
        case measure => simp [intOf]; omega
    · have hk2 : ¬ (k : Int) < tb := by omega
      have HV := Lib.hid (HF.out.trans (show strongR l pr tb (n + 1) k = false from by unfold strongR; rw [if_pos (by omega)]))
      go_wp2
      go_ret
      exact ⟨ret_bool' HV.out, rfl⟩
end Go.Proofs.Ytikgjnfimagpjaa
