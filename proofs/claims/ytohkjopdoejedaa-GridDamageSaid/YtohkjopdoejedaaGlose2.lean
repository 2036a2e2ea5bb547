/- package grid: lose: the walk. -/
import Derived.Test.YtohkjopdoejedaaGlose
namespace Go.Proofs.Ytohkjopdoejedaa
open Go.RowKit
theorem loseF_succ (a b : Int) (f i : Nat) (l : List Ce) (hi : i < l.length) : loseF a b (f + 1) i l = loseF a b f (chainE l i) (if 0 < min (chainE l i : Int) b - max (i : Int) a ∧ min (chainE l i : Int) b - max (i : Int) a < (chainE l i : Int) - i then blankR l i (chainE l i) else l) := by
  show (if i < l.length then _ else _) = _
  rw [if_pos hi]
theorem loseF_end (a b : Int) (f i : Nat) (l : List Ce) (hi : l.length ≤ i) : loseF a b f i l = l := by
  cases f with
  | zero => rfl
  | succ f =>
    show (if i < l.length then _ else _) = _
    rw [if_neg (by omega)]
set_option maxRecDepth 20000 in
set_option maxHeartbeats 4000000 in
theorem lose_any (l : List Ce) (b0 o c : Nat) (a b : Int) (L : List Value) (t : TypeId) (w : World) (hl : l.length ≤ 16777216) (ha : -1099511627776 ≤ a ∧ a ≤ 1099511627776) (hb : -1099511627776 ≤ b ∧ b ≤ 1099511627776) (hp : PartOK l) (hc : l.length ≤ c ∧ c ≤ maxLen)
    (hL : o + l.length * 6 ≤ L.length) (h : Blk w b0 (lay L o l) t) :
    Calls Try.prog 44 #[.slice (some ⟨b0, o, none⟩) l.length c, .int .i64 a, .int .i64 b] w fun e w' => e = .returned (.tuple #[]) ∧ Blk w' b0 (lay L o (loseL a b l)) t ∧ Stay [b0] w w' := by
  obtain ⟨n, hn⟩ : ∃ n, l.length = n := ⟨_, rfl⟩
  have HS0 := Lib.hid (show loseF a b (n + 1) 0 l = loseL a b l from by unfold loseL; rw [hn])
  have HP0 := Lib.hid hp
  have HB0 := Lib.hid h
  have HN := Lib.hid hn
  rw [hn] at hl hc hL ⊢
  have hcn : (n : Int) ≤ c := by omega
  have hcm := hc.2
  obtain ⟨ha1, ha2⟩ := ha
  obtain ⟨hb1, hb2⟩ := hb
  clear hp h hn
  go_enter Try.func44, Try.ntmps44
  go_wp2_with fail
  go_loopw [6] (fun iv wr => ∃ (i f : Nat) (l' : List Ce), i ≤ n ∧ iv = .int .i64 i ∧ Hid (l'.length = n) ∧ Hid (PartOK l') ∧ Hid (loseF a b f i l' = loseL a b l) ∧ Hid (n + 1 ≤ f + i) ∧ Hid (Blk wr b0 (lay L o l') t) ∧ Hid (Stay [b0] w wr)) (fun iv _ => n - (intOf iv).toNat)
  case atStart => exact ⟨0, n + 1, l, by omega, rfl, HN.out, HP0.out, HS0.out, by show _ ≤ _; omega, HB0.out, Stay.refl _ _⟩
  case round =>
    obtain ⟨i, f, l', hi, rfl, HLn, HPa, HLo, HF, HB, HS⟩ := hrel
    by_cases hlt : i < n
    · have hlt' : (i : Int) < n := by omega
      have hi0 : (0 : Int) ≤ i := by omega
      have hch := chain_any l' b0 o c i wr (by rw [HLn.out]; exact hl) (by rw [HLn.out]; exact hlt) HPa.out (HB.out.cat (by rw [HLn.out]; exact hL))
      rw [HLn.out] at hch
      have hbd := chainE_bd l' i (by rw [HLn.out]; exact hlt)
      rw [HLn.out] at hbd
      obtain ⟨f', hf'⟩ : ∃ f', f = f' + 1 := ⟨f - 1, by have := HF.out; omega⟩
      have HLo2 := Lib.hid (show loseF a b f' (chainE l' i) (if 0 < min (chainE l' i : Int) b - max (i : Int) a ∧ min (chainE l' i : Int) b - max (i : Int) a < (chainE l' i : Int) - i then blankR l' i (chainE l' i) else l') = loseL a b l from by
        rw [← HLo.out, hf', loseF_succ a b f' i l' (by rw [HLn.out]; exact hlt)])
      obtain ⟨e, he⟩ : ∃ e, e = chainE l' i := ⟨_, rfl⟩
      obtain ⟨cb, hcb⟩ : ∃ cb, cb = chainC l' i := ⟨_, rfl⟩
      rw [← he] at hch hbd HLo2
      rw [← hcb] at hch
      have HCh := Lib.hid hch
      clear hch he hcb
      obtain ⟨mn, hmn⟩ : ∃ mn : Int, mn = min (e : Int) b := ⟨_, rfl⟩
      obtain ⟨mx, hmx⟩ : ∃ mx : Int, mx = max (i : Int) a := ⟨_, rfl⟩
      have hmn1 := Lib.hid (fun ts t w => (min_ints (P := Try.prog) (e : Int) b ts t w).trans (by rw [← hmn]) : ∀ (ts : Array TypeId) (t : TypeId) (w : World), (Builtin.min_ ts t #[.int .i64 e, .int .i64 b]).run Try.prog w = .ok (.int .i64 mn) w)
      have hmx1 := Lib.hid (fun ts t w => (max_ints (P := Try.prog) (i : Int) a ts t w).trans (by rw [← hmx]) : ∀ (ts : Array TypeId) (t : TypeId) (w : World), (Builtin.max_ ts t #[.int .i64 i, .int .i64 a]).run Try.prog w = .ok (.int .i64 mx) w)
      rw [← hmn, ← hmx] at HLo2
      have hb3 : -1099511627776 ≤ mn ∧ mn ≤ 1099511627776 := by omega
      have hb4 : -1099511627776 ≤ mx ∧ mx ≤ 1099511627776 := by omega
      obtain ⟨hb5, hb6⟩ := hb3
      obtain ⟨hb7, hb8⟩ := hb4
      obtain ⟨hbd1, hbd2⟩ := hbd
      have hei : (i : Int) ≤ e := by omega
      have hec : (e : Int) ≤ c := by omega
      have hie : ¬ c = i := by omega
      have HEi := Lib.hid (And.intro hbd1 (And.intro hf' HF.out))
      clear hmn hmx hf'
      by_cases h1 : 0 < mn - mx
      · by_cases h2 : mn - mx < (e : Int) - i
        · have HLo3 := Lib.hid (show loseF a b f' e (blankR l' i e) = loseL a b l from by rw [← HLo2.out, if_pos ⟨h1, h2⟩])
          have hs : ((l'.take e).drop i).length = e - i := by have := HLn.out; simp; omega
          have HBl := Lib.hid (show Calls Try.prog 47 #[.slice (some ⟨b0, o + i * 6, none⟩) (e - i) (c - i)] wr fun e' w' => e' = .returned (.tuple #[]) ∧ Blk w' b0 (lay L o (blankR l' i e)) t ∧ Stay [b0] wr w' from by
            have hB := HB.out
            rw [← lay_same L o i e l' (by rw [HLn.out]; exact hL) (by omega) (by rw [HLn.out]; exact hbd2)] at hB
            have := blank_any ((l'.take e).drop i) b0 (o + i * 6) (c - i) (lay L o l') t wr (by omega) (by rw [lay_length L o l' (by rw [HLn.out]; exact hL), hs]; omega) hB
            rw [hs, lay_blankR L o i e l' (by rw [HLn.out]; exact hL) (by omega) (by rw [HLn.out]; exact hbd2)] at this
            exact this)
          have HLn2 := Lib.hid (show (blankR l' i e).length = n from by rw [blankR_length l' i e (by omega) (by rw [HLn.out]; exact hbd2), HLn.out])
          clear hs
          go_wp2_with (first
            | (go_at_call 46; refine HCh.out.mono ?_; rintro e' w' ⟨rfl, rfl⟩)
            | (refine wpList_min' rfl (.tmp 20) (.tmp 21) #[3, 3] rfl (.int .i64 e) (.int .i64 b) (.int .i64 mn) rfl rfl hmn1.out ?_)
            | (refine wpList_max' rfl (.tmp 23) (.tmp 24) #[3, 3] rfl (.int .i64 i) (.int .i64 a) (.int .i64 mx) rfl rfl hmx1.out ?_))
          refine HBl.out.mono ?_
          rintro e' w8 ⟨rfl, hB8, hS8⟩
          have HB8 := Lib.hid hB8
          have HS8 := Lib.hid hS8
          clear hB8 hS8
          go_wp2_with fail
          go_roundw
          case rel => exact ⟨e, f', blankR l' i e, by omega, rfl, HLn2.out, HPa.out.blankR i e, HLo3.out, by have := HEi.out; show _ ≤ _; omega, HB8.out, HS.out.trans HS8.out⟩
          case measure => simp [intOf]; omega
        · have HLo3 := Lib.hid (show loseF a b f' e l' = loseL a b l from by rw [← HLo2.out, if_neg (fun hh => h2 hh.2)])
          go_wp2_with (first
            | (go_at_call 46; refine HCh.out.mono ?_; rintro e' w' ⟨rfl, rfl⟩)
            | (refine wpList_min' rfl (.tmp 20) (.tmp 21) #[3, 3] rfl (.int .i64 e) (.int .i64 b) (.int .i64 mn) rfl rfl hmn1.out ?_)
            | (refine wpList_max' rfl (.tmp 23) (.tmp 24) #[3, 3] rfl (.int .i64 i) (.int .i64 a) (.int .i64 mx) rfl rfl hmx1.out ?_))
          go_roundw
          case rel => exact ⟨e, f', l', by omega, rfl, HLn.out, HPa.out, HLo3.out, by have := HEi.out; show _ ≤ _; omega, HB.out, HS.out⟩
          case measure => simp [intOf]; omega
      · have HLo3 := Lib.hid (show loseF a b f' e l' = loseL a b l from by rw [← HLo2.out, if_neg (fun hh => h1 hh.1)])
        go_wp2_with (first
          | (go_at_call 46; refine HCh.out.mono ?_; rintro e' w' ⟨rfl, rfl⟩)
          | (refine wpList_min' rfl (.tmp 20) (.tmp 21) #[3, 3] rfl (.int .i64 e) (.int .i64 b) (.int .i64 mn) rfl rfl hmn1.out ?_)
          | (refine wpList_max' rfl (.tmp 23) (.tmp 24) #[3, 3] rfl (.int .i64 i) (.int .i64 a) (.int .i64 mx) rfl rfl hmx1.out ?_))
        go_roundw
        case rel => exact ⟨e, f', l', by omega, rfl, HLn.out, HPa.out, HLo3.out, by have := HEi.out; show _ ≤ _; omega, HB.out, HS.out⟩
        case measure => simp [intOf]; omega
    · have hi' : i = n := by omega
      have HB2 := Lib.hid (show Blk wr b0 (lay L o (loseL a b l)) t from by
        have h1 := HLo.out
        rw [loseF_end a b f i l' (by rw [HLn.out]; omega)] at h1
        rw [← h1]
        exact HB.out)
      have hlt' : ¬ (i : Int) < n := by omega
      clear hi' HB
      go_wp2_with fail
      exact bodyPost_end (v := .tuple #[]) (by simp [results, Try.results44, go_sem]) rfl ⟨rfl, HB2.out, HS.out⟩
end Go.Proofs.Ytohkjopdoejedaa
