/- NAplain: several texts, one behind another: Nmark, Ndec, Nraw, Nstab, Nspec, Nlet, Nform, Nparts, Nrot, Nmerge, Nchunk. -/
import Derived.Test.YtlphmcodajookaaDoorNAbase
import Derived.Lib.DecodeNEq
/- norm: plain: a character's number as a mark: by steps, and by stretches (printed by gen_mark.py). -/
namespace Go.Proofs.YtlphmcodajookaaDoor
def knownR (r : Int) : Int := if r < 0 ∨ 1114111 < r ∨ (55296 ≤ r ∧ r ≤ 57343) then 65533 else r
theorem knownR_bounds (r : Int) : 0 ≤ knownR r ∧ knownR r ≤ 1114111 := by unfold knownR; split <;> omega
/-- steps: the value of the last one that begins at r or before -/
def findT (v : Int) : List (Int × Int) → Int → Int
  | [], _ => v
  | (a, x) :: l, r => if a ≤ r then findT x l r else v
def inIv (l : List (Int × Int)) (r : Int) : Bool := l.any fun p => decide (p.1 ≤ r) && decide (r ≤ p.2)
def evalCs (d : Int) : List (List (Int × Int) × Int) → Int → Int
  | [], _ => d
  | (iv, v) :: l, r => if inIv iv r = true then v else evalCs d l r
/-- is a stretch all in, or all out? -/
def okIv (l : List (Int × Int)) (a b : Int) : Bool := l.all fun p => decide (b < p.1) || decide (p.2 < a) || (decide (p.1 ≤ a) && decide (b ≤ p.2))
theorem okIv_same {l : List (Int × Int)} {a b r : Int} (h : okIv l a b = true) (h1 : a ≤ r) (h2 : r ≤ b) : inIv l r = inIv l a := by
  unfold okIv at h
  unfold inIv
  rw [List.all_eq_true] at h
  induction l with
  | nil => rfl
  | cons p l ih =>
    rw [List.any_cons, List.any_cons, ih (fun x hx => h x (by simp [hx]))]
    have := h p (by simp)
    simp only [Bool.or_eq_true, Bool.and_eq_true, decide_eq_true_eq] at this
    congr 1
    rcases this with (h3 | h3) | ⟨h3, h4⟩
    · have e1 : decide (p.1 ≤ r) = false := decide_eq_false (by omega)
      have e2 : decide (p.1 ≤ a) = false := decide_eq_false (by omega)
      rw [e1, e2]; rfl
    · have e1 : decide (r ≤ p.2) = false := decide_eq_false (by omega)
      have e2 : decide (a ≤ p.2) = false := decide_eq_false (by omega)
      rw [e1, e2, Bool.and_false, Bool.and_false]
    · rw [decide_eq_true (show p.1 ≤ r by omega), decide_eq_true (show p.1 ≤ a by omega), decide_eq_true (show r ≤ p.2 by omega), decide_eq_true (show a ≤ p.2 by omega)]
theorem okCs_same {d : Int} {a b r : Int} (h1 : a ≤ r) (h2 : r ≤ b) : ∀ {cs : List (List (Int × Int) × Int)}, cs.all (fun c => okIv c.1 a b) = true → evalCs d cs r = evalCs d cs a
  | [], _ => rfl
  | (iv, v) :: l, h => by
    rw [List.all_cons, Bool.and_eq_true] at h
    unfold evalCs
    rw [okIv_same h.1 h1 h2, okCs_same h1 h2 h.2]
/-- do the steps behind a say what the stretches say? -/
def okTab (d : Int) (cs : List (List (Int × Int) × Int)) (a v : Int) : List (Int × Int) → Bool
  | [] => cs.all (fun c => okIv c.1 a 1114111) && decide (evalCs d cs a = v)
  | (b, x) :: l => cs.all (fun c => okIv c.1 a (b - 1)) && decide (evalCs d cs a = v) && okTab d cs b x l
theorem okTab_eq {d : Int} {cs : List (List (Int × Int) × Int)} : ∀ {l : List (Int × Int)} {a v r : Int}, okTab d cs a v l = true → a ≤ r → r ≤ 1114111 → findT v l r = evalCs d cs r
  | [], a, v, r, h, h1, h2 => by
    unfold okTab at h
    simp only [Bool.and_eq_true, decide_eq_true_eq] at h
    unfold findT
    rw [okCs_same h1 h2 h.1, h.2]
  | (b, x) :: l, a, v, r, h, h1, h2 => by
    unfold okTab at h
    simp only [Bool.and_eq_true, decide_eq_true_eq] at h
    unfold findT
    by_cases hb : b ≤ r
    · rw [if_pos hb]
      exact okTab_eq h.2 hb h2
    · rw [if_neg hb, okCs_same h1 (by omega : r ≤ b - 1) h.1.1, h.1.2]
def markTab : List (Int × Int) := [(768, 230), (789, 232), (790, 220), (794, 232), (795, 216), (796, 220), (801, 202), (803, 220), (807, 202), (809, 220), (820, 1), (825, 220), (829, 230), (837, 240), (838, 230), (839, 220), (842, 230), (845, 220), (847, 0), (848, 230), (851, 220), (855, 230), (856, 232), (857, 220), (859, 230), (860, 233), (861, 234), (863, 233), (864, 234), (866, 233), (867, 230), (880, 0), (1155, 230), (1160, 0), (1425, 230), (1456, 10), (1457, 11), (1458, 12), (1459, 13), (1460, 14), (1461, 15), (1462, 16), (1463, 17), (1464, 18), (1465, 19), (1467, 20), (1468, 21), (1469, 22), (1470, 0), (1471, 23), (1472, 0), (1473, 24), (1474, 25), (1475, 0), (1476, 230), (1477, 220), (1478, 0), (1479, 18), (1480, 0), (1552, 230), (1560, 30), (1561, 31), (1562, 32), (1563, 0), (1611, 27), (1612, 28), (1613, 29), (1614, 30), (1615, 31), (1616, 32), (1617, 33), (1618, 34), (1619, 230), (1621, 220), (1623, 230), (1631, 220), (1632, 0), (1648, 35), (1649, 0), (1750, 230), (1757, 0), (1759, 230), (1763, 220), (1764, 230), (1765, 0), (1767, 230), (1769, 0), (1770, 220), (1771, 230), (1773, 220), (1774, 0), (3640, 103), (3642, 9), (3643, 0), (3656, 107), (3660, 0), (6832, 230), (6912, 0), (7616, 230), (7680, 0), (8400, 230), (8413, 0), (8417, 230), (8418, 0), (8421, 230), (8448, 0), (12330, 218), (12331, 228), (12332, 232), (12333, 222), (12334, 0), (12441, 8), (12443, 0), (65056, 230), (65072, 0)]
def markCs : List (List (Int × Int) × Int) := [
  ([(768, 788), (829, 836), (838, 838), (842, 844), (848, 850), (855, 855), (859, 859), (867, 879), (1155, 1159), (1425, 1455), (1476, 1476), (1552, 1559), (1619, 1620), (1623, 1630), (1750, 1756), (1759, 1762), (1764, 1764), (1767, 1768), (1771, 1772), (6832, 6911), (7616, 7679), (8400, 8412), (8417, 8417), (8421, 8447), (65056, 65071)], 230),
  ([(790, 793), (796, 800), (803, 806), (809, 819), (825, 828), (839, 841), (845, 846), (851, 854), (857, 858), (1477, 1477), (1621, 1622), (1631, 1631), (1763, 1763), (1770, 1770), (1773, 1773)], 220),
  ([(789, 789), (794, 794), (856, 856), (12332, 12332)], 232),
  ([(795, 795)], 216),
  ([(801, 802), (807, 808)], 202),
  ([(820, 824)], 1),
  ([(837, 837)], 240),
  ([(860, 860), (863, 863), (866, 866)], 233),
  ([(861, 862), (864, 865)], 234),
  ([(1456, 1456)], 10),
  ([(1457, 1457)], 11),
  ([(1458, 1458)], 12),
  ([(1459, 1459)], 13),
  ([(1460, 1460)], 14),
  ([(1461, 1461)], 15),
  ([(1462, 1462)], 16),
  ([(1463, 1463)], 17),
  ([(1464, 1464), (1479, 1479)], 18),
  ([(1465, 1466)], 19),
  ([(1467, 1467)], 20),
  ([(1468, 1468)], 21),
  ([(1469, 1469)], 22),
  ([(1471, 1471)], 23),
  ([(1473, 1473)], 24),
  ([(1474, 1474)], 25),
  ([(1611, 1611)], 27),
  ([(1612, 1612)], 28),
  ([(1613, 1613)], 29),
  ([(1560, 1560), (1614, 1614)], 30),
  ([(1561, 1561), (1615, 1615)], 31),
  ([(1562, 1562), (1616, 1616)], 32),
  ([(1617, 1617)], 33),
  ([(1618, 1618)], 34),
  ([(1648, 1648)], 35),
  ([(3640, 3641)], 103),
  ([(3642, 3642)], 9),
  ([(3656, 3659)], 107),
  ([(12330, 12330)], 218),
  ([(12331, 12331)], 228),
  ([(12333, 12333)], 222),
  ([(12441, 12442)], 8)]
/-- a number's mark -/
def markN (r : Int) : Int := findT 0 markTab (knownR r)
theorem markTab_ok : okTab 0 markCs 0 0 markTab = true := by decide +kernel
theorem mark_ref (r : Int) : evalCs 0 markCs (knownR r) = markN r := (okTab_eq markTab_ok (knownR_bounds r).1 (knownR_bounds r).2).symm
end Go.Proofs.YtlphmcodajookaaDoor
/- norm: plain: bytes as characters and bad bytes, and back. -/
namespace Go.Proofs.YtlphmcodajookaaDoor
open Go.Lib (decodeN)
/-- the first character of bytes -/
def dL (l : List UInt8) : Nat × Nat := decodeN l.length (l.getD 0 0).toNat (l.getD 1 0).toNat (l.getD 2 0).toNat (l.getD 3 0).toNat
def okR (r : Int) : Prop := (0 ≤ r ∧ r < 55296) ∨ (57344 ≤ r ∧ r ≤ 1114111)
instance (r : Int) : Decidable (okR r) := by unfold okR; infer_instance
/-- a number's bytes -/
def enc (r : Int) : List UInt8 := (Utf8.encode r).data.toList
def encN (c : Nat) : List UInt8 :=
  if c < 128 then [UInt8.ofNat c]
  else if c < 2048 then [UInt8.ofNat (192 + c / 64), UInt8.ofNat (128 + c % 64)]
  else if c < 65536 then [UInt8.ofNat (224 + c / 4096), UInt8.ofNat (128 + c / 64 % 64), UInt8.ofNat (128 + c % 64)]
  else [UInt8.ofNat (240 + c / 262144), UInt8.ofNat (128 + c / 4096 % 64), UInt8.ofNat (128 + c / 64 % 64), UInt8.ofNat (128 + c % 64)]
theorem enc_eq (r : Int) : enc r = encN (if okR r then r.toNat else 65533) := by
  have e : (if Utf8.valid r = true then r.toNat else Utf8.runeError) = (if okR r then r.toNat else 65533) := by
    unfold Utf8.valid Utf8.runeError okR
    simp only [Bool.or_eq_true, Bool.and_eq_true, decide_eq_true_eq]
  unfold enc encN Utf8.encode
  simp only [e]
  generalize (if okR r then r.toNat else 65533) = c
  by_cases h1 : c < 128
  · rw [if_pos h1, if_pos h1]
  · rw [if_neg h1, if_neg h1]
    by_cases h2 : c < 2048
    · rw [if_pos h2, if_pos h2]
    · rw [if_neg h2, if_neg h2]
      by_cases h3 : c < 65536
      · rw [if_pos h3, if_pos h3]
      · rw [if_neg h3, if_neg h3]
theorem toNat_of {n : Nat} (h : n < 256) : (UInt8.ofNat n).toNat = n := by
  rw [UInt8.toNat_ofNat']; omega
set_option maxHeartbeats 2000000 in
/-- what is written is read -/
theorem dL_enc {r : Int} (h : okR r) (rest : List UInt8) : dL (enc r ++ rest) = (r.toNat, (enc r).length) := by
  rw [enc_eq, if_pos h]
  obtain ⟨c, rfl⟩ : ∃ c : Nat, r = c := ⟨r.toNat, by unfold okR at h; omega⟩
  rw [Int.toNat_natCast]
  have hc : c < 55296 ∨ (57344 ≤ c ∧ c ≤ 1114111) := by unfold okR at h; omega
  unfold encN
  by_cases h1 : c < 128
  · rw [if_pos h1]
    unfold dL decodeN
    simp only [List.singleton_append, List.getD_cons_zero, List.length_cons, List.length_nil]
    rw [toNat_of (by omega), if_pos h1]
  · rw [if_neg h1]
    by_cases h2 : c < 2048
    · rw [if_pos h2]
      unfold dL decodeN
      simp only [List.cons_append, List.nil_append, List.getD_cons_zero, List.getD_cons_succ, List.length_cons, List.length_nil]
      rw [toNat_of (by omega), toNat_of (by omega)]
      rw [if_neg (by omega), if_pos (by omega), if_pos (by omega)]
      congr 1; omega
    · rw [if_neg h2]
      by_cases h3 : c < 65536
      · rw [if_pos h3]
        unfold dL decodeN
        simp only [List.cons_append, List.nil_append, List.getD_cons_zero, List.getD_cons_succ, List.length_cons, List.length_nil]
        rw [toNat_of (by omega), toNat_of (by omega), toNat_of (by omega)]
        have e : (224 + c / 4096) % 16 * 4096 + (128 + c / 64 % 64) % 64 * 64 + (128 + c % 64) % 64 = c := by omega
        rw [if_neg (by omega), if_neg (by omega), if_pos (by omega), e, if_pos (by omega)]
      · rw [if_neg h3]
        unfold dL decodeN
        simp only [List.cons_append, List.nil_append, List.getD_cons_zero, List.getD_cons_succ, List.length_cons, List.length_nil]
        rw [toNat_of (by omega), toNat_of (by omega), toNat_of (by omega), toNat_of (by omega)]
        have e : (240 + c / 262144) % 8 * 262144 + (128 + c / 4096 % 64) % 64 * 4096 + (128 + c / 64 % 64) % 64 * 64 + (128 + c % 64) % 64 = c := by omega
        rw [if_neg (by omega), if_neg (by omega), if_neg (by omega), if_pos (by omega), e, if_pos (by omega)]
theorem enc_pos (r : Int) : 1 ≤ (enc r).length ∧ (enc r).length ≤ 4 := by
  rw [enc_eq]
  unfold encN
  repeat' split
  all_goals simp
/-- the first byte is none that goes on -/
theorem enc_head (r : Int) : ∃ b l, enc r = b :: l ∧ (b.toNat < 128 ∨ 192 ≤ b.toNat) := by
  rw [enc_eq]
  generalize hc : (if okR r then r.toNat else 65533) = c
  have hc2 : c ≤ 1114111 := by rw [← hc]; split <;> (try unfold okR at *) <;> omega
  unfold encN
  split
  · exact ⟨_, _, rfl, .inl (by rw [toNat_of (by omega)]; omega)⟩
  · split
    · exact ⟨_, _, rfl, .inr (by rw [toNat_of (by omega)]; omega)⟩
    · split
      · exact ⟨_, _, rfl, .inr (by rw [toNat_of (by omega)]; omega)⟩
      · exact ⟨_, _, rfl, .inr (by rw [toNat_of (by omega)]; omega)⟩
/-- is it a bad byte? -/
def badD (x : Nat × Nat) : Bool := decide (x.1 = 65533) && decide (x.2 = 1)
theorem u8_eq {a b : UInt8} (h : a.toNat = b.toNat) : a = b := UInt8.toNat_inj.1 h
theorem one_of {α : Type} {t : List α} (h : 1 ≤ t.length) : ∃ a r, t = a :: r := by
  cases t with
  | nil => simp at h
  | cons a r => exact ⟨a, r, rfl⟩
theorem two_of {α : Type} {t : List α} (h : 2 ≤ t.length) : ∃ a b r, t = a :: b :: r := by
  obtain ⟨a, r, rfl⟩ := one_of (by omega : 1 ≤ t.length)
  obtain ⟨b, r, rfl⟩ := one_of (t := r) (by simp at h; omega)
  exact ⟨a, b, r, rfl⟩
theorem three_of {α : Type} {t : List α} (h : 3 ≤ t.length) : ∃ a b c r, t = a :: b :: c :: r := by
  obtain ⟨a, b, r, rfl⟩ := two_of (by omega : 2 ≤ t.length)
  obtain ⟨c, r, rfl⟩ := one_of (t := r) (by simp at h; omega)
  exact ⟨a, b, c, r, rfl⟩
set_option maxHeartbeats 4000000 in
/-- what is no bad byte is a character, as it is written -/
theorem dL_good {l : List UInt8} (hl : l ≠ []) (h : badD (dL l) = false) : okR (dL l).1 ∧ ∃ rest, l = enc (dL l).1 ++ rest ∧ (dL l).2 = (enc (dL l).1).length := by
  obtain ⟨b0, t, rfl⟩ := List.exists_cons_of_ne_nil hl
  have k0 := b0.toNat_lt
  unfold badD dL decodeN at h
  simp only [List.getD_cons_zero, List.getD_cons_succ, List.length_cons] at h
  have hd : dL (b0 :: t) = decodeN (t.length + 1) b0.toNat (t.getD 0 0).toNat (t.getD 1 0).toNat (t.getD 2 0).toNat := rfl
  unfold decodeN at hd
  by_cases h1 : b0.toNat < 128
  · rw [if_pos h1] at hd
    rw [hd]
    have ho : okR (b0.toNat : Int) := by unfold okR; omega
    refine ⟨ho, t, ?_, ?_⟩
    · show b0 :: t = enc (b0.toNat : Int) ++ t
      rw [enc_eq, if_pos ho, Int.toNat_natCast]
      unfold encN
      rw [if_pos h1, UInt8.ofNat_toNat]; rfl
    · show 1 = (enc (b0.toNat : Int)).length
      rw [enc_eq, if_pos ho, Int.toNat_natCast]
      unfold encN
      rw [if_pos h1]; rfl
  · rw [if_neg h1] at hd h
    by_cases h2 : b0.toNat / 32 = 6 ∧ (1 < t.length + 1 ∧ (t.getD 0 0).toNat / 64 = 2)
    · rw [if_pos h2] at hd h
      obtain ⟨b1, t, rfl⟩ := one_of (show 1 ≤ t.length by omega)
      · simp only [List.getD_cons_zero] at h2 hd h
        have k1 := b1.toNat_lt
        by_cases h3 : b0.toNat % 32 * 64 + b1.toNat % 64 ≥ 128
        · rw [if_pos h3] at hd
          rw [hd]
          have ho : okR ((b0.toNat % 32 * 64 + b1.toNat % 64 : Nat) : Int) := by unfold okR; omega
          have he : enc ((b0.toNat % 32 * 64 + b1.toNat % 64 : Nat) : Int) = [b0, b1] := by
            rw [enc_eq, if_pos ho, Int.toNat_natCast]
            unfold encN
            rw [if_neg (by omega), if_pos (by omega)]
            congr 1
            · exact u8_eq (by rw [toNat_of (by omega)]; omega)
            · congr 1
              exact u8_eq (by rw [toNat_of (by omega)]; omega)
          exact ⟨ho, t, by rw [he]; rfl, by rw [he]; rfl⟩
        · rw [if_neg h3] at h
          simp at h
    · rw [if_neg h2] at hd h
      by_cases h4 : b0.toNat / 16 = 14 ∧ (1 < t.length + 1 ∧ (t.getD 0 0).toNat / 64 = 2) ∧ (2 < t.length + 1 ∧ (t.getD 1 0).toNat / 64 = 2)
      · rw [if_pos h4] at hd h
        obtain ⟨b1, b2, t, rfl⟩ := two_of (show 2 ≤ t.length by omega)
        · simp only [List.getD_cons_zero, List.getD_cons_succ] at h4 hd h
          have k1 := b1.toNat_lt
          have k2 := b2.toNat_lt
          split at hd
          · rename_i h5
            rw [hd]
            have ho : okR ((b0.toNat % 16 * 4096 + b1.toNat % 64 * 64 + b2.toNat % 64 : Nat) : Int) := by unfold okR; omega
            have he : enc ((b0.toNat % 16 * 4096 + b1.toNat % 64 * 64 + b2.toNat % 64 : Nat) : Int) = [b0, b1, b2] := by
              rw [enc_eq, if_pos ho, Int.toNat_natCast]
              unfold encN
              rw [if_neg (by omega), if_neg (by omega), if_pos (by omega)]
              congr 1
              · exact u8_eq (by rw [toNat_of (by omega)]; omega)
              · congr 1
                · exact u8_eq (by rw [toNat_of (by omega)]; omega)
                · congr 1
                  exact u8_eq (by rw [toNat_of (by omega)]; omega)
            exact ⟨ho, t, by rw [he]; rfl, by rw [he]; rfl⟩
          · rename_i h5
            rw [if_neg h5] at h
            simp at h
      · rw [if_neg h4] at hd h
        by_cases h6 : b0.toNat / 8 = 30 ∧ (1 < t.length + 1 ∧ (t.getD 0 0).toNat / 64 = 2) ∧ (2 < t.length + 1 ∧ (t.getD 1 0).toNat / 64 = 2) ∧ (3 < t.length + 1 ∧ (t.getD 2 0).toNat / 64 = 2)
        · rw [if_pos h6] at hd h
          obtain ⟨b1, b2, b3, t, rfl⟩ := three_of (show 3 ≤ t.length by omega)
          · simp only [List.getD_cons_zero, List.getD_cons_succ] at h6 hd h
            have k1 := b1.toNat_lt
            have k2 := b2.toNat_lt
            have k3 := b3.toNat_lt
            split at hd
            · rename_i h5
              rw [hd]
              have ho : okR ((b0.toNat % 8 * 262144 + b1.toNat % 64 * 4096 + b2.toNat % 64 * 64 + b3.toNat % 64 : Nat) : Int) := by unfold okR; omega
              have he : enc ((b0.toNat % 8 * 262144 + b1.toNat % 64 * 4096 + b2.toNat % 64 * 64 + b3.toNat % 64 : Nat) : Int) = [b0, b1, b2, b3] := by
                rw [enc_eq, if_pos ho, Int.toNat_natCast]
                unfold encN
                rw [if_neg (by omega), if_neg (by omega), if_neg (by omega)]
                congr 1
                · exact u8_eq (by rw [toNat_of (by omega)]; omega)
                · congr 1
                  · exact u8_eq (by rw [toNat_of (by omega)]; omega)
                  · congr 1
                    · exact u8_eq (by rw [toNat_of (by omega)]; omega)
                    · congr 1
                      exact u8_eq (by rw [toNat_of (by omega)]; omega)
              exact ⟨ho, t, by rw [he]; rfl, by rw [he]; rfl⟩
            · rename_i h5
              rw [if_neg h5] at h
              simp at h
        · rw [if_neg h6] at h
          simp at h
end Go.Proofs.YtlphmcodajookaaDoor
/- norm: plain: a text's items (characters and bad bytes), and their bytes. -/
namespace Go.Proofs.YtlphmcodajookaaDoor
open Go.Lib (decodeN)
theorem dL_bad {l : List UInt8} (hl : l ≠ []) (h : badD (dL l) = true) : dL l = (65533, 1) ∧ ∃ b t, l = b :: t ∧ 128 ≤ b.toNat := by
  obtain ⟨b, t, rfl⟩ := List.exists_cons_of_ne_nil hl
  unfold badD at h
  simp only [Bool.and_eq_true, decide_eq_true_eq] at h
  refine ⟨Prod.ext h.1 h.2, b, t, rfl, ?_⟩
  apply Classical.byContradiction
  intro hb
  have : dL (b :: t) = (b.toNat, 1) := by
    unfold dL decodeN
    simp only [List.getD_cons_zero]
    rw [if_pos (by omega)]
  rw [this] at h
  have := h.1
  simp only at this
  have := b.toNat_lt
  omega
theorem dL_width {l : List UInt8} (hl : l ≠ []) : 1 ≤ (dL l).2 ∧ (dL l).2 ≤ l.length := by
  by_cases h : badD (dL l) = true
  · obtain ⟨h1, b, t, rfl, _⟩ := dL_bad hl h
    rw [h1]; simp
  · obtain ⟨_, r, hr, h2⟩ := dL_good hl (by simpa using h)
    have := enc_pos (dL l).1
    have h3 := congrArg List.length hr
    rw [List.length_append] at h3
    omega
/-- no byte that goes on -/
def stopB (b : UInt8) : Prop := b.toNat / 64 ≠ 2
def stopL : List UInt8 → Prop
  | [] => True
  | b :: _ => stopB b
theorem stop_enc (r : Int) (l : List UInt8) : stopL (enc r ++ l) := by
  obtain ⟨b, t, e, h⟩ := enc_head r
  rw [e]
  show stopB b
  unfold stopB
  have := b.toNat_lt
  omega
set_option maxHeartbeats 4000000 in
theorem decodeN_congr {n m b0 b1 b2 b3 c1 c2 c3 : Nat} (h1 : (1 < n ∧ b1 / 64 = 2) ↔ (1 < m ∧ c1 / 64 = 2)) (e1 : 1 < n ∧ b1 / 64 = 2 → b1 = c1)
    (h2 : 1 < n ∧ b1 / 64 = 2 → ((2 < n ∧ b2 / 64 = 2) ↔ (2 < m ∧ c2 / 64 = 2)) ∧ (2 < n ∧ b2 / 64 = 2 → b2 = c2))
    (h3 : 1 < n ∧ b1 / 64 = 2 → 2 < n ∧ b2 / 64 = 2 → ((3 < n ∧ b3 / 64 = 2) ↔ (3 < m ∧ c3 / 64 = 2)) ∧ (3 < n ∧ b3 / 64 = 2 → b3 = c3)) : decodeN n b0 b1 b2 b3 = decodeN m b0 c1 c2 c3 := by
  unfold decodeN
  by_cases k1 : 1 < n ∧ b1 / 64 = 2
  · have k1' := h1.1 k1
    obtain rfl := e1 k1
    obtain ⟨h2, e2⟩ := h2 k1
    by_cases k2 : 2 < n ∧ b2 / 64 = 2
    · have k2' := h2.1 k2
      obtain rfl := e2 k2
      obtain ⟨h3, e3⟩ := h3 k1 k2
      by_cases k3 : 3 < n ∧ b3 / 64 = 2
      · have k3' := h3.1 k3
        obtain rfl := e3 k3
        simp only [k1.1, k1.2, k1'.1, k2.1, k2.2, k2'.1, k3.1, k3.2, k3'.1]
      · have k3' : ¬ (3 < m ∧ c3 / 64 = 2) := fun h => k3 (h3.2 h)
        simp only [k1.1, k1.2, k1'.1, k2.1, k2.2, k2'.1, k3, k3', and_false, and_true, if_false]
    · have k2' : ¬ (2 < m ∧ c2 / 64 = 2) := fun h => k2 (h2.2 h)
      simp only [k1.1, k1.2, k1'.1, k2, k2', and_false, false_and, and_true, if_false]
  · have k1' : ¬ (1 < m ∧ c1 / 64 = 2) := fun h => k1 (h1.2 h)
    simp only [k1, k1', and_false, false_and, if_false]
/-- what is behind a byte that doesn't go on tells nothing -/
theorem dL_stop {B rest : List UInt8} (hB : B ≠ []) (hs : stopL rest) : dL (B ++ rest) = dL B := by
  have hr : ∀ k, rest.length = 0 ∨ ¬ (rest.getD 0 k).toNat / 64 = 2 := fun k => by
    cases rest with
    | nil => exact .inl rfl
    | cons r rest => exact .inr hs
  unfold dL
  match B, hB with
  | [b0], _ =>
    have := hr 0
    simp only [List.cons_append, List.nil_append, List.getD_cons_zero, List.getD_cons_succ, List.length_cons, List.length_nil, List.getD_nil]
    refine decodeN_congr ⟨fun h => ?_, fun h => ?_⟩ (fun h => ?_) (fun h => ?_) (fun h => ?_) <;> exfalso <;> omega
  | [b0, b1], _ =>
    have := hr 0
    simp only [List.cons_append, List.nil_append, List.getD_cons_zero, List.getD_cons_succ, List.length_cons, List.length_nil, List.getD_nil]
    refine decodeN_congr ⟨fun h => ⟨by omega, h.2⟩, fun h => ⟨by omega, h.2⟩⟩ (fun _ => rfl) (fun _ => ⟨⟨fun h => ?_, fun h => ?_⟩, fun h => ?_⟩) (fun _ h => ?_) <;> exfalso <;> omega
  | [b0, b1, b2], _ =>
    have := hr 0
    simp only [List.cons_append, List.nil_append, List.getD_cons_zero, List.getD_cons_succ, List.length_cons, List.length_nil, List.getD_nil]
    refine decodeN_congr ⟨fun h => ⟨by omega, h.2⟩, fun h => ⟨by omega, h.2⟩⟩ (fun _ => rfl) (fun _ => ⟨⟨fun h => ⟨by omega, h.2⟩, fun h => ⟨by omega, h.2⟩⟩, fun _ => rfl⟩) (fun _ _ => ⟨⟨fun h => ?_, fun h => ?_⟩, fun h => ?_⟩) <;> exfalso <;> omega
  | b0 :: b1 :: b2 :: b3 :: B, _ =>
    simp only [List.cons_append, List.getD_cons_zero, List.getD_cons_succ, List.length_cons, List.length_append]
    refine decodeN_congr ⟨fun h => ⟨by omega, h.2⟩, fun h => ⟨by omega, h.2⟩⟩ (fun _ => rfl) (fun _ => ⟨⟨fun h => ⟨by omega, h.2⟩, fun h => ⟨by omega, h.2⟩⟩, fun _ => rfl⟩) (fun _ _ => ⟨⟨fun h => ⟨by omega, h.2⟩, fun h => ⟨by omega, h.2⟩⟩, fun _ => rfl⟩)
/-- a character (number r), or a bad byte b -/
structure It where
  r : Int
  b : UInt8
  bad : Bool
deriving DecidableEq
def It.bytes (x : It) : List UInt8 := if x.bad = true then [x.b] else enc x.r
def chr (r : Int) : It := ⟨r, 0, false⟩
def badI (b : UInt8) : It := ⟨0, b, true⟩
def textI (l : List It) : List UInt8 := l.flatMap It.bytes
/-- the first item of bytes -/
def itemD (l : List UInt8) : It := if badD (dL l) = true then badI (l.headD 0) else chr (dL l).1
def rawF : Nat → List UInt8 → List It
  | 0, _ => []
  | n + 1, l => if l = [] then [] else itemD l :: rawF n (l.drop (dL l).2)
def rawL (l : List UInt8) : List It := rawF l.length l
theorem rawF_fuel : ∀ {n m : Nat} {l : List UInt8}, l.length ≤ n → l.length ≤ m → rawF n l = rawF m l
  | 0, m, l, h, _ => by
    obtain rfl : l = [] := List.eq_nil_of_length_eq_zero (by omega)
    cases m <;> simp [rawF]
  | n + 1, 0, l, _, h => by
    obtain rfl : l = [] := List.eq_nil_of_length_eq_zero (by omega)
    simp [rawF]
  | n + 1, m + 1, l, h1, h2 => by
    unfold rawF
    by_cases hl : l = []
    · rw [if_pos hl, if_pos hl]
    · rw [if_neg hl, if_neg hl]
      have := dL_width hl
      rw [rawF_fuel (n := n) (m := m) (by rw [List.length_drop]; omega) (by rw [List.length_drop]; omega)]
theorem rawL_nil : rawL [] = [] := rfl
theorem rawL_cons {l : List UInt8} (hl : l ≠ []) : rawL l = itemD l :: rawL (l.drop (dL l).2) := by
  unfold rawL
  have h1 : l.length = (l.length - 1) + 1 := by have := List.length_pos_iff.2 hl; omega
  rw [h1]
  show (if l = [] then [] else itemD l :: rawF (l.length - 1) _) = _
  rw [if_neg hl, rawF_fuel (n := l.length - 1) (m := (l.drop (dL l).2).length) (by rw [List.length_drop]; have := dL_width hl; omega) (Nat.le_refl _)]
/-- an item as it may be -/
def It.ok (x : It) : Prop := (x.bad = true ∧ x.r = 0 ∧ 128 ≤ x.b.toNat) ∨ (x.bad = false ∧ x.b = 0 ∧ okR x.r)
theorem chr_ok {r : Int} (h : okR r) : (chr r).ok := .inr ⟨rfl, rfl, h⟩
theorem It.ok.chr {x : It} (h : x.ok) (hb : x.bad = false) : x = chr x.r ∧ okR x.r := by
  rcases h with h | h
  · rw [h.1] at hb; cases hb
  · obtain ⟨r, b, bad⟩ := x
    obtain ⟨h1, h2, h3⟩ := h
    simp only at h1 h2 h3
    subst h1 h2
    exact ⟨rfl, h3⟩
theorem It.ok.badI {x : It} (h : x.ok) (hb : x.bad = true) : x = badI x.b ∧ 128 ≤ x.b.toNat := by
  rcases h with h | h
  · obtain ⟨r, b, bad⟩ := x
    obtain ⟨h1, h2, h3⟩ := h
    simp only at h1 h2 h3
    subst h1 h2
    exact ⟨rfl, h3⟩
  · rw [h.1] at hb; cases hb
theorem badI_bytes (b : UInt8) : (badI b).bytes = [b] := if_pos rfl
theorem chr_bytes (r : Int) : (chr r).bytes = enc r := if_neg (by simp [chr])
theorem itemD_ok {l : List UInt8} (hl : l ≠ []) : (itemD l).ok ∧ (itemD l).bytes = l.take (dL l).2 ∧ (itemD l).bad = badD (dL l) := by
  unfold itemD
  by_cases h : badD (dL l) = true
  · obtain ⟨h1, b, t, rfl, h2⟩ := dL_bad hl h
    rw [if_pos h]
    refine ⟨.inl ⟨rfl, rfl, h2⟩, ?_, h.symm⟩
    have h3 : (dL (b :: t)).2 = 1 := by rw [h1]
    rw [h3, badI_bytes, List.take_succ_cons, List.take_zero, List.headD_cons]
  · obtain ⟨h1, r, h2, h3⟩ := dL_good hl (by simpa using h)
    rw [if_neg h]
    refine ⟨chr_ok h1, ?_, ?_⟩
    · rw [chr_bytes, h3]
      generalize (dL l).1 = q at h2 ⊢
      rw [h2, List.take_left]
    · simp only [Bool.not_eq_true] at h
      rw [h]; rfl
theorem rawF_ok : ∀ (n : Nat) (l : List UInt8), ∀ x ∈ rawF n l, x.ok
  | 0, _, x, hx => by simp [rawF] at hx
  | n + 1, l, x, hx => by
    unfold rawF at hx
    by_cases hl : l = []
    · rw [if_pos hl] at hx; cases hx
    · rw [if_neg hl] at hx
      rcases List.mem_cons.1 hx with h | h
      · rw [h]; exact (itemD_ok hl).1
      · exact rawF_ok n _ x h
theorem rawL_ok (l : List UInt8) : ∀ x ∈ rawL l, x.ok := rawF_ok _ _
/-- the items' bytes are the text's -/
theorem textI_raw : ∀ (n : Nat) (l : List UInt8), l.length ≤ n → textI (rawL l) = l
  | 0, l, h => by
    obtain rfl : l = [] := List.eq_nil_of_length_eq_zero (by omega)
    rfl
  | n + 1, l, h => by
    by_cases hl : l = []
    · subst hl; rfl
    · have hw := dL_width hl
      rw [rawL_cons hl]
      show (itemD l).bytes ++ textI _ = l
      rw [(itemD_ok hl).2.1, textI_raw n _ (by rw [List.length_drop]; omega), List.take_append_drop]
theorem text_raw (l : List UInt8) : textI (rawL l) = l := textI_raw l.length l (Nat.le_refl _)
/-- no row of bad bytes may be read as a character -/
def Good : List It → Prop
  | [] => True
  | x :: l => (x.bad = true → dL (x.b :: textI (l.takeWhile (·.bad))) = (65533, 1)) ∧ Good l
theorem textI_app (a b : List It) : textI (a ++ b) = textI a ++ textI b := by simp [textI]
/-- a row of bad bytes ends ahead of a character -/
theorem stop_text {l : List It} (h : ∀ x ∈ l, x.ok) : stopL (textI (l.dropWhile (·.bad))) := by
  cases hd : l.dropWhile (·.bad) with
  | nil => trivial
  | cons y t =>
    have hy : y.bad = false := by
      have := List.head?_dropWhile_not (p := fun x : It => x.bad) l
      rw [hd] at this
      simpa using this
    have hm : y ∈ l := (List.dropWhile_sublist _).subset (by rw [hd]; simp)
    obtain ⟨e, _⟩ := (h y hm).chr hy
    rw [e]
    show stopL (enc y.r ++ textI t)
    exact stop_enc _ _
theorem bad_look {x : It} {l : List It} (h : ∀ y ∈ l, y.ok) : dL (x.b :: textI l) = dL (x.b :: textI (l.takeWhile (·.bad))) := by
  have e : x.b :: textI l = (x.b :: textI (l.takeWhile (·.bad))) ++ textI (l.dropWhile (·.bad)) := by
    rw [List.cons_append, ← textI_app, List.takeWhile_append_dropWhile]
  rw [e]
  exact dL_stop (by simp) (stop_text h)
/-- what is written is read: items -/
theorem raw_text : ∀ {l : List It}, (∀ x ∈ l, x.ok) → Good l → rawL (textI l) = l
  | [], _, _ => rfl
  | x :: l, h, hg => by
    have hx := h x (by simp)
    have hl : ∀ y ∈ l, y.ok := fun y hy => h y (by simp [hy])
    have ih := raw_text hl hg.2
    cases hb : x.bad with
    | true =>
      obtain ⟨e, h2⟩ := hx.badI hb
      have e1 : textI (x :: l) = x.b :: textI l := by
        show x.bytes ++ textI l = _
        unfold It.bytes
        rw [if_pos hb]; rfl
      have hd := (bad_look (x := x) hl).trans (hg.1 hb)
      rw [e1, rawL_cons (by simp), hd]
      show itemD _ :: rawL (textI l) = _
      rw [ih]
      congr 1
      unfold itemD
      rw [hd]
      exact e.symm
    | false =>
      obtain ⟨e, h2⟩ := hx.chr hb
      have e1 : textI (x :: l) = enc x.r ++ textI l := by
        show x.bytes ++ textI l = _
        unfold It.bytes
        rw [hb]; rfl
      have hd := dL_enc h2 (textI l)
      have hne : enc x.r ++ textI l ≠ [] := by
        have := (enc_pos x.r).1
        intro h3
        have := congrArg List.length h3
        rw [List.length_append] at this
        simp only [List.length_nil] at this
        omega
      rw [e1, rawL_cons hne, hd, List.drop_left, ih]
      congr 1
      unfold itemD
      rw [hd]
      have : badD (x.r.toNat, (enc x.r).length) = false := by
        unfold badD
        by_cases h3 : x.r.toNat = 65533
        · have h4 : x.r = 65533 := by omega
          rw [h4]
          decide
        · simp [h3]
      rw [this]
      show chr (x.r.toNat : Int) = x
      have h5 : 0 ≤ x.r := by unfold okR at h2; omega
      rw [Int.toNat_of_nonneg h5]
      exact e.symm
/-- a text's own items may not be read otherwise -/
theorem raw_good : ∀ (n : Nat) (l : List UInt8), l.length ≤ n → Good (rawL l)
  | 0, l, h => by
    obtain rfl : l = [] := List.eq_nil_of_length_eq_zero (by omega)
    trivial
  | n + 1, l, h => by
    by_cases hl : l = []
    · subst hl; trivial
    · have hw := dL_width hl
      have ih := raw_good n (l.drop (dL l).2) (by rw [List.length_drop]; omega)
      rw [rawL_cons hl]
      refine ⟨fun hb => ?_, ih⟩
      have hok := itemD_ok hl
      rw [hok.2.2] at hb
      obtain ⟨h1, b, t, rfl, h2⟩ := dL_bad hl hb
      have hk := bad_look (x := itemD (b :: t)) (rawL_ok ((b :: t).drop (dL (b :: t)).2))
      rw [← hk, text_raw, h1]
      have e : (itemD (b :: t)).b = b := by
        unfold itemD
        rw [if_pos hb]; rfl
      rw [e]
      exact h1
theorem rawL_good (l : List UInt8) : Good (rawL l) := raw_good l.length l (Nat.le_refl _)
end Go.Proofs.YtlphmcodajookaaDoor
/- norm: plain: stable order by a key. -/
namespace Go.Proofs.YtlphmcodajookaaDoor
section
variable {α : Type}
/-- l' is l, put in order by a key, those of one key as they stood -/
def Stab (key : α → Int) (l l' : List α) : Prop := l'.Pairwise (fun a b => key a ≤ key b) ∧ ∀ k, l'.filter (fun x => decide (key x = k)) = l.filter (fun x => decide (key x = k))
theorem stab_eq {key : α → Int} : ∀ {a b : List α}, a.Pairwise (fun x y => key x ≤ key y) → b.Pairwise (fun x y => key x ≤ key y) → (∀ k, a.filter (fun x => decide (key x = k)) = b.filter (fun x => decide (key x = k))) → a = b
  | [], b, _, _, h => by
    cases b with
    | nil => rfl
    | cons y b =>
      have := h (key y)
      simp at this
  | x :: a, b, ha, hb, h => by
    cases b with
    | nil =>
      have := h (key x)
      simp at this
    | cons y b =>
      rw [List.pairwise_cons] at ha hb
      have hxb : x ∈ (y :: b) := by
        have : x ∈ (y :: b).filter (fun z => decide (key z = key x)) := by rw [← h]; simp
        exact (List.mem_filter.1 this).1
      have hya : y ∈ (x :: a) := by
        have : y ∈ (x :: a).filter (fun z => decide (key z = key y)) := by rw [h]; simp
        exact (List.mem_filter.1 this).1
      have k1 : key y ≤ key x := by
        rcases List.mem_cons.1 hxb with e | e
        · rw [e]; exact Int.le_refl _
        · exact hb.1 x e
      have k2 : key x ≤ key y := by
        rcases List.mem_cons.1 hya with e | e
        · rw [e]; exact Int.le_refl _
        · exact ha.1 y e
      have k3 : key y = key x := Int.le_antisymm k1 k2
      have e0 := h (key x)
      simp only [List.filter_cons, k3, decide_true, if_true, List.cons.injEq] at e0
      obtain ⟨rfl, e0⟩ := e0
      congr 1
      refine stab_eq ha.2 hb.2 fun k => ?_
      have e1 := h k
      by_cases hk : key x = k
      · simp only [List.filter_cons, hk, decide_true, if_true, List.cons.injEq] at e1
        exact e1.2
      · simp only [List.filter_cons, hk, decide_false] at e1
        exact e1
theorem Stab.unique {key : α → Int} {l a b : List α} (ha : Stab key l a) (hb : Stab key l b) : a = b := stab_eq ha.1 hb.1 fun k => (ha.2 k).trans (hb.2 k).symm
theorem Stab.mem {key : α → Int} {l a : List α} (h : Stab key l a) (x : α) : x ∈ a ↔ x ∈ l := by
  have h1 : ∀ l : List α, x ∈ l ↔ x ∈ l.filter (fun z => decide (key z = key x)) := fun l => by simp
  rw [h1 a, h1 l, h.2]
theorem Stab.length {key : α → Int} : ∀ {a l : List α}, (∀ k, a.filter (fun x => decide (key x = k)) = l.filter (fun x => decide (key x = k))) → a.Perm l
  | [], l, h => by
    cases l with
    | nil => exact List.Perm.nil
    | cons y b =>
      have := h (key y)
      simp at this
  | x :: a, l, h => by
    have hx : x ∈ l := by
      have : x ∈ l.filter (fun z => decide (key z = key x)) := by rw [← h]; simp
      exact (List.mem_filter.1 this).1
    have e0 := h (key x)
    simp only [List.filter_cons, decide_true, if_true] at e0
    -- the first of its key in l is x
    obtain ⟨l1, l2, rfl, hl1⟩ : ∃ l1 l2, l = l1 ++ x :: l2 ∧ ∀ y ∈ l1, key y ≠ key x := by
      clear hx h
      induction l with
      | nil => simp at e0
      | cons y l ih =>
        by_cases hy : key y = key x
        · simp only [List.filter_cons, hy, decide_true, if_true, List.cons.injEq] at e0
          obtain ⟨rfl, _⟩ := e0
          exact ⟨[], l, rfl, by simp⟩
        · simp only [List.filter_cons, hy, decide_false, Bool.false_eq_true, if_false] at e0
          obtain ⟨l1, l2, rfl, h1⟩ := ih e0
          exact ⟨y :: l1, l2, rfl, fun z hz => by
            rcases List.mem_cons.1 hz with e | e
            · rw [e]; exact hy
            · exact h1 z e⟩
    refine List.Perm.trans ?_ List.perm_middle.symm
    refine List.Perm.cons x (Stab.length (key := key) fun k => ?_)
    have e1 := h k
    rw [List.filter_append] at e1 ⊢
    by_cases hk : key x = k
    · have e2 : l1.filter (fun x => decide (key x = k)) = [] := by
        rw [List.filter_eq_nil_iff]
        intro y hy
        have := hl1 y hy
        rw [hk] at this
        simpa using this
      rw [e2] at e1 ⊢
      simp only [List.filter_cons, hk, decide_true, if_true, List.nil_append, List.cons.injEq] at e1 ⊢
      exact e1.2
    · simp only [List.filter_cons, hk, decide_false] at e1
      exact e1
theorem Stab.perm {key : α → Int} {l a : List α} (h : Stab key l a) : a.Perm l := Stab.length h.2
/-- put a thing in order ahead of what is not less -/
def insK (key : α → Int) (x : α) : List α → List α
  | [] => [x]
  | y :: l => if key x ≤ key y then x :: y :: l else y :: insK key x l
def isortK (key : α → Int) : List α → List α
  | [] => []
  | x :: l => insK key x (isortK key l)
theorem insK_mem (key : α → Int) (x : α) : ∀ (l : List α) (y : α), y ∈ insK key x l ↔ y = x ∨ y ∈ l
  | [], y => by simp [insK]
  | z :: l, y => by
    unfold insK
    split
    · simp
    · simp only [List.mem_cons, insK_mem key x l y]
      constructor
      · rintro (h | h | h) <;> simp [h]
      · rintro (h | h | h) <;> simp [h]
theorem insK_sorted (key : α → Int) (x : α) : ∀ l : List α, l.Pairwise (fun a b => key a ≤ key b) → (insK key x l).Pairwise (fun a b => key a ≤ key b)
  | [], _ => by simp [insK]
  | z :: l, h => by
    unfold insK
    rw [List.pairwise_cons] at h
    split
    · rename_i hx
      refine List.pairwise_cons.2 ⟨fun y hy => ?_, List.pairwise_cons.2 h⟩
      rcases List.mem_cons.1 hy with e | e
      · rw [e]; exact hx
      · exact Int.le_trans hx (h.1 y e)
    · rename_i hx
      refine List.pairwise_cons.2 ⟨fun y hy => ?_, insK_sorted key x l h.2⟩
      rcases (insK_mem key x l y).1 hy with e | e
      · rw [e]; omega
      · exact h.1 y e
theorem insK_filter (key : α → Int) (x : α) (k : Int) : ∀ l : List α, (insK key x l).filter (fun z => decide (key z = k)) = (x :: l).filter (fun z => decide (key z = k))
  | [] => rfl
  | z :: l => by
    unfold insK
    split
    · rfl
    · rename_i hx
      have ih := insK_filter key x k l
      simp only [List.filter_cons] at ih ⊢
      rw [ih]
      by_cases h1 : key z = k
      · have h2 : ¬ key x = k := by omega
        simp [h1, h2]
      · simp [h1]
theorem isortK_stab (key : α → Int) : ∀ l : List α, Stab key l (isortK key l)
  | [] => ⟨List.Pairwise.nil, fun _ => rfl⟩
  | x :: l => by
    have ih := isortK_stab key l
    refine ⟨insK_sorted key x _ ih.1, fun k => ?_⟩
    show (insK key x (isortK key l)).filter _ = _
    rw [insK_filter, List.filter_cons, List.filter_cons, ih.2 k]
theorem isortK_of {key : α → Int} {l a : List α} (h : Stab key l a) : isortK key l = a := (isortK_stab key l).unique h
theorem isortK_mem (key : α → Int) (l : List α) (x : α) : x ∈ isortK key l ↔ x ∈ l := (isortK_stab key l).mem x
theorem isortK_perm (key : α → Int) (l : List α) : (isortK key l).Perm l := (isortK_stab key l).perm
theorem isortK_sorted {key : α → Int} {l : List α} (h : l.Pairwise (fun a b => key a ≤ key b)) : isortK key l = l := isortK_of ⟨h, fun _ => rfl⟩
theorem isortK_idem (key : α → Int) (l : List α) : isortK key (isortK key l) = isortK key l := isortK_sorted (isortK_stab key l).1
/-- the same things with the same order in each key give the same -/
theorem isortK_congr {key : α → Int} {l m : List α} (h : ∀ k, l.filter (fun x => decide (key x = k)) = m.filter (fun x => decide (key x = k))) : isortK key l = isortK key m :=
  isortK_of ⟨(isortK_stab key m).1, fun k => ((isortK_stab key m).2 k).trans (h k).symm⟩
/-- rows of what has a key other than 0, each put in order -/
def ordK (key : α → Int) (acc : List α) : List α → List α
  | [] => isortK key acc
  | x :: l => if key x = 0 then isortK key acc ++ x :: ordK key [] l else ordK key (acc ++ [x]) l
theorem ordK_nil (key : α → Int) (acc : List α) : ordK key acc [] = isortK key acc := rfl
theorem ordK_zero {key : α → Int} {x : α} (acc l : List α) (h : key x = 0) : ordK key acc (x :: l) = isortK key acc ++ x :: ordK key [] l := by
  show (if key x = 0 then _ else _) = _
  rw [if_pos h]
theorem ordK_mark {key : α → Int} {x : α} (acc l : List α) (h : key x ≠ 0) : ordK key acc (x :: l) = ordK key (acc ++ [x]) l := by
  show (if key x = 0 then _ else _) = _
  rw [if_neg h]
theorem ordK_zero' {key : α → Int} {x : α} (l : List α) (h : key x = 0) : ordK key [] (x :: l) = x :: ordK key [] l := ordK_zero [] l h
theorem ordK_split (key : α → Int) : ∀ (l acc : List α), ordK key acc l = isortK key (acc ++ l.takeWhile (fun x => decide (key x ≠ 0))) ++ (match l.dropWhile (fun x => decide (key x ≠ 0)) with | [] => [] | y :: r => y :: ordK key [] r)
  | [], acc => by simp [ordK]
  | x :: l, acc => by
    by_cases hx : key x = 0
    · rw [ordK_zero acc l hx, List.takeWhile_cons_of_neg (by simp [hx]), List.dropWhile_cons_of_neg (by simp [hx]), List.append_nil]
    · rw [ordK_mark acc l hx, ordK_split key l (acc ++ [x]), List.takeWhile_cons_of_pos (by simp [hx]), List.dropWhile_cons_of_pos (by simp [hx])]
      simp only [List.append_assoc, List.singleton_append]
/-- all marks -/
theorem ordK_marks {key : α → Int} : ∀ (m acc : List α), (∀ x ∈ m, key x ≠ 0) → ordK key acc m = isortK key (acc ++ m)
  | [], acc, _ => by rw [ordK_nil, List.append_nil]
  | x :: m, acc, h => by
    rw [ordK_mark acc m (h x (by simp)), ordK_marks m _ (fun y hy => h y (by simp [hy]))]
    simp
theorem ordK_app {key : α → Int} : ∀ (m acc l : List α), (∀ x ∈ m, key x ≠ 0) → ordK key acc (m ++ l) = ordK key (acc ++ m) l
  | [], acc, l, _ => by simp
  | x :: m, acc, l, h => by
    rw [List.cons_append, ordK_mark acc (m ++ l) (h x (by simp)), ordK_app m _ l (fun y hy => h y (by simp [hy]))]
    simp
/-- parted ahead of a starter -/
theorem ordK_part {key : α → Int} {y : α} (hy : key y = 0) (m : List α) : ∀ (l acc : List α), ordK key acc (l ++ y :: m) = ordK key acc l ++ ordK key [] (y :: m)
  | [], acc => by rw [List.nil_append, ordK_zero acc m hy, ordK_nil, ordK_zero' m hy]
  | x :: l, acc => by
    rw [List.cons_append]
    by_cases hx : key x = 0
    · rw [ordK_zero acc _ hx, ordK_zero acc _ hx, ordK_part hy m l []]
      simp
    · rw [ordK_mark acc _ hx, ordK_mark acc _ hx, ordK_part hy m l (acc ++ [x])]
theorem ordK_perm (key : α → Int) : ∀ (l acc : List α), (ordK key acc l).Perm (acc ++ l)
  | [], acc => by rw [ordK_nil, List.append_nil]; exact isortK_perm key acc
  | x :: l, acc => by
    by_cases hx : key x = 0
    · rw [ordK_zero acc l hx]
      exact (isortK_perm key acc).append ((ordK_perm key l []).cons x)
    · rw [ordK_mark acc l hx]
      have := ordK_perm key l (acc ++ [x])
      simpa using this
theorem ordK_length (key : α → Int) (l : List α) : (ordK key [] l).length = l.length := by simpa using (ordK_perm key l []).length_eq
theorem ordK_mem (key : α → Int) (l : List α) (x : α) : x ∈ ordK key [] l ↔ x ∈ l := by simpa using (ordK_perm key l []).mem_iff (a := x)
/-- in order between starters -/
def ordP (key : α → Int) : List α → Prop
  | [] => True
  | [_] => True
  | x :: y :: l => (key y ≠ 0 → key x ≤ key y) ∧ ordP key (y :: l)
theorem ordP_cons {key : α → Int} {x : α} : ∀ {l : List α}, ordP key (x :: l) → ordP key l
  | [], _ => trivial
  | _ :: _, h => h.2
/-- what is in order stays -/
theorem ordK_same {key : α → Int} : ∀ (l acc : List α), (∀ x ∈ acc, key x ≠ 0) → acc.Pairwise (fun a b => key a ≤ key b) → (∀ x ∈ acc, ∀ y, l.head? = some y → key y ≠ 0 → key x ≤ key y) → ordP key l → ordK key acc l = acc ++ l
  | [], acc, _, hs, _, _ => by rw [ordK_nil, isortK_sorted hs, List.append_nil]
  | x :: l, acc, ha, hs, hx, hl => by
    by_cases h0 : key x = 0
    · rw [ordK_zero acc l h0, isortK_sorted hs, ordK_same l [] (by simp) List.Pairwise.nil (by simp) (ordP_cons hl), List.nil_append]
    · rw [ordK_mark acc l h0, ordK_same l (acc ++ [x]) ?_ ?_ ?_ (ordP_cons hl)]
      · simp
      · intro y hy
        rw [List.mem_append, List.mem_singleton] at hy
        rcases hy with h | h
        · exact ha y h
        · rw [h]; exact h0
      · rw [List.pairwise_append]
        refine ⟨hs, by simp, fun a h1 b h2 => ?_⟩
        rw [List.mem_singleton] at h2
        rw [h2]
        exact hx a h1 x rfl h0
      · intro a h1 y hy hy0
        have hxy : key x ≤ key y := by
          cases l with
          | nil => simp at hy
          | cons z l =>
            simp only [List.head?_cons, Option.some.injEq] at hy
            subst hy
            exact hl.1 hy0
        rw [List.mem_append, List.mem_singleton] at h1
        rcases h1 with h | h
        · exact Int.le_trans (hx a h x rfl h0) hxy
        · rw [h]; exact hxy
theorem ordK_id {key : α → Int} {l : List α} (h : ordP key l) : ordK key [] l = l := ordK_same l [] (by simp) List.Pairwise.nil (by simp) h
theorem ordP_sorted {key : α → Int} : ∀ {l : List α}, l.Pairwise (fun a b => key a ≤ key b) → ordP key l
  | [], _ => trivial
  | [_], _ => trivial
  | x :: y :: l, h => by
    rw [List.pairwise_cons] at h
    exact ⟨fun _ => h.1 y (by simp), ordP_sorted h.2⟩
theorem ordP_app {key : α → Int} : ∀ {a b : List α}, ordP key a → ordP key b → (∀ y, b.head? = some y → key y = 0) → ordP key (a ++ b)
  | [], _, _, hb, _ => hb
  | [_], [], _, _, _ => trivial
  | [_], y :: _, _, hb, h => ⟨fun h0 => absurd (h y rfl) h0, hb⟩
  | _ :: _ :: _, _, ha, hb, h => ⟨ha.1, ordP_app ha.2 hb h⟩
theorem ordP_zero {key : α → Int} {x : α} {l : List α} (hk : ∀ x, 0 ≤ key x) (h0 : key x = 0) (h : ordP key l) : ordP key (x :: l) := by
  cases l with
  | nil => trivial
  | cons y l => exact ⟨fun _ => by rw [h0]; exact hk y, h⟩
theorem ordK_ordP {key : α → Int} (hk : ∀ x, 0 ≤ key x) : ∀ (l acc : List α), ordP key (ordK key acc l)
  | [], acc => by rw [ordK_nil]; exact ordP_sorted (isortK_stab key acc).1
  | x :: l, acc => by
    by_cases h0 : key x = 0
    · rw [ordK_zero acc l h0]
      refine ordP_app (ordP_sorted (isortK_stab key acc).1) (ordP_zero hk h0 (ordK_ordP hk l [])) fun y hy => ?_
      simp only [List.head?_cons, Option.some.injEq] at hy
      rw [← hy]; exact h0
    · rw [ordK_mark acc l h0]
      exact ordK_ordP hk l _
theorem ordK_idem {key : α → Int} (hk : ∀ x, 0 ≤ key x) (l : List α) : ordK key [] (ordK key [] l) = ordK key [] l := ordK_id (ordK_ordP hk l [])
/-- rows with the same order in each key give the same -/
theorem ordK_acc {key : α → Int} (l : List α) : ∀ (a b : List α), (∀ k, a.filter (fun x => decide (key x = k)) = b.filter (fun x => decide (key x = k))) → ordK key a l = ordK key b l := by
  induction l with
  | nil => intro a b h; exact isortK_congr h
  | cons x l ih =>
    intro a b h
    by_cases h0 : key x = 0
    · rw [ordK_zero a l h0, ordK_zero b l h0, isortK_congr h]
    · rw [ordK_mark a l h0, ordK_mark b l h0]
      exact ih _ _ fun k => by rw [List.filter_append, List.filter_append, h k]
/-- a mark may go ahead of marks of other keys -/
theorem ordK_swap {key : α → Int} {c : α} (hc : key c ≠ 0) {mid : List α} (hm : ∀ x ∈ mid, key x ≠ 0 ∧ key x ≠ key c) (r : List α) : ∀ (l acc : List α), ordK key acc (l ++ c :: (mid ++ r)) = ordK key acc (l ++ (mid ++ c :: r))
  | [], acc => by
    rw [List.nil_append, List.nil_append, ordK_mark acc _ hc, ordK_app mid _ r (fun x hx => (hm x hx).1), ordK_app mid acc _ (fun x hx => (hm x hx).1), ordK_mark _ r hc]
    refine ordK_acc r _ _ fun k => ?_
    simp only [List.filter_append, List.append_assoc]
    congr 1
    by_cases hk : key c = k
    · have e : mid.filter (fun x => decide (key x = k)) = [] := by
        rw [List.filter_eq_nil_iff]
        intro y hy
        have := (hm y hy).2
        rw [hk] at this
        simpa using this
      rw [e]; simp
    · have e : [c].filter (fun x => decide (key x = k)) = [] := by simp [hk]
      rw [e]; simp
  | x :: l, acc => by
    rw [List.cons_append, List.cons_append]
    by_cases h0 : key x = 0
    · rw [ordK_zero acc _ h0, ordK_zero acc _ h0, ordK_swap hc hm r l []]
    · rw [ordK_mark acc _ h0, ordK_mark acc _ h0, ordK_swap hc hm r l _]
end
end Go.Proofs.YtlphmcodajookaaDoor
/- norm: plain: letters taken apart, and put together (printed by gen_spec.py). -/
namespace Go.Proofs.YtlphmcodajookaaDoor
/-- the rows: a mark; letters and what they are with it, in turns -/
def rowsN : List (Int × List Int) := [
  (768, [65, 192, 69, 200, 73, 204, 79, 210, 85, 217, 97, 224, 101, 232, 105, 236, 111, 242, 117, 249, 194, 7846, 202, 7872, 212, 7890, 226, 7847, 234, 7873, 244, 7891]),
  (769, [65, 193, 67, 262, 69, 201, 73, 205, 76, 313, 78, 323, 79, 211, 82, 340, 83, 346, 85, 218, 89, 221, 90, 377, 97, 225, 99, 263, 101, 233, 105, 237, 108, 314, 110, 324, 111, 243, 114, 341, 115, 347, 117, 250, 121, 253, 122, 378, 194, 7844, 202, 7870, 212, 7888, 226, 7845, 234, 7871, 244, 7889, 913, 902, 917, 904, 919, 905, 921, 906, 927, 908, 933, 910, 937, 911, 945, 940, 949, 941, 951, 942, 953, 943, 959, 972, 965, 973, 969, 974, 970, 912, 971, 944, 1043, 1027, 1050, 1036, 1075, 1107, 1082, 1116]),
  (770, [65, 194, 67, 264, 69, 202, 71, 284, 72, 292, 73, 206, 74, 308, 79, 212, 83, 348, 85, 219, 87, 372, 89, 374, 97, 226, 99, 265, 101, 234, 103, 285, 104, 293, 105, 238, 106, 309, 111, 244, 115, 349, 117, 251, 119, 373, 121, 375]),
  (771, [65, 195, 73, 296, 78, 209, 79, 213, 85, 360, 97, 227, 105, 297, 110, 241, 111, 245, 117, 361]),
  (772, [65, 256, 69, 274, 73, 298, 79, 332, 85, 362, 97, 257, 101, 275, 105, 299, 111, 333, 117, 363]),
  (774, [65, 258, 69, 276, 71, 286, 73, 300, 79, 334, 85, 364, 97, 259, 101, 277, 103, 287, 105, 301, 111, 335, 117, 365, 1048, 1049, 1080, 1081, 1059, 1038, 1091, 1118]),
  (775, [67, 266, 69, 278, 71, 288, 73, 304, 90, 379, 99, 267, 101, 279, 103, 289, 122, 380]),
  (776, [65, 196, 69, 203, 73, 207, 79, 214, 85, 220, 89, 376, 97, 228, 101, 235, 105, 239, 111, 246, 117, 252, 121, 255, 921, 938, 933, 939, 953, 970, 965, 971, 1045, 1025, 1030, 1031, 1077, 1105, 1110, 1111]),
  (778, [65, 197, 85, 366, 97, 229, 117, 367]),
  (779, [79, 336, 85, 368, 111, 337, 117, 369]),
  (780, [67, 268, 68, 270, 69, 282, 76, 317, 78, 327, 82, 344, 83, 352, 84, 356, 90, 381, 99, 269, 100, 271, 101, 283, 108, 318, 110, 328, 114, 345, 115, 353, 116, 357, 122, 382]),
  (807, [67, 199, 71, 290, 75, 310, 76, 315, 78, 325, 82, 342, 83, 350, 84, 354, 99, 231, 103, 291, 107, 311, 108, 316, 110, 326, 114, 343, 115, 351, 116, 355]),
  (808, [65, 260, 69, 280, 73, 302, 85, 370, 97, 261, 101, 281, 105, 303, 117, 371]),
  (12441, [12363, 12364, 12365, 12366, 12367, 12368, 12369, 12370, 12371, 12372, 12373, 12374, 12375, 12376, 12377, 12378, 12379, 12380, 12381, 12382, 12383, 12384, 12385, 12386, 12388, 12389, 12390, 12391, 12392, 12393, 12399, 12400, 12402, 12403, 12405, 12406, 12408, 12409, 12411, 12412, 12459, 12460, 12461, 12462, 12463, 12464, 12465, 12466, 12467, 12468, 12469, 12470, 12471, 12472, 12473, 12474, 12475, 12476, 12477, 12478, 12479, 12480, 12481, 12482, 12484, 12485, 12486, 12487, 12488, 12489, 12495, 12496, 12498, 12499, 12501, 12502, 12504, 12505, 12507, 12508]),
  (12442, [12399, 12401, 12402, 12404, 12405, 12407, 12408, 12410, 12411, 12413, 12495, 12497, 12498, 12500, 12501, 12503, 12504, 12506, 12507, 12509])]
def pairsOf (m : Int) : List Int → List (Int × Int × Int)
  | a :: c :: l => (c, a, m) :: pairsOf m l
  | _ => []
/-- what is made, of a letter and a mark -/
def tabN : List (Int × Int × Int) := rowsN.flatMap fun x => pairsOf x.1 x.2
def lookT (l : List (Int × Int × Int)) (c : Int) : Option (Int × Int) := (l.find? fun t => decide (t.1 = c)).map (·.2)
def lookN (c : Int) : Option (Int × Int) := lookT tabN c
def pairT (l : List (Int × Int × Int)) (a b : Int) : Int := ((l.find? fun t => decide (t.2.1 = a) && decide (t.2.2 = b)).map (·.1)).getD 0
def singleN (r : Int) : Int := if r = 8490 then 75 else if r = 8486 then 937 else if r = 8491 then 197 else r
def hangN (r : Int) : List Int := [4352 + (r - 44032) / 588, 4449 + (r - 44032) / 28 % 21] ++ if (r - 44032) % 28 = 0 then [] else [4519 + (r - 44032) % 28]
def isHang (r : Int) : Bool := decide (44032 ≤ r) && decide (r < 55204)
/-- a letter taken apart, as far as it goes (in at most n steps) -/
def splitF : Nat → Int → List Int
  | 0, r => [r]
  | n + 1, r =>
    if isHang (singleN r) = true then hangN (singleN r)
    else match lookN (singleN r) with
      | some (a, b) => splitF n a ++ [b]
      | none => [singleN r]
def splitN (r : Int) : List Int := splitF 4 r
def hangP (a b : Int) : Int :=
  if 4352 ≤ a ∧ a < 4371 ∧ 4449 ≤ b ∧ b < 4470 then 44032 + ((a - 4352) * 21 + (b - 4449)) * 28
  else if 44032 ≤ a ∧ a < 55204 ∧ (a - 44032) % 28 = 0 ∧ 4519 < b ∧ b < 4547 then a + (b - 4519) else 0
/-- two letters put together; 0: they are no pair -/
def pairN (a b : Int) : Int := if hangP a b ≠ 0 then hangP a b else pairT tabN a b
/-- what each line of the table meets -/
def lineOk (t : Int × Int × Int) : Bool :=
  decide (lookN t.1 = some t.2) && decide (pairT tabN t.2.1 t.2.2 = t.1) && decide (singleN t.1 = t.1) && decide (singleN t.2.1 = t.2.1) && decide (singleN t.2.2 = t.2.2) &&
  !isHang t.1 && !isHang t.2.1 && !isHang t.2.2 && decide (lookN t.2.2 = none) && decide (markN t.1 = 0) && decide (markN t.2.1 = 0) && decide (markN t.2.2 ≠ 0) &&
  decide (128 ≤ t.1) && decide (okR t.1) && decide (okR t.2.1) && decide (okR t.2.2) && decide (splitF 3 t.2.1 = splitF 4 t.2.1) && decide (splitF 2 t.2.1 = splitF 4 t.2.1) &&
  (splitF 4 t.2.1).all (fun x => !isHang x && decide (singleN x = x) && decide (lookN x = none) && decide (okR x)) && decide (((splitF 4 t.2.1).head?.map markN) = some 0) && decide (hangP t.2.1 t.2.2 = 0) && !(decide (4352 ≤ t.1) && decide (t.1 < 4608)) &&
  decide (t.1 ≠ 65533) && decide (t.2.1 ≠ 65533)
set_option maxRecDepth 100000 in
theorem lines_ok : tabN.all lineOk = true := by decide +kernel
end Go.Proofs.YtlphmcodajookaaDoor
/- norm: plain: what letters taken apart, and put together, are. -/
namespace Go.Proofs.YtlphmcodajookaaDoor
/-- it can't be taken apart -/
def atom (x : Int) : Prop := isHang x = false ∧ singleN x = x ∧ lookN x = none
theorem atom_split {x : Int} (h : atom x) (n : Nat) : splitF n x = [x] := by
  cases n with
  | zero => rfl
  | succ n =>
    unfold splitF
    rw [h.2.1, h.1, if_neg (by simp), h.2.2]
theorem look_mem {c a b : Int} (h : lookN c = some (a, b)) : (c, a, b) ∈ tabN := by
  unfold lookN lookT at h
  cases hf : tabN.find? (fun t => decide (t.1 = c)) with
  | none => rw [hf] at h; cases h
  | some t =>
    rw [hf] at h
    have h1 := List.find?_some hf
    have h2 := List.mem_of_find?_eq_some hf
    simp only [decide_eq_true_eq] at h1
    simp only [Option.map_some, Option.some.injEq] at h
    obtain ⟨x, y, z⟩ := t
    simp only [Prod.mk.injEq] at h h1
    obtain ⟨rfl, rfl⟩ := h
    subst h1
    exact h2
structure Line (c a b : Int) : Prop where
  look : lookN c = some (a, b)
  pair : pairT tabN a b = c
  sc : singleN c = c
  sa : singleN a = a
  hc : isHang c = false
  ha : isHang a = false
  ab : atom b
  mc : markN c = 0
  ma : markN a = 0
  mb : markN b ≠ 0
  c128 : 128 ≤ c
  oc : okR c
  oa : okR a
  ob : okR b
  f3 : splitF 3 a = splitF 4 a
  f2 : splitF 2 a = splitF 4 a
  at_ : ∀ x ∈ splitF 4 a, atom x ∧ okR x
  hd : ((splitF 4 a).head?.map markN) = some 0
  hp : hangP a b = 0
  nj : ¬ (4352 ≤ c ∧ c < 4608)
  nb : c ≠ 65533
  nba : a ≠ 65533
theorem line_of {c a b : Int} (h : (c, a, b) ∈ tabN) : Line c a b := by
  have := List.all_eq_true.1 lines_ok _ h
  unfold lineOk at this
  simp only [Bool.and_eq_true, decide_eq_true_eq, Bool.not_eq_true', List.all_eq_true, Bool.and_eq_false_iff, decide_eq_false_iff_not] at this
  obtain ⟨⟨⟨⟨⟨⟨⟨⟨⟨⟨⟨⟨⟨⟨⟨⟨⟨⟨⟨⟨⟨⟨⟨h1, h2⟩, h3⟩, h4⟩, h5⟩, h6⟩, h7⟩, h8⟩, h9⟩, h10⟩, h11⟩, h12⟩, h13⟩, h14⟩, h15⟩, h16⟩, h17⟩, h18⟩, h19⟩, h20⟩, h21⟩, h22⟩, h23⟩, h24⟩ := this
  exact ⟨h1, h2, h3, h4, h6, h7, ⟨h8, h5, h9⟩, h10, h11, h12, h13, h14, h15, h16, h17, h18, fun x hx => by
    have := h19 x hx
    exact ⟨⟨this.1.1.1, this.1.1.2, this.1.2⟩, this.2⟩, h20, h21, by rcases h22 with h | h <;> omega, h23, h24⟩
theorem line_at {c a b : Int} (h : lookN c = some (a, b)) : Line c a b := line_of (look_mem h)
theorem single_idem (r : Int) : singleN (singleN r) = singleN r := by
  unfold singleN
  repeat' split
  all_goals omega
/-- a stretch without steps -/
theorem mark_flat {a b r : Int} (ha : 0 ≤ a) (hb : b ≤ 55295) (h : markCs.all (fun c => okIv c.1 a b) = true) (h1 : a ≤ r) (h2 : r ≤ b) : markN r = evalCs 0 markCs a := by
  rw [← mark_ref]
  have : knownR r = r := by unfold knownR; rw [if_neg (by omega)]
  rw [this]
  exact okCs_same h1 h2 h
theorem mark_jamo {r : Int} (h1 : 4352 ≤ r) (h2 : r < 4608) : markN r = 0 := by
  rw [mark_flat (a := 4352) (b := 4607) (by omega) (by omega) (by decide +kernel) h1 (by omega)]
  decide +kernel
theorem mark_hang {r : Int} (h1 : 44032 ≤ r) (h2 : r < 55204) : markN r = 0 := by
  rw [mark_flat (a := 44032) (b := 55203) (by omega) (by omega) (by decide +kernel) h1 (by omega)]
  decide +kernel
theorem jamo_atom {r : Int} (h1 : 4352 ≤ r) (h2 : r < 4608) : atom r := by
  refine ⟨?_, ?_, ?_⟩
  · unfold isHang
    rw [decide_eq_false (by omega)]; rfl
  · unfold singleN
    rw [if_neg (by omega), if_neg (by omega), if_neg (by omega)]
  · cases h : lookN r with
    | none => rfl
    | some t =>
      obtain ⟨a, b⟩ := t
      exact absurd ⟨h1, h2⟩ (line_at h).nj
theorem hang_look {r : Int} (h : isHang r = true) : lookN r = none ∧ singleN r = r := by
  unfold isHang at h
  simp only [Bool.and_eq_true, decide_eq_true_eq] at h
  refine ⟨?_, by unfold singleN; rw [if_neg (by omega), if_neg (by omega), if_neg (by omega)]⟩
  cases hl : lookN r with
  | none => rfl
  | some t =>
    obtain ⟨a, b⟩ := t
    have := (line_at hl).hc
    unfold isHang at this
    rw [decide_eq_true h.1, decide_eq_true h.2] at this
    cases this
theorem hang_parts {r : Int} (h : isHang r = true) : ∀ x ∈ hangN r, 4352 ≤ x ∧ x < 4608 := fun x hx => by
  unfold isHang at h
  simp only [Bool.and_eq_true, decide_eq_true_eq] at h
  unfold hangN at hx
  rw [List.mem_append] at hx
  rcases hx with hx | hx
  · simp only [List.mem_cons, List.not_mem_nil, or_false] at hx
    rcases hx with rfl | rfl <;> omega
  · split at hx
    · cases hx
    · rw [List.mem_singleton] at hx
      rw [hx]; omega
/-- the three ways -/
theorem split_cases (n : Nat) (r : Int) : (isHang (singleN r) = true ∧ splitF (n + 1) r = hangN (singleN r)) ∨ (∃ a b, isHang (singleN r) = false ∧ Line (singleN r) a b ∧ splitF (n + 1) r = splitF n a ++ [b]) ∨ (atom (singleN r) ∧ splitF (n + 1) r = [singleN r]) := by
  have e : splitF (n + 1) r = if isHang (singleN r) = true then hangN (singleN r) else match lookN (singleN r) with
      | some (a, b) => splitF n a ++ [b]
      | none => [singleN r] := rfl
  rw [e]
  cases hh : isHang (singleN r) with
  | true => exact .inl ⟨rfl, if_pos rfl⟩
  | false =>
    cases hl : lookN (singleN r) with
    | none => exact .inr (.inr ⟨⟨hh, single_idem r, hl⟩, if_neg (by simp)⟩)
    | some t =>
      obtain ⟨a, b⟩ := t
      exact .inr (.inl ⟨a, b, rfl, line_at hl, if_neg (by simp)⟩)
/-- one step more changes nothing -/
theorem split_more (r : Int) : splitF 5 r = splitF 4 r := by
  rcases split_cases 4 r with ⟨h, e⟩ | ⟨a, b, h, hl, e⟩ | ⟨h, e⟩ <;> rcases split_cases 3 r with ⟨h', e'⟩ | ⟨a', b', h', hl', e'⟩ | ⟨h', e'⟩
  · rw [e, e']
  · rw [h] at h'; cases h'
  · have := h'.1; rw [h] at this; cases this
  · rw [h] at h'; cases h'
  · have := hl.look.symm.trans hl'.look
    injection this with this
    injection this with e1 e2
    subst e1 e2
    rw [e, e', hl.f3]
  · have := h'.2.2; rw [hl.look] at this; cases this
  · have := h.1; rw [h'] at this; cases this
  · have := h.2.2; rw [hl'.look] at this; cases this
  · rw [e, e']
theorem split_atoms (r : Int) : ∀ x ∈ splitN r, atom x := fun x hx => by
  unfold splitN at hx
  rcases split_cases 3 r with ⟨h, e⟩ | ⟨a, b, h, hl, e⟩ | ⟨h, e⟩ <;> rw [e] at hx
  · have := hang_parts h x hx
    exact jamo_atom this.1 this.2
  · rw [hl.f3, List.mem_append, List.mem_singleton] at hx
    rcases hx with hx | hx
    · exact (hl.at_ x hx).1
    · rw [hx]; exact hl.ab
  · rw [List.mem_singleton] at hx
    rw [hx]; exact h
theorem split_same {r : Int} (h : atom r) : splitN r = [r] := atom_split h 4
theorem split_again (r : Int) : ∀ x ∈ splitN r, splitN x = [x] := fun x hx => split_same (split_atoms r x hx)
theorem single_ok {r : Int} (h : okR r) : okR (singleN r) := by
  unfold singleN
  repeat' split
  all_goals first | exact h | (unfold okR; omega)
theorem split_ok {r : Int} (h : okR r) : ∀ x ∈ splitN r, okR x := fun x hx => by
  unfold splitN at hx
  rcases split_cases 3 r with ⟨h', e⟩ | ⟨a, b, h', hl, e⟩ | ⟨h', e⟩ <;> rw [e] at hx
  · have := hang_parts h' x hx
    unfold okR; omega
  · rw [hl.f3, List.mem_append, List.mem_singleton] at hx
    rcases hx with hx | hx
    · exact (hl.at_ x hx).2
    · rw [hx]; exact hl.ob
  · rw [List.mem_singleton] at hx
    rw [hx]; exact single_ok h
theorem hang_head {r : Int} (h : isHang r = true) : (hangN r).head?.map markN = some 0 := by
  have h1 := hang_parts h (4352 + (r - 44032) / 588) (by unfold hangN; simp)
  show some (markN _) = _
  rw [mark_jamo h1.1 h1.2]
theorem mark_single {r : Int} (h : singleN r ≠ r) : markN r = 0 ∧ markN (singleN r) = 0 := by
  have : r = 8490 ∨ r = 8486 ∨ r = 8491 := by
    unfold singleN at h
    split at h
    · omega
    · split at h
      · omega
      · split at h
        · omega
        · exact absurd rfl h
  rcases this with rfl | rfl | rfl <;> exact ⟨by decide +kernel, by decide +kernel⟩
/-- a mark can't be taken apart; what is none begins with what is none -/
theorem split_mark (r : Int) : (markN r ≠ 0 → splitN r = [r]) ∧ (splitN r).head?.map markN = some (markN r) := by
  have hs : singleN r = r ∨ (markN r = 0 ∧ markN (singleN r) = 0) := by
    by_cases h : singleN r = r
    · exact .inl h
    · exact .inr (mark_single h)
  unfold splitN
  rcases split_cases 3 r with ⟨h', e⟩ | ⟨a, b, h', hl, e⟩ | ⟨h', e⟩ <;> rw [e]
  · have h0 : markN r = 0 := by
      rcases hs with hs | hs
      · rw [hs] at h'
        unfold isHang at h'
        simp only [Bool.and_eq_true, decide_eq_true_eq] at h'
        exact mark_hang h'.1 h'.2
      · exact hs.1
    exact ⟨fun h => absurd h0 h, by rw [h0]; exact hang_head h'⟩
  · have h0 : markN r = 0 := by
      rcases hs with hs | hs
      · have := hl.mc
        rwa [hs] at this
      · exact hs.1
    refine ⟨fun h => absurd h0 h, ?_⟩
    have h1 := hl.hd
    rw [hl.f3, h0]
    cases hh : splitF 4 a with
    | nil => rw [hh] at h1; cases h1
    | cons y t => rw [hh] at h1; exact h1
  · refine ⟨fun h => ?_, ?_⟩
    · rcases hs with hs | hs
      · rw [hs]
      · exact absurd hs.1 h
    · show some (markN (singleN r)) = _
      rcases hs with hs | hs
      · rw [hs]
      · rw [hs.1, hs.2]
theorem split_ne (r : Int) : splitN r ≠ [] := fun h => by
  have := (split_mark r).2
  rw [h] at this
  cases this
/-- what two letters are together is taken apart as they are -/
theorem pair_split {a b : Int} (h : pairN a b ≠ 0) : splitN (pairN a b) = splitN a ++ [b] ∧ markN (pairN a b) = 0 ∧ markN a = 0 ∧ okR (pairN a b) ∧ splitN b = [b] := by
  unfold pairN at h ⊢
  by_cases hp : hangP a b ≠ 0
  · rw [if_pos hp]
    unfold hangP at hp ⊢
    by_cases h1 : 4352 ≤ a ∧ a < 4371 ∧ 4449 ≤ b ∧ b < 4470
    · rw [if_pos h1]
      generalize hc : 44032 + ((a - 4352) * 21 + (b - 4449)) * 28 = c
      have hcb : 44032 ≤ c ∧ c < 55204 := by omega
      have hh : isHang c = true := by unfold isHang; rw [decide_eq_true hcb.1, decide_eq_true hcb.2]; rfl
      refine ⟨?_, mark_hang hcb.1 hcb.2, mark_jamo h1.1 (by omega), by unfold okR; omega, split_same (jamo_atom (by omega) (by omega))⟩
      rw [split_same (jamo_atom h1.1 (by omega))]
      have e : splitN c = hangN c := by
        unfold splitN splitF
        rw [(hang_look hh).2, if_pos hh]
      rw [e]
      unfold hangN
      rw [if_pos (by omega)]
      have e1 : 4352 + (c - 44032) / 588 = a := by omega
      have e2 : 4449 + (c - 44032) / 28 % 21 = b := by omega
      rw [e1, e2]; rfl
    · rw [if_neg h1] at hp ⊢
      by_cases h2 : 44032 ≤ a ∧ a < 55204 ∧ (a - 44032) % 28 = 0 ∧ 4519 < b ∧ b < 4547
      · rw [if_pos h2]
        generalize hc : a + (b - 4519) = c
        have hcb : 44032 ≤ c ∧ c < 55204 := by omega
        have hh : isHang c = true := by unfold isHang; rw [decide_eq_true hcb.1, decide_eq_true hcb.2]; rfl
        have ha : isHang a = true := by unfold isHang; rw [decide_eq_true h2.1, decide_eq_true h2.2.1]; rfl
        refine ⟨?_, mark_hang hcb.1 hcb.2, mark_hang h2.1 h2.2.1, by unfold okR; omega, split_same (jamo_atom (by omega) (by omega))⟩
        have e : splitN c = hangN c := by
          unfold splitN splitF
          rw [(hang_look hh).2, if_pos hh]
        have e' : splitN a = hangN a := by
          unfold splitN splitF
          rw [(hang_look ha).2, if_pos ha]
        rw [e, e']
        unfold hangN
        rw [if_neg (by omega), if_pos h2.2.2.1]
        have e1 : (c - 44032) / 588 = (a - 44032) / 588 := by omega
        have e2 : (c - 44032) / 28 = (a - 44032) / 28 := by omega
        have e3 : 4519 + (c - 44032) % 28 = b := by omega
        rw [e1, e2, e3]; rfl
      · rw [if_neg h2] at hp
        exact absurd rfl hp
  · rw [if_neg hp] at h ⊢
    have hm : ∃ c, (c, a, b) ∈ tabN ∧ pairT tabN a b = c := by
      unfold pairT at h ⊢
      cases hf : tabN.find? (fun t => decide (t.2.1 = a) && decide (t.2.2 = b)) with
      | none => rw [hf] at h; exact absurd rfl h
      | some t =>
        have h1 := List.find?_some hf
        have h2 := List.mem_of_find?_eq_some hf
        simp only [Bool.and_eq_true, decide_eq_true_eq] at h1
        obtain ⟨x, y, z⟩ := t
        obtain ⟨rfl, rfl⟩ := h1
        exact ⟨x, h2, rfl⟩
    obtain ⟨c, hc, e⟩ := hm
    have hl := line_of hc
    rw [e]
    refine ⟨?_, hl.mc, hl.ma, hl.oc, split_same hl.ab⟩
    rcases split_cases 3 c with ⟨h', e2⟩ | ⟨a', b', h', hl', e2⟩ | ⟨h', e2⟩
    · rw [hl.sc, hl.hc] at h'; cases h'
    · rw [hl.sc] at hl'
      have := hl'.look.symm.trans hl.look
      injection this with this
      injection this with e3 e4
      subst e3 e4
      show splitF 4 c = splitF 4 _ ++ _
      rw [e2, hl.f3]
    · rw [hl.sc] at h'
      have := h'.2.2
      rw [hl.look] at this
      cases this
end Go.Proofs.YtlphmcodajookaaDoor
/- norm: plain: a text's two forms, and what follows. -/
namespace Go.Proofs.YtlphmcodajookaaDoor
theorem findT_nonneg : ∀ (l : List (Int × Int)) (v r : Int), 0 ≤ v → (∀ x ∈ l, 0 ≤ x.2) → 0 ≤ findT v l r
  | [], _, _, h, _ => h
  | (a, x) :: l, v, r, h, hl => by
    unfold findT
    split
    · exact findT_nonneg l x r (hl (a, x) (by simp)) (fun y hy => hl y (by simp [hy]))
    · exact h
theorem markN_nonneg (r : Int) : 0 ≤ markN r := findT_nonneg _ _ _ (Int.le_refl _) (by decide +kernel)
/-- an item's mark -/
def keyI (x : It) : Int := if x.bad = true then 0 else markN x.r
theorem keyI_nonneg (x : It) : 0 ≤ keyI x := by
  unfold keyI
  split
  · exact Int.le_refl _
  · exact markN_nonneg _
theorem keyI_bad {x : It} (h : x.bad = true) : keyI x = 0 := if_pos h
theorem keyI_chr (r : Int) : keyI (chr r) = markN r := if_neg (by simp [chr])
theorem keyI_mark {x : It} (h : keyI x ≠ 0) : x.bad = false := by
  cases hb : x.bad with
  | true => exact absurd (keyI_bad hb) h
  | false => rfl
def splitI (x : It) : List It := if x.bad = true then [x] else (splitN x.r).map chr
def flatI (l : List It) : List It := l.flatMap splitI
theorem flatI_app (a b : List It) : flatI (a ++ b) = flatI a ++ flatI b := by simp [flatI]
theorem flatI_cons (x : It) (l : List It) : flatI (x :: l) = splitI x ++ flatI l := by simp [flatI]
theorem splitI_bad {x : It} (h : x.bad = true) : splitI x = [x] := if_pos h
theorem splitI_chr {x : It} (h : x.bad = false) : splitI x = (splitN x.r).map chr := if_neg (by simp [h])
theorem splitI_nb {x : It} (h : x.bad = false) : ∀ y ∈ splitI x, y.bad = false := fun y hy => by
  rw [splitI_chr h] at hy
  obtain ⟨r, _, rfl⟩ := List.mem_map.1 hy
  rfl
theorem splitI_ne {x : It} : splitI x ≠ [] := by
  cases h : x.bad with
  | true => rw [splitI_bad h]; simp
  | false => rw [splitI_chr h]; simpa using split_ne x.r
theorem splitI_ok {x : It} (h : x.ok) : ∀ y ∈ splitI x, y.ok := fun y hy => by
  cases hb : x.bad with
  | true => rw [splitI_bad hb, List.mem_singleton] at hy; rw [hy]; exact h
  | false =>
    rw [splitI_chr hb] at hy
    obtain ⟨r, hr, rfl⟩ := List.mem_map.1 hy
    exact chr_ok (split_ok (h.chr hb).2 r hr)
/-- what is apart stays so -/
def apartP (x : It) : Prop := splitI x = [x]
theorem splitI_apart (x : It) : ∀ y ∈ splitI x, apartP y := fun y hy => by
  cases hb : x.bad with
  | true => rw [splitI_bad hb, List.mem_singleton] at hy; rw [hy]; exact splitI_bad hb
  | false =>
    rw [splitI_chr hb] at hy
    obtain ⟨r, hr, rfl⟩ := List.mem_map.1 hy
    unfold apartP
    rw [splitI_chr rfl]
    show (splitN r).map chr = _
    rw [split_again _ r hr]; rfl
theorem flatI_apart : ∀ {l : List It}, (∀ x ∈ l, apartP x) → flatI l = l
  | [], _ => rfl
  | x :: l, h => by
    rw [flatI_cons, h x (by simp), flatI_apart (fun y hy => h y (by simp [hy]))]; rfl
def ordI (l : List It) : List It := ordK keyI [] l
def apartI (s : List UInt8) : List It := ordI (flatI (rawL s))
def apartS (s : List UInt8) : List UInt8 := textI (apartI s)
/-! rows of bad bytes -/
theorem tw_app {a b : List It} (h : ∃ x t, a = x :: t ∧ x.bad = false) : (a ++ b).takeWhile (·.bad) = [] := by
  obtain ⟨x, t, rfl, hx⟩ := h
  rw [List.cons_append, List.takeWhile_cons_of_neg (by simp [hx])]
theorem tw_flat : ∀ l : List It, (flatI l).takeWhile (·.bad) = l.takeWhile (·.bad)
  | [] => rfl
  | x :: l => by
    rw [flatI_cons]
    cases hb : x.bad with
    | true =>
      rw [splitI_bad hb, List.takeWhile_cons_of_pos (by simp [hb]), List.singleton_append, List.takeWhile_cons_of_pos (by simp [hb]), tw_flat l]
    | false =>
      rw [List.takeWhile_cons_of_neg (by simp [hb])]
      obtain ⟨y, t, e⟩ := List.exists_cons_of_ne_nil (splitI_ne (x := x))
      exact tw_app ⟨y, t, e, splitI_nb hb y (by rw [e]; simp)⟩
theorem good_nb {n b : List It} (hn : ∀ x ∈ n, x.bad = false) : Good (n ++ b) ↔ Good b := by
  induction n with
  | nil => rfl
  | cons x n ih =>
    constructor
    · intro h
      exact (ih (fun y hy => hn y (by simp [hy]))).1 h.2
    · intro h
      refine ⟨fun hb => ?_, (ih (fun y hy => hn y (by simp [hy]))).2 h⟩
      rw [hn x (by simp)] at hb
      cases hb
/-- parted at a row of characters -/
theorem good_split {n b : List It} (hn : ∀ x ∈ n, x.bad = false) (hne : n ≠ []) : ∀ a : List It, Good (a ++ (n ++ b)) ↔ Good a ∧ Good b
  | [] => by rw [List.nil_append, good_nb hn]; simp [Good]
  | x :: a => by
    have ih := good_split hn hne (b := b) a
    have e : (a ++ (n ++ b)).takeWhile (·.bad) = a.takeWhile (·.bad) := by
      obtain ⟨y, t, rfl⟩ := List.exists_cons_of_ne_nil hne
      have hy := hn y (by simp)
      clear ih
      induction a with
      | nil => simp [hy]
      | cons z a ih =>
        cases hz : z.bad with
        | true => rw [List.cons_append, List.takeWhile_cons_of_pos (by simp [hz]), List.takeWhile_cons_of_pos (by simp [hz]), ih]
        | false => rw [List.cons_append, List.takeWhile_cons_of_neg (by simp [hz]), List.takeWhile_cons_of_neg (by simp [hz])]
    have e2 : (a.append (n ++ b)) = a ++ (n ++ b) := rfl
    constructor
    · rintro ⟨h1, h2⟩
      rw [e2, e] at h1
      exact ⟨⟨h1, (ih.1 h2).1⟩, (ih.1 h2).2⟩
    · rintro ⟨⟨h1, h2⟩, h3⟩
      exact ⟨by rw [e2, e]; exact h1, ih.2 ⟨h2, h3⟩⟩
theorem flatI_good : ∀ {l : List It}, Good l → Good (flatI l)
  | [], _ => trivial
  | x :: l, h => by
    rw [flatI_cons]
    cases hb : x.bad with
    | true =>
      rw [splitI_bad hb]
      exact ⟨fun _ => by
        rw [show (List.append [] (flatI l)) = flatI l from rfl, tw_flat]
        exact h.1 hb, flatI_good h.2⟩
    | false => exact (good_nb (splitI_nb hb)).2 (flatI_good h.2)
theorem isortK_nb {acc : List It} (h : ∀ x ∈ acc, x.bad = false) : ∀ x ∈ isortK keyI acc, x.bad = false := fun x hx => h x ((isortK_mem _ _ _).1 hx)
theorem isortK_ne {acc : List It} (h : acc ≠ []) : isortK keyI acc ≠ [] := fun e => by
  have := (isortK_perm keyI acc).length_eq
  rw [e] at this
  exact h (List.eq_nil_of_length_eq_zero (by simpa using this.symm))
theorem tw_ord : ∀ (l acc : List It), (∀ x ∈ acc, x.bad = false) → (ordK keyI acc l).takeWhile (·.bad) = if acc = [] then l.takeWhile (·.bad) else []
  | [], acc, h => by
    rw [ordK_nil]
    by_cases ha : acc = []
    · subst ha; rfl
    · rw [if_neg ha]
      obtain ⟨y, t, e⟩ := List.exists_cons_of_ne_nil (isortK_ne ha)
      have := isortK_nb h y (by rw [e]; simp)
      rw [e, List.takeWhile_cons_of_neg (by simp [this])]
  | x :: l, acc, h => by
    by_cases h0 : keyI x = 0
    · rw [ordK_zero acc l h0]
      by_cases ha : acc = []
      · subst ha
        rw [if_pos rfl]
        show (x :: ordK keyI [] l).takeWhile _ = _
        cases hb : x.bad with
        | true => rw [List.takeWhile_cons_of_pos (by simp [hb]), List.takeWhile_cons_of_pos (by simp [hb]), tw_ord l [] (by simp), if_pos rfl]
        | false => rw [List.takeWhile_cons_of_neg (by simp [hb]), List.takeWhile_cons_of_neg (by simp [hb])]
      · rw [if_neg ha]
        obtain ⟨y, t, e⟩ := List.exists_cons_of_ne_nil (isortK_ne ha)
        exact tw_app ⟨y, t, e, isortK_nb h y (by rw [e]; simp)⟩
    · have hb := keyI_mark h0
      rw [ordK_mark acc l h0, tw_ord l (acc ++ [x]) (fun y hy => by
        rw [List.mem_append, List.mem_singleton] at hy
        rcases hy with hy | hy
        · exact h y hy
        · rw [hy]; exact hb), if_neg (by simp), List.takeWhile_cons_of_neg (by simp [hb])]
      simp
theorem ordK_good : ∀ (l acc : List It), (∀ x ∈ acc, x.bad = false) → Good l → Good (ordK keyI acc l)
  | [], acc, h, _ => by
    rw [ordK_nil, ← List.append_nil (isortK keyI acc)]
    exact (good_nb (isortK_nb h)).2 trivial
  | x :: l, acc, h, hg => by
    by_cases h0 : keyI x = 0
    · rw [ordK_zero acc l h0]
      exact (good_nb (isortK_nb h)).2 ⟨fun hb => by rw [tw_ord l [] (by simp), if_pos rfl]; exact hg.1 hb, ordK_good l [] (by simp) hg.2⟩
    · rw [ordK_mark acc l h0]
      exact ordK_good l _ (fun y hy => by
        rw [List.mem_append, List.mem_singleton] at hy
        rcases hy with hy | hy
        · exact h y hy
        · rw [hy]; exact keyI_mark h0) hg.2
theorem ordI_mem (l : List It) (x : It) : x ∈ ordI l ↔ x ∈ l := ordK_mem _ _ _
/-- what is taken apart: as it may be, apart, in order -/
structure Parted (l : List It) : Prop where
  ok : ∀ x ∈ l, x.ok
  good : Good l
  apart : ∀ x ∈ l, apartP x
  ord : ordP keyI l
theorem apartI_parted (s : List UInt8) : Parted (apartI s) where
  ok := fun x hx => by
    unfold apartI at hx
    rw [ordI_mem] at hx
    obtain ⟨y, hy, hx⟩ := List.mem_flatMap.1 hx
    exact splitI_ok (rawL_ok s y hy) x hx
  good := ordK_good _ _ (by simp) (flatI_good (rawL_good s))
  apart := fun x hx => by
    unfold apartI at hx
    rw [ordI_mem] at hx
    obtain ⟨y, hy, hx⟩ := List.mem_flatMap.1 hx
    exact splitI_apart y x hx
  ord := ordK_ordP keyI_nonneg _ _
theorem Parted.again {l : List It} (h : Parted l) : apartI (textI l) = l := by
  unfold apartI ordI
  rw [raw_text h.ok h.good, flatI_apart h.apart, ordK_id h.ord]
theorem apart_apart (s : List UInt8) : apartS (apartS s) = apartS s := by
  unfold apartS
  rw [(apartI_parted s).again]
theorem apartI_of_text {a b : List UInt8} (h : apartS a = apartS b) : apartI a = apartI b := by
  rw [← (apartI_parted a).again, ← (apartI_parted b).again]
  exact congrArg apartI h
/-! together -/
structure TS where
  pre : List It
  st : Option It
  mid : List It
def TS.out (s : TS) : List It := s.pre ++ (s.st.toList ++ s.mid)
def nearT (mid : List It) (c : It) : Bool := match mid.getLast? with
  | none => true
  | some x => decide (keyI x ≠ 0) && decide (keyI x < keyI c)
def stepT (s : TS) (c : It) : TS :=
  match s.st with
  | some S =>
    if c.bad = false ∧ S.bad = false ∧ nearT s.mid c = true ∧ pairN S.r c.r ≠ 0 then ⟨s.pre, some (chr (pairN S.r c.r)), s.mid⟩
    else if keyI c = 0 then ⟨s.pre ++ S :: s.mid, some c, []⟩ else ⟨s.pre, some S, s.mid ++ [c]⟩
  | none => if keyI c = 0 then ⟨s.pre ++ s.mid, some c, []⟩ else ⟨s.pre, none, s.mid ++ [c]⟩
def togetherI (l : List It) : List It := (l.foldl stepT ⟨[], none, []⟩).out
def togetherS (s : List UInt8) : List UInt8 := textI (togetherI (apartI s))
/-- how it stands between: l is all; r is what is still to come -/
structure TI (l : List It) (s : TS) (r : List It) : Prop where
  eq : ordI (flatI s.out ++ r) = l
  ok : ∀ x ∈ s.out, x.ok
  okr : ∀ x ∈ r, x.ok
  ap : ∀ x ∈ r, apartP x
  apm : ∀ x ∈ s.mid, apartP x
  good : Good (s.out ++ r)
  mid : ∀ x ∈ s.mid, keyI x ≠ 0
  ms : s.mid.Pairwise (fun a b => keyI a ≤ keyI b)
  ord : ordP keyI (s.mid ++ r)
  st0 : ∀ S, s.st = some S → keyI S = 0
theorem ordP_head {key : It → Int} : ∀ {a : List It} {c : It} {r : List It}, ordP key (a ++ c :: r) → ∀ x, a.getLast? = some x → key c ≠ 0 → key x ≤ key c
  | [], _, _, _, x, hx, _ => by cases hx
  | [y], c, r, h, x, hx, h0 => by
    simp only [List.getLast?_singleton, Option.some.injEq] at hx
    subst hx
    exact h.1 h0
  | y :: z :: a, c, r, h, x, hx, h0 => by
    rw [List.getLast?_cons_cons] at hx
    exact ordP_head (a := z :: a) h.2 x hx h0
theorem ordP_drop {key : It → Int} : ∀ {a : List It} {r : List It}, ordP key (a ++ r) → ordP key r
  | [], _, h => h
  | _ :: a, _, h => ordP_drop (a := a) (ordP_cons h)
theorem sorted_last {mid : List It} (hs : mid.Pairwise (fun a b => keyI a ≤ keyI b)) {y : It} (hl : mid.getLast? = some y) : ∀ x ∈ mid, keyI x ≤ keyI y := fun x hx => by
  obtain ⟨ys, rfl⟩ := List.getLast?_eq_some_iff.1 hl
  rw [List.pairwise_append] at hs
  rw [List.mem_append, List.mem_singleton] at hx
  rcases hx with hx | hx
  · exact hs.2.2 x hx y (by simp)
  · rw [hx]; exact Int.le_refl _
theorem ordP_skip {key : It → Int} : ∀ {a : List It} {c : It} {r : List It}, ordP key (a ++ c :: r) → key c ≠ 0 → ordP key (a ++ r)
  | [], _, _, h, _ => ordP_cons h
  | [_], _, [], _, _ => trivial
  | [_], _, _ :: _, h, h0 => ⟨fun hz => Int.le_trans (h.1 h0) (h.2.1 hz), h.2.2⟩
  | _ :: z :: a, _, _, h, h0 => ⟨h.1, ordP_skip (a := z :: a) h.2 h0⟩
/-- one character more -/
theorem TI.step {l : List It} {s : TS} {c : It} {r : List It} (h : TI l s (c :: r)) : TI l (stepT s c) r := by
  have hcp : splitI c = [c] := h.ap c (by simp)
  have hcok := h.okr c (by simp)
  obtain ⟨pre, st, mid⟩ := s
  -- put behind the others
  have plain : ∀ s' : TS, s'.out = (TS.out ⟨pre, st, mid⟩) ++ [c] → (∀ x ∈ s'.mid, apartP x) → (∀ x ∈ s'.mid, keyI x ≠ 0) → s'.mid.Pairwise (fun a b => keyI a ≤ keyI b) → ordP keyI (s'.mid ++ r) → (∀ S, s'.st = some S → keyI S = 0) → TI l s' r := fun s' e h1 h2 h3 h4 h5 => {
    eq := by
      rw [e, flatI_app, show flatI [c] = [c] from by rw [flatI_cons, hcp]; rfl, List.append_assoc]
      exact h.eq
    ok := fun x hx => by
      rw [e, List.mem_append, List.mem_singleton] at hx
      rcases hx with hx | hx
      · exact h.ok x hx
      · rw [hx]; exact hcok
    okr := fun x hx => h.okr x (by simp [hx])
    ap := fun x hx => h.ap x (by simp [hx])
    apm := h1
    good := by rw [e, List.append_assoc]; exact h.good
    mid := h2
    ms := h3
    ord := h4
    st0 := h5 }
  have mark : ∀ st' : Option It, st' = st → keyI c ≠ 0 → TI l ⟨pre, st', mid ++ [c]⟩ r := fun st' e h0 => by
    subst e
    refine plain _ (by simp [TS.out]) (fun x hx => ?_) (fun x hx => ?_) ?_ (by have := h.ord; simpa using this) h.st0
    · rw [List.mem_append, List.mem_singleton] at hx
      rcases hx with hx | hx
      · exact h.apm x hx
      · rw [hx]; exact hcp
    · rw [List.mem_append, List.mem_singleton] at hx
      rcases hx with hx | hx
      · exact h.mid x hx
      · rw [hx]; exact h0
    · rw [List.pairwise_append]
      refine ⟨h.ms, by simp, fun a ha b hb => ?_⟩
      rw [List.mem_singleton] at hb
      rw [hb]
      cases hl : mid.getLast? with
      | none =>
        rw [List.getLast?_eq_none_iff] at hl
        subst hl
        cases ha
      | some y => exact Int.le_trans (sorted_last h.ms hl a ha) (ordP_head h.ord y hl h0)
  have start : ∀ p : List It, p = pre ++ (st.toList ++ mid) → keyI c = 0 → TI l ⟨p, some c, []⟩ r := fun p e h0 => by
    subst e
    exact plain _ (by simp [TS.out]) (by simp) (by simp) List.Pairwise.nil (ordP_drop (a := mid ++ [c]) (by have := h.ord; simpa using this)) (fun S hS => by injection hS with hS; rw [← hS]; exact h0)
  unfold stepT
  cases st with
  | none =>
    simp only
    by_cases h0 : keyI c = 0
    · rw [if_pos h0]; exact start _ (by simp) h0
    · rw [if_neg h0]; exact mark none rfl h0
  | some S =>
    simp only
    by_cases hc : c.bad = false ∧ S.bad = false ∧ nearT mid c = true ∧ pairN S.r c.r ≠ 0
    · rw [if_pos hc]
      obtain ⟨hb, hSb, hn, hp⟩ := hc
      obtain ⟨p1, p2, p3, p4, p5⟩ := pair_split hp
      generalize pairN S.r c.r = p at hp p1 p2 p4
      have hSm : S ∈ (TS.out ⟨pre, some S, mid⟩) := by simp [TS.out]
      have eS : splitI S = (splitN S.r).map chr := splitI_chr hSb
      have eP : splitI (chr p) = splitI S ++ [c] := by
        rw [splitI_chr (x := chr p) rfl]
        show (splitN p).map chr = _
        rw [p1, List.map_append, eS]
        congr 1
        show [chr c.r] = [c]
        rw [← (hcok.chr hb).1]
      have eM : flatI mid = mid := flatI_apart h.apm
      -- the marks between are less
      have hlow : keyI c = 0 → mid = [] := fun h0 => by
        cases hl : mid.getLast? with
        | none => exact List.getLast?_eq_none_iff.1 hl
        | some y =>
          unfold nearT at hn
          rw [hl] at hn
          simp only [Bool.and_eq_true, decide_eq_true_eq] at hn
          have := keyI_nonneg y
          omega
      have hmid : ∀ x ∈ mid, keyI x ≠ 0 ∧ keyI x ≠ keyI c := fun x hx => by
        refine ⟨h.mid x hx, ?_⟩
        cases hl : mid.getLast? with
        | none =>
          rw [List.getLast?_eq_none_iff] at hl
          subst hl
          cases hx
        | some y =>
          have h1 := sorted_last h.ms hl x hx
          unfold nearT at hn
          rw [hl] at hn
          simp only [Bool.and_eq_true, decide_eq_true_eq] at hn
          omega
      have hmb : ∀ x ∈ mid, x.bad = false := fun x hx => keyI_mark (h.mid x hx)
      refine ⟨?_, ?_, fun x hx => h.okr x (by simp [hx]), fun x hx => h.ap x (by simp [hx]), h.apm, ?_, h.mid, h.ms, ?_, ?_⟩
      · have e1 := h.eq
        rw [← e1]
        have q1 : flatI (TS.out ⟨pre, some (chr p), mid⟩) ++ r = (flatI pre ++ splitI S) ++ c :: (mid ++ r) := by
          simp only [TS.out, Option.toList_some, flatI_app, List.singleton_append, flatI_cons, eP, eM]
          simp
        have q2 : flatI (TS.out ⟨pre, some S, mid⟩) ++ c :: r = (flatI pre ++ splitI S) ++ (mid ++ c :: r) := by
          simp only [TS.out, Option.toList_some, flatI_app, List.singleton_append, flatI_cons, eM]
          simp
        rw [q1, q2]
        unfold ordI
        by_cases h0 : keyI c = 0
        · rw [hlow h0]; rfl
        · exact ordK_swap h0 hmid r _ []
      · intro x hx
        simp only [TS.out, Option.toList_some, List.mem_append, List.mem_cons, List.not_mem_nil, or_false] at hx
        rcases hx with hx | hx | hx
        · exact h.ok x (by simp [TS.out, hx])
        · rw [hx]; exact chr_ok p4
        · exact h.ok x (by simp [TS.out, hx])
      · have g := h.good
        have q1 : TS.out ⟨pre, some S, mid⟩ ++ c :: r = pre ++ ((S :: (mid ++ [c])) ++ r) := by simp [TS.out]
        have q2 : TS.out ⟨pre, some (chr p), mid⟩ ++ r = pre ++ ((chr p :: mid) ++ r) := by simp [TS.out]
        rw [q1, good_split (by
          intro x hx
          simp only [List.mem_cons, List.mem_append, List.not_mem_nil, or_false] at hx
          rcases hx with hx | hx | hx
          · rw [hx]; exact hSb
          · exact hmb x hx
          · rw [hx]; exact hb) (by simp)] at g
        rw [q2, good_split (by
          intro x hx
          rcases List.mem_cons.1 hx with hx | hx
          · rw [hx]; rfl
          · exact hmb x hx) (by simp)]
        exact g
      · show ordP keyI (mid ++ r)
        by_cases h0 : keyI c = 0
        · have := h.ord
          rw [hlow h0] at this ⊢
          exact ordP_cons this
        · exact ordP_skip h.ord h0
      · intro S' hS'
        injection hS' with hS'
        rw [← hS', keyI_chr]
        exact p2
    · rw [if_neg hc]
      by_cases h0 : keyI c = 0
      · rw [if_pos h0]; exact start _ (by simp) h0
      · rw [if_neg h0]; exact mark (some S) rfl h0
theorem TI.fold {l : List It} : ∀ {r : List It} {s : TS}, TI l s r → TI l (r.foldl stepT s) []
  | [], _, h => h
  | _ :: r, _, h => TI.fold (r := r) h.step
theorem TI.start {l : List It} (h : Parted l) : TI l ⟨[], none, []⟩ l := ⟨by show ordI ([] ++ l) = l; exact ordK_id h.ord, by simp [TS.out], h.ok, h.apart, by simp, h.good, by simp, List.Pairwise.nil, h.ord, by simp⟩
theorem together_ti {l : List It} (h : Parted l) : TI l (l.foldl stepT ⟨[], none, []⟩) [] := (TI.start h).fold
theorem raw_together {l : List It} (h : Parted l) : rawL (textI (togetherI l)) = togetherI l := by
  have t := together_ti h
  have g := t.good
  rw [List.append_nil] at g
  exact raw_text t.ok g
/-- taken apart again -/
theorem apart_together {l : List It} (h : Parted l) : apartI (textI (togetherI l)) = l := by
  have t := together_ti h
  unfold apartI
  rw [raw_together h]
  have := t.eq
  rw [List.append_nil] at this
  exact this
theorem apartS_together (s : List UInt8) : apartS (togetherS s) = apartS s := by
  unfold apartS togetherS
  rw [apart_together (apartI_parted s)]
theorem together_together (s : List UInt8) : togetherS (togetherS s) = togetherS s := by
  show textI (togetherI (apartI (textI (togetherI (apartI s))))) = _
  rw [apart_together (apartI_parted s)]; rfl
theorem together_apart (s : List UInt8) : togetherS (apartS s) = togetherS s := by
  show textI (togetherI (apartI (textI (apartI s)))) = _
  rw [(apartI_parted s).again]; rfl
theorem same_iff (a b : List UInt8) : apartS a = apartS b ↔ togetherS a = togetherS b := by
  constructor
  · intro h
    unfold togetherS
    rw [apartI_of_text h]
  · intro h
    rw [← apartS_together a, ← apartS_together b, h]
end Go.Proofs.YtlphmcodajookaaDoor
/- norm: plain: a text's parts, its bad bytes; what stands in order. -/
namespace Go.Proofs.YtlphmcodajookaaDoor
/-- bad bytes -/
def badsI (l : List It) : List UInt8 := (l.filter (·.bad)).map (·.b)
theorem badsI_app (a b : List It) : badsI (a ++ b) = badsI a ++ badsI b := by simp [badsI]
theorem badsI_nb {l : List It} (h : ∀ x ∈ l, x.bad = false) : badsI l = [] := by
  unfold badsI
  rw [List.filter_eq_nil_iff.2 (fun x hx => by simp [h x hx])]; rfl
theorem badsI_flat : ∀ l : List It, badsI (flatI l) = badsI l
  | [] => rfl
  | x :: l => by
    rw [flatI_cons, badsI_app, badsI_flat l, show x :: l = [x] ++ l from rfl, badsI_app]
    congr 1
    cases hb : x.bad with
    | true => rw [splitI_bad hb]
    | false => rw [badsI_nb (splitI_nb hb), badsI_nb (by simpa using hb)]
theorem badsI_ord : ∀ (l acc : List It), (∀ x ∈ acc, x.bad = false) → badsI (ordK keyI acc l) = badsI l
  | [], acc, h => by rw [ordK_nil, badsI_nb (isortK_nb h)]; rfl
  | x :: l, acc, h => by
    by_cases h0 : keyI x = 0
    · rw [ordK_zero acc l h0, badsI_app, badsI_nb (isortK_nb h), List.nil_append, show x :: ordK keyI [] l = [x] ++ ordK keyI [] l from rfl, badsI_app, badsI_ord l [] (by simp), ← badsI_app]; rfl
    · have hb := keyI_mark h0
      rw [ordK_mark acc l h0, badsI_ord l (acc ++ [x]) (fun y hy => by
        rw [List.mem_append, List.mem_singleton] at hy
        rcases hy with hy | hy
        · exact h y hy
        · rw [hy]; exact hb), show x :: l = [x] ++ l from rfl, badsI_app, badsI_nb (l := [x]) (by simpa using hb), List.nil_append]
theorem badsI_apart (s : List UInt8) : badsI (apartI s) = badsI (rawL s) := (badsI_ord _ [] (by simp)).trans (badsI_flat _)
theorem badsI_step (s : TS) (c : It) (h : ∀ x ∈ s.mid, x.bad = false) : badsI (stepT s c).out = badsI s.out ++ badsI [c] := by
  obtain ⟨pre, st, mid⟩ := s
  unfold stepT
  cases st with
  | none =>
    simp only
    split <;> (unfold TS.out; simp only [Option.toList_some, Option.toList_none, badsI_app]; simp [badsI])
  | some S =>
    simp only
    by_cases hc : c.bad = false ∧ S.bad = false ∧ nearT mid c = true ∧ pairN S.r c.r ≠ 0
    · rw [if_pos hc]
      have e1 : badsI [c] = [] := badsI_nb (by simpa using hc.1)
      have e2 : badsI [S] = [] := badsI_nb (by simpa using hc.2.1)
      have e3 : badsI [chr (pairN S.r c.r)] = [] := badsI_nb (by simp [chr])
      unfold TS.out
      simp only [Option.toList_some, badsI_app, e1, e2, e3, List.append_nil]
    · rw [if_neg hc]
      split
      · have : badsI (S :: mid) = badsI [S] ++ badsI mid := by rw [← badsI_app]; rfl
        unfold TS.out
        simp only [Option.toList_some, badsI_app, this, List.append_nil, List.append_assoc]
      · unfold TS.out
        simp only [Option.toList_some, badsI_app, List.append_assoc]
theorem badsI_fold {l : List It} : ∀ {r : List It} {s : TS}, TI l s r → badsI (r.foldl stepT s).out = badsI s.out ++ badsI r
  | [], s, _ => by simp [badsI]
  | c :: r, s, h => by
    rw [List.foldl_cons, badsI_fold h.step, badsI_step s c (fun x hx => keyI_mark (h.mid x hx)), List.append_assoc, ← badsI_app]; rfl
theorem badsI_together {l : List It} (h : Parted l) : badsI (togetherI l) = badsI l := by
  unfold togetherI
  rw [badsI_fold (TI.start h)]
  rfl
/-- a text's bad bytes -/
def badsS (s : List UInt8) : List UInt8 := badsI (rawL s)
theorem badsS_apart (s : List UInt8) : badsS (apartS s) = badsS s := by
  have h := apartI_parted s
  unfold badsS apartS
  rw [raw_text h.ok h.good, badsI_apart]
theorem badsS_together (s : List UInt8) : badsS (togetherS s) = badsS s := by
  have h := apartI_parted s
  unfold badsS togetherS
  rw [raw_together h, badsI_together h, badsI_apart]
/-- the number of an item: FFFD of a bad byte -/
def runeI (x : It) : Int := if x.bad = true then 65533 else x.r
def runesL (s : List UInt8) : List Int := (rawL s).map runeI
theorem atom_bad : splitN 65533 = [65533] ∧ markN 65533 = 0 := ⟨by decide +kernel, by decide +kernel⟩
theorem raw_apart (s : List UInt8) : rawL (apartS s) = apartI s := raw_text (apartI_parted s).ok (apartI_parted s).good
theorem runes_split {s : List UInt8} {r : Int} (h : r ∈ runesL (apartS s)) : splitN r = [r] := by
  unfold runesL at h
  rw [raw_apart] at h
  obtain ⟨x, hx, rfl⟩ := List.mem_map.1 h
  unfold runeI
  cases hb : x.bad with
  | true => rw [if_pos rfl]; exact atom_bad.1
  | false =>
    rw [if_neg (by simp)]
    have := (apartI_parted s).apart x hx
    unfold apartP at this
    rw [splitI_chr hb] at this
    have e := congrArg (List.map It.r) this
    rw [List.map_map] at e
    have : (It.r ∘ chr) = id := rfl
    rw [this, List.map_id] at e
    exact e
theorem mark_rune (x : It) : markN (runeI x) = keyI x := by
  unfold runeI keyI
  cases hb : x.bad with
  | true => rw [if_pos rfl, if_pos rfl]; exact atom_bad.2
  | false => rw [if_neg (by simp), if_neg (by simp)]
theorem ordP_at {key : It → Int} : ∀ {l : List It} (i : Nat) (h : i + 1 < l.length), ordP key l → key l[i + 1] ≠ 0 → key (l[i]'(by omega)) ≤ key l[i + 1]
  | _ :: _ :: _, 0, _, h, h0 => h.1 h0
  | _ :: y :: l, i + 1, hi, h, h0 => ordP_at (l := y :: l) i (by simpa using hi) h.2 h0
theorem runes_order {s : List UInt8} (i : Nat) (h : i + 1 < (runesL (apartS s)).length) (h0 : markN (runesL (apartS s))[i + 1] ≠ 0) : markN ((runesL (apartS s))[i]'(by omega)) ≤ markN (runesL (apartS s))[i + 1] := by
  have e : runesL (apartS s) = (apartI s).map runeI := by unfold runesL; rw [raw_apart]
  have hl : (runesL (apartS s)).length = (apartI s).length := by rw [e, List.length_map]
  have e1 : ∀ k (hk : k < (runesL (apartS s)).length), (runesL (apartS s))[k] = runeI ((apartI s)[k]'(by omega)) := fun k hk => by
    simp only [e, List.getElem_map]
  rw [e1, mark_rune] at h0 ⊢
  rw [e1, mark_rune]
  exact ordP_at i (by omega) (apartI_parted s).ord h0
/-! parted ahead of a starter -/
theorem pair_nat {q : Nat × Nat} {n : Nat} (h : q.2 = n) : (((q.1 : Int)).toNat, n) = q := by
  obtain ⟨a, b⟩ := q
  simp only at h
  rw [h, Int.toNat_natCast]
theorem dL_take {l : List UInt8} (hl : l ≠ []) {n : Nat} (hn : (dL l).2 ≤ n) : dL (l.take n) = dL l := by
  have hw := dL_width hl
  by_cases hb : badD (dL l) = true
  · -- a bad byte stays one when less is there
    obtain ⟨h1, b, t, rfl, hbt⟩ := dL_bad hl hb
    apply Classical.byContradiction
    intro hne
    have hne2 : (b :: t).take n ≠ [] := by
      rw [h1] at hn
      obtain ⟨m, rfl⟩ : ∃ m, n = m + 1 := ⟨n - 1, by simp only at hn; omega⟩
      simp
    have hnb : badD (dL ((b :: t).take n)) = false := by
      cases hx : badD (dL ((b :: t).take n)) with
      | false => rfl
      | true => exact absurd ((dL_bad hne2 hx).1.trans h1.symm) hne
    obtain ⟨k1, r, k2, k3⟩ := dL_good hne2 hnb
    have e : b :: t = enc (dL ((b :: t).take n)).1 ++ (r ++ (b :: t).drop n) := by
      rw [← List.append_assoc, ← k2, List.take_append_drop]
    have := dL_enc k1 (r ++ (b :: t).drop n)
    rw [← e] at this
    rw [this] at h1
    apply hne
    exact (pair_nat k3).symm.trans this.symm
  · obtain ⟨k1, r, k2, k3⟩ := dL_good hl (by simpa using hb)
    generalize hd : dL l = d at k1 k2 k3 hn hw
    have e : l.take n = enc d.1 ++ r.take (n - (enc d.1).length) := by
      rw [k2, List.take_append, List.take_of_length_le (by omega)]
    rw [e, dL_enc k1]
    exact pair_nat k3
theorem itemD_take {l : List UInt8} (hl : l ≠ []) {n : Nat} (hn : (dL l).2 ≤ n) : itemD (l.take n) = itemD l := by
  have hw := dL_width hl
  unfold itemD
  rw [dL_take hl hn]
  have : (l.take n).headD 0 = l.headD 0 := by
    obtain ⟨b, t, rfl⟩ := List.exists_cons_of_ne_nil hl
    obtain ⟨m, rfl⟩ : ∃ m, n = m + 1 := ⟨n - 1, by omega⟩
    rfl
  rw [this]
/-- a text parted between its items -/
theorem raw_part {b : List It} : ∀ (a : List It) (s : List UInt8), rawL s = a ++ b → rawL (s.take (textI a).length) = a ∧ rawL (s.drop (textI a).length) = b
  | [], s, h => by
    rw [show (textI []).length = 0 from rfl, List.take_zero, List.drop_zero]
    exact ⟨rfl, h⟩
  | x :: a, s, h => by
    have hs : s ≠ [] := fun e => by
      subst e
      rw [rawL_nil] at h
      cases h
    have hw := dL_width hs
    rw [rawL_cons hs, List.cons_append] at h
    injection h with h1 h2
    obtain ⟨i1, i2⟩ := raw_part a _ h2
    have hx : x.bytes.length = (dL s).2 := by
      rw [← h1, (itemD_ok hs).2.1, List.length_take]; omega
    have e : (textI (x :: a)).length = (dL s).2 + (textI a).length := by
      show (x.bytes ++ textI a).length = _
      rw [List.length_append, hx]
    rw [e]
    refine ⟨?_, by rw [← List.drop_drop]; exact i2⟩
    have hne : s.take ((dL s).2 + (textI a).length) ≠ [] := by
      intro h3
      have := congrArg List.length h3
      rw [List.length_take, List.length_nil] at this
      omega
    rw [rawL_cons hne, itemD_take hs (by omega), dL_take hs (by omega), h1, List.drop_take, show (dL s).2 + (textI a).length - (dL s).2 = (textI a).length by omega, i1]
theorem apart_part {s : List UInt8} {a b : List It} {x : It} (h : rawL s = a ++ x :: b) (h0 : keyI x = 0) : apartS s = apartS (s.take (textI a).length) ++ apartS (s.drop (textI a).length) := by
  obtain ⟨e1, e2⟩ := raw_part a s h
  have e : ∃ y t, flatI (x :: b) = y :: t ∧ keyI y = 0 := by
    rw [flatI_cons]
    cases hb : x.bad with
    | true =>
      rw [splitI_bad hb]
      exact ⟨x, flatI b, rfl, h0⟩
    | false =>
      rw [splitI_chr hb]
      have hm := (split_mark x.r).2
      cases hs : splitN x.r with
      | nil => exact absurd hs (split_ne x.r)
      | cons r t =>
        rw [hs] at hm
        refine ⟨chr r, t.map chr ++ flatI b, rfl, ?_⟩
        rw [keyI_chr]
        simp only [List.head?_cons, Option.map_some, Option.some.injEq] at hm
        rw [hm]
        have := h0
        unfold keyI at this
        rw [if_neg (by simp [hb])] at this
        exact this
  obtain ⟨y, t, he, hy⟩ := e
  unfold apartS apartI ordI
  rw [e1, e2, h, flatI_app, he, ordK_part hy, textI_app]
end Go.Proofs.YtlphmcodajookaaDoor
/- slices' stable sort: plain: exchange of blocks. -/
namespace Go.Proofs.YtlphmcodajookaaDoor
section
variable {α : Type}
def swap2 (M : List α) (i j : Nat) : List α := match M[i]?, M[j]? with
  | some x, some y => (M.set i y).set j x
  | _, _ => M
theorem swap2_eq {M : List α} {i j : Nat} {x y : α} (hi : M[i]? = some x) (hj : M[j]? = some y) : swap2 M i j = (M.set i y).set j x := by
  unfold swap2
  rw [hi, hj]
theorem swap2_length (M : List α) (i j : Nat) : (swap2 M i j).length = M.length := by
  unfold swap2
  split <;> simp
theorem swap2_get {M : List α} {i j : Nat} (hij : i < j) (hj : j < M.length) (t : Nat) : (swap2 M i j)[t]? = if t = i then M[j]? else if t = j then M[i]? else M[t]? := by
  rw [swap2_eq (List.getElem?_eq_getElem (by omega)) (List.getElem?_eq_getElem hj)]
  rw [List.getElem?_set, List.getElem?_set]
  by_cases h1 : t = j
  · subst h1
    rw [if_pos rfl, if_pos (by simpa using hj), if_neg (by omega), if_pos rfl, List.getElem?_eq_getElem]
  · rw [if_neg (fun e => h1 e.symm), if_neg h1]
    by_cases h2 : t = i
    · subst h2
      rw [if_pos rfl, if_pos (by omega), if_pos rfl, List.getElem?_eq_getElem]
    · rw [if_neg (fun e => h2 e.symm), if_neg h2]
/-- n exchanges of one place each -/
def swN (a b : Nat) : Nat → List α → List α
  | 0, L => L
  | k + 1, L => swap2 (swN a b k L) (a + k) (b + k)
theorem swN_length (a b : Nat) : ∀ (k : Nat) (L : List α), (swN a b k L).length = L.length
  | 0, _ => rfl
  | k + 1, L => by
    show (swap2 _ _ _).length = _
    rw [swap2_length, swN_length a b k L]
theorem swN_get {a b : Nat} {L : List α} : ∀ (k : Nat), a + k ≤ b → b + k ≤ L.length → ∀ t, (swN a b k L)[t]? = if a ≤ t ∧ t < a + k then L[b + (t - a)]? else if b ≤ t ∧ t < b + k then L[a + (t - b)]? else L[t]?
  | 0, _, _, t => by
    show L[t]? = _
    rw [if_neg (by omega), if_neg (by omega)]
  | k + 1, h1, h2, t => by
    have ih := swN_get (a := a) (b := b) (L := L) k (by omega) (by omega)
    show (swap2 (swN a b k L) (a + k) (b + k))[t]? = _
    rw [swap2_get (by omega) (by rw [swN_length]; omega)]
    by_cases e1 : t = a + k
    · subst e1
      rw [if_pos rfl, ih, if_neg (by omega), if_neg (by omega), if_pos (by omega)]
      congr 1; omega
    · rw [if_neg e1]
      by_cases e2 : t = b + k
      · subst e2
        rw [if_pos rfl, ih, if_neg (by omega), if_neg (by omega), if_neg (by omega), if_pos (by omega)]
        congr 1; omega
      · rw [if_neg e2, ih]
        by_cases e3 : a ≤ t ∧ t < a + k
        · rw [if_pos e3, if_pos (by omega)]
        · by_cases e4 : b ≤ t ∧ t < b + k
          · rw [if_neg e3, if_pos e4, if_neg (by omega), if_pos (by omega)]
          · rw [if_neg e3, if_neg e4, if_neg (by omega), if_neg (by omega)]
/-- two blocks of one length are exchanged -/
theorem app_get (A B : List α) (t : Nat) : (A ++ B)[t]? = if t < A.length then A[t]? else B[t - A.length]? := by
  split
  · rename_i h; exact List.getElem?_append_left h
  · rename_i h; exact List.getElem?_append_right (by omega)
theorem swN_blocks (P X M Y Q : List α) (h : X.length = Y.length) : swN P.length (P.length + X.length + M.length) X.length (P ++ (X ++ (M ++ (Y ++ Q)))) = P ++ (Y ++ (M ++ (X ++ Q))) := by
  apply List.ext_getElem?
  intro t
  rw [swN_get X.length (by omega) (by simp only [List.length_append]; omega)]
  simp only [app_get]
  repeat' split
  all_goals first | (exfalso; omega) | (congr 1; omega) | rfl
end
end Go.Proofs.YtlphmcodajookaaDoor
/- slices' stable sort: plain: merging in place. -/
namespace Go.Proofs.YtlphmcodajookaaDoor
section
variable {α : Type} {key : α → Int}
def Ord (key : α → Int) (l : List α) : Prop := l.Pairwise fun a b => key a ≤ key b
theorem Stab.of_ord {l : List α} (h : Ord key l) : Stab key l l := ⟨h, fun _ => rfl⟩
theorem stab_one_left {x : α} {B1 B2 : List α} (hB : Ord key (B1 ++ B2)) (h1 : ∀ y ∈ B1, key y < key x) (h2 : ∀ y ∈ B2, key x ≤ key y) : Stab key (x :: (B1 ++ B2)) (B1 ++ x :: B2) := by
  unfold Ord at hB
  rw [List.pairwise_append] at hB
  refine ⟨?_, fun k => ?_⟩
  · rw [List.pairwise_append, List.pairwise_cons]
    refine ⟨hB.1, ⟨h2, hB.2.1⟩, fun a ha b hb => ?_⟩
    rcases List.mem_cons.1 hb with e | e
    · rw [e]; exact Int.le_of_lt (h1 a ha)
    · exact hB.2.2 a ha b e
  · rw [List.filter_append, List.filter_cons, List.filter_cons, List.filter_append]
    by_cases hx : key x = k
    · have e : B1.filter (fun z => decide (key z = k)) = [] := by
        rw [List.filter_eq_nil_iff]
        intro y hy
        have := h1 y hy
        simp; omega
      rw [e]; simp
    · simp [hx]
theorem stab_one_right {y : α} {A1 A2 : List α} (hA : Ord key (A1 ++ A2)) (h1 : ∀ x ∈ A1, key x ≤ key y) (h2 : ∀ x ∈ A2, key y < key x) : Stab key ((A1 ++ A2) ++ [y]) (A1 ++ y :: A2) := by
  unfold Ord at hA
  rw [List.pairwise_append] at hA
  refine ⟨?_, fun k => ?_⟩
  · rw [List.pairwise_append, List.pairwise_cons]
    refine ⟨hA.1, ⟨fun a ha => Int.le_of_lt (h2 a ha), hA.2.1⟩, fun a ha b hb => ?_⟩
    rcases List.mem_cons.1 hb with e | e
    · rw [e]; exact h1 a ha
    · exact hA.2.2 a ha b e
  · rw [List.filter_append, List.filter_append, List.filter_append, List.filter_cons]
    by_cases hx : key y = k
    · have e : A2.filter (fun z => decide (key z = k)) = [] := by
        rw [List.filter_eq_nil_iff]
        intro x hx'
        have := h2 x hx'
        simp; omega
      rw [e]; simp [hx]
    · simp [hx]
theorem stab_join {A1 A2 B1 B2 C1 C2 : List α} (hA : Ord key (A1 ++ A2)) (hB : Ord key (B1 ++ B2)) (h1 : ∀ x ∈ A2, ∀ y ∈ B1, key y < key x) (h2 : ∀ x ∈ A1, ∀ y ∈ B2, key x ≤ key y) (k1 : Stab key (A1 ++ B1) C1) (k2 : Stab key (A2 ++ B2) C2) : Stab key ((A1 ++ A2) ++ (B1 ++ B2)) (C1 ++ C2) := by
  unfold Ord at hA hB
  rw [List.pairwise_append] at hA hB
  refine ⟨?_, fun k => ?_⟩
  · rw [List.pairwise_append]
    refine ⟨k1.1, k2.1, fun a ha b hb => ?_⟩
    rw [k1.mem, List.mem_append] at ha
    rw [k2.mem, List.mem_append] at hb
    rcases ha with ha | ha <;> rcases hb with hb | hb
    · exact hA.2.2 a ha b hb
    · exact h2 a ha b hb
    · exact Int.le_of_lt (h1 b hb a ha)
    · exact hB.2.2 a ha b hb
  · rw [List.filter_append, k1.2, k2.2, List.filter_append, List.filter_append, List.filter_append, List.filter_append, List.filter_append]
    by_cases e1 : A2.filter (fun z => decide (key z = k)) = []
    · rw [e1]; simp
    · have e2 : B1.filter (fun z => decide (key z = k)) = [] := by
        rw [List.filter_eq_nil_iff]
        intro y hy hk
        apply e1
        rw [List.filter_eq_nil_iff]
        intro x hx hk2
        have := h1 x hx y hy
        simp only [decide_eq_true_eq] at hk hk2
        omega
      rw [e2]; simp
theorem swap2_next (P R : List α) (x y : α) : swap2 (P ++ x :: y :: R) P.length (P.length + 1) = P ++ y :: x :: R := by
  rw [swap2_eq (x := x) (y := y) (by simp) (by rw [List.getElem?_append_right (by omega)]; simp)]
  rw [List.set_append_right _ _ (by omega), Nat.sub_self, List.set_cons_zero, List.set_append_right _ _ (by omega), show P.length + 1 - P.length = 1 by omega]
  rfl
theorem swap2_comm (M : List α) (i j : Nat) (hij : i ≠ j) : swap2 M i j = swap2 M j i := by
  unfold swap2
  cases hi : M[i]? with
  | none => cases hj : M[j]? <;> rfl
  | some x =>
    cases hj : M[j]? with
    | none => rfl
    | some y =>
      simp only
      rw [List.set_comm _ _ hij]
theorem swap2_prev (P R : List α) (x y : α) : swap2 (P ++ x :: y :: R) (P.length + 1) P.length = P ++ y :: x :: R := by
  rw [swap2_comm _ _ _ (by omega), swap2_next]
/-- sorted lists: what holds at the border holds beyond -/
theorem ord_last {B : List α} (h : Ord key B) {i : Nat} {y : α} (hy : B[i]? = some y) : ∀ z ∈ B.take (i + 1), key z ≤ key y := fun z hz => by
  obtain ⟨k, hk⟩ := List.mem_iff_getElem?.1 hz
  have hki : k < i + 1 := by
    have := (List.getElem?_eq_some_iff.1 hk).1
    rw [List.length_take] at this
    omega
  rw [List.getElem?_take_of_lt hki] at hk
  rcases Nat.lt_or_ge k i with h1 | h1
  · obtain ⟨l1, e1⟩ := List.getElem?_eq_some_iff.1 hk
    obtain ⟨l2, e2⟩ := List.getElem?_eq_some_iff.1 hy
    rw [← e1, ← e2]
    exact List.pairwise_iff_getElem.1 h k i l1 l2 h1
  · obtain rfl : k = i := by omega
    rw [hk] at hy
    injection hy with hy
    rw [hy]; exact Int.le_refl _
theorem ord_first {B : List α} (h : Ord key B) {i : Nat} {y : α} (hy : B[i]? = some y) : ∀ z ∈ B.drop i, key y ≤ key z := fun z hz => by
  obtain ⟨k, hk⟩ := List.mem_iff_getElem?.1 hz
  rw [List.getElem?_drop] at hk
  rcases Nat.eq_zero_or_pos k with h1 | h1
  · subst h1
    rw [Nat.add_zero, hy] at hk
    injection hk with hk
    rw [hk]; exact Int.le_refl _
  · obtain ⟨l1, e1⟩ := List.getElem?_eq_some_iff.1 hk
    obtain ⟨l2, e2⟩ := List.getElem?_eq_some_iff.1 hy
    rw [← e1, ← e2]
    exact List.pairwise_iff_getElem.1 h i (i + k) l2 l1 (by omega)
theorem Ord.take {l : List α} (h : Ord key l) (n : Nat) : Ord key (l.take n) := List.Pairwise.sublist (List.take_sublist _ _) h
theorem Ord.drop {l : List α} (h : Ord key l) (n : Nat) : Ord key (l.drop n) := List.Pairwise.sublist (List.drop_sublist _ _) h
end
end Go.Proofs.YtlphmcodajookaaDoor
/- slices' stable sort: plain: rows of blocks in order. -/
namespace Go.Proofs.YtlphmcodajookaaDoor
section
variable {α : Type} {key : α → Int}
/-- the things of each key stand as they stood -/
def FEq (key : α → Int) (l m : List α) : Prop := ∀ k, m.filter (fun x => decide (key x = k)) = l.filter (fun x => decide (key x = k))
theorem FEq.refl (l : List α) : FEq key l l := fun _ => rfl
theorem FEq.part {l P A Q C : List α} (h : FEq key l (P ++ (A ++ Q))) (k : Stab key A C) : FEq key l (P ++ (C ++ Q)) := fun q => by
  rw [← h q, List.filter_append, List.filter_append, List.filter_append, List.filter_append, k.2]
theorem FEq.length {l m : List α} (h : FEq key l m) : m.length = l.length := (Stab.length h).length_eq
/-- each block of s is in order -/
def COrd (key : α → Int) (s : Nat) (l : List α) : Prop := ∀ i, Ord key ((l.drop (i * s)).take s)
theorem COrd.nil (s : Nat) : COrd key s [] := fun i => by simp [Ord]
theorem COrd.short {s : Nat} {l : List α} (h : COrd key s l) (hl : l.length ≤ s) : Ord key l := by
  have := h 0
  rw [Nat.zero_mul, List.drop_zero, List.take_of_length_le hl] at this
  exact this
theorem COrd.head {s : Nat} {A R : List α} (h : COrd key s (A ++ R)) (hA : A.length = s) : Ord key A ∧ COrd key s R := by
  constructor
  · have := h 0
    rw [Nat.zero_mul, List.drop_zero, ← hA, List.take_left] at this
    exact this
  · intro i
    have := h (i + 1)
    rw [Nat.add_mul, Nat.one_mul, List.drop_append, List.drop_of_length_le (by omega), List.nil_append, show i * s + s - A.length = i * s by omega] at this
    exact this
theorem COrd.snoc {s t : Nat} {P A : List α} (h : COrd key s P) (hP : P.length = t * s) (hA : A.length ≤ s) (hO : Ord key A) : COrd key s (P ++ A) := fun i => by
  rcases Nat.lt_trichotomy i t with h1 | h1 | h1
  · have h2 : (i + 1) * s ≤ t * s := Nat.mul_le_mul_right _ h1
    rw [Nat.add_mul, Nat.one_mul] at h2
    rw [List.drop_append, List.take_append_of_le_length (by rw [List.length_drop]; omega)]
    exact h i
  · subst h1
    rw [← hP, List.drop_left, List.take_of_length_le hA]
    exact hO
  · have h2 : (t + 1) * s ≤ i * s := Nat.mul_le_mul_right _ h1
    rw [Nat.add_mul, Nat.one_mul] at h2
    rw [List.drop_of_length_le (by rw [List.length_append]; omega)]
    simp [Ord]
/-- a list in two, the first of a length -/
theorem cut_at (R : List α) (s : Nat) (h : s ≤ R.length) : ∃ A R', R = A ++ R' ∧ A.length = s := ⟨R.take s, R.drop s, (List.take_append_drop _ _).symm, by rw [List.length_take]; omega⟩
end
end Go.Proofs.YtlphmcodajookaaDoor
