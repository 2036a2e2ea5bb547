/- scan.Bad, and the law's 'bytes': the walks. -/
import Derived.Test.YtlphmcodajookaaDoorNAuse
import Derived.Scope
import Derived.Laws.BytesArg
import Derived.Shelf.SlSortCmp.QuietGrown
import Derived.Laws.IdiomStrings
namespace Go.Proofs.YtlphmcodajookaaDoor
open Go.RowKit
/-- the places of the bad bytes -/
def badP (s : ByteArray) (l : List Nat) : List Int := (l.filter fun p => badD (dL (restS s p))).map fun p : Nat => (p : Int)
theorem badP_snoc (s : ByteArray) (l : List Nat) (p : Nat) : badP s (l ++ [p]) = badP s l ++ if badD (dL (restS s p)) = true then [(p : Int)] else [] := by
  unfold badP
  rw [List.filter_append, List.map_append]
  congr 1
  by_cases h : badD (dL (restS s p)) = true <;> simp [h]
theorem badP_len (s : ByteArray) (l : List Nat) : (badP s l).length ≤ l.length := by
  unfold badP
  rw [List.length_map]
  exact List.length_filter_le _ _
theorem info3 : (Tryd.prog.info? 3).map (fun i => (i.zero, i.size, i.bytes)) = some (some (.int .i64 0), 1, 8) := by kernel_rfl
theorem ints_oneC (k : IntKind) (l : List Int) : ∀ u ∈ ints k l, u.oneCell' = true := ints_one k l
theorem rest_next (s : ByteArray) (p : Nat) (w : World) (hT : Lib.Utf8Tabs 0 1 w) :
    Calls Tryd.prog 81 #[.string (s.extract p s.size)] w fun e w' => e = .returned (.tuple #[.int .i32 (nextD (restS s p)).1, .int .i64 (nextD (restS s p)).2]) ∧ Stay [] w w' := by
  have h := Tryd.utf8_DecodeRuneInString (s.extract p s.size) w hT
  rw [decodeGo_next, extract_rest] at h
  exact h.mono fun e w' ⟨h1, h2⟩ => ⟨h1, Stay.below h2⟩
set_option maxRecDepth 20000 in
set_option maxHeartbeats 16000000 in
theorem bad_any (s : ByteArray) (w : World) (hs : s.size ≤ 1099511627776) (hT : Lib.Utf8Tabs 0 1 w) :
    Calls Tryd.prog 83 #[.string s] w fun e w' => ∃ A c, e = .returned (.slice A (badP s (places s 0)).length c) ∧ Win w' w.heap.size 3 1 A (badP s (places s 0)).length c (ints .i64 (badP s (places s 0))) ∧ Stay [] w w' := by
  have HN := Lib.hid (fun p W' (h : Stay [] w W') => rest_next s p W' (Utf8Tabs_below hT (h.toBelow (Nat.le_refl _) (by simp))))
  have HI0 := Lib.hid (IterS.new w s)
  have HS0 := Lib.hid (iter_stay w s 0)
  obtain ⟨ib, hib⟩ : ∃ ib, ib = w.heap.size := ⟨_, rfl⟩
  have HB := Lib.hid hib
  have HSz := Lib.hid hs
  obtain ⟨i3, hi, hz, hsz, hy⟩ := info_parts info3
  have HI := Lib.hid (And.intro hi (And.intro hz (And.intro hsz hy)))
  clear hT hs hib hi hz hsz hy
  go_enter Tryd.func83, Tryd.ntmps83
  go_wp2_with fail
  refine wp_scope_straight ?_
  go_wp2_with fail
  refine wp_label ?_
  go_wp2_with fail
  go_loopw [3] (fun v3 wr => ∃ (p : Nat) (pre : List Nat) (A : Option Addr) (c : Nat), v3 = .slice A (badP s pre).length c ∧ IterS wr ib s p ∧ pre ++ places s p = places s 0 ∧ pre.length ≤ p ∧ Win wr ib 3 1 A (badP s pre).length c (ints .i64 (badP s pre)) ∧ Stay [] w wr)
    (fun _ wr => leftS wr ib)
  case atStart =>
    rw [HB.out]
    exact ⟨0, [], none, 0, rfl, HI0.out, rfl, Nat.le_refl _, Win.nil _ _ _ _, HS0.out⟩
  case round =>
    obtain ⟨p, pre, A, c, rfl, hI, hp, hpl, hw, hst⟩ := hrel
    rw [← HB.out]
    by_cases hr : restS s p = []
    · have hn := fun ty => snext_none (P := Tryd.prog) hI ty hr
      rw [places_nil hr, List.append_nil] at hp
      have HP := Lib.hid (And.intro hp (And.intro hw hst))
      clear hI hp hpl hw hst HI0 HS0
      go_wp2_with fail
      simp only [Exit.noGoto]
      go_ret
      rw [← HP.out.1, ← HB.out]
      exact ⟨A, c, rfl, HP.out.2.1, HP.out.2.2⟩
    · have hlt := restS_ne.1 hr
      have hlt' : (p : Int) < s.size := by omega
      have hle' : (p : Int) ≤ s.size := by omega
      have hp0 : (0 : Int) ≤ p := by omega
      obtain ⟨w2, hn, hI2, hS2⟩ := snext_some (P := Tryd.prog) hI 0 hr
      have hst2 : Stay [] w w2 := hst.trans' hS2 (fun g hg => .inr (by simp at hg; rw [hg]; exact Nat.le_of_eq HB.out.symm))
      have hw2 := hw.stay hS2 (fun g hg => by
        obtain ⟨_, _, M, hM⟩ := hw.ab g hg
        simp
        exact hI.noBlk hM)
      have HC := Lib.hid (HN.out p w2 hst2)
      have hnd : nextD (restS s p) = dL (restS s p) := if_neg hr
      rw [hnd] at HC
      have HPl := Lib.hid (show (pre ++ [p]) ++ places s (p + (dL (restS s p)).2) = places s 0 from by rw [← hp, places_cons hr]; simp)
      have HLn := Lib.hid (show (pre ++ [p]).length ≤ p + (dL (restS s p)).2 from by have := (rest_width hr).1; rw [List.length_append, List.length_singleton]; omega)
      have HLb := Lib.hid (show (badP s pre).length ≤ 1099511627776 from by have := badP_len s pre; have := HSz.out; omega)
      have HM := Lib.hid (show leftS wr ib = (restS s p).length from leftS_eq hI)
      have HW := Lib.hid (And.intro hr (rest_width hr))
      have HBp := Lib.hid (badP_snoc s pre p)
      have hbd : badD (dL (restS s p)) = (decide ((dL (restS s p)).1 = 65533) && decide ((dL (restS s p)).2 = 1)) := rfl
      have HI2 := Lib.hid hI2
      have HW2 := Lib.hid hw2
      have HS2 := Lib.hid hst2
      obtain ⟨d, hd⟩ : ∃ d, d = (dL (restS s p)).2 := ⟨_, rfl⟩
      obtain ⟨r, hrr⟩ : ∃ r, r = (dL (restS s p)).1 := ⟨_, rfl⟩
      obtain ⟨bd, hbd2⟩ : ∃ b, b = badD (dL (restS s p)) := ⟨_, rfl⟩
      rw [← hd] at HPl HLn HI2 HW HC hbd
      rw [← hrr] at hn HC hbd
      rw [← hbd2] at hbd HBp
      clear hd hrr hbd2 hp hpl hI hw hst hI2 hw2 hst2 hS2 HI0 HS0 hnd hr hlt
      by_cases h1 : r = 65533
      · by_cases h2 : d = 1
        · subst h1
          subst h2
          simp only [decide_true, Bool.and_true] at hbd
          subst hbd
          rw [if_pos rfl] at HBp
          have hlb := HLb.out
          go_wp2_with fail
          refine HC.out.mono ?_
          rintro e w3 ⟨rfl, hs3⟩
          have HW3 := Lib.hid (HW2.out.stay0 hs3)
          have HS3 := Lib.hid (HS2.out.trans hs3)
          have HI3 := Lib.hid (HI2.out.stay hs3 (by simp))
          clear hs3
          have HWa := Lib.hid (HW3.out.stay0 (Stay.alloc w3 (.cells #[.int .i64 (p : Int)] 3)))
          have HCa := Lib.hid (cells_new w3 [.int .i64 (p : Int)] 3 w3.heap.size rfl)
          have HSa := Lib.hid (HS3.out.alloc' (o := .cells #[.int .i64 (p : Int)] 3))
          have HIa := Lib.hid (HI3.out.stay (F := []) (Stay.alloc w3 (.cells #[.int .i64 (p : Int)] 3)) (by simp))
          go_wp2_with (refine wpList_append_win rfl (.tmp 26) (.tmp 28) 76 rfl ib 3 1 i3 _ 8 Tryd.underlying76 HI.out.1 HI.out.2.1 HI.out.2.2.1 HI.out.2.2.2 rfl (by omega) A (badP s pre).length c (ints .i64 (badP s pre)) rfl HWa.out ⟨w3.heap.size, 0, none⟩ 1 1 rfl [.int .i64 (p : Int)] rfl (by omega) HCa.out (by simp [Value.oneCell']) (by unfold maxLen; omega) (by omega) (by rw [HB.out]; exact HSa.out.size) ?_; intro A' c' w8 hw8 hs8 _; have H8 := Lib.hid (show Win w8 ib 3 1 A' (badP s (pre ++ [p])).length c' (ints .i64 (badP s (pre ++ [p]))) from by rw [HBp.out, List.length_append, ints_app]; exact hw8); have HS8 := Lib.hid (HSa.out.trans' hs8 (fun g hg => .inr (by rw [← HB.out]; exact (HWa.out.ab g hg).1))); have HI8 := Lib.hid (HIa.out.stay hs8 (fun hg => by obtain ⟨_, _, M, hM⟩ := HWa.out.ab _ hg; exact HIa.out.noBlk hM rfl)); clear hw8 hs8)
          go_roundw
          case rel => exact ⟨_, pre ++ [p], A', c', by rw [HBp.out]; simp, HI8.out, HPl.out, HLn.out, H8.out, HS8.out⟩
          case measure =>
            rw [leftS_eq HI8.out, HM.out, restS_len, restS_len]
            have := HW.out.2
            omega
        · have hd1 : ¬ (d : Int) = 1 := by omega
          subst h1
          rw [decide_eq_false h2, Bool.and_false] at hbd
          subst hbd
          rw [if_neg (by simp), List.append_nil] at HBp
          go_wp2_with (go_at_call 81; refine HC.out.mono ?_; rintro e w3 ⟨rfl, hs3⟩; have HW3 := Lib.hid (HW2.out.stay0 hs3); have HS3 := Lib.hid (HS2.out.trans hs3); have HI3 := Lib.hid (HI2.out.stay hs3 (by simp)); clear hs3)
          go_roundw
          case rel => exact ⟨_, pre ++ [p], A, c, by rw [HBp.out], HI3.out, HPl.out, HLn.out, by rw [HBp.out]; exact HW3.out, HS3.out⟩
          case measure =>
            rw [leftS_eq HI3.out, HM.out, restS_len, restS_len]
            have := HW.out.2
            omega
      · have hr1 : ¬ (r : Int) = 65533 := by omega
        rw [decide_eq_false h1, Bool.false_and] at hbd
        subst hbd
        rw [if_neg (by simp), List.append_nil] at HBp
        go_wp2_with (go_at_call 81; refine HC.out.mono ?_; rintro e w3 ⟨rfl, hs3⟩; have HW3 := Lib.hid (HW2.out.stay0 hs3); have HS3 := Lib.hid (HS2.out.trans hs3); have HI3 := Lib.hid (HI2.out.stay hs3 (by simp)); clear hs3)
        go_roundw
        case rel => exact ⟨_, pre ++ [p], A, c, by rw [HBp.out], HI3.out, HPl.out, HLn.out, by rw [HBp.out]; exact HW3.out, HS3.out⟩
        case measure =>
          rw [leftS_eq HI3.out, HM.out, restS_len, restS_len]
          have := HW.out.2
          omega
theorem Win.sl {w : World} {B n c : Nat} {A : Option Addr} {xs : List Value} {e : TypeId} (h : Win w B e 1 A n c xs) : Sl w w.heap.size A xs := fun j u hj => by
  rcases h.2.2.2 with ⟨rfl, h0⟩ | ⟨g, o, L, rfl, h1, h2, _⟩
  · have := h.1
    have := h.2.1
    have := (List.getElem?_eq_some_iff.1 hj).1
    omega
  · exact ⟨_, rfl, h2.lt, by rw [add_lit']; exact h.cell j u hj⟩
theorem Sl.stay_ {w w' : World} {A : Option Addr} {xs : List Value} (h : Sl w w.heap.size A xs) (hs : Stay [] w w') : Sl w' w'.heap.size A xs := (h.below (hs.toBelow (Nat.le_refl _) (by simp))).more hs.size
theorem sl_get {w : World} {B : Nat} {ad : Addr} {k : IntKind} {zs : List Int} (h : Sl w B (some ad) (ints k zs)) {i : Nat} {z : Int} (hi : zs[i]? = some z) : w.cell? (ad.add i) = some (.int k z) := by
  obtain ⟨ad', h1, _, h2⟩ := h i (.int k z) (by simp [ints, hi])
  injection h1 with h1
  rw [h1]; exact h2
/-! a region that draws, one operation at a time, what is to come behind a structure -/
structure Shy (p : Prop) : Prop where
  out : p
theorem quietH_step {P : Program} {ops : Array Oper} {C : World → Prop} {Q : Act → Prop} {a : Act} {o : Oper} {rest : List Oper}
    (h : ∀ K : Act → Prop, Shy (∀ a, Shy (wpQuiet P ops C Q rest a) → K a) → if Region.wanted o (yielded ops a.tmps) then o.quiet P a C K else K (a.put o.dst undef)) : Shy (wpQuiet P ops C Q (o :: rest) a) :=
  ⟨h _ ⟨fun _ h => h.out⟩⟩
theorem quietH_nil {P : Program} {ops : Array Oper} {C : World → Prop} {Q : Act → Prop} {a : Act} (h : Q a) : Shy (wpQuiet P ops C Q [] a) := ⟨h⟩
def hdS (s : ByteArray) (p : Nat) : UInt8 := (restS s p).headD 0
theorem bads_list (s : ByteArray) : ∀ l : List Nat, badsI (l.map (itemP s)) = (l.filter fun p => badD (dL (restS s p))).map (hdS s)
  | [] => rfl
  | p :: l => by
    have ih := bads_list s l
    have e : badsI ((p :: l).map (itemP s)) = badsI [itemP s p] ++ badsI (l.map (itemP s)) := by rw [List.map_cons, ← badsI_app]; rfl
    rw [e, ih]
    by_cases h : badD (dL (restS s p)) = true
    · rw [List.filter_cons_of_pos (by exact h), List.map_cons]
      have : itemP s p = badI ((restS s p).headD 0) := by unfold itemP itemD; rw [if_pos h]
      rw [this]; rfl
    · rw [List.filter_cons_of_neg (by exact h)]
      have : itemP s p = chr ((dL (restS s p)).1 : Nat) := by unfold itemP itemD; rw [if_neg h]
      rw [this]; rfl
theorem badsS_places (s : ByteArray) : badsS s.data.toList = ((places s 0).filter fun p => badD (dL (restS s p))).map (hdS s) := by
  unfold badsS
  rw [← places_zero, bads_list]
theorem strOf_bytes (bs : List UInt8) : strOfNums (bs.map fun b => (b.toNat : Int)) = str bs := by
  unfold strOfNums str
  congr 1
  rw [List.map_map]
  have : ((fun n : Int => UInt8.ofNat n.toNat) ∘ fun b : UInt8 => (b.toNat : Int)) = id := by
    funext b; simp
  first | rw [this, List.map_id] | simp
theorem conv_bytes {w : World} {B n c : Nat} {A : Option Addr} {bs : List UInt8} (h : Win w B 5 1 A n c (Lib.byteCells bs)) : (convert 69 9 (.slice A n c)).run Tryd.prog w = .ok (.string (str bs)) w := by
  have hn : bs.length = n := by have := h.1; rw [Lib.byteCells_length] at this; omega
  rcases h.2.2.2 with ⟨rfl, h0⟩ | ⟨g, o, L, rfl, h1, h2, _⟩
  · obtain rfl : bs = [] := List.eq_nil_of_length_eq_zero (by have := h.2.1; omega)
    rw [run_convert_bytes_nil w 69 5 Tryd.underlying69 Tryd.underlying5 n c 9 Tryd.underlying9]
    rfl
  · rw [← strOf_bytes]
    refine run_convert_bytes_arg w 69 5 Tryd.underlying69 Tryd.underlying5 g o n c _ (by simpa using hn) (fun i hi => ?_) 9 Tryd.underlying9
    refine h.cell i _ ?_
    unfold Lib.byteCells
    rw [List.getElem?_map, List.getElem?_eq_getElem (by omega)]
    simp [List.getD_eq_getElem?_getD, List.getElem?_eq_getElem (show i < bs.length by omega)]
set_option maxRecDepth 20000 in
set_option maxHeartbeats 16000000 in
theorem bytesG_any (s : ByteArray) (w : World) (hs : s.size ≤ 1099511627776) (hT : Lib.Utf8Tabs 0 1 w) :
    Calls Tryd.prog 42 #[.string s] w fun e w' => e = .returned (.string (str (badsS s.data.toList))) ∧ Stay [] w w' := by
  have HBd := Lib.hid (bad_any s w hs hT)
  rw [badsS_places]
  obtain ⟨P, hP⟩ : ∃ P, P = (places s 0).filter fun p => badD (dL (restS s p)) := ⟨_, rfl⟩
  have hPb : badP s (places s 0) = P.map fun p : Nat => (p : Int) := by rw [hP]; rfl
  have hPl : P.length ≤ 1099511627776 := by
    have h1 := places_le s s.size 0 (by omega)
    have h2 : P.length ≤ (places s 0).length := by rw [hP]; exact List.length_filter_le _ _
    omega
  have hPm : ∀ p ∈ P, p < s.size := fun p hp => by
    rw [hP] at hp
    have hm := (List.mem_filter.1 hp).1
    obtain ⟨a, b, hab⟩ := List.append_of_mem hm
    exact (places_at s a 0 p b hab).2.1
  rw [hPb, List.length_map] at HBd
  rw [← hP]
  obtain ⟨n, hn⟩ : ∃ n, n = P.length := ⟨_, rfl⟩
  rw [← hn] at HBd hPl
  have HN := Lib.hid hn
  have HM := Lib.hid hPm
  have HLn := Lib.hid hPl
  obtain ⟨i5, hi, hz, hsz, hy⟩ := info_parts infoByte
  have HI := Lib.hid (And.intro hi (And.intro hz (And.intro hsz hy)))
  clear hs hT hP hPb hPl hPm hn hi hz hsz hy
  go_enter Tryd.func42, Tryd.ntmps42
  go_wp2_with fail
  refine HBd.out.mono ?_
  rintro e w1 ⟨A, c, rfl, hw, hs1⟩
  have HW1 := Lib.hid hw
  have HS1 := Lib.hid hs1
  clear hw hs1 HBd
  go_wp2_with fail
  go_loopw [4, 5] (fun v4 v5 wr => ∃ (k : Nat) (A2 : Option Addr) (c2 : Nat), v5 = .int .i64 k ∧ k ≤ n ∧ v4 = .slice A2 k c2 ∧ Win wr w1.heap.size 5 1 A2 k c2 (Lib.byteCells ((P.take k).map (hdS s))) ∧ Stay [] w1 wr)
    (fun _ v5 _ => (n - intOf v5).toNat)
  case atStart => exact ⟨0, none, 0, rfl, Nat.zero_le _, rfl, Win.nil _ _ _ _, Stay.refl _ _⟩
  case round =>
    obtain ⟨k, A2, c2, rfl, hk, rfl, hw2, hst⟩ := hrel
    by_cases hkn : k = n
    · subst hkn
      rw [HN.out, List.take_length, ← HN.out] at hw2
      have hcv := conv_bytes hw2
      have HS := Lib.hid (HS1.out.trans hst)
      clear hw2 hst
      go_wp2_with fail
      go_ret
      exact ⟨rfl, HS.out⟩
    · have hkl : k < n := by omega
      have hkl' : (k : Int) < n := by omega
      have hn64 : n ≤ 1099511627776 := HLn.out
      obtain ⟨p, hp⟩ : ∃ p, P[k]? = some p := ⟨_, List.getElem?_eq_getElem (by have := HN.out; omega)⟩
      have hps := HM.out p (List.mem_of_getElem? hp)
      have hps' : (p : Int) < s.size := by omega
      have hp0 : (0 : Int) ≤ p := by omega
      have hwr := HW1.out.stay0 hst
      obtain ⟨g, o, rfl⟩ := hwr.addr (by omega)
      have c0 := hwr.cell k (.int .i64 (p : Int)) (by simp [ints, hp])
      obtain ⟨y, hy⟩ : ∃ y, y = hdS s p := ⟨_, rfl⟩
      have hyp : (s[p]'hps).toNat = y.toNat := by rw [hy]; exact rest_head hps
      have HTk := Lib.hid (show Lib.byteCells ((P.take (k + 1)).map (hdS s)) = Lib.byteCells ((P.take k).map (hdS s)) ++ [.int .u8 y.toNat] from by
        rw [List.take_add_one, hp, hy]; simp [Lib.byteCells])
      obtain ⟨V, hV⟩ : ∃ V, V = wr.alloc (.cells #[.int .u8 (y.toNat : Int)] 5) := ⟨_, rfl⟩
      have hsv : Stay [] wr V := by rw [hV]; exact Stay.alloc _ _
      have HV := Lib.hid hV
      have HWv := Lib.hid (hw2.stay0 hsv)
      have HSv := Lib.hid (hst.trans hsv)
      have HCv := Lib.hid (show ∀ j u, ([Value.int .u8 (y.toNat : Int)] : List Value)[j]? = some u → V.cell? ((⟨wr.heap.size, 0, none⟩ : Addr).add j) = some u from by rw [hV]; exact cells_new wr [.int .u8 (y.toNat : Int)] 5 wr.heap.size rfl)
      clear hw2 hst hwr hp hy hV hsv hk hkn
      go_wp2_with (rw [← HV.out]; refine wpList_append_win rfl (.tmp 28) (.tmp 35) 69 rfl w1.heap.size 5 1 i5 _ 1 Tryd.underlying69 HI.out.1 HI.out.2.1 HI.out.2.2.1 HI.out.2.2.2 rfl (by omega) A2 k c2 _ rfl HWv.out ⟨wr.heap.size, 0, none⟩ 1 1 rfl [.int .u8 (y.toNat : Int)] rfl (by omega) HCv.out (by simp [Value.oneCell']) (by unfold maxLen; omega) (by omega) HSv.out.size ?_; intro A' c' w8 hw8 hs8 _; rw [← HTk.out] at hw8; have H8 := Lib.hid hw8; have HS8 := Lib.hid (HSv.out.trans' hs8 (fun g hg => .inr (HWv.out.ab g hg).1)); clear hw8 hs8)
      go_roundw
      case rel => exact ⟨k + 1, A', c', by simp, by omega, rfl, H8.out, HS8.out⟩
      case measure => simp [intOf]; omega
/-! a text's numbers -/
theorem runeI_item {l : List UInt8} : runeI (itemD l) = ((dL l).1 : Nat) := by
  unfold itemD
  by_cases h : badD (dL l) = true
  · rw [if_pos h]
    have hl : l ≠ [] := fun e => by subst e; exact absurd h (by decide)
    rw [(dL_bad hl h).1]; rfl
  · rw [if_neg h]; rfl
theorem runesFrom_places (s : ByteArray) : ∀ (b i : Nat) (acc : Array Value), s.size - i ≤ b → Conv.runesFrom s b i acc = acc ++ ((places s i).map fun p => Value.int .i32 ((dL (restS s p)).1 : Nat)).toArray
  | 0, i, acc, h => by
    rw [places_nil (restS_nil (by omega))]; simp [Conv.runesFrom]
  | b + 1, i, acc, h => by
    unfold Conv.runesFrom
    by_cases hr : restS s i = []
    · have hp : ¬ i < s.size := fun hl => restS_ne.2 hl hr
      rw [if_neg hp, places_nil hr]; simp
    · have hp := restS_ne.1 hr
      have hw := rest_width hr
      rw [if_pos hp, decode_dL]
      show Conv.runesFrom s b (i + (dL (restS s i)).2) (acc.push (.int .i32 (Int.ofNat (dL (restS s i)).1))) = _
      rw [runesFrom_places s b _ _ (by omega), places_cons hr]
      simp
theorem runes_places (s : ByteArray) : runesL s.data.toList = (places s 0).map fun p => (((dL (restS s p)).1 : Nat) : Int) := by
  unfold runesL
  rw [← places_zero, List.map_map]
  congr 1
  funext p
  exact runeI_item
set_option maxHeartbeats 4000000 in
theorem runesG_any (s : ByteArray) (w : World) (hs : s.size ≤ 1099511627776) :
    Calls Tryd.prog 43 #[.string s] w fun e w' => ∃ A c, e = .returned (.slice A (runesL s.data.toList).length c) ∧ Sl w' w'.heap.size A (ints .i32 (runesL s.data.toList)) ∧ Stay [] w w' := by
  have hrf := runesFrom_places s s.size 0 #[] (by omega)
  have hsz : (Conv.runesFrom s s.size 0 #[]).size = (runesL s.data.toList).length := by rw [hrf, runes_places]; simp
  have hl : (runesL s.data.toList).length ≤ s.size := by rw [runes_places, List.length_map]; exact places_le s s.size 0 (by omega)
  have hcv := run_runes_of_string w 9 22 21 s Tryd.underlying9 Tryd.underlying22 Tryd.underlying21 (by omega)
  rw [hsz] at hcv
  obtain ⟨Ar, hAr⟩ : ∃ A, A = Conv.runesFrom s s.size 0 #[] ++ Array.replicate (grownCap w (runesL s.data.toList).length 0 21 - (runesL s.data.toList).length) (Value.int .i32 0) := ⟨_, rfl⟩
  obtain ⟨W, hW⟩ : ∃ W, W = w.drew.alloc (.cells (Conv.runesFrom s s.size 0 #[] ++ Array.replicate (grownCap w (runesL s.data.toList).length 0 21 - (runesL s.data.toList).length) (Value.int .i32 0)) 21) := ⟨_, rfl⟩
  have hst : Stay [] w W := by rw [hW]; exact (Stay.drew w).trans (Stay.alloc _ _)
  have hsl : Sl W W.heap.size (some ⟨w.heap.size, 0, none⟩) (ints .i32 (runesL s.data.toList)) := fun j u hj => by
    refine ⟨_, rfl, ?_, ?_⟩
    · rw [hW]; simp
    · have hc := cells_new w.drew Ar.toList 21 w.heap.size rfl j u (by
        rw [hAr, Array.toList_append, List.getElem?_append_left (by rw [Array.length_toList, hsz]; have := (List.getElem?_eq_some_iff.1 hj).1; simpa [ints] using this), hrf]
        rw [runes_places] at hj
        simpa [ints] using hj)
      rw [Array.toArray_toList, hAr] at hc
      rw [hW]
      exact hc
  rw [← hW] at hcv
  have HSt := Lib.hid hst
  have HSl := Lib.hid hsl
  clear hrf hsz hl hW hst hsl hs
  go_enter Tryd.func43, Tryd.ntmps43
  go_wp2_with fail
  go_ret
  exact ⟨_, _, rfl, HSl.out, HSt.out⟩
end Go.Proofs.YtlphmcodajookaaDoor
