/- shuttlelaw18: RopeBack: the walk. -/
import Derived.Test.YtjoeebjmjnddoaaRback0
import Derived.Deep.CutBlock
import Derived.Deep.DeepCutAuto
import Derived.Laws.Concat
namespace Go.Proofs.Ytjoeebjmjnddoaa
open Go.RowKit
set_option maxRecDepth 20000 in
set_option maxHeartbeats 16000000 in
theorem back_long (text : ByteArray) (A : Option Addr) (c n : Nat) (w : World) (htx : text.size ≤ maxLen) (hl : 1048576 < text.size) :
    Calls Try.prog 4 #[.string text, .slice A n c] w fun e w' => e = .returned (.bool true) ∧ Below w.heap.size w w' := by
  have HN := Lib.hid (new_long text.data.toList w (by rw [bytes_length]; exact hl) (by rw [bytes_length]; simpa [maxLen] using htx))
  rw [str_of] at HN
  have HA := Lib.hid (alive_any w)
  have h1 : (1048576 : Int) < text.size := by omega
  clear htx hl
  go_enter Try.func4, Try.ntmps4
  go_wp2_with fail
  refine HN.out.mono ?_
  rintro e w' ⟨rfl, rfl⟩
  go_wp2_with fail
  refine HA.out.mono ?_
  rintro e w' ⟨rfl, h2⟩
  have HB := Lib.hid h2
  clear h2
  go_wp2_with fail
  exact bodyPost_ret (v := .bool true) (by simp [results, Try.results4, go_sem]) rfl ⟨rfl, HB.out⟩
theorem rb_first {w w1 : World} {rb : Nat} {t : Rp} (hR : RopeAt w1 rb t 0) (hb : Below w.heap.size w w1) (hr : w.heap.size ≤ rb) : RB w.heap.size w rb t 0 (.slice none 0 0) (.slice none 0 0) [] w1 :=
  ⟨hR, by unfold U64; omega, hr, World.ownsRow_nil _ _ _ _, World.ownsRow_nil _ _ _ _, by simp [Value.ownBlock], by simp [Value.ownBlock], by simp [Value.ownBlock], hb, hb.size⟩
set_option maxRecDepth 20000 in
set_option maxHeartbeats 32000000 in
theorem back_fits (text : ByteArray) (A : Option Addr) (c : Nat) (L : List Ed) (w : World) (htx : text.size ≤ 1048576) (hsl : Sl w w.heap.size A (L.flatMap Ed.cells)) (hlc : L.length ≤ maxLen) (hok : ∀ e ∈ L, e.OK) :
    Calls Try.prog 4 #[.string text, .slice A L.length c] w fun e w' => e = .returned (.bool true) ∧ Below w.heap.size w w' := by
  have HN := Lib.hid (new_any text.data.toList w (by rw [bytes_length]; exact htx))
  rw [str_of] at HN
  obtain ⟨B, hB⟩ : ∃ B, B = w.heap.size := ⟨_, rfl⟩
  have HSl := Lib.hid hsl
  have HOk := Lib.hid hok
  rw [← hB] at HSl ⊢
  have HBe := Lib.hid hB
  obtain ⟨N, hN⟩ : ∃ N, N = L.length := ⟨_, rfl⟩
  have HNe := Lib.hid hN
  have hnm : (N : Int) ≤ 9223372036854775807 := by rw [hN]; simp only [maxLen] at hlc; omega
  rw [← hN]
  have HAl := Lib.hid (fun u => alive_any u)
  clear hsl hok hB hN hlc htx
  go_enter Try.func4, Try.ntmps4
  go_wp2_with fail
  refine HN.out.mono ?_
  rintro e w1 ⟨rb, t0, rfl, hrb, hR, hx0, hb⟩
  have HRB := Lib.hid (rb_first hR hb hrb)
  rw [← HBe.out] at HRB
  have HX0 := Lib.hid hx0
  clear hR hb hrb hx0 HN
  by_cases hN2 : N ≤ 2000
  · have hN2' : ¬ 2000 < (N : Int) := by omega
    have hN3 : (N : Int) ≤ 2000 := by omega
    go_wp2_with fail
    refine (HAl.out _).mono ?_
    rintro e w2 ⟨rfl, hb⟩
    have HR2 := Lib.hid (HRB.out.stay0 (Stay.below hb))
    clear hb HRB
    obtain ⟨tx, htxe⟩ : ∃ tx, tx = text.data.toList := ⟨_, rfl⟩
    have HTx := Lib.hid htxe
    have HC0 := Lib.hid (show Chain tx [] t0.text from by rw [HX0.out, htxe]; exact Chain.nil)
    clear htxe HX0
    go_wp2_with fail
    go_loopw [7, 8, 9, 10] (fun tv bv av iv wr => ∃ (k : Nat) (t : Rp) (st : Int) (H : List (List UInt8 × Ed)) (al n : Nat) (A1 A2 : Option Addr) (e1 e2 : Nat), k ≤ N ∧ iv = .int .i64 k ∧ av = .int .i64 al ∧ tv = .slice A1 n e1 ∧ bv = .slice A2 n e2 ∧ al ≤ 67108864 ∧ n ≤ k ∧ Hid (n = H.length) ∧ Hid (Chain tx H t.text) ∧ Hid (RB B w rb t st (.slice A1 n e1) (.slice A2 n e2) H wr)) (fun _ _ _ iv _ => N - (intOf iv).toNat)
    case atStart => exact ⟨0, t0, 0, [], 0, 0, none, none, 0, 0, by omega, rfl, rfl, rfl, rfl, by omega, by omega, rfl, HC0, HR2⟩
    case round =>
      obtain ⟨k, t, st, H, al, n, A1, A2, e1, e2, hk, rfl, rfl, rfl, rfl, hal, hnk, HHn, HCh, HRk⟩ := hrel
      by_cases h1 : k < N
      · have h1' : (k : Int) < N := by omega
        have hk0 : (0 : Int) ≤ k := by omega
        have HT := Lib.hid (text_any rb t st wr HRk.out.R)
        have hTl := HRk.out.R.len
        obtain ⟨T, hT⟩ : ∃ T, T = t.text := ⟨_, rfl⟩
        have HTe := Lib.hid hT
        rw [← hT] at HT
        have hTl2 : T.length ≤ 1048576 := by rw [hT]; exact hTl
        obtain ⟨S, hS⟩ : ∃ S, S = str T := ⟨_, rfl⟩
        have hSz : T.length = S.size := by rw [hS, str_size]
        have HSz := Lib.hid hSz
        have HSe := Lib.hid hS
        rw [← hS] at HT
        have hSm : (S.size : Int) ≤ 1048576 := by omega
        obtain ⟨al2, hal2⟩ : ∃ x, x = al + S.size := ⟨_, rfl⟩
        have hs1 : IntKind.i64.wrap ((al : Int) + S.size) = (al2 : Int) := by simp only [IntKind.wrap, IntKind.bits, IntKind.signed]; simp; omega
        have hal3 : al2 ≤ 68157440 := by omega
        clear hT hTl hTl2 hS hSz hal2
        go_wp2_with fail
        refine HT.out.mono ?_
        rintro e w3 ⟨rfl, hb⟩
        have HR3 := Lib.hid (HRk.out.stay0 (Stay.below hb))
        clear hb HT HRk
        by_cases h2 : 67108864 < al2
        · have h2' : 67108864 < (al2 : Int) := by omega
          have HBl := Lib.hid HR3.out.bel
          go_wp2_with fail
          exact bodyPost_ret (v := .bool true) (by simp [results, Try.results4, go_sem]) rfl ⟨rfl, HBl.out⟩
        · have h2' : ¬ 67108864 < (al2 : Int) := by omega
          have HSt := Lib.hid (stamp_any rb t st w3 HR3.out.R)
          go_wp2_with fail
          refine HSt.out.mono ?_
          rintro e w4 ⟨rfl, rfl⟩
          clear HSt
          have hkl : k < L.length := by rw [← HNe.out]; exact h1
          obtain ⟨b, o, rfl, hbB, key⟩ := edits_at HSl.out k hkl
          have hOk := HOk.out _ (List.getElem_mem hkl)
          obtain ⟨ed, hed⟩ : ∃ ed, ed = L[k] := ⟨_, rfl⟩
          rw [← hed] at key hOk
          have HCl := Lib.hid (show ∀ u, Below B w u → ∀ j v, ed.cells[j]? = some v → u.cell? ⟨b, o + k * 3 + j, none⟩ = some v from fun u hu j v hj => by rw [Nat.add_assoc]; exact (World.cell?_of_block (hu.block b hbB)).trans (key j v hj))
          clear key hed hkl hbB
          by_cases hf : Fits ed t.len
          · obtain ⟨ea, eb, es⟩ := ed
            obtain ⟨a, rfl⟩ : ∃ a : Nat, ea = a := ⟨ea.toNat, by have := hf.1; simp only at this; omega⟩
            obtain ⟨d, rfl⟩ : ∃ d : Nat, eb = d := ⟨eb.toNat, by have := hf.2.1; simp only at this; omega⟩
            have hDo := do_fits rb t st _ w3 HR3.out.R HR3.out.u hf
            have hUn := fits_undoes ⟨(a : Int), (d : Int), es⟩ t.text HR3.out.R.len hf
            simp only [Int.toNat_natCast] at hDo hUn
            have had : a + d ≤ S.size := by
              have := hf.2.2.1
              rw [← HSz.out, HTe.out]
              simp only [Rp.len] at this
              omega
            have hes : (es.size : Int) ≤ 1048576 := by
              have h1 := hf.2.2.2
              have h2 := hf.2.2.1
              have h3 := hf.1
              simp only at h1 h2 h3
              omega
            rw [bytes_length] at hUn
            have HDo := Lib.hid (show Calls Try.prog 21 #[.pointer (some ⟨rb, 0, none⟩), .agg #[.int .i64 a, .int .i64 d, .string es]] w3 fun e w' => e = .returned (.tuple #[.agg #[.int .i64 a, .int .i64 es.size, .string (str (cutL t.text a (a + d)))], .int .i64 0]) ∧
                (∃ t', RopeAt w' rb t' (IntKind.u64.wrap (st + 1)) ∧ t'.text = editL t.text a d es.data.toList) ∧ Stay [rb] w3 w' from by
              refine hDo.mono ?_
              rintro e w' ⟨h1, h2, h3⟩
              rw [bytes_length] at h1
              exact ⟨h1, h2, h3⟩)
            obtain ⟨T2, hT2⟩ : ∃ T2, T2 = editL t.text a d es.data.toList := ⟨_, rfl⟩
            obtain ⟨O, hO⟩ : ∃ O, O = str (cutL t.text a (a + d)) := ⟨_, rfl⟩
            obtain ⟨st2, hst2⟩ : ∃ st2, st2 = IntKind.u64.wrap (st + 1) := ⟨_, rfl⟩
            obtain ⟨S2, hS2⟩ : ∃ S2, S2 = str T2 := ⟨_, rfl⟩
            have HU2 := Lib.hid (show U64 st2 from by rw [hst2]; exact u64_wrap _)
            obtain ⟨ad, hade⟩ : ∃ ad, ad = a + d := ⟨_, rfl⟩
            have hcat : S.extract 0 a ++ es ++ S.extract ad S.size = S2 := by
              rw [hade, HSe.out, hS2, hT2, HTe.out]
              exact edit_str _ _ _ _ (by rw [← HTe.out, HSz.out]; exact had)
            have hsum : IntKind.i64.wrap ((a : Int) + d) = (ad : Int) := by simp only [IntKind.wrap, IntKind.bits, IntKind.signed]; simp; omega
            have hadl : ad ≤ S.size := by omega
            have HCat := Lib.hid hcat
            clear hade hcat
            rw [← hT2, ← hO] at hUn
            rw [← hT2, ← hO, ← hst2] at HDo
            have HUn := Lib.hid hUn
            have HS2 := Lib.hid hS2
            have HCo := Lib.hid (HCl.out w3 HR3.out.bel)
            have hwr := hst2.symm
            clear hDo hUn hf hOk hT2 hO hst2 hS2
            have c0 := HCo.out 0 _ rfl
            have c1 := HCo.out 1 _ rfl
            have c2 := HCo.out 2 _ rfl
            rw [Nat.add_zero] at c0
            simp only at c0 c1 c2
            go_wp2_with fail
            refine HDo.out.mono ?_
            rintro e w5 ⟨rfl, ⟨t2, hR2, hx2⟩, hs⟩
            have HR5 := Lib.hid (HR3.out.do_ hR2 HU2.out hs)
            have HX2 := Lib.hid hx2
            clear hR2 hx2 hs HDo c0 c1 c2 HCo HR3
            go_upto_region 21 with fail
            have HR6 := Lib.hid (HR5.out.stay0 (Stay.alloc _ (.cells #[.int .i64 a, .int .i64 es.size, .string O] 37)))
            have HBx := Lib.hid (Blk.new w5 [.int .i64 a, .int .i64 es.size, .string O] 37)
            obtain ⟨b6, hb6⟩ : ∃ b6, b6 = w5.heap.size := ⟨_, rfl⟩
            rw [← hb6] at HBx ⊢
            obtain ⟨W6, hW6⟩ : ∃ W6, W6 = w5.alloc (.cells #[.int .i64 a, .int .i64 es.size, .string O] 37) := ⟨_, rfl⟩
            rw [← hW6] at HR6 ⊢
            have HBx6 := Lib.hid (show Blk W6 b6 [.int .i64 a, .int .i64 es.size, .string O] 37 from by rw [hW6]; exact HBx.out)
            clear hb6 hW6 HBx
            go_cut [132] (fun v wx => v = .bool false ∧ Hid (RB B w rb t2 st2 (.slice A1 n e1) (.slice A2 n e2) H wx ∧ Blk wx b6 [.int .i64 a, .int .i64 es.size, .string O] 37))
            case first =>
              have HRd := Lib.hid (HR6.out.stay0 (Stay.drew W6))
              have HCo := Lib.hid (HCl.out _ HRd.out.bel)
              have c0 := HCo.out 0 _ rfl
              have c1 := HCo.out 1 _ rfl
              have c2 := HCo.out 2 _ rfl
              rw [Nat.add_zero] at c0
              simp only at c0 c1 c2
              have HSt := Lib.hid (stamp_any rb t2 st2 _ HRd.out.R)
              have HTx2 := Lib.hid (text_any rb t2 st2 _ HRd.out.R)
              rw [HX2.out, ← HS2.out] at HTx2
              have hcat := HCat.out
              have z1 : (S.extract 0 a).size = a := by rw [ByteArray.size_extract]; omega
              have z2 : (S.extract ad S.size).size = S.size - ad := by rw [ByteArray.size_extract]; omega
              have z3 : ¬ 9223372036854775807 < a + es.size := by omega
              have z4 : ¬ 9223372036854775807 < a + es.size + (S.size - ad) := by omega
              have b1 : (0 : Int) ≤ a := by omega
              have b2 : (a : Int) ≤ S.size := by omega
              have b3 : (0 : Int) ≤ ad := by omega
              have b4 : (ad : Int) ≤ S.size := by omega
              go_region_held3 (fun w' => w'.cell? ⟨b, o + k * 3, none⟩ = some (.int .i64 a) ∧ w'.cell? ⟨b, o + k * 3 + 1, none⟩ = some (.int .i64 d) ∧ w'.cell? ⟨b, o + k * 3 + 2, none⟩ = some (.string es)) (first | exact hq | exact ⟨c0, c1, c2⟩ | go_keep)
                (first
                  | (go_at_call 20; ((with_reducible refine HSt.out.mono ?_); rintro e w7 ⟨rfl, rfl⟩); have hq := And.intro c0 (And.intro c1 c2))
                  | (go_at_call 19; ((with_reducible refine HTx2.out.mono ?_); rintro e w8 ⟨rfl, hb⟩); have HR8 := Lib.hid (HRd.out.stay0 (Stay.below hb)); have HB8 := Lib.hid ((HBx6.out.stay (F := []) (Stay.drew W6) (by simp)).stay (F := []) (Stay.below hb) (by simp)); have hq := And.intro (HCl.out _ HR8.out.bel 0 _ rfl) (And.intro (HCl.out _ HR8.out.bel 1 _ rfl) (HCl.out _ HR8.out.bel 2 _ rfl)); clear hb))
              all_goals
                go_wp2_with fail
                go_meet
                exact ⟨rfl, HR8.out, HB8.out⟩
            case rest =>
              obtain ⟨rfl, hrx⟩ := hcut
              have HR9 := Lib.hid hrx.1
              have HB9 := Lib.hid hrx.2
              clear hrx HR6 HBx6 HR5 HCat HCl hsum hwr
              obtain ⟨i9, hi9, hz9, hs9, hy9⟩ := info_parts info9
              obtain ⟨i37, hi37, hz37, hs37, hy37⟩ := info_parts info37
              have HI := Lib.hid (And.intro (And.intro hi9 (And.intro hz9 (And.intro hs9 hy9))) (And.intro hi37 (And.intro hz37 (And.intro hs37 hy37))))
              clear hi9 hz9 hs9 hy9 hi37 hz37 hs37 hy37
              have hn63 : n + 1 ≤ maxLen := by simp only [maxLen]; omega
              have hn16 : (n + 1) * 16 ≤ 140737488355328 := by omega
              have hn32 : (n + 1) * 32 ≤ 140737488355328 := by omega
              have HM := Lib.hid (And.intro hn63 (And.intro hn16 hn32))
              clear hn63 hn16 hn32
              have HOT := Lib.hid (show (wc.alloc (.cells #[.string S] 9)).ownsRow B 9 1 (.slice A1 n e1) n (H.map fun p => .string (str p.1)) from by have := HR9.out.T; rw [← HHn.out] at this; exact this.alloc _)
              have HSz9 := Lib.hid (show B ≤ (wc.alloc (.cells #[.string S] 9)).heap.size from by rw [size_alloc']; exact Nat.le_succ_of_le HR9.out.sz)
              have HNw := Lib.hid (cells_new wc [.string S] 9 wc.heap.size rfl)
              go_wp2_with (first
                | (refine wpList_append_z rfl (.tmp 133) (.tmp 135) 45 rfl B 9 i9 _ 1 16 Try.underlying45 HI.out.1.1 HI.out.1.2.1 HI.out.1.2.2.1 HI.out.1.2.2.2 rfl (by omega) (.slice A1 n e1) n _ rfl HOT.out ⟨wc.heap.size, 0, none⟩ 1 1 rfl [.string S] rfl HNw.out (by simp [Value.oneCell']) HM.out.1 HM.out.2.1 HSz9.out ?_; intro A3 c3 w5 ho5 hg5 hv5
                   have HS5 := Lib.hid (show Stay (Value.slice A1 n e1).ownBlock.toList wc w5 from (Stay.alloc _ _).trans (Stay.grown hg5 (fun g h => by simpa using h)))
                   have HB5 := Lib.hid (HB9.out.stay HS5.out (blk_ne HB9.out HR9.out.T (by decide)))
                   have HV5 := Lib.hid (And.intro ho5 hv5)
                   clear ho5 hg5 hv5
                   have c0 : w5.cell? ⟨b6, 0, none⟩ = some (.int .i64 a) := HB5.out.cell 0
                   have c1 : w5.cell? ⟨b6, 1, none⟩ = some (.int .i64 es.size) := HB5.out.cell 1
                   have c2 : w5.cell? ⟨b6, 2, none⟩ = some (.string O) := HB5.out.cell 2
                   have HOK := Lib.hid (show (w5.alloc (.cells #[.int .i64 a, .int .i64 es.size, .string O] 37)).ownsRow B 37 3 (.slice A2 n e2) n (H.flatMap fun p => p.2.cells) from by have := (HR9.out.mid HS5.out).2; rw [← HHn.out] at this; exact this.alloc _)
                   have HSz5 := Lib.hid (show B ≤ (w5.alloc (.cells #[.int .i64 a, .int .i64 es.size, .string O] 37)).heap.size from by rw [size_alloc']; exact Nat.le_succ_of_le (Nat.le_trans HR9.out.sz HS5.out.size))
                   have HNw5 := Lib.hid (cells_new w5 [.int .i64 a, .int .i64 es.size, .string O] 37 w5.heap.size rfl))
                | (refine wpList_append_z rfl (.tmp 137) (.tmp 139) 44 rfl B 37 i37 _ 3 32 Try.underlying44 HI.out.2.1 HI.out.2.2.1 HI.out.2.2.2.1 HI.out.2.2.2.2 rfl (by omega) (.slice A2 n e2) n _ rfl HOK.out ⟨w5.heap.size, 0, none⟩ 1 1 rfl [.int .i64 a, .int .i64 es.size, .string O] rfl HNw5.out (by simp [Value.oneCell']) HM.out.1 HM.out.2.2 HSz5.out ?_; intro A4 c4 w7 ho7 hg7 hv7
                   have HV7 := Lib.hid (And.intro ho7 hv7)
                   have HS7 := Lib.hid (show Stay (Value.slice A2 n e2).ownBlock.toList w5 w7 from (Stay.alloc _ _).trans (Stay.grown hg7 (fun g h => by simpa using h)))
                   clear ho7 hg7 hv7 c0 c1 c2))
              have HRn := Lib.hid (show RB B w rb t2 st2 (.slice A3 (n + 1) c3) (.slice A4 (n + 1) c4) (H ++ [(T, ⟨a, es.size, O⟩)]) w7 from by
                refine HR9.out.push HS5.out ?_ ?_ HS7.out ?_ ?_
                · rcases HV5.out.2 with h | h
                  · exact .inl h
                  · exact .inr ⟨_, h, by rw [size_alloc']; exact Nat.le_succ _⟩
                · rw [← HHn.out, ← HSe.out]; exact HV5.out.1
                · rcases HV7.out.2 with h | h
                  · exact .inl h
                  · exact .inr ⟨_, h, by rw [size_alloc']; exact Nat.le_succ _⟩
                · rw [← HHn.out]; exact HV7.out.1)
              have HCn := Lib.hid (show Chain tx (H ++ [(T, ⟨a, es.size, O⟩)]) t2.text from by
                rw [HX2.out, HTe.out]
                exact Chain.snoc HCh.out HUn.out)
              go_roundw
              case rel => exact ⟨k + 1, t2, st2, _, al2, n + 1, A3, A4, c3, c4, by omega, by go_num, rfl, rfl, rfl, by omega, by omega, by rw [List.length_append, ← HHn.out]; rfl, HCn, HRn⟩
              case measure => simp [intOf]; omega
          · obtain ⟨er, her, hD⟩ := do_not rb t st ed w3 HR3.out.R hOk hf
            have HD := Lib.hid hD
            have HCo := Lib.hid (HCl.out w3 HR3.out.bel)
            clear hD hf hOk HCl
            obtain ⟨ea, eb, es⟩ := ed
            have c0 := HCo.out 0 _ rfl
            have c1 := HCo.out 1 _ rfl
            have c2 := HCo.out 2 _ rfl
            rw [Nat.add_zero] at c0
            simp only [Ed.val, noEd] at HD
            simp only at c0 c1 c2
            go_wp2_with fail
            refine HD.out.mono ?_
            rintro e w5 ⟨rfl, hb⟩
            have HR5 := Lib.hid (HR3.out.stay0 (Stay.below hb))
            clear hb HD c0 c1 c2 HCo HR3
            have HR6 := Lib.hid (HR5.out.stay0 (Stay.alloc _ (.cells #[.int .i64 0, .int .i64 0, .string ⟨#[]⟩] 37)))
            have HT6 := Lib.hid (text_any rb t st _ HR6.out.R)
            rw [← HTe.out, ← HSe.out] at HT6
            go_wp2_with fail
            refine HT6.out.mono ?_
            rintro e w7 ⟨rfl, hb⟩
            have HR7 := Lib.hid (HR6.out.stay0 (Stay.below hb))
            have HS7 := Lib.hid (stamp_any rb t st w7 HR7.out.R)
            clear hb HT6 HR6 HR5
            go_wp2_with fail
            refine HS7.out.mono ?_
            rintro e w8 ⟨rfl, rfl⟩
            go_wp2_with fail
            go_roundw
            case rel => exact ⟨k + 1, t, st, H, al2, n, A1, A2, e1, e2, by omega, by go_num, rfl, rfl, rfl, by omega, by omega, HHn, HCh, HR7⟩
            case measure => simp [intOf]; omega
      · have h1' : ¬ (k : Int) < N := by omega
        have hn2 : n ≤ 2000 := by omega
        have hs0 : IntKind.i64.wrap ((n : Int) - 1) = (n : Int) - 1 := by simp only [IntKind.wrap, IntKind.bits, IntKind.signed]; simp; omega
        clear HSl HOk HNe HR2 HC0 HAl hnm hN2'
        go_wp2_with fail
        go_loopw [15] (fun iv wr => ∃ (j : Nat) (t' : Rp) (st' : Int) (x : Int), j ≤ n ∧ iv = .int .i64 x ∧ Hid (x = (j : Int) - 1) ∧ Hid (Chain tx (H.take j) t'.text) ∧ Hid (RB B w rb t' st' (.slice A1 n e1) (.slice A2 n e2) H wr)) (fun iv _ => (intOf iv + 1).toNat)
        case atStart => exact ⟨n, t, st, _, Nat.le_refl _, rfl, rfl, by rw [HHn.out, List.take_length]; exact HCh, HRk⟩
        case round =>
          clear HRk HCh
          obtain ⟨j, t', st', x, hj, rfl, hx, HCj, HRj⟩ := hrel
          cases j with
          | zero =>
            have hx' : x = -1 := by have := hx.out; omega
            subst hx'
            have HT := Lib.hid (text_any rb t' st' wr HRj.out.R)
            have htt : t'.text = tx := (HCj.out.first).symm
            rw [htt, HTx.out, str_of] at HT
            clear htt
            go_wp2_with fail
            refine HT.out.mono ?_
            rintro e w3 ⟨rfl, hb⟩
            have HBl := Lib.hid (HRj.out.stay0 (Stay.below hb)).bel
            clear hb HT
            go_wp2_with fail
            exact bodyPost_ret (v := .bool true) (by simp [results, Try.results4, go_sem]) rfl ⟨rfl, HBl.out⟩
          | succ m =>
            have hx' : x = m := by have := hx.out; omega
            subst hx'
            clear hx
            have hmH : m < H.length := by rw [← HHn.out]; omega
            have hmn : (m : Int) < n := by omega
            have hm0 : (0 : Int) ≤ m := by omega
            obtain ⟨hC1, hC2⟩ := HCj.out.at_ m hmH
            have hTl := HRj.out.R.len
            obtain ⟨x, hxe⟩ : ∃ x, x = H[m].1 := ⟨_, rfl⟩
            obtain ⟨b, hbe⟩ : ∃ b, b = H[m].2 := ⟨_, rfl⟩
            rw [← hxe] at hC1 hC2
            rw [← hbe] at hC2
            obtain ⟨T, hT⟩ : ∃ T, T = t'.text := ⟨_, rfl⟩
            rw [← hT] at hC2
            have HCm := Lib.hid hC1
            have HD := Lib.hid (fun (u : World) (t2 : Rp) (st2 : Int) (hr : RopeAt u rb t2 st2) (hu : U64 st2) (ht : t2.text = T) => do_undo rb t2 st2 b x u hr hu (by rw [ht]; exact hC2))
            obtain ⟨g1, hg1, hA1⟩ := own_addrN (by have := HRj.out.T; rw [← HHn.out] at this; exact this) (show 0 < n by omega)
            obtain ⟨g2, hg2, hA2⟩ := own_addrN (by have := HRj.out.K; rw [← HHn.out] at this; exact this) (show 0 < n by omega)
            subst hg1 hg2
            have hg1 : ⟨g1, 0, none⟩ = (⟨g1, 0, none⟩ : Addr) := rfl
            clear hg1 hA1 hA2
            have HCt := Lib.hid (show ∀ u tt ss, RB B w rb tt ss (.slice (some ⟨g1, 0, none⟩) n e1) (.slice (some ⟨g2, 0, none⟩) n e2) H u → u.cell? ⟨g1, m, none⟩ = some (.string (str x)) from fun u tt ss hr => by
              have hT := hr.T
              rw [← HHn.out] at hT
              obtain ⟨g, hg, hc⟩ := own_addrN hT (show 0 < n by omega)
              injection hg with hg
              injection hg with hg
              subst hg
              exact hc m _ (by rw [List.getElem?_map, List.getElem?_eq_getElem hmH, hxe]; rfl))
            have HCb := Lib.hid (show ∀ u tt ss, RB B w rb tt ss (.slice (some ⟨g1, 0, none⟩) n e1) (.slice (some ⟨g2, 0, none⟩) n e2) H u → ∀ q v, b.cells[q]? = some v → u.cell? ⟨g2, m * 3 + q, none⟩ = some v from fun u tt ss hr q v hq => by
              have hT := hr.K
              rw [← HHn.out] at hT
              obtain ⟨g, hg, hc⟩ := own_addrN hT (show 0 < n by omega)
              injection hg with hg
              injection hg with hg
              subst hg
              have hq3 : q < 3 := (List.getElem?_eq_some_iff.1 hq).1
              exact hc _ _ (by rw [flat_at (fun p : List UInt8 × Ed => p.2.cells) 3 (fun p => rfl) H m hmH q hq3, ← hbe]; exact hq))
            have HT1 := Lib.hid (text_any rb t' st' wr HRj.out.R)
            rw [← hT] at HT1
            have HTt := Lib.hid hT.symm
            have HTl := Lib.hid (show T.length ≤ 1048576 from by rw [hT]; exact hTl)
            clear hC1 hC2 hxe hbe hT hTl HCj hmH
            obtain ⟨S, hS⟩ : ∃ S, S = str T := ⟨_, rfl⟩
            have HSe := Lib.hid hS
            rw [← hS] at HT1
            clear hS
            go_wp2_with fail
            refine HT1.out.mono ?_
            rintro e w3 ⟨rfl, hb⟩
            have HR3 := Lib.hid (HRj.out.stay0 (Stay.below hb))
            clear hb HT1 HRj
            obtain ⟨a, hD1, hU2, hD2⟩ := HD.out w3 t' st' HR3.out.R HR3.out.u HTt.out
            rw [HTt.out] at hD2 hU2
            have HD1 := Lib.hid hD1
            have HD2 := Lib.hid hD2
            clear hD1 hD2 hU2
            obtain ⟨ba, bd, bs⟩ := b
            obtain ⟨aa, ad, as_⟩ := a
            have HC3 := Lib.hid (HCb.out w3 _ _ HR3.out)
            have c0 := HC3.out 0 _ rfl
            have c1 := HC3.out 1 _ rfl
            have c2 := HC3.out 2 _ rfl
            rw [Nat.add_zero] at c0
            simp only at c0 c1 c2
            simp only [Ed.val] at HD1 HD2
            go_wp2_with fail
            refine HD1.out.mono ?_
            rintro e w5 ⟨rfl, ⟨t5, hR5, hx5⟩, hs5⟩
            have HR5 := Lib.hid (HR3.out.do_ hR5 (u64_wrap _) hs5)
            have HX5 := Lib.hid hx5
            obtain ⟨st5, hst5⟩ : ∃ st5, st5 = IntKind.u64.wrap (st' + 1) := ⟨_, rfl⟩
            rw [← hst5] at HR5
            clear hR5 hx5 hs5 hst5 c0 c1 c2 HC3 HD1 HR3
            simp only [Ed.val]
            go_upto_region 30 with fail
            have HR6 := Lib.hid (HR5.out.stay0 (Stay.alloc _ (.cells #[.int .i64 aa, .int .i64 ad, .string as_] 37)))
            have HBx := Lib.hid (Blk.new w5 [.int .i64 aa, .int .i64 ad, .string as_] 37)
            obtain ⟨b6, hb6⟩ : ∃ b6, b6 = w5.heap.size := ⟨_, rfl⟩
            rw [← hb6] at HBx ⊢
            obtain ⟨W6, hW6⟩ : ∃ W6, W6 = w5.alloc (.cells #[.int .i64 aa, .int .i64 ad, .string as_] 37) := ⟨_, rfl⟩
            rw [← hW6] at HR6 ⊢
            have HBx6 := Lib.hid (show Blk W6 b6 [.int .i64 aa, .int .i64 ad, .string as_] 37 from by rw [hW6]; exact HBx.out)
            obtain ⟨X, hX⟩ : ∃ X, X = str x := ⟨_, rfl⟩
            have HXe := Lib.hid hX
            rw [← hX] at HCt
            clear hb6 hW6 HBx HR5 hX
            go_cut [169] (fun v wx => v = .bool false ∧ Hid (RB B w rb t5 st5 (.slice (some ⟨g1, 0, none⟩) n e1) (.slice (some ⟨g2, 0, none⟩) n e2) H wx ∧ Blk wx b6 [.int .i64 aa, .int .i64 ad, .string as_] 37))
            case first =>
              have HRd := Lib.hid (HR6.out.stay0 (Stay.drew W6))
              have c0 := HCt.out _ _ _ HRd.out
              have HTx2 := Lib.hid (text_any rb t5 st5 _ HRd.out.R)
              rw [HX5.out, ← HXe.out] at HTx2
              go_region_held3 (fun w' => w'.cell? ⟨g1, m, none⟩ = some (.string X)) (first | exact hq | exact c0 | go_keep)
                (first
                  | (go_at_call 19; ((with_reducible refine HTx2.out.mono ?_); rintro e w8 ⟨rfl, hb⟩); have HR8 := Lib.hid (HRd.out.stay0 (Stay.below hb)); have HB8 := Lib.hid ((HBx6.out.stay (F := []) (Stay.drew W6) (by simp)).stay (F := []) (Stay.below hb) (by simp)); have hq := HCt.out _ _ _ HR8.out; clear hb))
              all_goals
                go_wp2_with fail
                go_meet
                exact ⟨rfl, HR8.out, HB8.out⟩
            case rest =>
              obtain ⟨rfl, hrx⟩ := hcut
              have HR9 := Lib.hid hrx.1
              have HB9 := Lib.hid hrx.2
              clear hrx HR6 HBx6
              obtain ⟨w9, hw9⟩ : ∃ w9, w9 = wc := ⟨_, rfl⟩
              rw [← hw9] at HR9 HB9 ⊢
              clear hw9
              have c0 : w9.cell? ⟨b6, 0, none⟩ = some (.int .i64 aa) := HB9.out.cell 0
              have c1 : w9.cell? ⟨b6, 1, none⟩ = some (.int .i64 ad) := HB9.out.cell 1
              have c2 : w9.cell? ⟨b6, 2, none⟩ = some (.string as_) := HB9.out.cell 2
              have HE := Lib.hid (HD2.out w9 t5 st5 HR9.out.R HR9.out.u HX5.out)
              clear HD2
              go_wp2_with fail
              refine HE.out.mono ?_
              rintro e w10 ⟨rfl, ⟨t10, hR10, hx10⟩, hs10⟩
              have HR10 := Lib.hid (HR9.out.do_ hR10 (u64_wrap _) hs10)
              have HX10 := Lib.hid hx10
              obtain ⟨st10, hst10⟩ : ∃ s, s = IntKind.u64.wrap (st5 + 1) := ⟨_, rfl⟩
              rw [← hst10] at HR10
              clear hR10 hx10 hs10 hst10 c0 c1 c2 HB9 HE HR9
              simp only [Ed.val]
              go_upto_region 33 with fail
              have HR11 := Lib.hid (HR10.out.stay0 (Stay.alloc _ (.cells #[.int .i64 ba, .int .i64 bd, .string bs] 37)))
              have HBx := Lib.hid (Blk.new w10 [.int .i64 ba, .int .i64 bd, .string bs] 37)
              obtain ⟨b11, hb11⟩ : ∃ b, b = w10.heap.size := ⟨_, rfl⟩
              rw [← hb11] at HBx ⊢
              obtain ⟨W11, hW11⟩ : ∃ W, W = w10.alloc (.cells #[.int .i64 ba, .int .i64 bd, .string bs] 37) := ⟨_, rfl⟩
              rw [← hW11] at HR11 ⊢
              have HBx11 := Lib.hid (show Blk W11 b11 [.int .i64 ba, .int .i64 bd, .string bs] 37 from by rw [hW11]; exact HBx.out)
              clear hb11 hW11 HBx HR10
              go_cut [191] (fun v wx => v = .bool false ∧ Hid (RB B w rb t10 st10 (.slice (some ⟨g1, 0, none⟩) n e1) (.slice (some ⟨g2, 0, none⟩) n e2) H wx))
              case first =>
                have HRd := Lib.hid (HR11.out.stay0 (Stay.drew W11))
                have HBd := Lib.hid (HBx11.out.stay (F := []) (Stay.drew W11) (by simp))
                have HTx2 := Lib.hid (text_any rb t10 st10 _ HRd.out.R)
                rw [HX10.out, ← HSe.out] at HTx2
                have HCk := Lib.hid (show ∀ u, RB B w rb t10 st10 (.slice (some ⟨g1, 0, none⟩) n e1) (.slice (some ⟨g2, 0, none⟩) n e2) H u → Blk u b11 [.int .i64 ba, .int .i64 bd, .string bs] 37 →
                    u.cell? ⟨g2, m * 3, none⟩ = some (.int .i64 ba) ∧ u.cell? ⟨g2, m * 3 + 1, none⟩ = some (.int .i64 bd) ∧ u.cell? ⟨g2, m * 3 + 2, none⟩ = some (.string bs) ∧
                    u.cell? ⟨b11, 0, none⟩ = some (.int .i64 ba) ∧ u.cell? ⟨b11, 1, none⟩ = some (.int .i64 bd) ∧ u.cell? ⟨b11, 2, none⟩ = some (.string bs) from fun u hr hb => by
                  have hc := HCb.out u _ _ hr
                  exact ⟨hc 0 _ rfl, hc 1 _ rfl, hc 2 _ rfl, hb.cell 0, hb.cell 1, hb.cell 2⟩)
                have c0 := HCk.out _ HRd.out HBd.out
                go_region_held3 (fun w' => w'.cell? ⟨g2, m * 3, none⟩ = some (.int .i64 ba) ∧ w'.cell? ⟨g2, m * 3 + 1, none⟩ = some (.int .i64 bd) ∧ w'.cell? ⟨g2, m * 3 + 2, none⟩ = some (.string bs) ∧
                    w'.cell? ⟨b11, 0, none⟩ = some (.int .i64 ba) ∧ w'.cell? ⟨b11, 1, none⟩ = some (.int .i64 bd) ∧ w'.cell? ⟨b11, 2, none⟩ = some (.string bs)) (first | exact hq | exact c0 | go_keep)
                  (first
                    | (go_at_call 19; ((with_reducible refine HTx2.out.mono ?_); rintro e w12 ⟨rfl, hb⟩); have HR12 := Lib.hid (HRd.out.stay0 (Stay.below hb)); have HB12 := Lib.hid (HBd.out.stay (F := []) (Stay.below hb) (by simp)); have hq := HCk.out _ HR12.out HB12.out; clear hb))
                all_goals
                  go_wp2_with fail
                  go_meet
                  exact ⟨rfl, HR12.out⟩
              case rest =>
                obtain ⟨rfl, HR13⟩ := hcut
                obtain ⟨w13, hw13⟩ : ∃ w13, w13 = wc := ⟨_, rfl⟩
                rw [← hw13] at HR13 ⊢
                clear hw13 HR11 HBx11
                have HC3 := Lib.hid (HCb.out w13 _ _ HR13.out)
                have c0 := HC3.out 0 _ rfl
                have c1 := HC3.out 1 _ rfl
                have c2 := HC3.out 2 _ rfl
                rw [Nat.add_zero] at c0
                simp only at c0 c1 c2
                obtain ⟨a3, hD3, _, _⟩ := HD.out w13 t10 st10 HR13.out.R HR13.out.u HX10.out
                have HD3 := Lib.hid hD3
                simp only [Ed.val] at HD3
                clear hD3
                go_wp2_with fail
                refine HD3.out.mono ?_
                rintro e w14 ⟨rfl, ⟨t14, hR14, hx14⟩, hs14⟩
                have HR14 := Lib.hid (HR13.out.do_ hR14 (u64_wrap _) hs14)
                have HX14 := Lib.hid (show Chain tx (H.take m) t14.text from by rw [hx14]; exact HCm.out)
                clear hR14 hx14 hs14 c0 c1 c2 HC3 HD3 HR13 HD
                go_wp2_with fail
                go_roundw
                case rel => exact ⟨m, t14, _, (m : Int) - 1, by omega, by go_num, rfl, HX14, HR14⟩
                case measure => simp [intOf]
  · have hN2' : 2000 < (N : Int) := by omega
    go_wp2_with fail
    refine (HAl.out _).mono ?_
    rintro e w2 ⟨rfl, hb⟩
    have HB2 := Lib.hid (HRB.out.stay0 (Stay.below hb)).bel
    clear hb HRB
    go_wp2_with fail
    exact bodyPost_ret (v := .bool true) (by simp [results, Try.results4, go_sem]) rfl ⟨rfl, HB2.out⟩

theorem backlaw_any (text : ByteArray) (A : Option Addr) (c : Nat) (L : List Ed) (w : World) (htx : text.size ≤ maxLen) (hsl : Sl w w.heap.size A (L.flatMap Ed.cells)) (hlc : L.length ≤ c) (hc : c ≤ maxLen) (hok : ∀ e ∈ L, e.OK) (_ : L.length * 32 ≤ reachBytes) :
    Calls Try.prog 4 #[.string text, .slice A L.length c] w fun e w' => e = .returned (.bool true) ∧ Below w.heap.size w w' := by
  by_cases h : text.size ≤ 1048576
  · exact back_fits text A c L w h hsl (Nat.le_trans hlc hc) hok
  · exact back_long text A c L.length w htx (by omega)
end Go.Proofs.Ytjoeebjmjnddoaa
