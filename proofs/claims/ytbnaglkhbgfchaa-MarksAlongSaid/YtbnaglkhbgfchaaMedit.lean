/- package marks: Edit. -/
import Derived.Test.YtbnaglkhbgfchaaMedit0
import Derived.Deep.DeepCutAuto
import Derived.Deep.QuietTactic
namespace Go.Proofs.Ytbnaglkhbgfchaa
open Go.RowKit
set_option maxRecDepth 20000 in
set_option maxHeartbeats 32000000 in
theorem medit_any {w : World} {sb mb ck : Nat} {L : List EN} {last : Int} (h : SetAt w sb mb L ck last) (p d : Int) (s : ByteArray) (hp : 0 ≤ p ∧ p ≤ 9223372036854775807) (hd : 0 ≤ d ∧ d ≤ 9223372036854775807) (hsz : (s.size : Int) ≤ 1152921504606846976) (he : ∀ x ∈ L, x.st.e + s.size ≤ 1152921504606846976) :
    Calls Try.prog 15 #[.pointer (some ⟨sb, 0, none⟩), .agg #[.int .i64 p, .int .i64 d, .string s]] w fun e w' => e = .returned (.tuple #[]) ∧ SetAt w' sb mb (L.map (edE p d s.size)) ck last ∧ Stay [mb] w w' := by
  obtain ⟨k, hk⟩ : ∃ k : Int, k = s.size := ⟨_, rfl⟩
  rw [← hk] at he hsz ⊢
  have hk0 : 0 ≤ k := by omega
  obtain ⟨W1, hW1⟩ : ∃ W, W = w.alloc (.cells #[.int .i64 p, .int .i64 d, .string s] 37) := ⟨_, rfl⟩
  have hs1 : Stay [] w W1 := by rw [hW1]; exact Stay.alloc _ _
  have hbx : Blk W1 w.heap.size [.int .i64 p, .int .i64 d, .string s] 37 := by rw [hW1]; exact Blk.new w _ _
  have h1 := h.stay0 hs1
  have HFin := Lib.hid (show ∀ wr seen bx ib bl, EI w wr sb mb bx ib ck L last p d k bl seen → (∀ x ∈ L, seen.contains x.bn = true) → SetAt wr sb mb (L.map (edE p d k)) ck last ∧ Stay [mb] w wr from fun wr seen bx ib bl hE hall => by
    have hm := hE.m
    rw [upd_all hall] at hm
    refine ⟨⟨hE.blk, hm, fun x hx => ?_, fun x hx => ?_, h.l0⟩, hE.st⟩
    · obtain ⟨y, hy, rfl⟩ := List.mem_map.1 hx
      exact h.id y hy
    · obtain ⟨y, hy, rfl⟩ := List.mem_map.1 hx
      exact (edSt_ok (h.ok y hy) hp.1 hd.1 hk0 (he y hy)).1)
  have HL := Lib.hid (And.intro h.m.nb (And.intro h.m.ni (And.intro h.ok he)))
  have HBn := Lib.hid (show sb < w.heap.size ∧ mb < w.heap.size ∧ sb ≠ mb from ⟨h.blk.lt, h.m.lt_, h.m.noBlk h.blk⟩)
  have c0 : W1.cell? ⟨w.heap.size, 0, none⟩ = some (.int .i64 p) := hbx.cell 0
  have c1 : W1.cell? ⟨w.heap.size, 1, none⟩ = some (.int .i64 d) := hbx.cell 1
  have c2 : W1.cell? ⟨w.heap.size, 2, none⟩ = some (.string s) := hbx.cell 2
  have s0 : W1.cell? ⟨sb, 0, none⟩ = some (.map (some mb)) := h1.blk.cell 0
  obtain ⟨bx, hbxe⟩ : ∃ b, b = w.heap.size := ⟨_, rfl⟩
  rw [← hbxe] at hbx c0 c1 c2
  have HEI := Lib.hid (show ∀ W2, Stay [] W1 W2 → EI w (W2.alloc (.mapIter (some mb) ck #[] ck)) sb mb bx W2.heap.size ck L last p d k [.int .i64 p, .int .i64 d, .string s] #[] from fun W2 hs2 => by
    have h2 := h1.stay0 hs2
    have hs3 : Stay [] W2 (W2.alloc (.mapIter (some mb) ck #[] ck)) := ⟨rfl, rfl, rfl, by simp, fun i hi _ => heap_alloc_old W2 _ hi⟩
    exact ⟨by rw [updE_nil]; exact h2.m.stay hs3 (by simp), IterAt.new _ _ _, h2.blk.stay hs3 (by simp), (hbx.stay hs2 (by simp)).stay hs3 (by simp), ((hs1.trans hs2).trans hs3).mono (by simp), by rw [← hbxe]; exact Nat.le_trans (Nat.le_of_lt hbx.lt) hs2.size⟩)
  have HRg := Lib.hid (show ∀ W2, Stay [] W1 W2 → (Instr.range 59 (.map (some mb))).run Try.prog W2 = .ok (.pointer (some ⟨W2.heap.size, 0, none⟩)) (W2.alloc (.mapIter (some mb) ck #[] ck)) from fun W2 hs2 => range_run (h1.stay0 hs2).m)
  have HS0 := Lib.hid (show ∀ W2, Stay [] W1 W2 → W2.cell? ⟨sb, 0, none⟩ = some (.map (some mb)) from fun W2 hs2 => (h1.stay0 hs2).blk.cell 0)
  have hp0 := hp.1
  have hd0 := hd.1
  have q1 : ¬ p < 0 := by omega
  have q2 : ¬ d < 0 := by omega
  have HP := Lib.hid (And.intro hp hd)
  have HW1 := Lib.hid hW1
  have HKe := Lib.hid hk
  have HBe := Lib.hid hbxe
  have HD1 := Lib.hid (Stay.drew (F := []) W1)
  have HDN := Lib.hid (fun n => Stay.drewN (F := []) W1 n)
  clear h he hs1 hbx h1 hW1 hk hbxe hp hd
  go_enter Try.func15, Try.ntmps15
  go_upto_region 1 with fail
  rw [← HW1.out, ← HBe.out]
  go_upto_region 2 with fail
  go_cut [4, 5] (fun kv pv wx => kv = .int .i64 k ∧ pv = .int .i64 p ∧ Hid (Stay [] W1 wx))
  case first =>
    go_wp2_with fail
    go_quiet (fail)
    all_goals
      go_wp2_with fail
      go_meet
      first | exact ⟨by rw [HKe.out], rfl, HD1⟩ | exact ⟨by rw [HKe.out], rfl, Lib.hid (HDN.out _)⟩
  case rest =>
    obtain ⟨rfl, rfl, HSc⟩ := hcut
    obtain ⟨W2, hW2⟩ : ∃ x, x = wc := ⟨_, rfl⟩
    rw [← hW2] at HSc ⊢
    clear hW2 c0 c1 c2 s0
    have s0 := HS0.out W2 HSc.out
    have hrg := HRg.out W2 HSc.out
    have HE0 := Lib.hid (HEI.out W2 HSc.out)
    obtain ⟨ib, hib⟩ : ∃ b, b = W2.heap.size := ⟨_, rfl⟩
    rw [← hib] at hrg HE0
    clear hib HEI HRg HS0
    go_wp2_with fail
    go_loopw [6] (fun _ wr => ∃ seen : Array Nat, Hid (EI w wr sb mb bx ib ck L last p d k [.int .i64 p, .int .i64 d, .string s] seen)) (fun _ wr => leftN wr ib mb)
    case atStart => exact ⟨#[], HE0⟩
    case round =>
      clear HE0 s0 hrg
      obtain ⟨seen, HE⟩ := hrel
      rcases next_run 0 HE.out.m HE.out.i with ⟨hall, hnx⟩ | ⟨x', hx', hsn, w1, hnx, hst1, hit1⟩
      · have HF := Lib.hid (HFin.out wr seen _ _ _ HE.out (fun x hx => by
          have h9 := hall (updE p d k seen x) (List.mem_map.2 ⟨x, hx, rfl⟩)
          rw [updE_bn] at h9
          exact h9))
        clear hall
        go_wp2_with fail
        exact bodyPost_end (v := .tuple #[]) (by simp [results, Try.results15, go_sem]) rfl ⟨rfl, HF.out⟩
      · obtain ⟨x, hx, rfl⟩ := List.mem_map.1 hx'
        rw [updE_bn] at hsn hit1
        have hxe : updE p d k seen x = x := by unfold updE; rw [hsn]; rfl
        rw [hxe] at hx' hnx
        have hst := HE.out.stepped hst1 hit1
        have hen := entry_run hst.1 hx' hit1
        obtain ⟨id, ⟨xb, xe, xg, xs⟩, bn⟩ := x
        simp only [St.val] at hnx hen
        simp only at hsn hit1
        obtain ⟨w2, hw2⟩ : ∃ W, W = w1.alloc (.cells #[.int .i64 xb, .int .i64 xe, .bool xg, .int .u16 xs] 67) := ⟨_, rfl⟩
        have hs2 : Stay [] w1 w2 := by rw [hw2]; exact Stay.alloc _ _
        have hb7 : Blk w2 w1.heap.size [.int .i64 xb, .int .i64 xe, .bool xg, .int .u16 xs] 67 := by rw [hw2]; exact Blk.new w1 _ _
        obtain ⟨b7, hb7e⟩ : ∃ b, b = w1.heap.size := ⟨_, rfl⟩
        rw [← hb7e] at hb7
        have HXo := Lib.hid (show (⟨xb, xe, xg, xs⟩ : St).ok ∧ xe + k ≤ 1152921504606846976 from ⟨HL.out.2.2.1 _ hx, HL.out.2.2.2 _ hx⟩)
        obtain ⟨o0, o1, o2⟩ := HXo.out.1
        simp only at o0 o1 o2
        have o3 := HXo.out.2
        have HC1 := Lib.hid (fun u => cut_any xb p d u ⟨o0, by omega⟩ HP.out.1 HP.out.2)
        have HC2 := Lib.hid (fun u => cut_any xe p d u ⟨by omega, by omega⟩ HP.out.1 HP.out.2)
        have hbb := cutP_bounds (p := xb) (at_ := p) (del := d) o0 hp0 hd0
        have hbe := cutP_bounds (p := xe) (at_ := p) (del := d) (by omega) hp0 hd0
        have hbm := cutP_mono (at_ := p) (del := d) o1 hd0
        obtain ⟨yb, hyb⟩ : ∃ y, y = cutP xb p d := ⟨_, rfl⟩
        obtain ⟨ye, hye⟩ : ∃ y, y = cutP xe p d := ⟨_, rfl⟩
        rw [← hyb] at HC1 hbb hbm
        rw [← hye] at HC2 hbe hbm
        have HY := Lib.hid (And.intro hyb hye)
        have hw1' : IntKind.i64.wrap (yb + k) = yb + k := by simp only [IntKind.wrap, IntKind.bits, IntKind.signed]; simp; omega
        have hw2' : IntKind.i64.wrap (ye + k) = ye + k := by simp only [IntKind.wrap, IntKind.bits, IntKind.signed]; simp; omega
        have HM1 := Lib.hid (And.intro hst (And.intro hit1 (And.intro hst1 hst1.size)))
        have HX := Lib.hid (And.intro hx (And.intro hx' hsn))
        have HB7 := Lib.hid hb7
        have HS2 := Lib.hid hs2
        have HW2 := Lib.hid hw2
        have HB7e := Lib.hid hb7e
        have hb2 := hst.2.2.1.stay hs2 (by simp)
        have hbd : w2.drew.cell? ⟨bx, 1, none⟩ = some (.int .i64 d) := hb2.cell 1
        have HG1 := Lib.hid (show (w2.setCell ⟨b7, 0, none⟩ (.int .i64 yb)).drew.frozen? ⟨b7, 1, none⟩ = false from (hb7.set 0 (.int .i64 yb)).free 1)
        have HG2 := Lib.hid (show (w2.setCell ⟨b7, 0, none⟩ (.int .i64 yb)).drew.cell? ⟨b7, 1, none⟩ = some (.int .i64 xe) from (hb7.set 0 (.int .i64 yb)).cell 1)
        have hHeld : (fun w' : World => w'.cell? ⟨b7, 0, none⟩ = some (.int .i64 xb) ∧ w'.cell? ⟨b7, 1, none⟩ = some (.int .i64 xe) ∧ w'.cell? ⟨bx, 1, none⟩ = some (.int .i64 d)) w2.drew := ⟨hb7.cell 0, hb7.cell 1, hbd⟩
        have g0 : w2.drew.frozen? ⟨b7, 0, none⟩ = false := hb7.free 0
        have HHd := Lib.hid (And.intro hHeld g0)
        clear hx hx' hsn hst hit1 hst1 hw2 hs2 hb7 hb7e hb2 hbd hyb hye hHeld g0 hxe
        go_upto_region 6 with fail
        rw [← HB7e.out, ← HW2.out]
        have hHeld := HHd.out.1
        have g0 := HHd.out.2
        refine AnyN.begin_ (S := fun w' : World => w'.cell? ⟨b7, 0, none⟩ = some (.int .i64 xb) ∧ w'.cell? ⟨b7, 1, none⟩ = some (.int .i64 xe) ∧ w'.cell? ⟨bx, 1, none⟩ = some (.int .i64 d)) (N := [13, 14, 15]) (by kernel_rfl) ?_
        refine AnyN.take (i := 0) (v := ?_) [1, 5, 13, 14, 15] rfl (by kernel_rfl) (by kernel_rfl) (by kernel_rfl) (by kernel_rfl) (fun _ _ _ h => h) (Or.inl ⟨by rfl, ?_⟩) hHeld ?_
        rotate_left
        · intro w hSw
          obtain ⟨k0, k1, k2⟩ := hSw
          simp only [List.getElem_toArray, List.getElem_cons_zero]
          go_simp
          all_goals with_reducible rfl
        simp only [List.getElem_toArray, List.getElem_cons_zero, Act.put, List.setIfInBounds_toArray, List.set_cons_zero, List.set_cons_succ]
        refine AnyN.take (i := 1) (v := ?_) [5, 13, 14, 15] rfl (by kernel_rfl) (by kernel_rfl) (by kernel_rfl) (by kernel_rfl) (fun _ _ _ h => h) (Or.inl ⟨by rfl, ?_⟩) hHeld ?_
        rotate_left
        · intro w hSw
          obtain ⟨k0, k1, k2⟩ := hSw
          simp only [List.getElem_toArray, List.getElem_cons_zero, List.getElem_cons_succ]
          go_simp
          all_goals with_reducible rfl
        simp only [List.getElem_toArray, List.getElem_cons_zero, List.getElem_cons_succ, Act.put, List.setIfInBounds_toArray, List.set_cons_zero, List.set_cons_succ]
        refine AnyN.take (i := 2) (v := ?_) [5, 13, 14, 15] rfl (by kernel_rfl) (by kernel_rfl) (by kernel_rfl) (by kernel_rfl) (fun _ _ _ h => h) (Or.inl ⟨by rfl, ?_⟩) hHeld ?_
        rotate_left
        · intro w hSw
          obtain ⟨k0, k1, k2⟩ := hSw
          simp only [List.getElem_toArray, List.getElem_cons_zero, List.getElem_cons_succ]
          go_simp
          all_goals with_reducible rfl
        simp only [List.getElem_toArray, List.getElem_cons_zero, List.getElem_cons_succ, Act.put, List.setIfInBounds_toArray, List.set_cons_zero, List.set_cons_succ]
        refine AnyN.take (i := 3) (v := ?_) [4, 5, 13, 14, 15] rfl (by kernel_rfl) (by kernel_rfl) (by kernel_rfl) (by kernel_rfl) (fun _ _ _ h => h) (Or.inl ⟨by rfl, ?_⟩) hHeld ?_
        rotate_left
        · intro w hSw
          obtain ⟨k0, k1, k2⟩ := hSw
          simp only [List.getElem_toArray, List.getElem_cons_zero, List.getElem_cons_succ]
          go_simp
          all_goals with_reducible rfl
        simp only [List.getElem_toArray, List.getElem_cons_zero, List.getElem_cons_succ, Act.put, List.setIfInBounds_toArray, List.set_cons_zero, List.set_cons_succ]
        refine AnyN.take (i := 4) (v := ?_) [5, 13, 14, 15] rfl (by kernel_rfl) (by kernel_rfl) (by kernel_rfl) (by kernel_rfl) (fun _ _ _ h => h) (Or.inl ⟨by rfl, ?_⟩) hHeld ?_
        rotate_left
        · intro w hSw
          obtain ⟨k0, k1, k2⟩ := hSw
          simp only [List.getElem_toArray, List.getElem_cons_zero, List.getElem_cons_succ]
          go_simp
          all_goals with_reducible rfl
        simp only [List.getElem_toArray, List.getElem_cons_zero, List.getElem_cons_succ, Act.put, List.setIfInBounds_toArray, List.set_cons_zero, List.set_cons_succ]
        refine AnyN.take (i := 6) (v := ?_) [7, 11, 13, 14, 15] rfl (by kernel_rfl) (by kernel_rfl) (by kernel_rfl) (by kernel_rfl) (fun _ _ _ h => h) (Or.inl ⟨by rfl, ?_⟩) hHeld ?_
        rotate_left
        · intro w hSw
          obtain ⟨k0, k1, k2⟩ := hSw
          simp only [List.getElem_toArray, List.getElem_cons_zero, List.getElem_cons_succ]
          go_simp
          all_goals with_reducible rfl
        simp only [List.getElem_toArray, List.getElem_cons_zero, List.getElem_cons_succ, Act.put, List.setIfInBounds_toArray, List.set_cons_zero, List.set_cons_succ]
        refine AnyN.take (i := 7) (v := ?_) [11, 13, 14, 15] rfl (by kernel_rfl) (by kernel_rfl) (by kernel_rfl) (by kernel_rfl) (fun _ _ _ h => h) (Or.inl ⟨by rfl, ?_⟩) hHeld ?_
        rotate_left
        · intro w hSw
          obtain ⟨k0, k1, k2⟩ := hSw
          simp only [List.getElem_toArray, List.getElem_cons_zero, List.getElem_cons_succ]
          go_simp
          all_goals with_reducible rfl
        simp only [List.getElem_toArray, List.getElem_cons_zero, List.getElem_cons_succ, Act.put, List.setIfInBounds_toArray, List.set_cons_zero, List.set_cons_succ]
        refine AnyN.take (i := 8) (v := ?_) [11, 13, 14, 15] rfl (by kernel_rfl) (by kernel_rfl) (by kernel_rfl) (by kernel_rfl) (fun _ _ _ h => h) (Or.inl ⟨by rfl, ?_⟩) hHeld ?_
        rotate_left
        · intro w hSw
          obtain ⟨k0, k1, k2⟩ := hSw
          simp only [List.getElem_toArray, List.getElem_cons_zero, List.getElem_cons_succ]
          go_simp
          all_goals with_reducible rfl
        simp only [List.getElem_toArray, List.getElem_cons_zero, List.getElem_cons_succ, Act.put, List.setIfInBounds_toArray, List.set_cons_zero, List.set_cons_succ]
        refine AnyN.take (i := 9) (v := ?_) [10, 11, 13, 14, 15] rfl (by kernel_rfl) (by kernel_rfl) (by kernel_rfl) (by kernel_rfl) (fun _ _ _ h => h) (Or.inl ⟨by rfl, ?_⟩) hHeld ?_
        rotate_left
        · intro w hSw
          obtain ⟨k0, k1, k2⟩ := hSw
          simp only [List.getElem_toArray, List.getElem_cons_zero, List.getElem_cons_succ]
          go_simp
          all_goals with_reducible rfl
        simp only [List.getElem_toArray, List.getElem_cons_zero, List.getElem_cons_succ, Act.put, List.setIfInBounds_toArray, List.set_cons_zero, List.set_cons_succ]
        refine AnyN.take (i := 10) (v := ?_) [11, 13, 14, 15] rfl (by kernel_rfl) (by kernel_rfl) (by kernel_rfl) (by kernel_rfl) (fun _ _ _ h => h) (Or.inl ⟨by rfl, ?_⟩) hHeld ?_
        rotate_left
        · intro w hSw
          obtain ⟨k0, k1, k2⟩ := hSw
          simp only [List.getElem_toArray, List.getElem_cons_zero, List.getElem_cons_succ]
          go_simp
          all_goals with_reducible rfl
        simp only [List.getElem_toArray, List.getElem_cons_zero, List.getElem_cons_succ, Act.put, List.setIfInBounds_toArray, List.set_cons_zero, List.set_cons_succ]
        refine AnyN.next (i := 5) (by kernel_rfl) ?_
        refine wpOp_step rfl (fun K hK => ?_)
        have HK := Lib.hid hK
        clear hK
        simp only [List.getElem_toArray, List.getElem_cons_zero, List.getElem_cons_succ]
        rw [if_pos (by rfl)]
        go_simp
        refine (HC1.out _).mono ?_
        rintro e' w' ⟨rfl, rfl⟩
        refine HK.out _ _ ⟨.inr hHeld, ?_⟩
        clear HK K
        refine AnyN.take (i := 12) (v := ?_) [13, 14, 15] rfl (by kernel_rfl) (by kernel_rfl) (by kernel_rfl) (by kernel_rfl) (fun _ _ _ h => h) (Or.inl ⟨by rfl, ?_⟩) hHeld ?_
        rotate_left
        · intro w hSw
          obtain ⟨k0, k1, k2⟩ := hSw
          simp only [List.getElem_toArray, List.getElem_cons_zero, List.getElem_cons_succ]
          go_simp
          all_goals with_reducible rfl
        simp only [List.getElem_toArray, List.getElem_cons_zero, List.getElem_cons_succ, Act.put, List.setIfInBounds_toArray, List.set_cons_zero, List.set_cons_succ]
        refine AnyN.next (i := 11) (by kernel_rfl) ?_
        refine wpOp_step rfl (fun K hK => ?_)
        have HK := Lib.hid hK
        clear hK
        simp only [List.getElem_toArray, List.getElem_cons_zero, List.getElem_cons_succ]
        rw [if_pos (by rfl)]
        go_simp
        refine (HC2.out _).mono ?_
        rintro e' w' ⟨rfl, rfl⟩
        refine HK.out _ _ ⟨.inr hHeld, ?_⟩
        clear HK K
        refine AnyN.next (i := 13) (by kernel_rfl) ?_
        refine wpOp_step rfl (fun K hK => ?_)
        have HK := Lib.hid hK
        clear hK
        simp only [List.getElem_toArray, List.getElem_cons_zero, List.getElem_cons_succ]
        rw [if_pos (by rfl)]
        go_wp2_with fail
        refine HK.out _ _ ⟨.inl (by decide), ?_⟩
        clear HK K
        refine AnyN.next (i := 14) (by kernel_rfl) ?_
        refine wpOp_step rfl (fun K hK => ?_)
        have HK := Lib.hid hK
        clear hK
        simp only [List.getElem_toArray, List.getElem_cons_zero, List.getElem_cons_succ]
        rw [if_pos (by rfl)]
        go_simp
        refine HK.out _ _ ⟨.inl (by decide), ?_⟩
        clear HK K
        refine AnyN.next (i := 15) (by kernel_rfl) ?_
        refine wpOp_step rfl (fun K hK => ?_)
        have HK := Lib.hid hK
        clear hK
        simp only [List.getElem_toArray, List.getElem_cons_zero, List.getElem_cons_succ]
        rw [if_pos (by rfl)]
        have g1 := HG1.out
        have g2 := HG2.out
        go_wp2_with fail
        refine HK.out _ _ ⟨.inl (by decide), ?_⟩
        clear HK K
        refine AnyN.done (by kernel_rfl) ?_ _
        obtain ⟨w4, hw4⟩ : ∃ x, x = ((w2.setCell ⟨b7, 0, none⟩ (.int .i64 yb)).setCell ⟨b7, 1, none⟩ (.int .i64 ye)).drew := ⟨_, rfl⟩
        have hb4 : Blk w4 b7 [.int .i64 yb, .int .i64 ye, .bool xg, .int .u16 xs] 67 := by rw [hw4]; exact ((HB7.out.set 0 (.int .i64 yb)).set 1 (.int .i64 ye)).stay (F := []) (Stay.drew _) (by simp)
        have HS4 := Lib.hid (show Stay [b7] w1 w4 from by
          rw [hw4]
          exact (((HS2.out.mono (by simp)).trans (Stay.setCell _ _ _ (by simp))).trans (Stay.setCell _ _ _ (by simp))).trans ((Stay.drew _).mono (F := []) (by simp)))
        go_upto_region 7 with fail
        rw [← hw4]
        have m0 : w4.cell? ⟨b7, 0, none⟩ = some (.int .i64 yb) := hb4.cell 0
        have m1 : w4.cell? ⟨b7, 1, none⟩ = some (.int .i64 ye) := hb4.cell 1
        have m2 : w4.cell? ⟨b7, 2, none⟩ = some (.bool xg) := hb4.cell 2
        have n0 := hb4.free 0
        have n1 := hb4.free 1
        have HB4 := Lib.hid hb4
        clear hw4 hb4 HS2 HW2 HB7 HHd HG1 HG2 HC1 HC2
        have HN1 := Lib.hid HM1.out.2.2.1
        rcases Int.lt_trichotomy yb p with j1 | j1 | j1
        · have t0 : ¬ p < yb := by omega
          have t1 : decide (yb = p) = false := decide_eq_false (by omega)
          have t1' : ¬ yb = p := by omega
          rcases Int.lt_trichotomy ye p with j2 | j2 | j2
          · have t2 : ¬ p < ye := by omega
            have t3 : decide (ye = p) = false := decide_eq_false (by omega)
            have t3' : ¬ ye = p := by omega
            have hed : edSt p d k ⟨xb, xe, xg, xs⟩ = ⟨yb, ye, xg, xs⟩ := by
              unfold edSt
              simp only
              rw [← HY.out.1, ← HY.out.2]
              rw [if_neg (by omega), if_neg (by omega)]
            obtain ⟨w6, hw6⟩ : ∃ x, x = w4 := ⟨_, rfl⟩
            have hb6 : Blk w6 b7 [.int .i64 yb, .int .i64 ye, .bool xg, .int .u16 xs] 67 := by rw [hw6]; exact HB4.out
            have hs6 : Stay [b7] w1 w6.drew := by rw [hw6]; exact (HS4.out).trans ((Stay.drew _).mono (F := []) (by simp))
            obtain ⟨e1, e2, e3, e4⟩ := HE.out.done (x := ⟨id, ⟨xb, xe, xg, xs⟩, bn⟩) HL.out.1 HL.out.2.1 HN1.out HM1.out.2.1 HX.out.1 HX.out.2.2 hs6 (by rw [HB7e.out]; exact Nat.le_refl _)
            have hup := upd_there e1 HX.out.2.1 ⟨yb, ye, xg, xs⟩
            simp only [hed] at e3 e4
            simp only [St.val] at hup
            obtain ⟨w7, hw7⟩ : ∃ x, x = setO w6.drew mb (.map (((L.map (updE p d k seen)).map (putE id ⟨yb, ye, xg, xs⟩)).map EN.ent).toArray ck) := ⟨_, rfl⟩
            rw [← hw7] at hup e3 e4
            have HUp := Lib.hid hup
            have HE3 := Lib.hid e3
            have HE4 := Lib.hid e4
            have HHd := Lib.hid (show (fun w' : World => w'.cell? ⟨sb, 0, none⟩ = some (.map (some mb)) ∧ w'.cell? ⟨b7, 0, none⟩ = some (.int .i64 yb) ∧ w'.cell? ⟨b7, 1, none⟩ = some (.int .i64 ye) ∧ w'.cell? ⟨b7, 2, none⟩ = some (.bool xg) ∧ w'.cell? ⟨b7, 3, none⟩ = some (.int .u16 xs)) w6.drew from ⟨e2.cell 0, hb6.cell 0, hb6.cell 1, hb6.cell 2, hb6.cell 3⟩)
            have HW6 := Lib.hid hw6
            clear hed hw6 hb6 hs6 e1 e2 e3 e4 hup hw7
            go_upto_region 16 with fail
            rw [HW6.out] at HUp HHd
            have hHeld := HHd.out
            refine AnyN.begin_ (S := fun w' : World => w'.cell? ⟨sb, 0, none⟩ = some (.map (some mb)) ∧ w'.cell? ⟨b7, 0, none⟩ = some (.int .i64 yb) ∧ w'.cell? ⟨b7, 1, none⟩ = some (.int .i64 ye) ∧ w'.cell? ⟨b7, 2, none⟩ = some (.bool xg) ∧ w'.cell? ⟨b7, 3, none⟩ = some (.int .u16 xs)) (N := [6]) (by kernel_rfl) ?_
            refine AnyN.take (i := 0) (v := ?_) [1, 2, 3, 6] rfl (by kernel_rfl) (by kernel_rfl) (by kernel_rfl) (by kernel_rfl) (fun _ _ _ h => h) (Or.inl ⟨by rfl, ?_⟩) hHeld ?_
            rotate_left
            · intro w hSw
              obtain ⟨k0, k1, k2, k3, k4⟩ := hSw
              simp only [List.getElem_toArray, List.getElem_cons_zero]
              go_simp
              all_goals with_reducible rfl
            simp only [List.getElem_toArray, List.getElem_cons_zero, Act.put, List.setIfInBounds_toArray, List.set_cons_zero, List.set_cons_succ]
            refine AnyN.take (i := 1) (v := ?_) [2, 3, 6] rfl (by kernel_rfl) (by kernel_rfl) (by kernel_rfl) (by kernel_rfl) (fun _ _ _ h => h) (Or.inl ⟨by rfl, ?_⟩) hHeld ?_
            rotate_left
            · intro w hSw
              obtain ⟨k0, k1, k2, k3, k4⟩ := hSw
              simp only [List.getElem_toArray, List.getElem_cons_zero, List.getElem_cons_succ]
              go_simp
              all_goals with_reducible rfl
            simp only [List.getElem_toArray, List.getElem_cons_zero, List.getElem_cons_succ, Act.put, List.setIfInBounds_toArray, List.set_cons_zero, List.set_cons_succ]
            refine AnyN.take (i := 2) (v := ?_) [3, 6] rfl (by kernel_rfl) (by kernel_rfl) (by kernel_rfl) (by kernel_rfl) (fun _ _ _ h => h) (Or.inl ⟨by rfl, ?_⟩) hHeld ?_
            rotate_left
            · intro w hSw
              obtain ⟨k0, k1, k2, k3, k4⟩ := hSw
              simp only [List.getElem_toArray, List.getElem_cons_zero, List.getElem_cons_succ]
              go_simp
              all_goals with_reducible rfl
            simp only [List.getElem_toArray, List.getElem_cons_zero, List.getElem_cons_succ, Act.put, List.setIfInBounds_toArray, List.set_cons_zero, List.set_cons_succ]
            refine AnyN.take (i := 3) (v := ?_) [6] rfl (by kernel_rfl) (by kernel_rfl) (by kernel_rfl) (by kernel_rfl) (fun _ _ _ h => h) (Or.inl ⟨by rfl, ?_⟩) hHeld ?_
            rotate_left
            · intro w hSw
              obtain ⟨k0, k1, k2, k3, k4⟩ := hSw
              simp only [List.getElem_toArray, List.getElem_cons_zero, List.getElem_cons_succ]
              go_simp
              all_goals with_reducible rfl
            simp only [List.getElem_toArray, List.getElem_cons_zero, List.getElem_cons_succ, Act.put, List.setIfInBounds_toArray, List.set_cons_zero, List.set_cons_succ]
            refine AnyN.take (i := 4) (v := ?_) [6] rfl (by kernel_rfl) (by kernel_rfl) (by kernel_rfl) (by kernel_rfl) (fun _ _ _ h => h) (Or.inl ⟨by rfl, ?_⟩) hHeld ?_
            rotate_left
            · intro w hSw
              obtain ⟨k0, k1, k2, k3, k4⟩ := hSw
              simp only [List.getElem_toArray, List.getElem_cons_zero, List.getElem_cons_succ]
              go_simp
              all_goals with_reducible rfl
            simp only [List.getElem_toArray, List.getElem_cons_zero, List.getElem_cons_succ, Act.put, List.setIfInBounds_toArray, List.set_cons_zero, List.set_cons_succ]
            refine AnyN.take (i := 5) (v := ?_) [6] rfl (by kernel_rfl) (by kernel_rfl) (by kernel_rfl) (by kernel_rfl) (fun _ _ _ h => h) (Or.inl ⟨by rfl, ?_⟩) hHeld ?_
            rotate_left
            · intro w hSw
              obtain ⟨k0, k1, k2, k3, k4⟩ := hSw
              simp only [List.getElem_toArray, List.getElem_cons_zero, List.getElem_cons_succ]
              go_simp
              all_goals with_reducible rfl
            simp only [List.getElem_toArray, List.getElem_cons_zero, List.getElem_cons_succ, Act.put, List.setIfInBounds_toArray, List.set_cons_zero, List.set_cons_succ]
            refine AnyN.next (i := 6) (by kernel_rfl) ?_
            refine wpOp_step rfl (fun K hK => ?_)
            have HK := Lib.hid hK
            clear hK
            simp only [List.getElem_toArray, List.getElem_cons_zero, List.getElem_cons_succ]
            rw [if_pos (by rfl)]
            have hup := HUp.out
            go_wp2_with fail
            refine HK.out _ _ ⟨.inl (by decide), ?_⟩
            clear HK K
            refine AnyN.done (by kernel_rfl) ?_ _
            go_wp2_with fail
            go_roundw
            case rel => exact ⟨_, HE3⟩
            case measure => exact HE4.out
          · have j2' := j2.symm
            subst j2'
            have t2 : ¬ p < p := by omega
            cases xg with
            | false =>
              have hed : edSt p d k ⟨xb, xe, false, xs⟩ = ⟨yb, p, false, xs⟩ := by
                unfold edSt
                simp only
                rw [← HY.out.1, ← HY.out.2]
                rw [if_neg (by simp <;> omega), if_neg (by simp <;> omega)]
              obtain ⟨w6, hw6⟩ : ∃ x, x = w4 := ⟨_, rfl⟩
              have hb6 : Blk w6 b7 [.int .i64 yb, .int .i64 p, .bool false, .int .u16 xs] 67 := by rw [hw6]; exact HB4.out
              have hs6 : Stay [b7] w1 w6.drew := by rw [hw6]; exact (HS4.out).trans ((Stay.drew _).mono (F := []) (by simp))
              obtain ⟨e1, e2, e3, e4⟩ := HE.out.done (x := ⟨id, ⟨xb, xe, false, xs⟩, bn⟩) HL.out.1 HL.out.2.1 HN1.out HM1.out.2.1 HX.out.1 HX.out.2.2 hs6 (by rw [HB7e.out]; exact Nat.le_refl _)
              have hup := upd_there e1 HX.out.2.1 ⟨yb, p, false, xs⟩
              simp only [hed] at e3 e4
              simp only [St.val] at hup
              obtain ⟨w7, hw7⟩ : ∃ x, x = setO w6.drew mb (.map (((L.map (updE p d k seen)).map (putE id ⟨yb, p, false, xs⟩)).map EN.ent).toArray ck) := ⟨_, rfl⟩
              rw [← hw7] at hup e3 e4
              have HUp := Lib.hid hup
              have HE3 := Lib.hid e3
              have HE4 := Lib.hid e4
              have HHd := Lib.hid (show (fun w' : World => w'.cell? ⟨sb, 0, none⟩ = some (.map (some mb)) ∧ w'.cell? ⟨b7, 0, none⟩ = some (.int .i64 yb) ∧ w'.cell? ⟨b7, 1, none⟩ = some (.int .i64 p) ∧ w'.cell? ⟨b7, 2, none⟩ = some (.bool false) ∧ w'.cell? ⟨b7, 3, none⟩ = some (.int .u16 xs)) w6.drew from ⟨e2.cell 0, hb6.cell 0, hb6.cell 1, hb6.cell 2, hb6.cell 3⟩)
              have HW6 := Lib.hid hw6
              clear hed hw6 hb6 hs6 e1 e2 e3 e4 hup hw7
              go_upto_region 16 with fail
              rw [HW6.out] at HUp HHd
              have hHeld := HHd.out
              refine AnyN.begin_ (S := fun w' : World => w'.cell? ⟨sb, 0, none⟩ = some (.map (some mb)) ∧ w'.cell? ⟨b7, 0, none⟩ = some (.int .i64 yb) ∧ w'.cell? ⟨b7, 1, none⟩ = some (.int .i64 p) ∧ w'.cell? ⟨b7, 2, none⟩ = some (.bool false) ∧ w'.cell? ⟨b7, 3, none⟩ = some (.int .u16 xs)) (N := [6]) (by kernel_rfl) ?_
              refine AnyN.take (i := 0) (v := ?_) [1, 2, 3, 6] rfl (by kernel_rfl) (by kernel_rfl) (by kernel_rfl) (by kernel_rfl) (fun _ _ _ h => h) (Or.inl ⟨by rfl, ?_⟩) hHeld ?_
              rotate_left
              · intro w hSw
                obtain ⟨k0, k1, k2, k3, k4⟩ := hSw
                simp only [List.getElem_toArray, List.getElem_cons_zero]
                go_simp
                all_goals with_reducible rfl
              simp only [List.getElem_toArray, List.getElem_cons_zero, Act.put, List.setIfInBounds_toArray, List.set_cons_zero, List.set_cons_succ]
              refine AnyN.take (i := 1) (v := ?_) [2, 3, 6] rfl (by kernel_rfl) (by kernel_rfl) (by kernel_rfl) (by kernel_rfl) (fun _ _ _ h => h) (Or.inl ⟨by rfl, ?_⟩) hHeld ?_
              rotate_left
              · intro w hSw
                obtain ⟨k0, k1, k2, k3, k4⟩ := hSw
                simp only [List.getElem_toArray, List.getElem_cons_zero, List.getElem_cons_succ]
                go_simp
                all_goals with_reducible rfl
              simp only [List.getElem_toArray, List.getElem_cons_zero, List.getElem_cons_succ, Act.put, List.setIfInBounds_toArray, List.set_cons_zero, List.set_cons_succ]
              refine AnyN.take (i := 2) (v := ?_) [3, 6] rfl (by kernel_rfl) (by kernel_rfl) (by kernel_rfl) (by kernel_rfl) (fun _ _ _ h => h) (Or.inl ⟨by rfl, ?_⟩) hHeld ?_
              rotate_left
              · intro w hSw
                obtain ⟨k0, k1, k2, k3, k4⟩ := hSw
                simp only [List.getElem_toArray, List.getElem_cons_zero, List.getElem_cons_succ]
                go_simp
                all_goals with_reducible rfl
              simp only [List.getElem_toArray, List.getElem_cons_zero, List.getElem_cons_succ, Act.put, List.setIfInBounds_toArray, List.set_cons_zero, List.set_cons_succ]
              refine AnyN.take (i := 3) (v := ?_) [6] rfl (by kernel_rfl) (by kernel_rfl) (by kernel_rfl) (by kernel_rfl) (fun _ _ _ h => h) (Or.inl ⟨by rfl, ?_⟩) hHeld ?_
              rotate_left
              · intro w hSw
                obtain ⟨k0, k1, k2, k3, k4⟩ := hSw
                simp only [List.getElem_toArray, List.getElem_cons_zero, List.getElem_cons_succ]
                go_simp
                all_goals with_reducible rfl
              simp only [List.getElem_toArray, List.getElem_cons_zero, List.getElem_cons_succ, Act.put, List.setIfInBounds_toArray, List.set_cons_zero, List.set_cons_succ]
              refine AnyN.take (i := 4) (v := ?_) [6] rfl (by kernel_rfl) (by kernel_rfl) (by kernel_rfl) (by kernel_rfl) (fun _ _ _ h => h) (Or.inl ⟨by rfl, ?_⟩) hHeld ?_
              rotate_left
              · intro w hSw
                obtain ⟨k0, k1, k2, k3, k4⟩ := hSw
                simp only [List.getElem_toArray, List.getElem_cons_zero, List.getElem_cons_succ]
                go_simp
                all_goals with_reducible rfl
              simp only [List.getElem_toArray, List.getElem_cons_zero, List.getElem_cons_succ, Act.put, List.setIfInBounds_toArray, List.set_cons_zero, List.set_cons_succ]
              refine AnyN.take (i := 5) (v := ?_) [6] rfl (by kernel_rfl) (by kernel_rfl) (by kernel_rfl) (by kernel_rfl) (fun _ _ _ h => h) (Or.inl ⟨by rfl, ?_⟩) hHeld ?_
              rotate_left
              · intro w hSw
                obtain ⟨k0, k1, k2, k3, k4⟩ := hSw
                simp only [List.getElem_toArray, List.getElem_cons_zero, List.getElem_cons_succ]
                go_simp
                all_goals with_reducible rfl
              simp only [List.getElem_toArray, List.getElem_cons_zero, List.getElem_cons_succ, Act.put, List.setIfInBounds_toArray, List.set_cons_zero, List.set_cons_succ]
              refine AnyN.next (i := 6) (by kernel_rfl) ?_
              refine wpOp_step rfl (fun K hK => ?_)
              have HK := Lib.hid hK
              clear hK
              simp only [List.getElem_toArray, List.getElem_cons_zero, List.getElem_cons_succ]
              rw [if_pos (by rfl)]
              have hup := HUp.out
              go_wp2_with fail
              refine HK.out _ _ ⟨.inl (by decide), ?_⟩
              clear HK K
              refine AnyN.done (by kernel_rfl) ?_ _
              go_wp2_with fail
              go_roundw
              case rel => exact ⟨_, HE3⟩
              case measure => exact HE4.out
            | true =>
              have hed : edSt p d k ⟨xb, xe, true, xs⟩ = ⟨yb, (p + k), true, xs⟩ := by
                unfold edSt
                simp only
                rw [← HY.out.1, ← HY.out.2]
                rw [if_neg (by simp <;> omega), if_pos (by simp <;> omega)]
              obtain ⟨w6, hw6⟩ : ∃ x, x = w4.setCell ⟨b7, 1, none⟩ (.int .i64 (p + k)) := ⟨_, rfl⟩
              have hb6 : Blk w6 b7 [.int .i64 yb, .int .i64 (p + k), .bool true, .int .u16 xs] 67 := by rw [hw6]; exact HB4.out.set 1 (.int .i64 (p + k))
              have hs6 : Stay [b7] w1 w6.drew := by rw [hw6]; exact (HS4.out.trans (Stay.setCell _ _ _ (by simp))).trans ((Stay.drew _).mono (F := []) (by simp))
              obtain ⟨e1, e2, e3, e4⟩ := HE.out.done (x := ⟨id, ⟨xb, xe, true, xs⟩, bn⟩) HL.out.1 HL.out.2.1 HN1.out HM1.out.2.1 HX.out.1 HX.out.2.2 hs6 (by rw [HB7e.out]; exact Nat.le_refl _)
              have hup := upd_there e1 HX.out.2.1 ⟨yb, (p + k), true, xs⟩
              simp only [hed] at e3 e4
              simp only [St.val] at hup
              obtain ⟨w7, hw7⟩ : ∃ x, x = setO w6.drew mb (.map (((L.map (updE p d k seen)).map (putE id ⟨yb, (p + k), true, xs⟩)).map EN.ent).toArray ck) := ⟨_, rfl⟩
              rw [← hw7] at hup e3 e4
              have HUp := Lib.hid hup
              have HE3 := Lib.hid e3
              have HE4 := Lib.hid e4
              have HHd := Lib.hid (show (fun w' : World => w'.cell? ⟨sb, 0, none⟩ = some (.map (some mb)) ∧ w'.cell? ⟨b7, 0, none⟩ = some (.int .i64 yb) ∧ w'.cell? ⟨b7, 1, none⟩ = some (.int .i64 (p + k)) ∧ w'.cell? ⟨b7, 2, none⟩ = some (.bool true) ∧ w'.cell? ⟨b7, 3, none⟩ = some (.int .u16 xs)) w6.drew from ⟨e2.cell 0, hb6.cell 0, hb6.cell 1, hb6.cell 2, hb6.cell 3⟩)
              have HW6 := Lib.hid hw6
              clear hed hw6 hb6 hs6 e1 e2 e3 e4 hup hw7
              go_upto_region 16 with fail
              rw [← HW6.out]
              have hHeld := HHd.out
              refine AnyN.begin_ (S := fun w' : World => w'.cell? ⟨sb, 0, none⟩ = some (.map (some mb)) ∧ w'.cell? ⟨b7, 0, none⟩ = some (.int .i64 yb) ∧ w'.cell? ⟨b7, 1, none⟩ = some (.int .i64 (p + k)) ∧ w'.cell? ⟨b7, 2, none⟩ = some (.bool true) ∧ w'.cell? ⟨b7, 3, none⟩ = some (.int .u16 xs)) (N := [6]) (by kernel_rfl) ?_
              refine AnyN.take (i := 0) (v := ?_) [1, 2, 3, 6] rfl (by kernel_rfl) (by kernel_rfl) (by kernel_rfl) (by kernel_rfl) (fun _ _ _ h => h) (Or.inl ⟨by rfl, ?_⟩) hHeld ?_
              rotate_left
              · intro w hSw
                obtain ⟨k0, k1, k2, k3, k4⟩ := hSw
                simp only [List.getElem_toArray, List.getElem_cons_zero]
                go_simp
                all_goals with_reducible rfl
              simp only [List.getElem_toArray, List.getElem_cons_zero, Act.put, List.setIfInBounds_toArray, List.set_cons_zero, List.set_cons_succ]
              refine AnyN.take (i := 1) (v := ?_) [2, 3, 6] rfl (by kernel_rfl) (by kernel_rfl) (by kernel_rfl) (by kernel_rfl) (fun _ _ _ h => h) (Or.inl ⟨by rfl, ?_⟩) hHeld ?_
              rotate_left
              · intro w hSw
                obtain ⟨k0, k1, k2, k3, k4⟩ := hSw
                simp only [List.getElem_toArray, List.getElem_cons_zero, List.getElem_cons_succ]
                go_simp
                all_goals with_reducible rfl
              simp only [List.getElem_toArray, List.getElem_cons_zero, List.getElem_cons_succ, Act.put, List.setIfInBounds_toArray, List.set_cons_zero, List.set_cons_succ]
              refine AnyN.take (i := 2) (v := ?_) [3, 6] rfl (by kernel_rfl) (by kernel_rfl) (by kernel_rfl) (by kernel_rfl) (fun _ _ _ h => h) (Or.inl ⟨by rfl, ?_⟩) hHeld ?_
              rotate_left
              · intro w hSw
                obtain ⟨k0, k1, k2, k3, k4⟩ := hSw
                simp only [List.getElem_toArray, List.getElem_cons_zero, List.getElem_cons_succ]
                go_simp
                all_goals with_reducible rfl
              simp only [List.getElem_toArray, List.getElem_cons_zero, List.getElem_cons_succ, Act.put, List.setIfInBounds_toArray, List.set_cons_zero, List.set_cons_succ]
              refine AnyN.take (i := 3) (v := ?_) [6] rfl (by kernel_rfl) (by kernel_rfl) (by kernel_rfl) (by kernel_rfl) (fun _ _ _ h => h) (Or.inl ⟨by rfl, ?_⟩) hHeld ?_
              rotate_left
              · intro w hSw
                obtain ⟨k0, k1, k2, k3, k4⟩ := hSw
                simp only [List.getElem_toArray, List.getElem_cons_zero, List.getElem_cons_succ]
                go_simp
                all_goals with_reducible rfl
              simp only [List.getElem_toArray, List.getElem_cons_zero, List.getElem_cons_succ, Act.put, List.setIfInBounds_toArray, List.set_cons_zero, List.set_cons_succ]
              refine AnyN.take (i := 4) (v := ?_) [6] rfl (by kernel_rfl) (by kernel_rfl) (by kernel_rfl) (by kernel_rfl) (fun _ _ _ h => h) (Or.inl ⟨by rfl, ?_⟩) hHeld ?_
              rotate_left
              · intro w hSw
                obtain ⟨k0, k1, k2, k3, k4⟩ := hSw
                simp only [List.getElem_toArray, List.getElem_cons_zero, List.getElem_cons_succ]
                go_simp
                all_goals with_reducible rfl
              simp only [List.getElem_toArray, List.getElem_cons_zero, List.getElem_cons_succ, Act.put, List.setIfInBounds_toArray, List.set_cons_zero, List.set_cons_succ]
              refine AnyN.take (i := 5) (v := ?_) [6] rfl (by kernel_rfl) (by kernel_rfl) (by kernel_rfl) (by kernel_rfl) (fun _ _ _ h => h) (Or.inl ⟨by rfl, ?_⟩) hHeld ?_
              rotate_left
              · intro w hSw
                obtain ⟨k0, k1, k2, k3, k4⟩ := hSw
                simp only [List.getElem_toArray, List.getElem_cons_zero, List.getElem_cons_succ]
                go_simp
                all_goals with_reducible rfl
              simp only [List.getElem_toArray, List.getElem_cons_zero, List.getElem_cons_succ, Act.put, List.setIfInBounds_toArray, List.set_cons_zero, List.set_cons_succ]
              refine AnyN.next (i := 6) (by kernel_rfl) ?_
              refine wpOp_step rfl (fun K hK => ?_)
              have HK := Lib.hid hK
              clear hK
              simp only [List.getElem_toArray, List.getElem_cons_zero, List.getElem_cons_succ]
              rw [if_pos (by rfl)]
              have hup := HUp.out
              go_wp2_with fail
              refine HK.out _ _ ⟨.inl (by decide), ?_⟩
              clear HK K
              refine AnyN.done (by kernel_rfl) ?_ _
              go_wp2_with fail
              go_roundw
              case rel => exact ⟨_, HE3⟩
              case measure => exact HE4.out
          · have hed : edSt p d k ⟨xb, xe, xg, xs⟩ = ⟨yb, (ye + k), xg, xs⟩ := by
              unfold edSt
              simp only
              rw [← HY.out.1, ← HY.out.2]
              rw [if_neg (by omega), if_pos (by omega)]
            obtain ⟨w6, hw6⟩ : ∃ x, x = w4.setCell ⟨b7, 1, none⟩ (.int .i64 (ye + k)) := ⟨_, rfl⟩
            have hb6 : Blk w6 b7 [.int .i64 yb, .int .i64 (ye + k), .bool xg, .int .u16 xs] 67 := by rw [hw6]; exact HB4.out.set 1 (.int .i64 (ye + k))
            have hs6 : Stay [b7] w1 w6.drew := by rw [hw6]; exact (HS4.out.trans (Stay.setCell _ _ _ (by simp))).trans ((Stay.drew _).mono (F := []) (by simp))
            obtain ⟨e1, e2, e3, e4⟩ := HE.out.done (x := ⟨id, ⟨xb, xe, xg, xs⟩, bn⟩) HL.out.1 HL.out.2.1 HN1.out HM1.out.2.1 HX.out.1 HX.out.2.2 hs6 (by rw [HB7e.out]; exact Nat.le_refl _)
            have hup := upd_there e1 HX.out.2.1 ⟨yb, (ye + k), xg, xs⟩
            simp only [hed] at e3 e4
            simp only [St.val] at hup
            obtain ⟨w7, hw7⟩ : ∃ x, x = setO w6.drew mb (.map (((L.map (updE p d k seen)).map (putE id ⟨yb, (ye + k), xg, xs⟩)).map EN.ent).toArray ck) := ⟨_, rfl⟩
            rw [← hw7] at hup e3 e4
            have HUp := Lib.hid hup
            have HE3 := Lib.hid e3
            have HE4 := Lib.hid e4
            have HHd := Lib.hid (show (fun w' : World => w'.cell? ⟨sb, 0, none⟩ = some (.map (some mb)) ∧ w'.cell? ⟨b7, 0, none⟩ = some (.int .i64 yb) ∧ w'.cell? ⟨b7, 1, none⟩ = some (.int .i64 (ye + k)) ∧ w'.cell? ⟨b7, 2, none⟩ = some (.bool xg) ∧ w'.cell? ⟨b7, 3, none⟩ = some (.int .u16 xs)) w6.drew from ⟨e2.cell 0, hb6.cell 0, hb6.cell 1, hb6.cell 2, hb6.cell 3⟩)
            have HW6 := Lib.hid hw6
            clear hed hw6 hb6 hs6 e1 e2 e3 e4 hup hw7
            go_upto_region 16 with fail
            rw [← HW6.out]
            have hHeld := HHd.out
            refine AnyN.begin_ (S := fun w' : World => w'.cell? ⟨sb, 0, none⟩ = some (.map (some mb)) ∧ w'.cell? ⟨b7, 0, none⟩ = some (.int .i64 yb) ∧ w'.cell? ⟨b7, 1, none⟩ = some (.int .i64 (ye + k)) ∧ w'.cell? ⟨b7, 2, none⟩ = some (.bool xg) ∧ w'.cell? ⟨b7, 3, none⟩ = some (.int .u16 xs)) (N := [6]) (by kernel_rfl) ?_
            refine AnyN.take (i := 0) (v := ?_) [1, 2, 3, 6] rfl (by kernel_rfl) (by kernel_rfl) (by kernel_rfl) (by kernel_rfl) (fun _ _ _ h => h) (Or.inl ⟨by rfl, ?_⟩) hHeld ?_
            rotate_left
            · intro w hSw
              obtain ⟨k0, k1, k2, k3, k4⟩ := hSw
              simp only [List.getElem_toArray, List.getElem_cons_zero]
              go_simp
              all_goals with_reducible rfl
            simp only [List.getElem_toArray, List.getElem_cons_zero, Act.put, List.setIfInBounds_toArray, List.set_cons_zero, List.set_cons_succ]
            refine AnyN.take (i := 1) (v := ?_) [2, 3, 6] rfl (by kernel_rfl) (by kernel_rfl) (by kernel_rfl) (by kernel_rfl) (fun _ _ _ h => h) (Or.inl ⟨by rfl, ?_⟩) hHeld ?_
            rotate_left
            · intro w hSw
              obtain ⟨k0, k1, k2, k3, k4⟩ := hSw
              simp only [List.getElem_toArray, List.getElem_cons_zero, List.getElem_cons_succ]
              go_simp
              all_goals with_reducible rfl
            simp only [List.getElem_toArray, List.getElem_cons_zero, List.getElem_cons_succ, Act.put, List.setIfInBounds_toArray, List.set_cons_zero, List.set_cons_succ]
            refine AnyN.take (i := 2) (v := ?_) [3, 6] rfl (by kernel_rfl) (by kernel_rfl) (by kernel_rfl) (by kernel_rfl) (fun _ _ _ h => h) (Or.inl ⟨by rfl, ?_⟩) hHeld ?_
            rotate_left
            · intro w hSw
              obtain ⟨k0, k1, k2, k3, k4⟩ := hSw
              simp only [List.getElem_toArray, List.getElem_cons_zero, List.getElem_cons_succ]
              go_simp
              all_goals with_reducible rfl
            simp only [List.getElem_toArray, List.getElem_cons_zero, List.getElem_cons_succ, Act.put, List.setIfInBounds_toArray, List.set_cons_zero, List.set_cons_succ]
            refine AnyN.take (i := 3) (v := ?_) [6] rfl (by kernel_rfl) (by kernel_rfl) (by kernel_rfl) (by kernel_rfl) (fun _ _ _ h => h) (Or.inl ⟨by rfl, ?_⟩) hHeld ?_
            rotate_left
            · intro w hSw
              obtain ⟨k0, k1, k2, k3, k4⟩ := hSw
              simp only [List.getElem_toArray, List.getElem_cons_zero, List.getElem_cons_succ]
              go_simp
              all_goals with_reducible rfl
            simp only [List.getElem_toArray, List.getElem_cons_zero, List.getElem_cons_succ, Act.put, List.setIfInBounds_toArray, List.set_cons_zero, List.set_cons_succ]
            refine AnyN.take (i := 4) (v := ?_) [6] rfl (by kernel_rfl) (by kernel_rfl) (by kernel_rfl) (by kernel_rfl) (fun _ _ _ h => h) (Or.inl ⟨by rfl, ?_⟩) hHeld ?_
            rotate_left
            · intro w hSw
              obtain ⟨k0, k1, k2, k3, k4⟩ := hSw
              simp only [List.getElem_toArray, List.getElem_cons_zero, List.getElem_cons_succ]
              go_simp
              all_goals with_reducible rfl
            simp only [List.getElem_toArray, List.getElem_cons_zero, List.getElem_cons_succ, Act.put, List.setIfInBounds_toArray, List.set_cons_zero, List.set_cons_succ]
            refine AnyN.take (i := 5) (v := ?_) [6] rfl (by kernel_rfl) (by kernel_rfl) (by kernel_rfl) (by kernel_rfl) (fun _ _ _ h => h) (Or.inl ⟨by rfl, ?_⟩) hHeld ?_
            rotate_left
            · intro w hSw
              obtain ⟨k0, k1, k2, k3, k4⟩ := hSw
              simp only [List.getElem_toArray, List.getElem_cons_zero, List.getElem_cons_succ]
              go_simp
              all_goals with_reducible rfl
            simp only [List.getElem_toArray, List.getElem_cons_zero, List.getElem_cons_succ, Act.put, List.setIfInBounds_toArray, List.set_cons_zero, List.set_cons_succ]
            refine AnyN.next (i := 6) (by kernel_rfl) ?_
            refine wpOp_step rfl (fun K hK => ?_)
            have HK := Lib.hid hK
            clear hK
            simp only [List.getElem_toArray, List.getElem_cons_zero, List.getElem_cons_succ]
            rw [if_pos (by rfl)]
            have hup := HUp.out
            go_wp2_with fail
            refine HK.out _ _ ⟨.inl (by decide), ?_⟩
            clear HK K
            refine AnyN.done (by kernel_rfl) ?_ _
            go_wp2_with fail
            go_roundw
            case rel => exact ⟨_, HE3⟩
            case measure => exact HE4.out
        · have j1' := j1.symm
          subst j1'
          have t1 : ¬ p < p := by omega
          rcases Int.lt_trichotomy ye p with j2 | j2 | j2
          · exact absurd j2 (by omega)
          · have j2' := j2.symm
            subst j2'
            cases xg with
            | false =>
              have hed : edSt p d k ⟨xb, xe, false, xs⟩ = ⟨p, p, false, xs⟩ := by
                unfold edSt
                simp only
                rw [← HY.out.1, ← HY.out.2]
                rw [if_neg (by simp), if_neg (by simp)]
              obtain ⟨w6, hw6⟩ : ∃ x, x = w4 := ⟨_, rfl⟩
              have hb6 : Blk w6 b7 [.int .i64 p, .int .i64 p, .bool false, .int .u16 xs] 67 := by rw [hw6]; exact HB4.out
              have hs6 : Stay [b7] w1 w6.drew := by rw [hw6]; exact (HS4.out).trans ((Stay.drew _).mono (F := []) (by simp))
              obtain ⟨e1, e2, e3, e4⟩ := HE.out.done (x := ⟨id, ⟨xb, xe, false, xs⟩, bn⟩) HL.out.1 HL.out.2.1 HN1.out HM1.out.2.1 HX.out.1 HX.out.2.2 hs6 (by rw [HB7e.out]; exact Nat.le_refl _)
              have hup := upd_there e1 HX.out.2.1 ⟨p, p, false, xs⟩
              simp only [hed] at e3 e4
              simp only [St.val] at hup
              obtain ⟨w7, hw7⟩ : ∃ x, x = setO w6.drew mb (.map (((L.map (updE p d k seen)).map (putE id ⟨p, p, false, xs⟩)).map EN.ent).toArray ck) := ⟨_, rfl⟩
              rw [← hw7] at hup e3 e4
              have HUp := Lib.hid hup
              have HE3 := Lib.hid e3
              have HE4 := Lib.hid e4
              have HHd := Lib.hid (show (fun w' : World => w'.cell? ⟨sb, 0, none⟩ = some (.map (some mb)) ∧ w'.cell? ⟨b7, 0, none⟩ = some (.int .i64 p) ∧ w'.cell? ⟨b7, 1, none⟩ = some (.int .i64 p) ∧ w'.cell? ⟨b7, 2, none⟩ = some (.bool false) ∧ w'.cell? ⟨b7, 3, none⟩ = some (.int .u16 xs)) w6.drew from ⟨e2.cell 0, hb6.cell 0, hb6.cell 1, hb6.cell 2, hb6.cell 3⟩)
              have HW6 := Lib.hid hw6
              clear hed hw6 hb6 hs6 e1 e2 e3 e4 hup hw7
              go_upto_region 16 with fail
              rw [HW6.out] at HUp HHd
              have hHeld := HHd.out
              refine AnyN.begin_ (S := fun w' : World => w'.cell? ⟨sb, 0, none⟩ = some (.map (some mb)) ∧ w'.cell? ⟨b7, 0, none⟩ = some (.int .i64 p) ∧ w'.cell? ⟨b7, 1, none⟩ = some (.int .i64 p) ∧ w'.cell? ⟨b7, 2, none⟩ = some (.bool false) ∧ w'.cell? ⟨b7, 3, none⟩ = some (.int .u16 xs)) (N := [6]) (by kernel_rfl) ?_
              refine AnyN.take (i := 0) (v := ?_) [1, 2, 3, 6] rfl (by kernel_rfl) (by kernel_rfl) (by kernel_rfl) (by kernel_rfl) (fun _ _ _ h => h) (Or.inl ⟨by rfl, ?_⟩) hHeld ?_
              rotate_left
              · intro w hSw
                obtain ⟨k0, k1, k2, k3, k4⟩ := hSw
                simp only [List.getElem_toArray, List.getElem_cons_zero]
                go_simp
                all_goals with_reducible rfl
              simp only [List.getElem_toArray, List.getElem_cons_zero, Act.put, List.setIfInBounds_toArray, List.set_cons_zero, List.set_cons_succ]
              refine AnyN.take (i := 1) (v := ?_) [2, 3, 6] rfl (by kernel_rfl) (by kernel_rfl) (by kernel_rfl) (by kernel_rfl) (fun _ _ _ h => h) (Or.inl ⟨by rfl, ?_⟩) hHeld ?_
              rotate_left
              · intro w hSw
                obtain ⟨k0, k1, k2, k3, k4⟩ := hSw
                simp only [List.getElem_toArray, List.getElem_cons_zero, List.getElem_cons_succ]
                go_simp
                all_goals with_reducible rfl
              simp only [List.getElem_toArray, List.getElem_cons_zero, List.getElem_cons_succ, Act.put, List.setIfInBounds_toArray, List.set_cons_zero, List.set_cons_succ]
              refine AnyN.take (i := 2) (v := ?_) [3, 6] rfl (by kernel_rfl) (by kernel_rfl) (by kernel_rfl) (by kernel_rfl) (fun _ _ _ h => h) (Or.inl ⟨by rfl, ?_⟩) hHeld ?_
              rotate_left
              · intro w hSw
                obtain ⟨k0, k1, k2, k3, k4⟩ := hSw
                simp only [List.getElem_toArray, List.getElem_cons_zero, List.getElem_cons_succ]
                go_simp
                all_goals with_reducible rfl
              simp only [List.getElem_toArray, List.getElem_cons_zero, List.getElem_cons_succ, Act.put, List.setIfInBounds_toArray, List.set_cons_zero, List.set_cons_succ]
              refine AnyN.take (i := 3) (v := ?_) [6] rfl (by kernel_rfl) (by kernel_rfl) (by kernel_rfl) (by kernel_rfl) (fun _ _ _ h => h) (Or.inl ⟨by rfl, ?_⟩) hHeld ?_
              rotate_left
              · intro w hSw
                obtain ⟨k0, k1, k2, k3, k4⟩ := hSw
                simp only [List.getElem_toArray, List.getElem_cons_zero, List.getElem_cons_succ]
                go_simp
                all_goals with_reducible rfl
              simp only [List.getElem_toArray, List.getElem_cons_zero, List.getElem_cons_succ, Act.put, List.setIfInBounds_toArray, List.set_cons_zero, List.set_cons_succ]
              refine AnyN.take (i := 4) (v := ?_) [6] rfl (by kernel_rfl) (by kernel_rfl) (by kernel_rfl) (by kernel_rfl) (fun _ _ _ h => h) (Or.inl ⟨by rfl, ?_⟩) hHeld ?_
              rotate_left
              · intro w hSw
                obtain ⟨k0, k1, k2, k3, k4⟩ := hSw
                simp only [List.getElem_toArray, List.getElem_cons_zero, List.getElem_cons_succ]
                go_simp
                all_goals with_reducible rfl
              simp only [List.getElem_toArray, List.getElem_cons_zero, List.getElem_cons_succ, Act.put, List.setIfInBounds_toArray, List.set_cons_zero, List.set_cons_succ]
              refine AnyN.take (i := 5) (v := ?_) [6] rfl (by kernel_rfl) (by kernel_rfl) (by kernel_rfl) (by kernel_rfl) (fun _ _ _ h => h) (Or.inl ⟨by rfl, ?_⟩) hHeld ?_
              rotate_left
              · intro w hSw
                obtain ⟨k0, k1, k2, k3, k4⟩ := hSw
                simp only [List.getElem_toArray, List.getElem_cons_zero, List.getElem_cons_succ]
                go_simp
                all_goals with_reducible rfl
              simp only [List.getElem_toArray, List.getElem_cons_zero, List.getElem_cons_succ, Act.put, List.setIfInBounds_toArray, List.set_cons_zero, List.set_cons_succ]
              refine AnyN.next (i := 6) (by kernel_rfl) ?_
              refine wpOp_step rfl (fun K hK => ?_)
              have HK := Lib.hid hK
              clear hK
              simp only [List.getElem_toArray, List.getElem_cons_zero, List.getElem_cons_succ]
              rw [if_pos (by rfl)]
              have hup := HUp.out
              go_wp2_with fail
              refine HK.out _ _ ⟨.inl (by decide), ?_⟩
              clear HK K
              refine AnyN.done (by kernel_rfl) ?_ _
              go_wp2_with fail
              go_roundw
              case rel => exact ⟨_, HE3⟩
              case measure => exact HE4.out
            | true =>
              have hed : edSt p d k ⟨xb, xe, true, xs⟩ = ⟨p, (p + k), true, xs⟩ := by
                unfold edSt
                simp only
                rw [← HY.out.1, ← HY.out.2]
                rw [if_neg (by simp), if_pos (by simp)]
              obtain ⟨w6, hw6⟩ : ∃ x, x = w4.setCell ⟨b7, 1, none⟩ (.int .i64 (p + k)) := ⟨_, rfl⟩
              have hb6 : Blk w6 b7 [.int .i64 p, .int .i64 (p + k), .bool true, .int .u16 xs] 67 := by rw [hw6]; exact HB4.out.set 1 (.int .i64 (p + k))
              have hs6 : Stay [b7] w1 w6.drew := by rw [hw6]; exact (HS4.out.trans (Stay.setCell _ _ _ (by simp))).trans ((Stay.drew _).mono (F := []) (by simp))
              obtain ⟨e1, e2, e3, e4⟩ := HE.out.done (x := ⟨id, ⟨xb, xe, true, xs⟩, bn⟩) HL.out.1 HL.out.2.1 HN1.out HM1.out.2.1 HX.out.1 HX.out.2.2 hs6 (by rw [HB7e.out]; exact Nat.le_refl _)
              have hup := upd_there e1 HX.out.2.1 ⟨p, (p + k), true, xs⟩
              simp only [hed] at e3 e4
              simp only [St.val] at hup
              obtain ⟨w7, hw7⟩ : ∃ x, x = setO w6.drew mb (.map (((L.map (updE p d k seen)).map (putE id ⟨p, (p + k), true, xs⟩)).map EN.ent).toArray ck) := ⟨_, rfl⟩
              rw [← hw7] at hup e3 e4
              have HUp := Lib.hid hup
              have HE3 := Lib.hid e3
              have HE4 := Lib.hid e4
              have HHd := Lib.hid (show (fun w' : World => w'.cell? ⟨sb, 0, none⟩ = some (.map (some mb)) ∧ w'.cell? ⟨b7, 0, none⟩ = some (.int .i64 p) ∧ w'.cell? ⟨b7, 1, none⟩ = some (.int .i64 (p + k)) ∧ w'.cell? ⟨b7, 2, none⟩ = some (.bool true) ∧ w'.cell? ⟨b7, 3, none⟩ = some (.int .u16 xs)) w6.drew from ⟨e2.cell 0, hb6.cell 0, hb6.cell 1, hb6.cell 2, hb6.cell 3⟩)
              have HW6 := Lib.hid hw6
              clear hed hw6 hb6 hs6 e1 e2 e3 e4 hup hw7
              go_upto_region 16 with fail
              rw [← HW6.out]
              have hHeld := HHd.out
              refine AnyN.begin_ (S := fun w' : World => w'.cell? ⟨sb, 0, none⟩ = some (.map (some mb)) ∧ w'.cell? ⟨b7, 0, none⟩ = some (.int .i64 p) ∧ w'.cell? ⟨b7, 1, none⟩ = some (.int .i64 (p + k)) ∧ w'.cell? ⟨b7, 2, none⟩ = some (.bool true) ∧ w'.cell? ⟨b7, 3, none⟩ = some (.int .u16 xs)) (N := [6]) (by kernel_rfl) ?_
              refine AnyN.take (i := 0) (v := ?_) [1, 2, 3, 6] rfl (by kernel_rfl) (by kernel_rfl) (by kernel_rfl) (by kernel_rfl) (fun _ _ _ h => h) (Or.inl ⟨by rfl, ?_⟩) hHeld ?_
              rotate_left
              · intro w hSw
                obtain ⟨k0, k1, k2, k3, k4⟩ := hSw
                simp only [List.getElem_toArray, List.getElem_cons_zero]
                go_simp
                all_goals with_reducible rfl
              simp only [List.getElem_toArray, List.getElem_cons_zero, Act.put, List.setIfInBounds_toArray, List.set_cons_zero, List.set_cons_succ]
              refine AnyN.take (i := 1) (v := ?_) [2, 3, 6] rfl (by kernel_rfl) (by kernel_rfl) (by kernel_rfl) (by kernel_rfl) (fun _ _ _ h => h) (Or.inl ⟨by rfl, ?_⟩) hHeld ?_
              rotate_left
              · intro w hSw
                obtain ⟨k0, k1, k2, k3, k4⟩ := hSw
                simp only [List.getElem_toArray, List.getElem_cons_zero, List.getElem_cons_succ]
                go_simp
                all_goals with_reducible rfl
              simp only [List.getElem_toArray, List.getElem_cons_zero, List.getElem_cons_succ, Act.put, List.setIfInBounds_toArray, List.set_cons_zero, List.set_cons_succ]
              refine AnyN.take (i := 2) (v := ?_) [3, 6] rfl (by kernel_rfl) (by kernel_rfl) (by kernel_rfl) (by kernel_rfl) (fun _ _ _ h => h) (Or.inl ⟨by rfl, ?_⟩) hHeld ?_
              rotate_left
              · intro w hSw
                obtain ⟨k0, k1, k2, k3, k4⟩ := hSw
                simp only [List.getElem_toArray, List.getElem_cons_zero, List.getElem_cons_succ]
                go_simp
                all_goals with_reducible rfl
              simp only [List.getElem_toArray, List.getElem_cons_zero, List.getElem_cons_succ, Act.put, List.setIfInBounds_toArray, List.set_cons_zero, List.set_cons_succ]
              refine AnyN.take (i := 3) (v := ?_) [6] rfl (by kernel_rfl) (by kernel_rfl) (by kernel_rfl) (by kernel_rfl) (fun _ _ _ h => h) (Or.inl ⟨by rfl, ?_⟩) hHeld ?_
              rotate_left
              · intro w hSw
                obtain ⟨k0, k1, k2, k3, k4⟩ := hSw
                simp only [List.getElem_toArray, List.getElem_cons_zero, List.getElem_cons_succ]
                go_simp
                all_goals with_reducible rfl
              simp only [List.getElem_toArray, List.getElem_cons_zero, List.getElem_cons_succ, Act.put, List.setIfInBounds_toArray, List.set_cons_zero, List.set_cons_succ]
              refine AnyN.take (i := 4) (v := ?_) [6] rfl (by kernel_rfl) (by kernel_rfl) (by kernel_rfl) (by kernel_rfl) (fun _ _ _ h => h) (Or.inl ⟨by rfl, ?_⟩) hHeld ?_
              rotate_left
              · intro w hSw
                obtain ⟨k0, k1, k2, k3, k4⟩ := hSw
                simp only [List.getElem_toArray, List.getElem_cons_zero, List.getElem_cons_succ]
                go_simp
                all_goals with_reducible rfl
              simp only [List.getElem_toArray, List.getElem_cons_zero, List.getElem_cons_succ, Act.put, List.setIfInBounds_toArray, List.set_cons_zero, List.set_cons_succ]
              refine AnyN.take (i := 5) (v := ?_) [6] rfl (by kernel_rfl) (by kernel_rfl) (by kernel_rfl) (by kernel_rfl) (fun _ _ _ h => h) (Or.inl ⟨by rfl, ?_⟩) hHeld ?_
              rotate_left
              · intro w hSw
                obtain ⟨k0, k1, k2, k3, k4⟩ := hSw
                simp only [List.getElem_toArray, List.getElem_cons_zero, List.getElem_cons_succ]
                go_simp
                all_goals with_reducible rfl
              simp only [List.getElem_toArray, List.getElem_cons_zero, List.getElem_cons_succ, Act.put, List.setIfInBounds_toArray, List.set_cons_zero, List.set_cons_succ]
              refine AnyN.next (i := 6) (by kernel_rfl) ?_
              refine wpOp_step rfl (fun K hK => ?_)
              have HK := Lib.hid hK
              clear hK
              simp only [List.getElem_toArray, List.getElem_cons_zero, List.getElem_cons_succ]
              rw [if_pos (by rfl)]
              have hup := HUp.out
              go_wp2_with fail
              refine HK.out _ _ ⟨.inl (by decide), ?_⟩
              clear HK K
              refine AnyN.done (by kernel_rfl) ?_ _
              go_wp2_with fail
              go_roundw
              case rel => exact ⟨_, HE3⟩
              case measure => exact HE4.out
          · have t2 : ¬ ye = p := by omega
            have t3 : decide (ye = p) = false := decide_eq_false t2
            cases xg with
            | false =>
              have hed : edSt p d k ⟨xb, xe, false, xs⟩ = ⟨(p + k), (ye + k), false, xs⟩ := by
                unfold edSt
                simp only
                rw [← HY.out.1, ← HY.out.2]
                rw [if_pos (by simp <;> omega)]
              obtain ⟨w6, hw6⟩ : ∃ x, x = (w4.setCell ⟨b7, 0, none⟩ (.int .i64 (p + k))).setCell ⟨b7, 1, none⟩ (.int .i64 (ye + k)) := ⟨_, rfl⟩
              have hb6 : Blk w6 b7 [.int .i64 (p + k), .int .i64 (ye + k), .bool false, .int .u16 xs] 67 := by rw [hw6]; exact (HB4.out.set 0 (.int .i64 (p + k))).set 1 (.int .i64 (ye + k))
              have hs6 : Stay [b7] w1 w6.drew := by rw [hw6]; exact (HS4.out.trans ((Stay.setCell _ _ _ (by simp)).trans (Stay.setCell _ _ _ (by simp)))).trans ((Stay.drew _).mono (F := []) (by simp))
              obtain ⟨e1, e2, e3, e4⟩ := HE.out.done (x := ⟨id, ⟨xb, xe, false, xs⟩, bn⟩) HL.out.1 HL.out.2.1 HN1.out HM1.out.2.1 HX.out.1 HX.out.2.2 hs6 (by rw [HB7e.out]; exact Nat.le_refl _)
              have hup := upd_there e1 HX.out.2.1 ⟨(p + k), (ye + k), false, xs⟩
              simp only [hed] at e3 e4
              simp only [St.val] at hup
              obtain ⟨w7, hw7⟩ : ∃ x, x = setO w6.drew mb (.map (((L.map (updE p d k seen)).map (putE id ⟨(p + k), (ye + k), false, xs⟩)).map EN.ent).toArray ck) := ⟨_, rfl⟩
              rw [← hw7] at hup e3 e4
              have HUp := Lib.hid hup
              have HE3 := Lib.hid e3
              have HE4 := Lib.hid e4
              have HHd := Lib.hid (show (fun w' : World => w'.cell? ⟨sb, 0, none⟩ = some (.map (some mb)) ∧ w'.cell? ⟨b7, 0, none⟩ = some (.int .i64 (p + k)) ∧ w'.cell? ⟨b7, 1, none⟩ = some (.int .i64 (ye + k)) ∧ w'.cell? ⟨b7, 2, none⟩ = some (.bool false) ∧ w'.cell? ⟨b7, 3, none⟩ = some (.int .u16 xs)) w6.drew from ⟨e2.cell 0, hb6.cell 0, hb6.cell 1, hb6.cell 2, hb6.cell 3⟩)
              have HW6 := Lib.hid hw6
              clear hed hw6 hb6 hs6 e1 e2 e3 e4 hup hw7
              go_upto_region 16 with fail
              rw [← HW6.out]
              have hHeld := HHd.out
              refine AnyN.begin_ (S := fun w' : World => w'.cell? ⟨sb, 0, none⟩ = some (.map (some mb)) ∧ w'.cell? ⟨b7, 0, none⟩ = some (.int .i64 (p + k)) ∧ w'.cell? ⟨b7, 1, none⟩ = some (.int .i64 (ye + k)) ∧ w'.cell? ⟨b7, 2, none⟩ = some (.bool false) ∧ w'.cell? ⟨b7, 3, none⟩ = some (.int .u16 xs)) (N := [6]) (by kernel_rfl) ?_
              refine AnyN.take (i := 0) (v := ?_) [1, 2, 3, 6] rfl (by kernel_rfl) (by kernel_rfl) (by kernel_rfl) (by kernel_rfl) (fun _ _ _ h => h) (Or.inl ⟨by rfl, ?_⟩) hHeld ?_
              rotate_left
              · intro w hSw
                obtain ⟨k0, k1, k2, k3, k4⟩ := hSw
                simp only [List.getElem_toArray, List.getElem_cons_zero]
                go_simp
                all_goals with_reducible rfl
              simp only [List.getElem_toArray, List.getElem_cons_zero, Act.put, List.setIfInBounds_toArray, List.set_cons_zero, List.set_cons_succ]
              refine AnyN.take (i := 1) (v := ?_) [2, 3, 6] rfl (by kernel_rfl) (by kernel_rfl) (by kernel_rfl) (by kernel_rfl) (fun _ _ _ h => h) (Or.inl ⟨by rfl, ?_⟩) hHeld ?_
              rotate_left
              · intro w hSw
                obtain ⟨k0, k1, k2, k3, k4⟩ := hSw
                simp only [List.getElem_toArray, List.getElem_cons_zero, List.getElem_cons_succ]
                go_simp
                all_goals with_reducible rfl
              simp only [List.getElem_toArray, List.getElem_cons_zero, List.getElem_cons_succ, Act.put, List.setIfInBounds_toArray, List.set_cons_zero, List.set_cons_succ]
              refine AnyN.take (i := 2) (v := ?_) [3, 6] rfl (by kernel_rfl) (by kernel_rfl) (by kernel_rfl) (by kernel_rfl) (fun _ _ _ h => h) (Or.inl ⟨by rfl, ?_⟩) hHeld ?_
              rotate_left
              · intro w hSw
                obtain ⟨k0, k1, k2, k3, k4⟩ := hSw
                simp only [List.getElem_toArray, List.getElem_cons_zero, List.getElem_cons_succ]
                go_simp
                all_goals with_reducible rfl
              simp only [List.getElem_toArray, List.getElem_cons_zero, List.getElem_cons_succ, Act.put, List.setIfInBounds_toArray, List.set_cons_zero, List.set_cons_succ]
              refine AnyN.take (i := 3) (v := ?_) [6] rfl (by kernel_rfl) (by kernel_rfl) (by kernel_rfl) (by kernel_rfl) (fun _ _ _ h => h) (Or.inl ⟨by rfl, ?_⟩) hHeld ?_
              rotate_left
              · intro w hSw
                obtain ⟨k0, k1, k2, k3, k4⟩ := hSw
                simp only [List.getElem_toArray, List.getElem_cons_zero, List.getElem_cons_succ]
                go_simp
                all_goals with_reducible rfl
              simp only [List.getElem_toArray, List.getElem_cons_zero, List.getElem_cons_succ, Act.put, List.setIfInBounds_toArray, List.set_cons_zero, List.set_cons_succ]
              refine AnyN.take (i := 4) (v := ?_) [6] rfl (by kernel_rfl) (by kernel_rfl) (by kernel_rfl) (by kernel_rfl) (fun _ _ _ h => h) (Or.inl ⟨by rfl, ?_⟩) hHeld ?_
              rotate_left
              · intro w hSw
                obtain ⟨k0, k1, k2, k3, k4⟩ := hSw
                simp only [List.getElem_toArray, List.getElem_cons_zero, List.getElem_cons_succ]
                go_simp
                all_goals with_reducible rfl
              simp only [List.getElem_toArray, List.getElem_cons_zero, List.getElem_cons_succ, Act.put, List.setIfInBounds_toArray, List.set_cons_zero, List.set_cons_succ]
              refine AnyN.take (i := 5) (v := ?_) [6] rfl (by kernel_rfl) (by kernel_rfl) (by kernel_rfl) (by kernel_rfl) (fun _ _ _ h => h) (Or.inl ⟨by rfl, ?_⟩) hHeld ?_
              rotate_left
              · intro w hSw
                obtain ⟨k0, k1, k2, k3, k4⟩ := hSw
                simp only [List.getElem_toArray, List.getElem_cons_zero, List.getElem_cons_succ]
                go_simp
                all_goals with_reducible rfl
              simp only [List.getElem_toArray, List.getElem_cons_zero, List.getElem_cons_succ, Act.put, List.setIfInBounds_toArray, List.set_cons_zero, List.set_cons_succ]
              refine AnyN.next (i := 6) (by kernel_rfl) ?_
              refine wpOp_step rfl (fun K hK => ?_)
              have HK := Lib.hid hK
              clear hK
              simp only [List.getElem_toArray, List.getElem_cons_zero, List.getElem_cons_succ]
              rw [if_pos (by rfl)]
              have hup := HUp.out
              go_wp2_with fail
              refine HK.out _ _ ⟨.inl (by decide), ?_⟩
              clear HK K
              refine AnyN.done (by kernel_rfl) ?_ _
              go_wp2_with fail
              go_roundw
              case rel => exact ⟨_, HE3⟩
              case measure => exact HE4.out
            | true =>
              have hed : edSt p d k ⟨xb, xe, true, xs⟩ = ⟨p, (ye + k), true, xs⟩ := by
                unfold edSt
                simp only
                rw [← HY.out.1, ← HY.out.2]
                rw [if_neg (by simp), if_pos (by simp)]
              obtain ⟨w6, hw6⟩ : ∃ x, x = w4.setCell ⟨b7, 1, none⟩ (.int .i64 (ye + k)) := ⟨_, rfl⟩
              have hb6 : Blk w6 b7 [.int .i64 p, .int .i64 (ye + k), .bool true, .int .u16 xs] 67 := by rw [hw6]; exact HB4.out.set 1 (.int .i64 (ye + k))
              have hs6 : Stay [b7] w1 w6.drew := by rw [hw6]; exact (HS4.out.trans (Stay.setCell _ _ _ (by simp))).trans ((Stay.drew _).mono (F := []) (by simp))
              obtain ⟨e1, e2, e3, e4⟩ := HE.out.done (x := ⟨id, ⟨xb, xe, true, xs⟩, bn⟩) HL.out.1 HL.out.2.1 HN1.out HM1.out.2.1 HX.out.1 HX.out.2.2 hs6 (by rw [HB7e.out]; exact Nat.le_refl _)
              have hup := upd_there e1 HX.out.2.1 ⟨p, (ye + k), true, xs⟩
              simp only [hed] at e3 e4
              simp only [St.val] at hup
              obtain ⟨w7, hw7⟩ : ∃ x, x = setO w6.drew mb (.map (((L.map (updE p d k seen)).map (putE id ⟨p, (ye + k), true, xs⟩)).map EN.ent).toArray ck) := ⟨_, rfl⟩
              rw [← hw7] at hup e3 e4
              have HUp := Lib.hid hup
              have HE3 := Lib.hid e3
              have HE4 := Lib.hid e4
              have HHd := Lib.hid (show (fun w' : World => w'.cell? ⟨sb, 0, none⟩ = some (.map (some mb)) ∧ w'.cell? ⟨b7, 0, none⟩ = some (.int .i64 p) ∧ w'.cell? ⟨b7, 1, none⟩ = some (.int .i64 (ye + k)) ∧ w'.cell? ⟨b7, 2, none⟩ = some (.bool true) ∧ w'.cell? ⟨b7, 3, none⟩ = some (.int .u16 xs)) w6.drew from ⟨e2.cell 0, hb6.cell 0, hb6.cell 1, hb6.cell 2, hb6.cell 3⟩)
              have HW6 := Lib.hid hw6
              clear hed hw6 hb6 hs6 e1 e2 e3 e4 hup hw7
              go_upto_region 16 with fail
              rw [← HW6.out]
              have hHeld := HHd.out
              refine AnyN.begin_ (S := fun w' : World => w'.cell? ⟨sb, 0, none⟩ = some (.map (some mb)) ∧ w'.cell? ⟨b7, 0, none⟩ = some (.int .i64 p) ∧ w'.cell? ⟨b7, 1, none⟩ = some (.int .i64 (ye + k)) ∧ w'.cell? ⟨b7, 2, none⟩ = some (.bool true) ∧ w'.cell? ⟨b7, 3, none⟩ = some (.int .u16 xs)) (N := [6]) (by kernel_rfl) ?_
              refine AnyN.take (i := 0) (v := ?_) [1, 2, 3, 6] rfl (by kernel_rfl) (by kernel_rfl) (by kernel_rfl) (by kernel_rfl) (fun _ _ _ h => h) (Or.inl ⟨by rfl, ?_⟩) hHeld ?_
              rotate_left
              · intro w hSw
                obtain ⟨k0, k1, k2, k3, k4⟩ := hSw
                simp only [List.getElem_toArray, List.getElem_cons_zero]
                go_simp
                all_goals with_reducible rfl
              simp only [List.getElem_toArray, List.getElem_cons_zero, Act.put, List.setIfInBounds_toArray, List.set_cons_zero, List.set_cons_succ]
              refine AnyN.take (i := 1) (v := ?_) [2, 3, 6] rfl (by kernel_rfl) (by kernel_rfl) (by kernel_rfl) (by kernel_rfl) (fun _ _ _ h => h) (Or.inl ⟨by rfl, ?_⟩) hHeld ?_
              rotate_left
              · intro w hSw
                obtain ⟨k0, k1, k2, k3, k4⟩ := hSw
                simp only [List.getElem_toArray, List.getElem_cons_zero, List.getElem_cons_succ]
                go_simp
                all_goals with_reducible rfl
              simp only [List.getElem_toArray, List.getElem_cons_zero, List.getElem_cons_succ, Act.put, List.setIfInBounds_toArray, List.set_cons_zero, List.set_cons_succ]
              refine AnyN.take (i := 2) (v := ?_) [3, 6] rfl (by kernel_rfl) (by kernel_rfl) (by kernel_rfl) (by kernel_rfl) (fun _ _ _ h => h) (Or.inl ⟨by rfl, ?_⟩) hHeld ?_
              rotate_left
              · intro w hSw
                obtain ⟨k0, k1, k2, k3, k4⟩ := hSw
                simp only [List.getElem_toArray, List.getElem_cons_zero, List.getElem_cons_succ]
                go_simp
                all_goals with_reducible rfl
              simp only [List.getElem_toArray, List.getElem_cons_zero, List.getElem_cons_succ, Act.put, List.setIfInBounds_toArray, List.set_cons_zero, List.set_cons_succ]
              refine AnyN.take (i := 3) (v := ?_) [6] rfl (by kernel_rfl) (by kernel_rfl) (by kernel_rfl) (by kernel_rfl) (fun _ _ _ h => h) (Or.inl ⟨by rfl, ?_⟩) hHeld ?_
              rotate_left
              · intro w hSw
                obtain ⟨k0, k1, k2, k3, k4⟩ := hSw
                simp only [List.getElem_toArray, List.getElem_cons_zero, List.getElem_cons_succ]
                go_simp
                all_goals with_reducible rfl
              simp only [List.getElem_toArray, List.getElem_cons_zero, List.getElem_cons_succ, Act.put, List.setIfInBounds_toArray, List.set_cons_zero, List.set_cons_succ]
              refine AnyN.take (i := 4) (v := ?_) [6] rfl (by kernel_rfl) (by kernel_rfl) (by kernel_rfl) (by kernel_rfl) (fun _ _ _ h => h) (Or.inl ⟨by rfl, ?_⟩) hHeld ?_
              rotate_left
              · intro w hSw
                obtain ⟨k0, k1, k2, k3, k4⟩ := hSw
                simp only [List.getElem_toArray, List.getElem_cons_zero, List.getElem_cons_succ]
                go_simp
                all_goals with_reducible rfl
              simp only [List.getElem_toArray, List.getElem_cons_zero, List.getElem_cons_succ, Act.put, List.setIfInBounds_toArray, List.set_cons_zero, List.set_cons_succ]
              refine AnyN.take (i := 5) (v := ?_) [6] rfl (by kernel_rfl) (by kernel_rfl) (by kernel_rfl) (by kernel_rfl) (fun _ _ _ h => h) (Or.inl ⟨by rfl, ?_⟩) hHeld ?_
              rotate_left
              · intro w hSw
                obtain ⟨k0, k1, k2, k3, k4⟩ := hSw
                simp only [List.getElem_toArray, List.getElem_cons_zero, List.getElem_cons_succ]
                go_simp
                all_goals with_reducible rfl
              simp only [List.getElem_toArray, List.getElem_cons_zero, List.getElem_cons_succ, Act.put, List.setIfInBounds_toArray, List.set_cons_zero, List.set_cons_succ]
              refine AnyN.next (i := 6) (by kernel_rfl) ?_
              refine wpOp_step rfl (fun K hK => ?_)
              have HK := Lib.hid hK
              clear hK
              simp only [List.getElem_toArray, List.getElem_cons_zero, List.getElem_cons_succ]
              rw [if_pos (by rfl)]
              have hup := HUp.out
              go_wp2_with fail
              refine HK.out _ _ ⟨.inl (by decide), ?_⟩
              clear HK K
              refine AnyN.done (by kernel_rfl) ?_ _
              go_wp2_with fail
              go_roundw
              case rel => exact ⟨_, HE3⟩
              case measure => exact HE4.out
        · have t1 : ¬ yb < p := by omega
          have t2 : decide (yb = p) = false := decide_eq_false (by omega)
          have t3 : decide (ye = p) = false := decide_eq_false (by omega)
          have hed : edSt p d k ⟨xb, xe, xg, xs⟩ = ⟨(yb + k), (ye + k), xg, xs⟩ := by
            unfold edSt
            simp only
            rw [← HY.out.1, ← HY.out.2]
            rw [if_pos (by omega)]
          obtain ⟨w6, hw6⟩ : ∃ x, x = (w4.setCell ⟨b7, 0, none⟩ (.int .i64 (yb + k))).setCell ⟨b7, 1, none⟩ (.int .i64 (ye + k)) := ⟨_, rfl⟩
          have hb6 : Blk w6 b7 [.int .i64 (yb + k), .int .i64 (ye + k), .bool xg, .int .u16 xs] 67 := by rw [hw6]; exact (HB4.out.set 0 (.int .i64 (yb + k))).set 1 (.int .i64 (ye + k))
          have hs6 : Stay [b7] w1 w6.drew := by rw [hw6]; exact (HS4.out.trans ((Stay.setCell _ _ _ (by simp)).trans (Stay.setCell _ _ _ (by simp)))).trans ((Stay.drew _).mono (F := []) (by simp))
          obtain ⟨e1, e2, e3, e4⟩ := HE.out.done (x := ⟨id, ⟨xb, xe, xg, xs⟩, bn⟩) HL.out.1 HL.out.2.1 HN1.out HM1.out.2.1 HX.out.1 HX.out.2.2 hs6 (by rw [HB7e.out]; exact Nat.le_refl _)
          have hup := upd_there e1 HX.out.2.1 ⟨(yb + k), (ye + k), xg, xs⟩
          simp only [hed] at e3 e4
          simp only [St.val] at hup
          obtain ⟨w7, hw7⟩ : ∃ x, x = setO w6.drew mb (.map (((L.map (updE p d k seen)).map (putE id ⟨(yb + k), (ye + k), xg, xs⟩)).map EN.ent).toArray ck) := ⟨_, rfl⟩
          rw [← hw7] at hup e3 e4
          have HUp := Lib.hid hup
          have HE3 := Lib.hid e3
          have HE4 := Lib.hid e4
          have HHd := Lib.hid (show (fun w' : World => w'.cell? ⟨sb, 0, none⟩ = some (.map (some mb)) ∧ w'.cell? ⟨b7, 0, none⟩ = some (.int .i64 (yb + k)) ∧ w'.cell? ⟨b7, 1, none⟩ = some (.int .i64 (ye + k)) ∧ w'.cell? ⟨b7, 2, none⟩ = some (.bool xg) ∧ w'.cell? ⟨b7, 3, none⟩ = some (.int .u16 xs)) w6.drew from ⟨e2.cell 0, hb6.cell 0, hb6.cell 1, hb6.cell 2, hb6.cell 3⟩)
          have HW6 := Lib.hid hw6
          clear hed hw6 hb6 hs6 e1 e2 e3 e4 hup hw7
          go_upto_region 16 with fail
          rw [← HW6.out]
          have hHeld := HHd.out
          refine AnyN.begin_ (S := fun w' : World => w'.cell? ⟨sb, 0, none⟩ = some (.map (some mb)) ∧ w'.cell? ⟨b7, 0, none⟩ = some (.int .i64 (yb + k)) ∧ w'.cell? ⟨b7, 1, none⟩ = some (.int .i64 (ye + k)) ∧ w'.cell? ⟨b7, 2, none⟩ = some (.bool xg) ∧ w'.cell? ⟨b7, 3, none⟩ = some (.int .u16 xs)) (N := [6]) (by kernel_rfl) ?_
          refine AnyN.take (i := 0) (v := ?_) [1, 2, 3, 6] rfl (by kernel_rfl) (by kernel_rfl) (by kernel_rfl) (by kernel_rfl) (fun _ _ _ h => h) (Or.inl ⟨by rfl, ?_⟩) hHeld ?_
          rotate_left
          · intro w hSw
            obtain ⟨k0, k1, k2, k3, k4⟩ := hSw
            simp only [List.getElem_toArray, List.getElem_cons_zero]
            go_simp
            all_goals with_reducible rfl
          simp only [List.getElem_toArray, List.getElem_cons_zero, Act.put, List.setIfInBounds_toArray, List.set_cons_zero, List.set_cons_succ]
          refine AnyN.take (i := 1) (v := ?_) [2, 3, 6] rfl (by kernel_rfl) (by kernel_rfl) (by kernel_rfl) (by kernel_rfl) (fun _ _ _ h => h) (Or.inl ⟨by rfl, ?_⟩) hHeld ?_
          rotate_left
          · intro w hSw
            obtain ⟨k0, k1, k2, k3, k4⟩ := hSw
            simp only [List.getElem_toArray, List.getElem_cons_zero, List.getElem_cons_succ]
            go_simp
            all_goals with_reducible rfl
          simp only [List.getElem_toArray, List.getElem_cons_zero, List.getElem_cons_succ, Act.put, List.setIfInBounds_toArray, List.set_cons_zero, List.set_cons_succ]
          refine AnyN.take (i := 2) (v := ?_) [3, 6] rfl (by kernel_rfl) (by kernel_rfl) (by kernel_rfl) (by kernel_rfl) (fun _ _ _ h => h) (Or.inl ⟨by rfl, ?_⟩) hHeld ?_
          rotate_left
          · intro w hSw
            obtain ⟨k0, k1, k2, k3, k4⟩ := hSw
            simp only [List.getElem_toArray, List.getElem_cons_zero, List.getElem_cons_succ]
            go_simp
            all_goals with_reducible rfl
          simp only [List.getElem_toArray, List.getElem_cons_zero, List.getElem_cons_succ, Act.put, List.setIfInBounds_toArray, List.set_cons_zero, List.set_cons_succ]
          refine AnyN.take (i := 3) (v := ?_) [6] rfl (by kernel_rfl) (by kernel_rfl) (by kernel_rfl) (by kernel_rfl) (fun _ _ _ h => h) (Or.inl ⟨by rfl, ?_⟩) hHeld ?_
          rotate_left
          · intro w hSw
            obtain ⟨k0, k1, k2, k3, k4⟩ := hSw
            simp only [List.getElem_toArray, List.getElem_cons_zero, List.getElem_cons_succ]
            go_simp
            all_goals with_reducible rfl
          simp only [List.getElem_toArray, List.getElem_cons_zero, List.getElem_cons_succ, Act.put, List.setIfInBounds_toArray, List.set_cons_zero, List.set_cons_succ]
          refine AnyN.take (i := 4) (v := ?_) [6] rfl (by kernel_rfl) (by kernel_rfl) (by kernel_rfl) (by kernel_rfl) (fun _ _ _ h => h) (Or.inl ⟨by rfl, ?_⟩) hHeld ?_
          rotate_left
          · intro w hSw
            obtain ⟨k0, k1, k2, k3, k4⟩ := hSw
            simp only [List.getElem_toArray, List.getElem_cons_zero, List.getElem_cons_succ]
            go_simp
            all_goals with_reducible rfl
          simp only [List.getElem_toArray, List.getElem_cons_zero, List.getElem_cons_succ, Act.put, List.setIfInBounds_toArray, List.set_cons_zero, List.set_cons_succ]
          refine AnyN.take (i := 5) (v := ?_) [6] rfl (by kernel_rfl) (by kernel_rfl) (by kernel_rfl) (by kernel_rfl) (fun _ _ _ h => h) (Or.inl ⟨by rfl, ?_⟩) hHeld ?_
          rotate_left
          · intro w hSw
            obtain ⟨k0, k1, k2, k3, k4⟩ := hSw
            simp only [List.getElem_toArray, List.getElem_cons_zero, List.getElem_cons_succ]
            go_simp
            all_goals with_reducible rfl
          simp only [List.getElem_toArray, List.getElem_cons_zero, List.getElem_cons_succ, Act.put, List.setIfInBounds_toArray, List.set_cons_zero, List.set_cons_succ]
          refine AnyN.next (i := 6) (by kernel_rfl) ?_
          refine wpOp_step rfl (fun K hK => ?_)
          have HK := Lib.hid hK
          clear hK
          simp only [List.getElem_toArray, List.getElem_cons_zero, List.getElem_cons_succ]
          rw [if_pos (by rfl)]
          have hup := HUp.out
          go_wp2_with fail
          refine HK.out _ _ ⟨.inl (by decide), ?_⟩
          clear HK K
          refine AnyN.done (by kernel_rfl) ?_ _
          go_wp2_with fail
          go_roundw
          case rel => exact ⟨_, HE3⟩
          case measure => exact HE4.out
end Go.Proofs.Ytbnaglkhbgfchaa
