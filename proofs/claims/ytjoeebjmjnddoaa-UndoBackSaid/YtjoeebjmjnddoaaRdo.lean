/- package rope: LineAt; Do that is refused. -/
import Derived.Test.YtjoeebjmjnddoaaRline
import Derived.Test.YtjoeebjmjnddoaaMove
namespace Go.Proofs.Ytjoeebjmjnddoaa
open Go.RowKit Go.Shelf
set_option maxRecDepth 20000 in
set_option maxHeartbeats 4000000 in
theorem lineat_any (rb : Nat) (t : Rp) (st at_ : Int) (w : World) (h : RopeAt w rb t st) : Calls Try.prog 26 #[.pointer (some ⟨rb, 0, none⟩), .int .i64 at_] w fun e w' => e = .returned (.int .i64 (nl (cutL t.text 0 (frL at_ t.len)))) ∧ Below w.heap.size w w' := by
  have HN := Lib.hid (fun u (hs : Stay [] w u) => len_any rb t st u (h.stay0 hs))
  obtain ⟨v, hr, hn, hl⟩ := h
  have c0 : w.cell? ⟨rb, 0, none⟩ = some v := by rw [cell_of_row w rb 0 _ 77 (0, 0) hr]; rfl
  have HKc := Lib.hid (show ∀ u, Stay [] w u → u.cell? ⟨rb, 0, none⟩ = some v from fun u hs => (hs.cell_ (a := ⟨rb, 0, none⟩) (World.block_lt_of_cell? _ _ c0) (by simp)).trans c0)
  have hfl := frL_le at_ t.len
  have HS := Lib.hid (fun u (hs : Stay [] w u) => slice_any t v u 0 (frL at_ t.len) (hn.stay hs (NoPair.nil w)) (Nat.zero_le _) hfl (by omega))
  obtain ⟨L, hL⟩ : ∃ L, L = t.len := ⟨_, rfl⟩
  rw [← hL] at HN HS hfl ⊢
  have hm1 : ∀ (ts : Array TypeId) (t : TypeId) (w : World), (Builtin.max_ ts t #[.int .i64 at_, .int .i64 0]).run Try.prog w = .ok (.int .i64 (max at_ 0)) w := fun ts t w => max_ints at_ 0 ts t w
  have hm2 : ∀ (ts : Array TypeId) (t : TypeId) (w : World), (Builtin.min_ ts t #[.int .i64 (max at_ 0), .int .i64 L]).run Try.prog w = .ok (.int .i64 (frL at_ L)) w := fun ts t w => by
    rw [min_ints]; congr 2; unfold frL; omega
  obtain ⟨p, hp⟩ : ∃ p, p = frL at_ L := ⟨_, rfl⟩
  rw [← hp] at HS hm2 ⊢
  rw [Int.natCast_zero] at HS
  obtain ⟨tx, htx⟩ : ∃ tx, tx = cutL t.text 0 p := ⟨_, rfl⟩
  rw [← htx] at HS ⊢
  obtain ⟨T, q, fb, ff, D⟩ := node_dyn hn
  have hv := D.val
  subst hv
  clear hL hp htx hr hn hl hfl D
  have HSd := Lib.hid (Stay.drew (F := []) w)
  go_enter Try.func26, Try.ntmps26
  go_wp2_with fail
  go_region_held3 (fun w' => w'.cell? ⟨rb, 0, none⟩ = some (.iface T q)) (first | exact hq | exact c0 | go_keep)
    (first
      | (go_at_call 23; ((with_reducible refine (HN.out _ HSd.out).mono ?_); rintro e w2 ⟨rfl, hs⟩); have HT2 := Lib.hid (HSd.out.trans hs); have hq := HKc.out _ HT2.out; clear hs)
      | (go_at_call 54; ((with_reducible refine (HS.out _ HT2.out).mono ?_); rintro e w3 ⟨v3, t3, rfl, n3, x3, b3⟩); have HT3 := Lib.hid (HT2.out.trans (Stay.below b3)); have hq := HKc.out _ HT3.out; obtain ⟨T3, q3, fb3, ff3, D3⟩ := node_dyn n3; have hv3 := D3.val; subst hv3; have hmf3 := D3.mf; have hcf3 := D3.cf; have HF3 := Lib.hid (D3.feeds _ n3); have HX3 := Lib.hid x3; clear n3 x3 b3 D3)
      | (((with_reducible refine HF3.out.mono ?_); rintro e w4 ⟨rfl, hs⟩); have HT4 := Lib.hid (HT3.out.trans hs); have hq := HKc.out _ HT4.out; clear hs))
  all_goals
    go_wp2_with fail
    go_ret
    exact ⟨by rw [← HX3.out]; rfl, HT4.out.toBelow (Nat.le_refl _) (by simp)⟩
/-- an edit's two boxes -/
theorem do_boxes (w : World) (a d : Int) (s : ByteArray) : ∃ Wb, Wb = (w.alloc (.cells #[.int .i64 a, .int .i64 d, .string s] 37)).alloc (.cells #[.int .i64 0, .int .i64 0, .string ⟨#[]⟩] 37) ∧ Stay [] w Wb ∧ Blk Wb w.heap.size [.int .i64 a, .int .i64 d, .string s] 37 ∧ Blk Wb (w.heap.size + 1) [.int .i64 0, .int .i64 0, .string ⟨#[]⟩] 37 ∧ Wb.heap.size = w.heap.size + 2 := by
  refine ⟨_, rfl, (Stay.alloc _ _).alloc', (Blk.new w [.int .i64 a, .int .i64 d, .string s] 37).stay (F := []) (Stay.alloc _ _) (by simp), ?_, by simp⟩
  have h := Blk.new (w.alloc (.cells #[.int .i64 a, .int .i64 d, .string s] 37)) [.int .i64 0, .int .i64 0, .string ⟨#[]⟩] 37
  rw [size_alloc'] at h
  exact h
set_option maxRecDepth 20000 in
set_option maxHeartbeats 4000000 in
theorem do_refused (rb : Nat) (t : Rp) (st a d : Int) (s : ByteArray) (w : World) (h : RopeAt w rb t st) (ha : -9223372036854775808 ≤ a ∧ a ≤ 9223372036854775807) (hd : -9223372036854775808 ≤ d ∧ d ≤ 9223372036854775807) (er : Int)
    (hbad : ((a < 0 ∨ (t.len : Int) < a ∨ d < 0 ∨ (t.len : Int) - a < d) ∧ er = 180) ∨ ((0 ≤ a ∧ a ≤ t.len ∧ 0 ≤ d ∧ d ≤ (t.len : Int) - a ∧ 1048576 - ((t.len : Int) - d) < s.size) ∧ er = 3)) :
    Calls Try.prog 21 #[.pointer (some ⟨rb, 0, none⟩), .agg #[.int .i64 a, .int .i64 d, .string s]] w fun e w' => e = .returned (.tuple #[.agg #[.int .i64 0, .int .i64 0, .string ⟨#[]⟩], .int .i64 er]) ∧ Below w.heap.size w w' := by
  have HN := Lib.hid (fun u (hs : Stay [] w u) => len_any rb t st u (h.stay0 hs))
  have hl := h.len
  obtain ⟨L, hL⟩ : ∃ L, L = t.len := ⟨_, rfl⟩
  rw [← hL] at HN hl hbad
  have hL4 : (L : Int) ≤ 1048576 := by omega
  clear h hL
  obtain ⟨Wb, hWb, hst, hb1, hb2, hsz⟩ := do_boxes w a d s
  have HWb := Lib.hid hWb
  have HSt := Lib.hid hst
  have HB1 := Lib.hid hb1
  have HB2 := Lib.hid hb2
  obtain ⟨B, hB⟩ : ∃ B, B = w.heap.size := ⟨_, rfl⟩
  rw [← hB] at HB1 HB2
  have HBe := Lib.hid hB
  have hc : (a < 0 ∧ er = 180) ∨ (¬ a < 0 ∧ (L : Int) < a ∧ er = 180) ∨ (¬ a < 0 ∧ ¬ (L : Int) < a ∧ d < 0 ∧ er = 180) ∨ (¬ a < 0 ∧ ¬ (L : Int) < a ∧ ¬ d < 0 ∧ (L : Int) - a < d ∧ er = 180) ∨ (¬ a < 0 ∧ ¬ (L : Int) < a ∧ ¬ d < 0 ∧ ¬ (L : Int) - a < d ∧ 1048576 - ((L : Int) - d) < s.size ∧ er = 3) := by omega
  clear hbad hWb hst hb1 hb2 hsz hB
  rcases hc with ⟨h1, rfl⟩ | ⟨h1, h2, rfl⟩ | ⟨h1, h2, h3, rfl⟩ | ⟨h1, h2, h3, h4, rfl⟩ | ⟨h1, h2, h3, h4, h5, rfl⟩
  all_goals
    go_enter Try.func21, Try.ntmps21
    go_wp2_with fail
    rw [← HWb.out]
    refine (HN.out _ HSt.out).mono ?_
    rintro e w2 ⟨rfl, hs⟩
    have HS := Lib.hid hs
    have c0 := (HB1.out.stay hs (by simp)).cell 0
    have c1 := (HB1.out.stay hs (by simp)).cell 1
    have c2 := (HB1.out.stay hs (by simp)).cell 2
    have q0 := (HB2.out.stay hs (by simp)).cell 0
    have q1 := (HB2.out.stay hs (by simp)).cell 1
    have q2 := (HB2.out.stay hs (by simp)).cell 2
    have f0 := (HB2.out.stay hs (by simp)).free 0
    have f1 := (HB2.out.stay hs (by simp)).free 1
    have f2 := (HB2.out.stay hs (by simp)).free 2
    change _ = some (Value.int .i64 a) at c0
    change _ = some (Value.int .i64 d) at c1
    change _ = some (Value.string s) at c2
    change _ = some (Value.int .i64 0) at q0
    change _ = some (Value.int .i64 0) at q1
    change _ = some (Value.string ⟨#[]⟩) at q2
    clear hs
    rw [← HBe.out]
    have HBf := Lib.hid (show ∀ u0 u1 u2 : Value, Below w.heap.size w (((w2.setCell ⟨B + 1, 0, none⟩ u0).setCell ⟨B + 1, 1, none⟩ u1).setCell ⟨B + 1, 2, none⟩ u2) from fun u0 u1 u2 => by
      have hb := (HSt.out.trans HS.out).toBelow (B := w.heap.size) (Nat.le_refl _) (by simp)
      exact ((hb.setCell (p := ⟨B + 1, 0, none⟩) (by rw [HBe.out]; simp) _).setCell (p := ⟨B + 1, 1, none⟩) (by rw [HBe.out]; simp) _).setCell (p := ⟨B + 1, 2, none⟩) (by rw [HBe.out]; simp) _)
    go_wp2_with fail
    exact bodyPost_ret (v := .tuple #[.agg #[.int .i64 0, .int .i64 0, .string ⟨#[]⟩], .int .i64 _]) (by simp [results, Try.results21, go_sem, q0, q1, q2]) rfl ⟨rfl, HBf.out _ _ _⟩
end Go.Proofs.Ytjoeebjmjnddoaa
