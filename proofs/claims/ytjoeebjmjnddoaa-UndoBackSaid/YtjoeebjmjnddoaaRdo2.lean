/- package rope: Do. -/
import Derived.Test.YtjoeebjmjnddoaaRdo
import Derived.Test.YtjoeebjmjnddoaaRlast
import Derived.Deep.DeepCutAuto
namespace Go.Proofs.Ytjoeebjmjnddoaa
open Go.RowKit Go.Shelf
def editL (l : List UInt8) (a d : Nat) (ins : List UInt8) : List UInt8 := cutL l 0 a ++ ins ++ cutL l (a + d) l.length
theorem editL_length (l : List UInt8) (a d : Nat) (ins : List UInt8) (h : a + d ≤ l.length) : (editL l a d ins).length = l.length - d + ins.length := by
  unfold editL
  rw [List.length_append, List.length_append, cutL_length _ _ _ (by omega), cutL_length _ _ _ (Nat.le_refl _)]
  omega
theorem frL_nat (a L : Nat) (h : a ≤ L) : frL a L = a := by unfold frL; omega
theorem toL_nat (a d L : Nat) (h : a + d ≤ L) : toL a d L = a + d := by
  unfold toL
  rw [frL_nat a L (by omega), if_neg (show ¬ (a : Int) < 0 by omega)]
  split <;> omega
structure DoneAt (w : World) (rb : Nat) (t : Rp) (st : Int) (a d : Nat) (ins : List UInt8) (e : Ending) (w' : World) : Prop where
  ret : e = .returned (.tuple #[.agg #[.int .i64 a, .int .i64 ins.length, .string (str (cutL t.text a (a + d)))], .int .i64 0])
  rope : ∃ t', RopeAt w' rb t' (IntKind.u64.wrap (st + 1)) ∧ t'.text = editL t.text a d ins
  stay : Stay [rb] w w'
/-- behind the new root -/
structure Mdl (w : World) (rb b7 B2 : Nat) (v : Value) (st : Int) (tx : List UInt8) (bk : List Value) (u : World) : Prop where
  blk : Blk u rb [v, .int .u64 st] 77
  node : ∃ t', Node u v t' ∧ t'.text = tx
  stay : Stay [rb] w u
  back : Blk u b7 bk 37
  res : Blk u B2 [.int .i64 0, .int .i64 0, .string ⟨#[]⟩] 37
theorem blk_noPair {u : World} {rb : Nat} {l : List Value} (h : Blk u rb l 77) : NoPair u [rb] := fun f hf cs hc => by
  rw [List.mem_singleton] at hf
  subst hf
  unfold Blk at h
  rw [h] at hc
  cases hc
theorem Mdl.root {w u : World} {rb b7 B2 : Nat} {v v' : Value} {st : Int} {tx : List UInt8} {bk : List Value} {t' : Rp} (h : Mdl w rb b7 B2 v st tx bk u) (hn : Node u v' t') (ht : t'.text = tx) (h7 : b7 ≠ rb) (h2 : B2 ≠ rb) : Mdl w rb b7 B2 v' st tx bk (u.setCell ⟨rb, 0, none⟩ v') := by
  have hs : Stay [rb] u (u.setCell ⟨rb, 0, none⟩ v') := Stay.setCell _ _ _ (by simp)
  refine ⟨?_, ⟨t', hn.stay hs (blk_noPair h.blk), ht⟩, h.stay.trans hs, h.back.stay hs (by simpa using h7), h.res.stay hs (by simpa using h2)⟩
  exact h.blk.set 0 v'
theorem Mdl.first {w u : World} {rb b7 B2 : Nat} {v v' : Value} {st : Int} {tx : List UInt8} {bk : List Value} {t' : Rp} (hb : Blk u rb [v, .int .u64 st] 77) (hs0 : Stay [] w u) (h7' : Blk u b7 bk 37) (h2' : Blk u B2 [.int .i64 0, .int .i64 0, .string ⟨#[]⟩] 37) (hn : Node u v' t') (ht : t'.text = tx) (h7 : b7 ≠ rb) (h2 : B2 ≠ rb) : Mdl w rb b7 B2 v' st tx bk (u.setCell ⟨rb, 0, none⟩ v') := by
  have hs : Stay [rb] u (u.setCell ⟨rb, 0, none⟩ v') := Stay.setCell _ _ _ (by simp)
  exact ⟨hb.set 0 v', ⟨t', hn.stay hs (blk_noPair hb), ht⟩, (hs0.mono (by simp)).trans hs, h7'.stay hs (by simpa using h7), h2'.stay hs (by simpa using h2)⟩
theorem Mdl.fin {w u : World} {rb b7 B2 : Nat} {v : Value} {st st' : Int} {tx : List UInt8} {bk : List Value} (h : Mdl w rb b7 B2 v st tx bk u) (hl : tx.length ≤ 1048576) (h2 : B2 ≠ rb) (hw : w.heap.size ≤ B2) (x0 x1 x2 : Value) :
    ∃ t', RopeAt ((((u.setCell ⟨rb, 1, none⟩ (.int .u64 st')).setCell ⟨B2, 0, none⟩ x0).setCell ⟨B2, 1, none⟩ x1).setCell ⟨B2, 2, none⟩ x2) rb t' st' ∧ t'.text = tx ∧ Stay [rb] w ((((u.setCell ⟨rb, 1, none⟩ (.int .u64 st')).setCell ⟨B2, 0, none⟩ x0).setCell ⟨B2, 1, none⟩ x1).setCell ⟨B2, 2, none⟩ x2) := by
  obtain ⟨t', hn, ht⟩ := h.node
  have hs : Stay [rb] u (u.setCell ⟨rb, 1, none⟩ (.int .u64 st')) := Stay.setCell _ _ _ (by simp)
  have hb1 := h.blk.set 1 (.int .u64 st')
  have hn1 := hn.stay hs (blk_noPair h.blk)
  have hs2 : ∀ (a : World) (j : Nat) (x : Value), Stay [B2] a (a.setCell ⟨B2, j, none⟩ x) := fun a j x => Stay.setCell _ _ _ (by simp)
  have hs3 := ((hs2 (u.setCell ⟨rb, 1, none⟩ (.int .u64 st')) 0 x0).trans (hs2 _ 1 x1)).trans (hs2 _ 2 x2)
  have hr2 := h.res.stay hs (by simpa using h2)
  have hnp : NoPair (u.setCell ⟨rb, 1, none⟩ (.int .u64 st')) [B2] := fun f hf cs hc => by
    rw [List.mem_singleton] at hf
    subst hf
    unfold Blk at hr2
    rw [hr2] at hc
    cases hc
  exact ⟨t', ⟨v, hb1.stay hs3 (by simpa using Ne.symm h2), hn1.stay hs3 hnp, by rw [Rp.len, ht]; exact hl⟩, ht, (h.stay.trans hs).trans' hs3 (fun g hg => by rw [List.mem_singleton] at hg; subst hg; exact .inr hw)⟩
theorem Mdl.keep {w u u' : World} {rb b7 B2 : Nat} {v : Value} {st : Int} {tx : List UInt8} {bk : List Value} (h : Mdl w rb b7 B2 v st tx bk u) (hs : Stay [] u u') : Mdl w rb b7 B2 v st tx bk u' := by
  obtain ⟨t', h1, h2⟩ := h.node
  exact ⟨h.blk.stay hs (by simp), ⟨t', h1.stay hs (NoPair.nil u), h2⟩, h.stay.trans (hs.mono (by simp)), h.back.stay hs (by simp), h.res.stay hs (by simp)⟩
set_option maxRecDepth 20000 in
set_option maxHeartbeats 16000000 in
theorem do_ok (rb : Nat) (t : Rp) (st : Int) (a d : Nat) (ins : List UInt8) (w : World) (h : RopeAt w rb t st) (_hst : 0 ≤ st ∧ st < 18446744073709551616) (had : a + d ≤ t.len) (hi : ins.length + (t.len - d) ≤ 1048576) :
    Calls Try.prog 21 #[.pointer (some ⟨rb, 0, none⟩), .agg #[.int .i64 a, .int .i64 d, .string (str ins)]] w (DoneAt w rb t st a d ins) := by
  have HN := Lib.hid (fun u (hs : Stay [] w u) => len_any rb t st u (h.stay0 hs))
  have hl := h.len
  have HSl := Lib.hid (fun u (hs : Stay [] w u) => slicer_any rb t st a d u (h.stay0 hs) (by omega) (by omega))
  rw [frL_nat a t.len (by omega), toL_nat a d t.len had] at HSl
  have hrl := h.lt
  obtain ⟨v, hr, hn, hl'⟩ := h
  have HS1 := Lib.hid (fun u (hs : Stay [] w u) => slice_any t v u 0 a (hn.stay hs (NoPair.nil w)) (Nat.zero_le _) (by omega) (by omega))
  have HS2 := Lib.hid (fun u (hs : Stay [] w u) => slice_any t v u (a + d) t.len (hn.stay hs (NoPair.nil w)) had (Nat.le_refl _) (by omega))
  have HG := Lib.hid (fun u => grow_all ins u (by omega))
  rw [Int.natCast_zero] at HS1
  have hblk : Blk w rb [v, .int .u64 st] 77 := hr
  obtain ⟨T, q, fb, ff, D⟩ := node_dyn hn
  have hv := D.val
  subst hv
  have HRt := Lib.hid (show ∀ u, Stay [] w u → u.cell? ⟨rb, 0, none⟩ = some (.iface T q) ∧ u.frozen? ⟨rb, 0, none⟩ = false from fun u hs => ⟨(hblk.stay hs (by simp)).cell 0, (hblk.stay hs (by simp)).free 0⟩)
  have HBr := Lib.hid hblk
  have hil := str_size ins
  have hE := editL_length t.text a d ins had
  have HEl := Lib.hid (show (cutL t.text 0 a).length + ins.length + (cutL t.text (a + d) t.len).length ≤ 1048576 from by
    rw [cutL_length _ _ _ (show a ≤ t.text.length by change a ≤ t.len; omega), cutL_length _ _ _ (show t.len ≤ t.text.length from Nat.le_refl _)]
    omega)
  obtain ⟨L, hL⟩ : ∃ L, L = t.len := ⟨_, rfl⟩
  rw [← hL] at HN HS2 hl had hi HEl
  have hLt : t.text.length = L := hL.symm
  rw [hLt] at hE
  obtain ⟨ed, hed⟩ : ∃ ed, ed = editL t.text a d ins := ⟨_, rfl⟩
  have HEd := Lib.hid (show cutL t.text 0 a ++ ins ++ cutL t.text (a + d) L = ed from by rw [hed, ← hLt]; rfl)
  have HEl2 := Lib.hid (show ed.length ≤ 1048576 from by rw [hed, hE]; omega)
  obtain ⟨x1, hx1⟩ : ∃ x, x = cutL t.text 0 a := ⟨_, rfl⟩
  obtain ⟨x2, hx2⟩ : ∃ x, x = cutL t.text (a + d) L := ⟨_, rfl⟩
  obtain ⟨out, hout⟩ : ∃ x, x = cutL t.text a (a + d) := ⟨_, rfl⟩
  rw [← hx1] at HS1 HEd HEl
  rw [← hx2] at HS2 HEd HEl
  rw [← hout] at HSl
  have HFin := Lib.hid (show ∀ (w' : World) (t' : Rp), RopeAt w' rb t' (IntKind.u64.wrap (st + 1)) → t'.text = ed → Stay [rb] w w' → DoneAt w rb t st a d ins (.returned (.tuple #[.agg #[.int .i64 a, .int .i64 ins.length, .string (str out)], .int .i64 0])) w' from fun w' t' h1 h2 h3 =>
    ⟨by rw [← hout], ⟨t', h1, h2.trans hed⟩, h3⟩)
  obtain ⟨s, hs⟩ : ∃ s, s = str ins := ⟨_, rfl⟩
  rw [← hs] at HG hil ⊢
  obtain ⟨n, hne⟩ : ∃ n, n = ins.length := ⟨_, rfl⟩
  rw [← hne] at hil hi HFin HEl
  rw [← hil] at HFin
  have hL4 : (L : Int) ≤ 1048576 := by omega
  have hb1 : (a : Int) ≤ L := by omega
  have hb2 : (d : Int) ≤ (L : Int) - a := by omega
  have hb3 : ¬ 1048576 - ((L : Int) - d) < s.size := by omega
  have hn1 : ¬ (a : Int) < 0 := by omega
  have hn2 : ¬ (d : Int) < 0 := by omega
  have hn3 : ¬ (L : Int) < a := by omega
  have hn4 : ¬ (L : Int) - a < d := by omega
  obtain ⟨ad, hade⟩ : ∃ ad, ad = a + d := ⟨_, rfl⟩
  rw [← hade] at HS2
  have hsum : IntKind.i64.wrap ((a : Int) + d) = (ad : Int) := by simp only [IntKind.wrap, IntKind.bits, IntKind.signed]; simp; omega
  have HIn := Lib.hid (show x1.length + ins.length ≤ 1048576 ∧ x1.length + ins.length + x2.length ≤ 1048576 from by have := HEl.out; omega)
  obtain ⟨Wb, hWb, hsb, hB1, hB2, hsz⟩ := do_boxes w a d s
  have HWb := Lib.hid hWb
  have HSb := Lib.hid hsb
  have HB1 := Lib.hid hB1
  have HB2 := Lib.hid hB2
  obtain ⟨B, hB⟩ : ∃ B, B = w.heap.size := ⟨_, rfl⟩
  rw [← hB] at HB1 HB2
  have HBe := Lib.hid hB
  have hrB : rb < B := by omega
  have HSz := Lib.hid hsz
  have HBx := Lib.hid (show ∀ u, Stay [] Wb u → u.cell? ⟨B, 0, none⟩ = some (.int .i64 a) ∧ u.cell? ⟨B, 1, none⟩ = some (.int .i64 d) ∧ u.cell? ⟨B, 2, none⟩ = some (.string s) from fun u hs => ⟨(HB1.out.stay hs (by simp)).cell 0, (HB1.out.stay hs (by simp)).cell 1, (HB1.out.stay hs (by simp)).cell 2⟩)
  have HKs := Lib.hid (show ∀ (u : World) (x : Value), u.cell? ⟨B, 0, none⟩ = some (.int .i64 a) ∧ u.cell? ⟨B, 1, none⟩ = some (.int .i64 d) ∧ u.cell? ⟨B, 2, none⟩ = some (.string s) → (u.setCell ⟨rb, 0, none⟩ x).cell? ⟨B, 0, none⟩ = some (.int .i64 a) ∧ (u.setCell ⟨rb, 0, none⟩ x).cell? ⟨B, 1, none⟩ = some (.int .i64 d) ∧ (u.setCell ⟨rb, 0, none⟩ x).cell? ⟨B, 2, none⟩ = some (.string s) from fun u x hx => by
    have hst : Stay [rb] u (u.setCell ⟨rb, 0, none⟩ x) := Stay.setCell _ _ _ (by simp)
    have hk : ∀ (j : Nat) (y : Value), u.cell? ⟨B, j, none⟩ = some y → (u.setCell ⟨rb, 0, none⟩ x).cell? ⟨B, j, none⟩ = some y := fun j y hy => (hst.cell_ (a := ⟨B, j, none⟩) (World.block_lt_of_cell? _ _ hy) (by simp; omega)).trans hy
    exact ⟨hk _ _ hx.1, hk _ _ hx.2.1, hk _ _ hx.2.2⟩)
  clear D hn hr hl' hl hE hL hLt hed hx1 hx2 hout hs hne hil hWb hsb hB1 hB2 hB hsz hblk HEl hi had hade
  go_enter Try.func21, Try.ntmps21
  go_wp2_with fail
  rw [← HWb.out]
  refine (HN.out _ HSb.out).mono ?_
  rintro e w2 ⟨rfl, hs⟩
  have HS := Lib.hid hs
  obtain ⟨c0, c1, c2⟩ := HBx.out w2 hs
  clear hs
  rw [← HBe.out]
  go_wp2_with fail
  go_cut [7] (fun p7 wx => ∃ b7 : Nat, p7 = .pointer (some ⟨b7, 0, none⟩) ∧ Hid (Stay [] Wb wx ∧ Blk wx b7 [.int .i64 a, .int .i64 s.size, .string (str out)] 37 ∧ B + 2 ≤ b7))
  case first =>
    have HSd := Lib.hid (HSb.out.trans HS.out.drew')
    have HSd2 := Lib.hid (show Stay [] Wb w2.drew from HS.out.drew')
    have HSa := Lib.hid (show Stay [] Wb (w2.alloc (.cells #[.int .i64 0, .int .i64 0, .string ⟨#[]⟩] 37)).drew from HS.out.alloc'.drew')
    have HBa := Lib.hid (show Blk (w2.alloc (.cells #[.int .i64 0, .int .i64 0, .string ⟨#[]⟩] 37)).drew w2.heap.size [.int .i64 0, .int .i64 0, .string ⟨#[]⟩] 37 from (Blk.new w2 _ 37).stay (F := []) (Stay.drew _) (by simp))
    have HZ2 := Lib.hid (show B + 2 ≤ w2.heap.size from by have := HS.out.size; rw [HSz.out, ← HBe.out] at this; exact this)
    have HKq := Lib.hid (show ∀ (u : World) (x y z : Value), (u.cell? ⟨B, 0, none⟩ = some (.int .i64 a) ∧ u.cell? ⟨B, 1, none⟩ = some (.int .i64 d) ∧ u.cell? ⟨B, 2, none⟩ = some (.string s)) → ((((u.setCell ⟨w2.heap.size, 0, none⟩ x).setCell ⟨w2.heap.size, 1, none⟩ y).setCell ⟨w2.heap.size, 2, none⟩ z).cell? ⟨B, 0, none⟩ = some (.int .i64 a) ∧ (((u.setCell ⟨w2.heap.size, 0, none⟩ x).setCell ⟨w2.heap.size, 1, none⟩ y).setCell ⟨w2.heap.size, 2, none⟩ z).cell? ⟨B, 1, none⟩ = some (.int .i64 d) ∧ (((u.setCell ⟨w2.heap.size, 0, none⟩ x).setCell ⟨w2.heap.size, 1, none⟩ y).setCell ⟨w2.heap.size, 2, none⟩ z).cell? ⟨B, 2, none⟩ = some (.string s)) from fun u x y z hx => by
      have hz := HZ2.out
      have hst : Stay [w2.heap.size] u (((u.setCell ⟨w2.heap.size, 0, none⟩ x).setCell ⟨w2.heap.size, 1, none⟩ y).setCell ⟨w2.heap.size, 2, none⟩ z) := ((Stay.setCell _ _ _ (by simp)).trans (Stay.setCell _ _ _ (by simp))).trans (Stay.setCell _ _ _ (by simp))
      have hk : ∀ (j : Nat) (q : Value), u.cell? ⟨B, j, none⟩ = some q → (((u.setCell ⟨w2.heap.size, 0, none⟩ x).setCell ⟨w2.heap.size, 1, none⟩ y).setCell ⟨w2.heap.size, 2, none⟩ z).cell? ⟨B, j, none⟩ = some q := fun j q hq => (hst.cell_ (a := ⟨B, j, none⟩) (World.block_lt_of_cell? _ _ hq) (by simp; omega)).trans hq
      exact ⟨hk _ _ hx.1, hk _ _ hx.2.1, hk _ _ hx.2.2⟩)
    go_region_held3 (fun w' => w'.cell? ⟨B, 0, none⟩ = some (.int .i64 a) ∧ w'.cell? ⟨B, 1, none⟩ = some (.int .i64 d) ∧ w'.cell? ⟨B, 2, none⟩ = some (.string s)) (first | exact hq | exact ⟨c0, c1, c2⟩ | exact HKq.out _ _ _ _ hq | go_keep)
      (first
        | (go_at_call 25; ((with_reducible refine (HSl.out _ HSd.out).mono ?_); rintro e w3 ⟨rfl, hb⟩); have HT3 := Lib.hid (HSd2.out.trans (Stay.below hb)); have hq := HBx.out _ HT3.out; clear hb)
        | (go_at_call 25; ((with_reducible refine (HSl.out _ (HSb.out.trans HSa.out)).mono ?_); rintro e w3 ⟨rfl, hb⟩); have HT3 := Lib.hid (HSa.out.trans (Stay.below hb)); have hq := HBx.out _ HT3.out; have HB7 := Lib.hid (HBa.out.stay (F := []) (Stay.below hb) (by simp)); have q0 := HB7.out.cell 0; have q1 := HB7.out.cell 1; have q2 := HB7.out.cell 2; have f0 := HB7.out.free 0; have f1 := HB7.out.free 1; have f2 := HB7.out.free 2; change _ = some (Value.int .i64 0) at q0; change _ = some (Value.int .i64 0) at q1; change _ = some (Value.string ⟨#[]⟩) at q2; clear hb))
    all_goals
      go_wp2_with fail
      go_meet
      have hz3 := HT3.out.size
      rw [HSz.out, ← HBe.out] at hz3
      have hz2 := HZ2.out
      first
        | exact ⟨w3.heap.size, rfl, HT3.out.alloc', Blk.new _ _ _, hz3⟩
        | exact ⟨w2.heap.size, rfl, ((HT3.out.set' (.inr (by rw [HSz.out, ← HBe.out]; exact hz2))).set' (.inr (by rw [HSz.out, ← HBe.out]; exact hz2))).set' (.inr (by rw [HSz.out, ← HBe.out]; exact hz2)), ((HB7.out.set 0 _).set 1 _).set 2 _, hz2⟩
  case rest =>
    obtain ⟨b7, rfl, HC7⟩ := hcut
    obtain ⟨w4, hw4⟩ : ∃ w4, w4 = wc := ⟨_, rfl⟩
    rw [← hw4] at HC7 ⊢
    have HT4 := Lib.hid HC7.out.1
    have HT4w := Lib.hid (HSb.out.trans HC7.out.1)
    have HB7 := Lib.hid HC7.out.2.1
    have h7B := HC7.out.2.2
    clear hw4 c0 c1 c2 HC7 HS HSl HN hn1 hn2 hn3 hn4 hb3
    obtain ⟨c0, c1, c2⟩ := HBx.out _ HT4.out
    have HSd := Lib.hid (HT4w.out.drew')
    have HS4 := Lib.hid (Stay.drew (F := []) w4)
    obtain ⟨r0, z0⟩ := HRt.out _ HSd.out
    go_wp2_with fail
    go_cut [82] (fun v9 wx => Hid (Mdl w rb b7 (B + 1) v9 st ed [.int .i64 a, .int .i64 s.size, .string (str out)] wx ∧ ∃ T9 q9, v9 = .iface T9 q9))
    case first =>
      refine AnyL.begin_ (S := fun w' => w'.cell? ⟨B, 0, none⟩ = some (.int .i64 a) ∧ w'.cell? ⟨B, 1, none⟩ = some (.int .i64 d) ∧ w'.cell? ⟨B, 2, none⟩ = some (.string s) ∧ w'.cell? ⟨rb, 0, none⟩ = some (.iface T q)) (n := 26) (by kernel_rfl) ?_
      have hHeld : (fun w' : World => w'.cell? ⟨B, 0, none⟩ = some (.int .i64 a) ∧ w'.cell? ⟨B, 1, none⟩ = some (.int .i64 d) ∧ w'.cell? ⟨B, 2, none⟩ = some (.string s) ∧ w'.cell? ⟨rb, 0, none⟩ = some (.iface T q)) w4.drew := ⟨c0, c1, c2, r0⟩

      refine AnyL.take (i := 0) (v := ?_) [24, 25, 26] rfl (by kernel_rfl) (by kernel_rfl) (by kernel_rfl) (by kernel_rfl) (fun _ _ _ h => h) (Or.inl ⟨by rfl, ?_⟩) hHeld ?_
      rotate_left
      · intro w hSw
        obtain ⟨k0, k1, k2, k3⟩ := hSw
        simp only [List.getElem_toArray, List.getElem_cons_zero]
        go_simp
        all_goals with_reducible rfl
      simp only [List.getElem_toArray, List.getElem_cons_zero, Act.put, List.setIfInBounds_toArray, List.set_cons_zero, List.set_cons_succ]

      refine AnyL.take (i := 1) (v := ?_) [2, 3, 4, 7, 11, 23, 26] rfl (by kernel_rfl) (by kernel_rfl) (by kernel_rfl) (by kernel_rfl) (fun _ _ _ h => h) (Or.inl ⟨by rfl, ?_⟩) hHeld ?_
      rotate_left
      · intro w hSw
        obtain ⟨k0, k1, k2, k3⟩ := hSw
        simp only [List.getElem_toArray, List.getElem_cons_zero, List.getElem_cons_succ]
        go_simp
        all_goals with_reducible rfl
      simp only [List.getElem_toArray, List.getElem_cons_zero, List.getElem_cons_succ, Act.put, List.setIfInBounds_toArray, List.set_cons_zero, List.set_cons_succ]

      refine AnyL.take (i := 2) (v := ?_) [3, 4, 7, 11, 23, 26] rfl (by kernel_rfl) (by kernel_rfl) (by kernel_rfl) (by kernel_rfl) (fun _ _ _ h => h) (Or.inl ⟨by rfl, ?_⟩) hHeld ?_
      rotate_left
      · intro w hSw
        obtain ⟨k0, k1, k2, k3⟩ := hSw
        simp only [List.getElem_toArray, List.getElem_cons_zero, List.getElem_cons_succ]
        go_simp
        all_goals with_reducible rfl
      simp only [List.getElem_toArray, List.getElem_cons_zero, List.getElem_cons_succ, Act.put, List.setIfInBounds_toArray, List.set_cons_zero, List.set_cons_succ]

      refine AnyL.take (i := 3) (v := ?_) [4, 7, 11, 23, 26] rfl (by kernel_rfl) (by kernel_rfl) (by kernel_rfl) (by kernel_rfl) (fun _ _ _ h => h) (Or.inl ⟨by rfl, ?_⟩) hHeld ?_
      rotate_left
      · intro w hSw
        obtain ⟨k0, k1, k2, k3⟩ := hSw
        simp only [List.getElem_toArray, List.getElem_cons_zero, List.getElem_cons_succ]
        go_simp
        all_goals with_reducible rfl
      simp only [List.getElem_toArray, List.getElem_cons_zero, List.getElem_cons_succ, Act.put, List.setIfInBounds_toArray, List.set_cons_zero, List.set_cons_succ]

      refine AnyL.take (i := 4) (v := ?_) [7, 11, 23, 26] rfl (by kernel_rfl) (by kernel_rfl) (by kernel_rfl) (by kernel_rfl) (fun _ _ _ h => h) (Or.inl ⟨by rfl, ?_⟩) hHeld ?_
      rotate_left
      · intro w hSw
        obtain ⟨k0, k1, k2, k3⟩ := hSw
        simp only [List.getElem_toArray, List.getElem_cons_zero, List.getElem_cons_succ]
        go_simp
        all_goals with_reducible rfl
      simp only [List.getElem_toArray, List.getElem_cons_zero, List.getElem_cons_succ, Act.put, List.setIfInBounds_toArray, List.set_cons_zero, List.set_cons_succ]

      refine AnyL.take (i := 5) (v := ?_) [6, 7, 11, 23, 26] rfl (by kernel_rfl) (by kernel_rfl) (by kernel_rfl) (by kernel_rfl) (fun _ _ _ h => h) (Or.inl ⟨by rfl, ?_⟩) hHeld ?_
      rotate_left
      · intro w hSw
        obtain ⟨k0, k1, k2, k3⟩ := hSw
        simp only [List.getElem_toArray, List.getElem_cons_zero, List.getElem_cons_succ]
        go_simp
        all_goals with_reducible rfl
      simp only [List.getElem_toArray, List.getElem_cons_zero, List.getElem_cons_succ, Act.put, List.setIfInBounds_toArray, List.set_cons_zero, List.set_cons_succ]

      refine AnyL.take (i := 6) (v := ?_) [7, 11, 23, 26] rfl (by kernel_rfl) (by kernel_rfl) (by kernel_rfl) (by kernel_rfl) (fun _ _ _ h => h) (Or.inl ⟨by rfl, ?_⟩) hHeld ?_
      rotate_left
      · intro w hSw
        obtain ⟨k0, k1, k2, k3⟩ := hSw
        simp only [List.getElem_toArray, List.getElem_cons_zero, List.getElem_cons_succ]
        go_simp
        all_goals with_reducible rfl
      simp only [List.getElem_toArray, List.getElem_cons_zero, List.getElem_cons_succ, Act.put, List.setIfInBounds_toArray, List.set_cons_zero, List.set_cons_succ]

      refine AnyL.take (i := 8) (v := ?_) [9, 10, 11, 23, 26] rfl (by kernel_rfl) (by kernel_rfl) (by kernel_rfl) (by kernel_rfl) (fun _ _ _ h => h) (Or.inl ⟨by rfl, ?_⟩) hHeld ?_
      rotate_left
      · intro w hSw
        obtain ⟨k0, k1, k2, k3⟩ := hSw
        simp only [List.getElem_toArray, List.getElem_cons_zero, List.getElem_cons_succ]
        go_simp
        all_goals with_reducible rfl
      simp only [List.getElem_toArray, List.getElem_cons_zero, List.getElem_cons_succ, Act.put, List.setIfInBounds_toArray, List.set_cons_zero, List.set_cons_succ]

      refine AnyL.take (i := 9) (v := ?_) [10, 11, 23, 26] rfl (by kernel_rfl) (by kernel_rfl) (by kernel_rfl) (by kernel_rfl) (fun _ _ _ h => h) (Or.inl ⟨by rfl, ?_⟩) hHeld ?_
      rotate_left
      · intro w hSw
        obtain ⟨k0, k1, k2, k3⟩ := hSw
        simp only [List.getElem_toArray, List.getElem_cons_zero, List.getElem_cons_succ]
        go_simp
        all_goals with_reducible rfl
      simp only [List.getElem_toArray, List.getElem_cons_zero, List.getElem_cons_succ, Act.put, List.setIfInBounds_toArray, List.set_cons_zero, List.set_cons_succ]

      refine AnyL.take (i := 12) (v := ?_) [13, 14, 15, 22, 23, 26] rfl (by kernel_rfl) (by kernel_rfl) (by kernel_rfl) (by kernel_rfl) (fun _ _ _ h => h) (Or.inl ⟨by rfl, ?_⟩) hHeld ?_
      rotate_left
      · intro w hSw
        obtain ⟨k0, k1, k2, k3⟩ := hSw
        simp only [List.getElem_toArray, List.getElem_cons_zero, List.getElem_cons_succ]
        go_simp
        all_goals with_reducible rfl
      simp only [List.getElem_toArray, List.getElem_cons_zero, List.getElem_cons_succ, Act.put, List.setIfInBounds_toArray, List.set_cons_zero, List.set_cons_succ]

      refine AnyL.take (i := 13) (v := ?_) [14, 15, 22, 23, 26] rfl (by kernel_rfl) (by kernel_rfl) (by kernel_rfl) (by kernel_rfl) (fun _ _ _ h => h) (Or.inl ⟨by rfl, ?_⟩) hHeld ?_
      rotate_left
      · intro w hSw
        obtain ⟨k0, k1, k2, k3⟩ := hSw
        simp only [List.getElem_toArray, List.getElem_cons_zero, List.getElem_cons_succ]
        go_simp
        all_goals with_reducible rfl
      simp only [List.getElem_toArray, List.getElem_cons_zero, List.getElem_cons_succ, Act.put, List.setIfInBounds_toArray, List.set_cons_zero, List.set_cons_succ]

      refine AnyL.take (i := 14) (v := ?_) [15, 22, 23, 26] rfl (by kernel_rfl) (by kernel_rfl) (by kernel_rfl) (by kernel_rfl) (fun _ _ _ h => h) (Or.inl ⟨by rfl, ?_⟩) hHeld ?_
      rotate_left
      · intro w hSw
        obtain ⟨k0, k1, k2, k3⟩ := hSw
        simp only [List.getElem_toArray, List.getElem_cons_zero, List.getElem_cons_succ]
        go_simp
        all_goals with_reducible rfl
      simp only [List.getElem_toArray, List.getElem_cons_zero, List.getElem_cons_succ, Act.put, List.setIfInBounds_toArray, List.set_cons_zero, List.set_cons_succ]

      refine AnyL.take (i := 15) (v := ?_) [22, 23, 26] rfl (by kernel_rfl) (by kernel_rfl) (by kernel_rfl) (by kernel_rfl) (fun _ _ _ h => h) (Or.inl ⟨by rfl, ?_⟩) hHeld ?_
      rotate_left
      · intro w hSw
        obtain ⟨k0, k1, k2, k3⟩ := hSw
        simp only [List.getElem_toArray, List.getElem_cons_zero, List.getElem_cons_succ]
        go_simp
        all_goals with_reducible rfl
      simp only [List.getElem_toArray, List.getElem_cons_zero, List.getElem_cons_succ, Act.put, List.setIfInBounds_toArray, List.set_cons_zero, List.set_cons_succ]

      refine AnyL.take (i := 16) (v := ?_) [17, 20, 22, 23, 26] rfl (by kernel_rfl) (by kernel_rfl) (by kernel_rfl) (by kernel_rfl) (fun _ _ _ h => h) (Or.inl ⟨by rfl, ?_⟩) hHeld ?_
      rotate_left
      · intro w hSw
        obtain ⟨k0, k1, k2, k3⟩ := hSw
        simp only [List.getElem_toArray, List.getElem_cons_zero, List.getElem_cons_succ]
        go_simp
        all_goals with_reducible rfl
      simp only [List.getElem_toArray, List.getElem_cons_zero, List.getElem_cons_succ, Act.put, List.setIfInBounds_toArray, List.set_cons_zero, List.set_cons_succ]

      refine AnyL.take (i := 17) (v := ?_) [20, 22, 23, 26] rfl (by kernel_rfl) (by kernel_rfl) (by kernel_rfl) (by kernel_rfl) (fun _ _ _ h => h) (Or.inl ⟨by rfl, ?_⟩) hHeld ?_
      rotate_left
      · intro w hSw
        obtain ⟨k0, k1, k2, k3⟩ := hSw
        simp only [List.getElem_toArray, List.getElem_cons_zero, List.getElem_cons_succ]
        go_simp
        all_goals with_reducible rfl
      simp only [List.getElem_toArray, List.getElem_cons_zero, List.getElem_cons_succ, Act.put, List.setIfInBounds_toArray, List.set_cons_zero, List.set_cons_succ]

      refine AnyL.take (i := 18) (v := ?_) [19, 20, 22, 23, 26] rfl (by kernel_rfl) (by kernel_rfl) (by kernel_rfl) (by kernel_rfl) (fun _ _ _ h => h) (Or.inl ⟨by rfl, ?_⟩) hHeld ?_
      rotate_left
      · intro w hSw
        obtain ⟨k0, k1, k2, k3⟩ := hSw
        simp only [List.getElem_toArray, List.getElem_cons_zero, List.getElem_cons_succ]
        go_simp
        all_goals with_reducible rfl
      simp only [List.getElem_toArray, List.getElem_cons_zero, List.getElem_cons_succ, Act.put, List.setIfInBounds_toArray, List.set_cons_zero, List.set_cons_succ]

      refine AnyL.take (i := 19) (v := ?_) [20, 22, 23, 26] rfl (by kernel_rfl) (by kernel_rfl) (by kernel_rfl) (by kernel_rfl) (fun _ _ _ h => h) (Or.inl ⟨by rfl, ?_⟩) hHeld ?_
      rotate_left
      · intro w hSw
        obtain ⟨k0, k1, k2, k3⟩ := hSw
        simp only [List.getElem_toArray, List.getElem_cons_zero, List.getElem_cons_succ]
        go_simp
        all_goals with_reducible rfl
      simp only [List.getElem_toArray, List.getElem_cons_zero, List.getElem_cons_succ, Act.put, List.setIfInBounds_toArray, List.set_cons_zero, List.set_cons_succ]

      refine AnyL.take (i := 20) (v := ?_) [22, 23, 26] rfl (by kernel_rfl) (by kernel_rfl) (by kernel_rfl) (by kernel_rfl) (fun _ _ _ h => h) (Or.inl ⟨by rfl, ?_⟩) hHeld ?_
      rotate_left
      · intro w hSw
        obtain ⟨k0, k1, k2, k3⟩ := hSw
        simp only [List.getElem_toArray, List.getElem_cons_zero, List.getElem_cons_succ]
        go_simp
        all_goals with_reducible rfl
      simp only [List.getElem_toArray, List.getElem_cons_zero, List.getElem_cons_succ, Act.put, List.setIfInBounds_toArray, List.set_cons_zero, List.set_cons_succ]

      refine AnyL.take (i := 21) (v := ?_) [22, 23, 26] rfl (by kernel_rfl) (by kernel_rfl) (by kernel_rfl) (by kernel_rfl) (fun _ _ _ h => h) (Or.inl ⟨by rfl, ?_⟩) hHeld ?_
      rotate_left
      · intro w hSw
        obtain ⟨k0, k1, k2, k3⟩ := hSw
        simp only [List.getElem_toArray, List.getElem_cons_zero, List.getElem_cons_succ]
        go_simp
        all_goals with_reducible rfl
      simp only [List.getElem_toArray, List.getElem_cons_zero, List.getElem_cons_succ, Act.put, List.setIfInBounds_toArray, List.set_cons_zero, List.set_cons_succ]

      refine AnyL.next (i := 7) (by kernel_rfl) ?_
      refine wpOp_step rfl (fun K hK => ?_)
      have HK := Lib.hid hK
      clear hK
      simp only [List.getElem_toArray, List.getElem_cons_zero, List.getElem_cons_succ]
      rw [if_pos (by rfl)]
      go_simp
      go_at_call 54; ((with_reducible refine (HS1.out _ HSd.out).mono ?_); rintro e w5 ⟨v5, t5, rfl, n5, x5, b5⟩); have HT5 := Lib.hid (HSd.out.trans (Stay.below b5)); have HT5c := Lib.hid (HS4.out.trans (Stay.below b5)); have HT5b := Lib.hid (HT4.out.drew'.trans (Stay.below b5)); have hq := HBx.out _ HT5b.out; obtain ⟨r1, z1⟩ := HRt.out _ HT5.out; have HN5 := Lib.hid n5; have HX5 := Lib.hid x5; clear n5 x5 b5
      refine HK.out _ _ ⟨.inr ⟨hq.1, hq.2.1, hq.2.2, r1⟩, ?_⟩
      clear HK K
      refine AnyL.next (i := 10) (by kernel_rfl) ?_
      refine wpOp_step rfl (fun K hK => ?_)
      have HK := Lib.hid hK
      clear hK
      simp only [List.getElem_toArray, List.getElem_cons_zero, List.getElem_cons_succ]
      rw [if_pos (by rfl)]
      go_simp
      go_at_call 38; ((with_reducible refine (HG.out _).mono ?_); rintro e w6 ⟨v6, t6, rfl, n6, x6, b6⟩); have HT6 := Lib.hid (HT5.out.trans (Stay.below b6)); have HT6c := Lib.hid (HT5c.out.trans (Stay.below b6)); have HT6b := Lib.hid (HT5b.out.trans (Stay.below b6)); have hq := HBx.out _ HT6b.out; obtain ⟨r2, z2⟩ := HRt.out _ HT6.out; have HN6 := Lib.hid n6; have HX6 := Lib.hid x6; have HN5' := Lib.hid (HN5.out.below b6); clear n6 x6 b6
      refine HK.out _ _ ⟨.inr ⟨hq.1, hq.2.1, hq.2.2, r2⟩, ?_⟩
      clear HK K
      refine AnyL.next (i := 11) (by kernel_rfl) ?_
      refine wpOp_step rfl (fun K hK => ?_)
      have HK := Lib.hid hK
      clear hK
      simp only [List.getElem_toArray, List.getElem_cons_zero, List.getElem_cons_succ]
      rw [if_pos (by rfl)]
      go_simp
      go_at_call 53; ((with_reducible refine (both_any v5 v6 t5 t6 _ HN5'.out HN6.out (by rw [Rp.len, Rp.len, HX5.out, HX6.out]; have := HIn.out.1; omega)).mono ?_); rintro e w7 ⟨v7, t7, rfl, n7, x7, b7'⟩); have HT7 := Lib.hid (HT6.out.trans (Stay.below b7')); have HT7c := Lib.hid (HT6c.out.trans (Stay.below b7')); have HT7b := Lib.hid (HT6b.out.trans (Stay.below b7')); have hq := HBx.out _ HT7b.out; obtain ⟨r3, z3⟩ := HRt.out _ HT7.out; have HN7 := Lib.hid n7; have HX7 := Lib.hid (x7.trans (by rw [HX5.out, HX6.out])); clear n7 x7 b7'
      refine HK.out _ _ ⟨.inr ⟨hq.1, hq.2.1, hq.2.2, r3⟩, ?_⟩
      clear HK K
      refine AnyL.next (i := 22) (by kernel_rfl) ?_
      refine wpOp_step rfl (fun K hK => ?_)
      have HK := Lib.hid hK
      clear hK
      simp only [List.getElem_toArray, List.getElem_cons_zero, List.getElem_cons_succ]
      rw [if_pos (by rfl)]
      go_simp
      go_at_call 54; ((with_reducible refine (HS2.out _ HT7.out).mono ?_); rintro e w8 ⟨v8, t8, rfl, n8, x8, b8⟩); have HT8 := Lib.hid (HT7.out.trans (Stay.below b8)); have HT8c := Lib.hid (HT7c.out.trans (Stay.below b8)); have HT8b := Lib.hid (HT7b.out.trans (Stay.below b8)); have hq := HBx.out _ HT8b.out; obtain ⟨r4, z4⟩ := HRt.out _ HT8.out; have HN8 := Lib.hid n8; have HX8 := Lib.hid x8; have HN7' := Lib.hid (HN7.out.below b8); clear n8 x8 b8
      refine HK.out _ _ ⟨.inr ⟨hq.1, hq.2.1, hq.2.2, r4⟩, ?_⟩
      clear HK K
      refine AnyL.next (i := 23) (by kernel_rfl) ?_
      refine wpOp_step rfl (fun K hK => ?_)
      have HK := Lib.hid hK
      clear hK
      simp only [List.getElem_toArray, List.getElem_cons_zero, List.getElem_cons_succ]
      rw [if_pos (by rfl)]
      go_simp
      go_at_call 53; ((with_reducible refine (both_any v7 v8 t7 t8 _ HN7'.out HN8.out (by rw [Rp.len, Rp.len, HX7.out, HX8.out, List.length_append]; have := HIn.out.2; omega)).mono ?_); rintro e w9 ⟨v9, t9, rfl, n9, x9, b9⟩); have HT9 := Lib.hid (HT8.out.trans (Stay.below b9)); have HT9c := Lib.hid (HT8c.out.trans (Stay.below b9)); have HT9b := Lib.hid (HT8b.out.trans (Stay.below b9)); have hq := HBx.out _ HT9b.out; obtain ⟨r5, z5⟩ := HRt.out _ HT9.out; obtain ⟨T9, q9, fb9, ff9, D9⟩ := node_dyn n9; have hv9 := D9.val; subst hv9; have HN9 := Lib.hid n9; have HX9 := Lib.hid (x9.trans (by rw [HX7.out, HX8.out])); clear n9 x9 b9 D9
      refine HK.out _ _ ⟨.inr ⟨hq.1, hq.2.1, hq.2.2, r5⟩, ?_⟩
      clear HK K
      have hHeld9 := (show (fun w' : World => w'.cell? ⟨B, 0, none⟩ = some (.int .i64 a) ∧ w'.cell? ⟨B, 1, none⟩ = some (.int .i64 d) ∧ w'.cell? ⟨B, 2, none⟩ = some (.string s) ∧ w'.cell? ⟨rb, 0, none⟩ = some (.iface T q)) w9 from ⟨hq.1, hq.2.1, hq.2.2, r5⟩)
      refine AnyL.take (i := 24) (v := ?_) [25, 26] rfl (by kernel_rfl) (by kernel_rfl) (by kernel_rfl) (by kernel_rfl) (fun _ _ _ h => h) (Or.inl ⟨by rfl, ?_⟩) hHeld9 ?_
      rotate_left
      · intro w hSw
        obtain ⟨k0, k1, k2, k3⟩ := hSw
        simp only [List.getElem_toArray, List.getElem_cons_zero, List.getElem_cons_succ]
        go_simp
        all_goals with_reducible rfl
      simp only [List.getElem_toArray, List.getElem_cons_zero, List.getElem_cons_succ, Act.put, List.setIfInBounds_toArray, List.set_cons_zero, List.set_cons_succ]

      refine AnyL.take (i := 25) (v := ?_) [26] rfl (by kernel_rfl) (by kernel_rfl) (by kernel_rfl) (by kernel_rfl) (fun _ _ _ h => h) (Or.inl ⟨by rfl, ?_⟩) hHeld9 ?_
      rotate_left
      · intro w hSw
        obtain ⟨k0, k1, k2, k3⟩ := hSw
        simp only [List.getElem_toArray, List.getElem_cons_zero, List.getElem_cons_succ]
        go_simp
        all_goals with_reducible rfl
      simp only [List.getElem_toArray, List.getElem_cons_zero, List.getElem_cons_succ, Act.put, List.setIfInBounds_toArray, List.set_cons_zero, List.set_cons_succ]

      refine AnyL.next (i := 26) (by kernel_rfl) ?_
      refine wpOp_step rfl (fun K hK => ?_)
      have HK := Lib.hid hK
      clear hK
      go_wp2_with fail
      refine HK.out _ _ ⟨.inl (by first | rfl | trivial), ?_⟩
      clear HK K
      refine AnyL.done (by kernel_rfl) ?_ _
      all_goals
        go_wp2_with fail
        go_meet
        exact ⟨Mdl.first (HBr.out.stay HT9.out (by simp)) HT9.out (HB7.out.stay HT9c.out (by simp)) (HB2.out.stay HT9b.out (by simp)) HN9.out (HX9.out.trans HEd.out) (by omega) (by omega), _, _, rfl⟩
    case rest =>
      obtain ⟨w10, hw10⟩ : ∃ w10, w10 = wc := ⟨_, rfl⟩
      rw [← hw10] at hcut ⊢
      clear hw10 c0 c1 c2 r0 z0 HS1 HS2 HKs HBx HRt HSd HT4 HT4w HB7 hsum
      obtain ⟨hM, T9, q9, hv9⟩ := hcut.out
      subst hv9
      have HM := Lib.hid hM
      obtain ⟨t9, hn9, hx9⟩ := hM.node
      have HR9 := Lib.hid (show RopeAt w10 rb t9 st from ⟨_, hM.blk, hn9, by rw [Rp.len, hx9]; exact HEl2.out⟩)
      have HDp := Lib.hid (deep_any hn9)
      have hdl : t9.deep ≤ 1048576 := Nat.le_trans hn9.deep_le HR9.out.len
      have HX9 := Lib.hid hx9
      have r10 : w10.cell? ⟨rb, 0, none⟩ = some (.iface T9 q9) := hM.blk.cell 0
      have r11 : w10.cell? ⟨rb, 1, none⟩ = some (.int .u64 st) := hM.blk.cell 1
      have z10 := hM.blk.free 0
      have z11 := hM.blk.free 1
      have k0 : w10.cell? ⟨b7, 0, none⟩ = some (.int .i64 a) := hM.back.cell 0
      have k1 : w10.cell? ⟨b7, 1, none⟩ = some (.int .i64 s.size) := hM.back.cell 1
      have k2 : w10.cell? ⟨b7, 2, none⟩ = some (.string (str out)) := hM.back.cell 2
      have m0 : w10.cell? ⟨B + 1, 0, none⟩ = some (.int .i64 0) := hM.res.cell 0
      have m1 : w10.cell? ⟨B + 1, 1, none⟩ = some (.int .i64 0) := hM.res.cell 1
      have m2 : w10.cell? ⟨B + 1, 2, none⟩ = some (.string ⟨#[]⟩) := hM.res.cell 2
      have y0 := hM.res.free 0
      have y1 := hM.res.free 1
      have y2 := hM.res.free 2
      have hne1 : ¬ b7 = rb := by omega
      have hne2 : ¬ rb = b7 := by omega
      have hne3 : ¬ B + 1 = rb := by omega
      have hne4 : ¬ rb = B + 1 := by omega
      have hne5 : ¬ b7 = B + 1 := by omega
      have hne6 : ¬ B + 1 = b7 := by omega
      obtain ⟨dp, hdp⟩ : ∃ dp, dp = t9.deep := ⟨_, rfl⟩
      rw [← hdp] at HDp hdl
      clear hM hn9 hx9 hdp hcut
      go_wp2_with fail
      refine HDp.out.mono ?_
      rintro e w' ⟨rfl, rfl⟩
      by_cases hdeep : 40 < dp
      · have hdeep' : (40 : Int) < dp := by omega
        have HTx := Lib.hid (text_any rb t9 st w10 HR9.out)
        rw [HX9.out] at HTx
        go_wp2_with fail
        refine HTx.out.mono ?_
        rintro e w11 ⟨rfl, hb11⟩
        have HM11 := Lib.hid (HM.out.keep (Stay.below hb11))
        clear hb11
        go_wp2_with fail
        refine (grow_all ed w11 (by have := HEl2.out; omega)).mono ?_
        rintro e w12 ⟨v12, t12, rfl, n12, x12, b12⟩
        have hM12 := HM11.out.keep (Stay.below b12)
        obtain ⟨T12, q12, fb12, ff12, D12⟩ := node_dyn n12
        have hv12 := D12.val
        subst hv12
        have HM12 := Lib.hid (hM12.root n12 x12 hne1 hne3)
        clear r10 r11 z10 z11 k0 k1 k2 m0 m1 m2 y0 y1 y2
        have r10 : w12.cell? ⟨rb, 0, none⟩ = some (.iface T9 q9) := hM12.blk.cell 0
        have r11 : w12.cell? ⟨rb, 1, none⟩ = some (.int .u64 st) := hM12.blk.cell 1
        have z10 := hM12.blk.free 0
        have z11 := hM12.blk.free 1
        have k0 : w12.cell? ⟨b7, 0, none⟩ = some (.int .i64 a) := hM12.back.cell 0
        have k1 : w12.cell? ⟨b7, 1, none⟩ = some (.int .i64 s.size) := hM12.back.cell 1
        have k2 : w12.cell? ⟨b7, 2, none⟩ = some (.string (str out)) := hM12.back.cell 2
        have m0 : w12.cell? ⟨B + 1, 0, none⟩ = some (.int .i64 0) := hM12.res.cell 0
        have m1 : w12.cell? ⟨B + 1, 1, none⟩ = some (.int .i64 0) := hM12.res.cell 1
        have m2 : w12.cell? ⟨B + 1, 2, none⟩ = some (.string ⟨#[]⟩) := hM12.res.cell 2
        have y0 := hM12.res.free 0
        have y1 := hM12.res.free 1
        have y2 := hM12.res.free 2
        clear hM12 n12 x12 b12 D12
        go_wp2_with fail
        obtain ⟨t', h1, h2, h3⟩ := HM12.out.fin (st' := IntKind.u64.wrap (st + 1)) HEl2.out hne3 (by have := HBe.out; omega) (.int .i64 a) (.int .i64 s.size) (.string (str out))
        exact bodyPost_ret (v := .tuple #[.agg #[.int .i64 a, .int .i64 s.size, .string (str out)], .int .i64 0]) (by simp [results, Try.results21, go_sem, m0, m1, m2]) rfl (HFin.out _ t' h1 h2 h3)
      · have hdeep' : ¬ (40 : Int) < dp := by omega
        go_wp2_with fail
        obtain ⟨t', h1, h2, h3⟩ := HM.out.fin (st' := IntKind.u64.wrap (st + 1)) HEl2.out hne3 (by have := HBe.out; omega) (.int .i64 a) (.int .i64 s.size) (.string (str out))
        exact bodyPost_ret (v := .tuple #[.agg #[.int .i64 a, .int .i64 s.size, .string (str out)], .int .i64 0]) (by simp [results, Try.results21, go_sem, m0, m1, m2]) rfl (HFin.out _ t' h1 h2 h3)
end Go.Proofs.Ytjoeebjmjnddoaa
