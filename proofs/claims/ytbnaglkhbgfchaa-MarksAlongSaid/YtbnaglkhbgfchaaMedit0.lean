/- package marks: Edit: what its loop keeps; Drop; the nil forms. -/
import Derived.Test.YtbnaglkhbgfchaaMadd
namespace Go.Proofs.Ytbnaglkhbgfchaa
open Go.RowKit
def edE (p d k : Int) (x : EN) : EN := { x with st := edSt p d k x.st }
def updE (p d k : Int) (seen : Array Nat) (x : EN) : EN := if seen.contains x.bn then edE p d k x else x
theorem updE_bn (p d k : Int) (seen : Array Nat) (x : EN) : (updE p d k seen x).bn = x.bn := by unfold updE; split <;> rfl
theorem updE_id (p d k : Int) (seen : Array Nat) (x : EN) : (updE p d k seen x).id = x.id := by unfold updE; split <;> rfl
theorem edSt_ok {p d k : Int} {x : St} (hx : x.ok) (hp : 0 ≤ p) (hd : 0 ≤ d) (hk : 0 ≤ k) (he : x.e + k ≤ 1152921504606846976) : (edSt p d k x).ok ∧ (edSt p d k x).e ≤ x.e + k := by
  obtain ⟨h0, h1, h2⟩ := hx
  have hb := cutP_bounds h0 hp hd
  have he' := cutP_bounds (Int.le_trans h0 h1) hp hd
  have hm := cutP_mono (at_ := p) h1 hd
  unfold edSt St.ok
  simp only
  split
  · simp only; omega
  · split
    · simp only; omega
    · simp only; omega
theorem updE_nil (p d k : Int) (L : List EN) : L.map (updE p d k #[]) = L := by
  conv => rhs; rw [← List.map_id L]
  exact List.map_congr_left (fun x _ => by unfold updE; simp)
theorem nodup_eq {α β : Type} {f : α → β} : ∀ {L : List α}, (L.map f).Nodup → ∀ {x y : α}, x ∈ L → y ∈ L → f x = f y → x = y
  | [], _, _, _, hx, _, _ => by cases hx
  | z :: L, hn, x, y, hx, hy, e => by
    rw [List.map_cons, List.nodup_cons] at hn
    rcases List.mem_cons.1 hx with hx | hx
    · rcases List.mem_cons.1 hy with hy | hy
      · rw [hx, hy]
      · exact absurd (List.mem_map.2 ⟨y, hy, by rw [← e, hx]⟩) hn.1
    · rcases List.mem_cons.1 hy with hy | hy
      · exact absurd (List.mem_map.2 ⟨x, hx, by rw [e, hy]⟩) hn.1
      · exact nodup_eq hn.2 hx hy e
theorem upd_push {p d k : Int} {seen : Array Nat} {L : List EN} {x : EN} (hn : (L.map (·.bn)).Nodup) (hi : (L.map (·.id)).Nodup) (hx : x ∈ L) (hs : seen.contains x.bn = false) :
    (L.map (updE p d k seen)).map (putE x.id (edSt p d k x.st)) = L.map (updE p d k (seen.push x.bn)) := by
  rw [List.map_map]
  refine List.map_congr_left (fun y hy => ?_)
  show putE x.id _ (updE p d k seen y) = updE p d k (seen.push x.bn) y
  by_cases e : y = x
  · subst e
    unfold putE
    rw [if_pos (updE_id p d k seen y)]
    unfold updE
    rw [hs, contains_push]
    simp [edE]
  · have h1 : y.id ≠ x.id := fun h => e (nodup_eq hi hy hx h)
    have h2 : y.bn ≠ x.bn := fun h => e (nodup_eq hn hy hx h)
    unfold putE
    rw [if_neg (by rw [updE_id]; exact h1)]
    unfold updE
    rw [contains_push]
    have : (y.bn == x.bn) = false := by simpa using h2
    rw [this, Bool.or_false]
theorem upd_all {p d k : Int} {seen : Array Nat} {L : List EN} (h : ∀ x ∈ L, seen.contains x.bn = true) : L.map (updE p d k seen) = L.map (edE p d k) :=
  List.map_congr_left (fun x hx => by unfold updE; rw [h x hx]; rfl)
/-- what is left of a range -/
def leftN (w : World) (ib mb : Nat) : Nat := match w.heap[mb]?, w.heap[ib]? with
  | some (.map es _), some (.mapIter _ _ seen _) => (leftOf es seen).size
  | _, _ => 0
theorem leftN_eq {w : World} {ib mb ck : Nat} {L : List EN} {seen : Array Nat} (hm : MapAt w mb L ck) (hi : IterAt w ib mb ck seen) : leftN w ib mb = (L.filter fun x => !seen.contains x.bn).length := by
  unfold IterAt at hi
  unfold leftN
  rw [hm.h, hi]
  show (leftOf (L.map EN.ent).toArray seen).size = _
  unfold leftOf
  rw [← Array.length_toList, Array.toList_filter]
  show ((L.map EN.ent).filter _).length = _
  rw [List.filter_map, List.length_map]
  rfl
theorem left_lt {L : List EN} {seen : Array Nat} {x : EN} (hx : x ∈ L) (hs : seen.contains x.bn = false) : (L.filter fun y => !(seen.push x.bn).contains y.bn).length < (L.filter fun y => !seen.contains y.bn).length :=
  filter_lt (fun y : EN => !seen.contains y.bn) (fun y => !(seen.push x.bn).contains y.bn) (fun y h => by
    rw [contains_push] at h
    simp at h ⊢
    exact h.1) x (by rw [hs]; rfl) (by simp [contains_push]) L hx
theorem filter_upd (p d k : Int) (s1 s2 : Array Nat) (L : List EN) : ((L.map (updE p d k s1)).filter fun y => !s2.contains y.bn).length = (L.filter fun y => !s2.contains y.bn).length := by
  rw [List.filter_map, List.length_map]
  congr 1
  refine List.filter_congr (fun y _ => ?_)
  show (!s2.contains (updE p d k s1 y).bn) = _
  rw [updE_bn]
/-- what Edit's loop keeps -/
structure EI (w wr : World) (sb mb bx ib ck : Nat) (L : List EN) (last p d k : Int) (bl : List Value) (seen : Array Nat) : Prop where
  m : MapAt wr mb (L.map (updE p d k seen)) ck
  i : IterAt wr ib mb ck seen
  blk : Blk wr sb [.map (some mb), .int .i64 last] 61
  bx : Blk wr bx bl 37
  st : Stay [mb] w wr
  hib : w.heap.size ≤ ib
section
variable {w wr wr' : World} {sb mb bx ib ck : Nat} {L : List EN} {last p d k : Int} {bl : List Value} {seen : Array Nat}
theorem EI.ne (h : EI w wr sb mb bx ib ck L last p d k bl seen) : ib ≠ mb ∧ ib ≠ sb ∧ ib ≠ bx := by
  have hi := h.i
  unfold IterAt at hi
  refine ⟨fun e => ?_, fun e => ?_, fun e => ?_⟩
  · subst e
    rw [h.m.h] at hi
    cases hi
  · subst e
    have := h.blk
    unfold Blk at this
    rw [hi] at this
    cases this
  · subst e
    have := h.bx
    unfold Blk at this
    rw [hi] at this
    cases this
theorem EI.stay0 (h : EI w wr sb mb bx ib ck L last p d k bl seen) (hs : Stay [] wr wr') : EI w wr' sb mb bx ib ck L last p d k bl seen :=
  ⟨h.m.stay hs (by simp), h.i.stay hs (by simp), h.blk.stay hs (by simp), h.bx.stay hs (by simp), h.st.trans (hs.mono (by simp)), h.hib⟩
/-- new blocks are written -/
theorem EI.new {F : List Nat} (h : EI w wr sb mb bx ib ck L last p d k bl seen) (hs : Stay F wr wr') (hF : ∀ f ∈ F, w.heap.size ≤ f ∧ f ≠ ib ∧ f ≠ bx ∧ f ≠ sb ∧ f ≠ mb) : EI w wr' sb mb bx ib ck L last p d k bl seen :=
  ⟨h.m.stay hs (fun hm => (hF _ hm).2.2.2.2 rfl), h.i.stay hs (fun hm => (hF _ hm).2.1 rfl), h.blk.stay hs (fun hm => (hF _ hm).2.2.2.1 rfl), h.bx.stay hs (fun hm => (hF _ hm).2.2.1 rfl), h.st.trans' hs (fun f hf => .inr (hF f hf).1), h.hib⟩
/-- the iterator has stepped -/
theorem EI.stepped {x : EN} (h : EI w wr sb mb bx ib ck L last p d k bl seen) (hs : Stay [ib] wr wr') (hi : IterAt wr' ib mb ck (seen.push x.bn)) :
    MapAt wr' mb (L.map (updE p d k seen)) ck ∧ Blk wr' sb [.map (some mb), .int .i64 last] 61 ∧ Blk wr' bx bl 37 ∧ Stay [mb] w wr' := by
  obtain ⟨h1, h2, h3⟩ := h.ne
  exact ⟨h.m.stay hs (by simpa using h1.symm), h.blk.stay hs (by simpa using h2.symm), h.bx.stay hs (by simpa using h3.symm), h.st.trans' hs (fun f hf => .inr (by rw [List.mem_singleton] at hf; rw [hf]; exact h.hib))⟩
theorem EI.done {w1 w6 : World} {b7 : Nat} {x : EN} (h : EI w wr sb mb bx ib ck L last p d k bl seen) (hnb : (L.map (·.bn)).Nodup) (hni : (L.map (·.id)).Nodup) (hst1 : Stay [ib] wr w1) (hit : IterAt w1 ib mb ck (seen.push x.bn)) (hx : x ∈ L) (hsn : seen.contains x.bn = false) (hs6 : Stay [b7] w1 w6) (hb7 : w1.heap.size ≤ b7) :
    MapAt w6 mb (L.map (updE p d k seen)) ck ∧ Blk w6 sb [.map (some mb), .int .i64 last] 61 ∧
    EI w (setO w6 mb (.map (((L.map (updE p d k seen)).map (putE x.id (edSt p d k x.st))).map EN.ent).toArray ck)) sb mb bx ib ck L last p d k bl (seen.push x.bn) ∧
    leftN (setO w6 mb (.map (((L.map (updE p d k seen)).map (putE x.id (edSt p d k x.st))).map EN.ent).toArray ck)) ib mb < leftN wr ib mb := by
  obtain ⟨h1, h2, h3, h4⟩ := h.stepped hst1 hit
  obtain ⟨n1, n2, n3⟩ := h.ne
  have m6 := h1.stay hs6 (by have := h1.lt_; simp; omega)
  have i6 := hit.stay hs6 (by have := hit.lt; simp; omega)
  have b6 := h2.stay hs6 (by have := h2.lt; simp; omega)
  have x6 := h3.stay hs6 (by have := h3.lt; simp; omega)
  have hso : Stay [mb] w6 (setO w6 mb (.map (((L.map (updE p d k seen)).map (putE x.id (edSt p d k x.st))).map EN.ent).toArray ck)) := Stay.setO _ (by simp)
  have hp := m6.put x.id (edSt p d k x.st)
  have i7 := i6.stay hso (by simpa using n1)
  rw [upd_push hnb hni hx hsn] at hp hso ⊢
  rw [upd_push hnb hni hx hsn] at i7
  refine ⟨m6, b6, ⟨hp, i7, b6.stay hso (by simpa using m6.noBlk b6), x6.stay hso (by simpa using m6.noBlk x6), (h4.trans' hs6 (fun f hf => .inr (by rw [List.mem_singleton] at hf; rw [hf]; exact Nat.le_trans h4.size hb7))).trans hso, h.hib⟩, ?_⟩
  rw [leftN_eq hp i7, leftN_eq h.m h.i, filter_upd, filter_upd]
  exact left_lt hx hsn
end
section
variable {w : World} {sb mb ck : Nat} {L : List EN} {last : Int}
set_option maxRecDepth 20000 in
set_option maxHeartbeats 4000000 in
theorem drop_gone (h : SetAt w sb mb L ck last) {id : Int} (hid : ∀ x ∈ L, x.id ≠ id) : Calls Try.prog 16 #[.pointer (some ⟨sb, 0, none⟩), .int .i64 id] w fun e w' => e = .returned (.int .i64 190) ∧ Stay [] w w' := by
  have hlk := look_gone h.m hid
  have c0 : w.cell? ⟨sb, 0, none⟩ = some (.map (some mb)) := h.blk.cell 0
  have HS := Lib.hid (Stay.alloc (F := []) w (.cells #[.int .i64 0, .int .i64 0, .bool false, .int .u16 0] 67))
  clear h hid
  go_enter Try.func16, Try.ntmps16
  go_wp2_with fail
  go_ret
  exact ⟨rfl, HS.out⟩
set_option maxRecDepth 20000 in
set_option maxHeartbeats 4000000 in
theorem drop_there (h : SetAt w sb mb L ck last) {x : EN} (hx : x ∈ L) : Calls Try.prog 16 #[.pointer (some ⟨sb, 0, none⟩), .int .i64 x.id] w fun e w' => e = .returned (.int .i64 0) ∧ SetAt w' sb mb (offE x.id L) ck last ∧ Stay [mb] w w' := by
  have hlk := look_there h.m hx
  simp only [St.val] at hlk
  have c0 : w.cell? ⟨sb, 0, none⟩ = some (.map (some mb)) := h.blk.cell 0
  obtain ⟨W1, hW1⟩ : ∃ W, W = w.alloc (.cells #[.int .i64 x.st.b, .int .i64 x.st.e, .bool x.st.g, .int .u16 x.st.s] 67) := ⟨_, rfl⟩
  have hs1 : Stay [] w W1 := by rw [hW1]; exact Stay.alloc _ _
  have h1 := h.stay0 hs1
  have c1 : W1.cell? ⟨sb, 0, none⟩ = some (.map (some mb)) := h1.blk.cell 0
  have hdl := fun ty => del_there h1.m hx ty
  have hs2 : Stay [mb] W1 (setO W1 mb (.map ((offE x.id L).map EN.ent).toArray ck)) := Stay.setO _ (by simp)
  have HF := Lib.hid (show SetAt (setO W1 mb (.map ((offE x.id L).map EN.ent).toArray ck)) sb mb (offE x.id L) ck last ∧ Stay [mb] w (setO W1 mb (.map ((offE x.id L).map EN.ent).toArray ck)) from
    ⟨⟨h1.blk.stay hs2 (by simpa using h1.m.noBlk h1.blk), h1.m.off x.id, fun y hy => h.id y (List.mem_filter.1 hy).1, fun y hy => h.ok y (List.mem_filter.1 hy).1, h.l0⟩, (hs1.mono (by simp)).trans hs2⟩)
  have HW1 := Lib.hid hW1
  clear h hx hW1 hs1 h1 hs2
  go_enter Try.func16, Try.ntmps16
  go_upto_region 4 with fail
  rw [← HW1.out]
  go_wp2_with fail
  go_ret
  exact ⟨rfl, HF.out⟩
end
set_option maxRecDepth 20000 in
set_option maxHeartbeats 4000000 in
theorem drop_nil (id : Int) (w : World) : Calls Try.prog 16 #[.pointer none, .int .i64 id] w fun e w' => e = .returned (.int .i64 1) ∧ w' = w := by
  go_enter Try.func16, Try.ntmps16
  go_wp2_with fail
  go_ret
  exact ⟨rfl, rfl⟩
set_option maxRecDepth 20000 in
set_option maxHeartbeats 4000000 in
theorem edit_nil (a d : Int) (s : ByteArray) (w : World) : Calls Try.prog 15 #[.pointer none, .agg #[.int .i64 a, .int .i64 d, .string s]] w fun e w' => e = .returned (.tuple #[]) ∧ Stay [] w w' := by
  have HS := Lib.hid (Stay.alloc (F := []) w (.cells #[.int .i64 a, .int .i64 d, .string s] 37))
  go_enter Try.func15, Try.ntmps15
  go_wp2_with fail
  exact bodyPost_ret (v := .tuple #[]) (by simp [results, Try.results15, go_sem]) rfl ⟨rfl, HS.out⟩
set_option maxRecDepth 20000 in
set_option maxHeartbeats 4000000 in
theorem mover_nil (a n : Int) (w : World) : Calls Try.prog 17 #[.pointer none, .int .i64 a, .int .i64 n] w fun e w' => e = .returned (.slice none 0 0) ∧ w' = w := by
  go_enter Try.func17, Try.ntmps17
  go_wp2_with fail
  go_ret
  exact ⟨rfl, rfl⟩
set_option maxRecDepth 20000 in
set_option maxHeartbeats 4000000 in
theorem styles_nil (a n : Int) (w : World) : Calls Try.prog 18 #[.pointer none, .int .i64 a, .int .i64 n] w fun e w' => e = .returned (.slice none 0 0) ∧ w' = w := by
  go_enter Try.func18, Try.ntmps18
  go_wp2_with fail
  go_ret
  exact ⟨rfl, rfl⟩
set_option maxRecDepth 20000 in
set_option maxHeartbeats 4000000 in
theorem get_nil (id : Int) (w : World) : Calls Try.prog 14 #[.pointer none, .int .i64 id] w fun e w' => e = .returned (.tuple #[.agg #[.int .i64 0, .int .i64 0, .int .i64 0, .bool false, .int .u16 0], .bool false]) ∧ Stay [] w w' := by
  have HS := Lib.hid (Stay.alloc (F := []) w (.cells #[.int .i64 0, .int .i64 0, .int .i64 0, .bool false, .int .u16 0] 35))
  have HB := Lib.hid (Blk.new w zeroM 35)
  have HW := Lib.hid (show ∃ W, W = w.alloc (.cells #[.int .i64 0, .int .i64 0, .int .i64 0, .bool false, .int .u16 0] 35) from ⟨_, rfl⟩)
  obtain ⟨W, hW⟩ := HW.out
  have HB := Lib.hid (show Blk W w.heap.size [.int .i64 0, .int .i64 0, .int .i64 0, .bool false, .int .u16 0] 35 from by rw [hW]; exact HB.out)
  have HWe := Lib.hid hW
  clear hW
  go_enter Try.func14, Try.ntmps14
  go_wp2_with fail
  rw [← HWe.out]
  have x0 := HB.out.cell 0
  have x1 := HB.out.cell 1
  have x2 := HB.out.cell 2
  have x3 := HB.out.cell 3
  have x4 := HB.out.cell 4
  exact bodyPost_ret (v := .tuple #[.agg #[.int .i64 0, .int .i64 0, .int .i64 0, .bool false, .int .u16 0], .bool false]) (by simp at x0 x1 x2 x3 x4; simp [results, Try.results14, go_sem, x0, x1, x2, x3, x4]) rfl ⟨rfl, by rw [HWe.out]; exact HS.out⟩
end Go.Proofs.Ytbnaglkhbgfchaa
