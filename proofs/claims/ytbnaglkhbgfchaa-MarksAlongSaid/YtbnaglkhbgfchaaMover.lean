/- package marks: Over: its loop. -/
import Derived.Test.YtbnaglkhbgfchaaMsort
import Derived.Test.YtbnaglkhbgfchaaWin
import Derived.Deep.DeepCutAuto
namespace Go.Proofs.Ytbnaglkhbgfchaa
open Go.RowKit Go.Sort
def EN.mk_ (x : EN) : MK := ⟨x.id, x.st.b, x.st.e - x.st.b, x.st.g, x.st.s⟩
def flatM (l : List MK) : List Value := l.flatMap MK.cells
theorem flatM_app (l : List MK) (m : MK) : flatM (l ++ [m]) = flatM l ++ m.cells := by simp [flatM]
theorem info35 : (Try.prog.info? 35).map (fun i => (i.zero, i.size, i.bytes)) = some (some (.agg #[.int .i64 0, .int .i64 0, .int .i64 0, .bool false, .int .u16 0]), 5, 32) := by kernel_rfl
theorem nodup_of_map {α β : Type} {f : α → β} : ∀ {L : List α}, (L.map f).Nodup → L.Nodup
  | [], _ => List.nodup_nil
  | x :: L, h => by
    rw [List.map_cons, List.nodup_cons] at h
    rw [List.nodup_cons]
    exact ⟨fun hm => h.1 (List.mem_map.2 ⟨x, hm, rfl⟩), nodup_of_map h.2⟩
/-- what Over's loop keeps -/
structure OI (w wr : World) (sb mb ib ck : Nat) (L : List EN) (last p n : Int) (seen : Array Nat) (O : List EN) (A : Option Addr) (k c : Nat) : Prop where
  m : MapAt wr mb L ck
  i : IterAt wr ib mb ck seen
  blk : Blk wr sb [.map (some mb), .int .i64 last] 61
  st : Stay [] w wr
  hib : w.heap.size ≤ ib
  sub : ∀ x ∈ O, x ∈ L
  nd : O.Nodup
  sn : ∀ x ∈ L, seen.contains x.bn = true ↔ x ∈ O
  kl : k = (O.filter fun x => overP x.st p n).length
  W : Win wr w.heap.size 35 5 A k c (flatM ((O.filter fun x => overP x.st p n).map EN.mk_))
  z : k = 0 → A = none ∧ c = 0
section
variable {w wr wr' : World} {sb mb ib ck : Nat} {L : List EN} {last p n : Int} {seen : Array Nat} {O : List EN} {A : Option Addr} {k c : Nat}
theorem OI.ne (h : OI w wr sb mb ib ck L last p n seen O A k c) : ib ≠ mb ∧ ib ≠ sb ∧ ib ∉ Ab A := by
  have hi := h.i
  unfold IterAt at hi
  refine ⟨fun e => ?_, fun e => ?_, fun e => ?_⟩
  · subst e
    rw [h.m.h] at hi
    cases hi
  · subst e
    have := h.blk
    unfold Blk at this
    rw [hi] at this
    cases this
  · obtain ⟨_, _, L2, hL2⟩ := h.W.ab _ e
    unfold Blk at hL2
    rw [hi] at hL2
    cases hL2
theorem OI.stay0 (h : OI w wr sb mb ib ck L last p n seen O A k c) (hs : Stay [] wr wr') : OI w wr' sb mb ib ck L last p n seen O A k c :=
  ⟨h.m.stay hs (by simp), h.i.stay hs (by simp), h.blk.stay hs (by simp), h.st.trans hs, h.hib, h.sub, h.nd, h.sn, h.kl, h.W.stay0 hs, h.z⟩
/-- an entry has come; it lies over the stretch or not -/
theorem OI.step {x : EN} (h : OI w wr sb mb ib ck L last p n seen O A k c) (hs : Stay [ib] wr wr') (hi : IterAt wr' ib mb ck (seen.push x.bn)) (hx : x ∈ L) (hsn : seen.contains x.bn = false) (ho : overP x.st p n = false) : OI w wr' sb mb ib ck L last p n (seen.push x.bn) (O ++ [x]) A k c := by
  obtain ⟨h1, h2, h3⟩ := h.ne
  have hxo : x ∉ O := fun hm => by
    have := (h.sn x hx).2 hm
    rw [hsn] at this
    cases this
  have hf : (O ++ [x]).filter (fun x => overP x.st p n) = O.filter (fun x => overP x.st p n) := by rw [List.filter_append]; simp [ho]
  refine ⟨h.m.stay hs (by simpa using h1.symm), hi, h.blk.stay hs (by simpa using h2.symm), h.st.trans' hs (fun f hf => .inr (by rw [List.mem_singleton] at hf; rw [hf]; exact h.hib)), h.hib, fun y hy => ?_, ?_, fun y hy => ?_, by rw [hf]; exact h.kl, by rw [hf]; exact h.W.stay hs (fun f hf hm => by rw [List.mem_singleton] at hm; subst hm; exact h3 hf), h.z⟩
  · rcases List.mem_append.1 hy with hy | hy
    · exact h.sub y hy
    · rw [List.mem_singleton] at hy
      rw [hy]
      exact hx
  · rw [List.nodup_append]
    exact ⟨h.nd, by simp, fun a ha b hb => by
      simp at hb
      subst hb
      exact fun e => hxo (by rw [← e]; exact ha)⟩
  · rw [contains_push, Bool.or_eq_true, h.sn y hy, List.mem_append, List.mem_singleton]
    constructor
    · rintro (h4 | h4)
      · exact .inl h4
      · exact .inr (nodup_eq h.m.nb hy hx (by simpa using h4))
    · rintro (h4 | h4)
      · exact .inl h4
      · exact .inr (by rw [h4]; simp)
/-- .. and its mark is put behind the others -/
theorem OI.push {x : EN} {A' : Option Addr} {c' : Nat} {w1 w2 : World} (h : OI w wr sb mb ib ck L last p n seen O A k c) (hs : Stay [ib] wr w1) (hi : IterAt w1 ib mb ck (seen.push x.bn)) (hx : x ∈ L) (hsn : seen.contains x.bn = false) (ho : overP x.st p n = true) (hs1 : Stay [] w1 w2) (hs2 : Stay (Ab A) w2 wr') (hW : Win wr' w.heap.size 35 5 A' (k + 1) c' (flatM ((O.filter fun x => overP x.st p n).map EN.mk_) ++ x.mk_.cells)) : OI w wr' sb mb ib ck L last p n (seen.push x.bn) (O ++ [x]) A' (k + 1) c' := by
  obtain ⟨h1, h2, h3⟩ := h.ne
  have hxo : x ∉ O := fun hm => by
    have := (h.sn x hx).2 hm
    rw [hsn] at this
    cases this
  have hf : (O ++ [x]).filter (fun x => overP x.st p n) = O.filter (fun x => overP x.st p n) ++ [x] := by rw [List.filter_append]; simp [ho]
  have m1 := (h.m.stay hs (by simpa using h1.symm)).stay hs1 (by simp)
  have i1 := hi.stay hs1 (by simp)
  have b1 := (h.blk.stay hs (by simpa using h2.symm)).stay hs1 (by simp)
  have t1 := (h.st.trans' hs (fun f hf => .inr (by rw [List.mem_singleton] at hf; rw [hf]; exact h.hib))).trans hs1
  have hA : ∀ f ∈ Ab A, w.heap.size ≤ f ∧ ∃ L2, Blk wr f L2 35 := fun f hf => by
    obtain ⟨q1, _, L2, q3⟩ := h.W.ab f hf
    exact ⟨q1, L2, q3⟩
  refine ⟨m1.stay hs2 (fun hm => ?_), i1.stay hs2 h3, b1.stay hs2 (fun hm => ?_), t1.trans' hs2 (fun f hf => .inr (hA f hf).1), h.hib, fun y hy => ?_, ?_, fun y hy => ?_, by rw [hf, List.length_append, ← h.kl]; rfl, by rw [hf, List.map_append, List.map_singleton, flatM_app]; exact hW, fun e => by omega⟩
  · obtain ⟨_, L2, q⟩ := hA _ hm
    exact h.m.noBlk q rfl
  · obtain ⟨_, L2, q⟩ := hA _ hm
    have := h.blk
    unfold Blk at this q
    rw [q] at this
    injection this with this
    injection this with _ e
    cases e
  · rcases List.mem_append.1 hy with hy | hy
    · exact h.sub y hy
    · rw [List.mem_singleton] at hy
      rw [hy]
      exact hx
  · rw [List.nodup_append]
    exact ⟨h.nd, by simp, fun a ha b hb => by
      simp at hb
      subst hb
      exact fun e => hxo (by rw [← e]; exact ha)⟩
  · rw [contains_push, Bool.or_eq_true, h.sn y hy, List.mem_append, List.mem_singleton]
    constructor
    · rintro (h4 | h4)
      · exact .inl h4
      · exact .inr (nodup_eq h.m.nb hy hx (by simpa using h4))
    · rintro (h4 | h4)
      · exact .inl h4
      · exact .inr (by rw [h4]; simp)
end
end Go.Proofs.Ytbnaglkhbgfchaa
