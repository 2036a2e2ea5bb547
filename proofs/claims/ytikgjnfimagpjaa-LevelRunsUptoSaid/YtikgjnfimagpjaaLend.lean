/- package level: the pile as a machine; end, embed. -/
import Derived.Test.YtikgjnfimagpjaaLlay
namespace Go.Proofs.Ytikgjnfimagpjaa
open Go.RowKit
/-- the pile, its top first -/
structure PL where
  stk : List St
  opens : Nat
  deep : Nat
  lost : Nat
def PL.ps (p : PL) : PS := ⟨p.stk.reverse, p.opens, p.deep, p.lost⟩
def layP (odd : Bool) (over : Int) (iso : Bool) (p : PL) : Option PL :=
  match p.stk with
  | [] => none
  | t :: _ => if 125 < upL odd t.level ∨ 0 < p.deep ∨ 0 < p.lost then none else some { p with stk := ⟨upL odd t.level, over, iso⟩ :: p.stk }
def embedP (d : Int) (p : PL) : PL :=
  match layP (d == 15 || d == 17) (if d = 16 then 0 else if d = 17 then 1 else -1) false p with
  | some q => q
  | none => if p.deep = 0 then { p with lost := p.lost + 1 } else p
def endP (p : PL) : PL :=
  if 0 < p.deep then p
  else if 0 < p.lost then { p with lost := p.lost - 1 }
  else match p.stk with
    | t :: u :: r => if t.iso = false then { p with stk := u :: r } else p
    | _ => p
def closeP (p : PL) : PL :=
  if 0 < p.deep then { p with deep := p.deep - 1 }
  else if 0 < p.opens then { p with stk := (p.stk.dropWhile fun s => !s.iso).tail, opens := p.opens - 1, lost := 0 }
  else p
/-- what holds of a pile all along -/
structure GoodP (p : PL) : Prop where
  ne : p.stk ≠ []
  level : ∀ s ∈ p.stk, 0 ≤ s.level ∧ s.level ≤ 125
  isos : (p.stk.filter St.iso).length = p.opens
  last : ∀ s, p.stk.getLast? = some s → s.iso = false
theorem upL_bd (odd : Bool) (lev : Int) (_ : 0 ≤ lev) : lev < upL odd lev ∧ upL odd lev ≤ lev + 2 := by unfold upL; split <;> omega
theorem layP_some {odd : Bool} {over : Int} {iso : Bool} {p q : PL} (h : layP odd over iso p = some q) : ∃ t r, p.stk = t :: r ∧ upL odd t.level ≤ 125 ∧ p.deep = 0 ∧ p.lost = 0 ∧ q = { p with stk := ⟨upL odd t.level, over, iso⟩ :: p.stk } := by
  unfold layP at h
  split at h
  · cases h
  · rename_i t r hs
    split at h
    · cases h
    · rename_i hn
      injection h with h
      exact ⟨t, r, hs, by omega, by omega, by omega, h.symm⟩
theorem layP_none {odd : Bool} {over : Int} {iso : Bool} {p : PL} {t : St} {r : List St} (hs : p.stk = t :: r) (h : layP odd over iso p = none) : 125 < upL odd t.level ∨ 0 < p.deep ∨ 0 < p.lost := by
  unfold layP at h
  rw [hs] at h
  simp only at h
  split at h
  · assumption
  · cases h
theorem GoodP.top {p : PL} (h : GoodP p) : ∃ t r, p.stk = t :: r ∧ p.ps.sts = r.reverse ++ [t] ∧ 0 ≤ t.level ∧ t.level ≤ 125 := by
  cases hs : p.stk with
  | nil => exact absurd hs h.ne
  | cons t r =>
    have := h.level t (by rw [hs]; simp)
    exact ⟨t, r, rfl, by simp [PL.ps, hs], this.1, this.2⟩
/-- lay, told at once -/
theorem lay_any (odd : Bool) (over : Int) (iso : Bool) (B b g n c : Nat) (p : PL) (hG : GoodP p) (w : World) (hp : PileAt w B b g n c p.ps) (hn : n ≤ 2097152) :
    Calls Try.prog 46 #[.pointer (some ⟨b, 0, none⟩), .bool odd, .int .i8 over, .bool iso] w fun e w' => e = .returned (.bool (layP odd over iso p).isSome) ∧ ∃ g' n' c', n' ≤ n + 1 ∧ PileAt w' B b g' n' c' ((layP odd over iso p).getD p).ps ∧ Stay [b, g] w w' ∧ (g' = g ∨ w.heap.size ≤ g') := by
  obtain ⟨t, r, hs, hs', h0, h1⟩ := hG.top
  cases hl : layP odd over iso p with
  | none =>
    refine (lay_no odd over iso B b g n c p.ps _ t hs' w hp h0 h1 (layP_none hs hl)).mono ?_
    rintro e w' ⟨rfl, hst⟩
    exact ⟨rfl, g, n, c, by omega, hp.stay hst (by simp) (by simp), hst.mono (by simp), .inl rfl⟩
  | some q =>
    obtain ⟨t', r', hs2, hx, hd, hlo, rfl⟩ := layP_some hl
    rw [hs] at hs2
    injection hs2 with e1 e2
    subst e1
    refine (lay_yes odd over iso B b g n c p.ps _ t hs' w hp h0 h1 hn hx hd hlo).mono ?_
    rintro e w' ⟨rfl, g', c', hp', hst, hg⟩
    refine ⟨rfl, g', n + 1, c', by omega, ?_, hst, hg⟩
    simpa [PL.ps] using hp'
theorem lost_put {w : World} {B b g n c : Nat} {p q : PS} (h : PileAt w B b g n c p) {v : Int} (hv : q.sts = p.sts ∧ q.opens = p.opens ∧ q.deep = p.deep ∧ v = q.lost) : PileAt (w.setCell ⟨b, 3, none⟩ (.int .i64 v)) B b g n c q := by
  obtain ⟨e1, e2, e3, rfl⟩ := hv
  refine ⟨h.base, ?_, by rw [e1]; exact h.len, ?_, h.far⟩
  · have := h.blk.set 3 (.int .i64 q.lost)
    rw [e2, e3]
    exact this
  · rw [e1]
    exact h.row.stay (Stay.setCell (F := [b]) w ⟨b, 3, none⟩ _ (by simp)) (by simpa using h.far)
set_option maxHeartbeats 2000000 in
theorem end_any (B b g n c : Nat) (p : PL) (hG : GoodP p) (w : World) (hp : PileAt w B b g n c p.ps) (hlo : p.lost ≤ 2097152) :
    Calls Try.prog 48 #[.pointer (some ⟨b, 0, none⟩)] w fun e w' => e = .returned (.tuple #[]) ∧ ∃ n' c', n' ≤ n ∧ PileAt w' B b g n' c' (endP p).ps ∧ Stay [b] w w' := by
  obtain ⟨t, r, hs, hs', h0, h1⟩ := hG.top
  have hlen := hp.len
  have hpeek := hp.peek hs'
  have HT := Lib.hid (fun w' (hst : Stay [] w w') => top_any B b g n c p.ps _ t hs' w' (hp.stay hst (by simp) (by simp)))
  have HO := Lib.hid (fun w' (hst : Stay [] w w') => pop_any B b g n c p.ps _ t hs' w' (hp.stay hst (by simp) (by simp)))
  have HP := Lib.hid hp
  have hc0 := hp.blk.cell 0
  have hc2 := hp.blk.cell 2
  have hc3 := hp.blk.cell 3
  have hf3 := hp.blk.free 3
  simp only [List.getElem?_cons_zero, List.getElem?_cons_succ, PL.ps] at hc0 hc2 hc3
  have hfd : ∀ (l o : Int) (i : Bool) (w : World), (Instr.field 61 (.agg #[.int .u8 l, .int .i8 o, .bool i]) 2).run Try.prog w = .ok (.bool i) w := fun _ _ _ _ => by kernel_rfl
  have hn : n = r.length + 1 := by simpa using hpeek.1
  have hn2 : n ≤ 9223372036854775807 := by have h1 := hpeek.2.1; have h2 := hpeek.2.2.1; unfold maxLen at h2; omega
  clear hp hG hpeek hlen
  by_cases h2 : 0 < p.deep
  · have HE := Lib.hid (show endP p = p from by unfold endP; exact if_pos h2)
    go_enter Try.func48, Try.ntmps48
    go_wp2
    exact bodyPost_end (v := .tuple #[]) (by simp [results, Try.results48, go_sem]) rfl ⟨rfl, n, c, Nat.le_refl _, by rw [HE.out]; exact HP.out, Stay.refl _ _⟩
  by_cases h3 : 0 < p.lost
  · have HE := Lib.hid (show endP p = { p with lost := p.lost - 1 } from by unfold endP; rw [if_neg h2, if_pos h3])
    go_enter Try.func48, Try.ntmps48
    go_wp2
    exact bodyPost_end (v := .tuple #[]) (by simp [results, Try.results48, go_sem]) rfl ⟨rfl, n, c, Nat.le_refl _, by rw [HE.out]; exact lost_put HP.out ⟨rfl, rfl, rfl, by simp [PL.ps]; omega⟩, Stay.setCell _ _ _ (by simp)⟩
  cases r with
  | nil =>
    have HE := Lib.hid (show endP p = p from by unfold endP; rw [if_neg h2, if_neg h3, hs])
    subst hn
    clear hs hs'
    go_enter Try.func48, Try.ntmps48
    go_wp2
    exact bodyPost_end (v := .tuple #[]) (by simp [results, Try.results48, go_sem]) rfl ⟨rfl, _, c, Nat.le_refl _, by rw [HE.out]; exact HP.out, Stay.refl _ _⟩
  | cons u r =>
    have hn1 : 1 < n := by simp at hn; omega
    have hb1 : decide ((1 : Int) < (n : Int)) = true := by simp; omega
    cases hi : t.iso with
    | true =>
      have HE := Lib.hid (show endP p = p from by unfold endP; rw [if_neg h2, if_neg h3, hs]; simp [hi])
      rw [hi] at HT
      clear hs hs' hn hi
      go_enter Try.func48, Try.ntmps48
      go_wp2_with (first
        | (go_at_call 43; refine (HT.out _ (Stay.refl _ _)).mono ?_; rintro e w1 ⟨rfl, hst⟩))
      exact bodyPost_end (v := .tuple #[]) (by simp [results, Try.results48, go_sem]) rfl ⟨rfl, n, c, Nat.le_refl _, by rw [HE.out]; exact HP.out.stay hst (by simp) (by simp), hst.mono (by simp)⟩
    | false =>
      have HE := Lib.hid (show endP p = { p with stk := u :: r } from by unfold endP; rw [if_neg h2, if_neg h3, hs]; simp [hi])
      rw [hi] at HT
      have hnn : (u :: r).reverse.length ≤ n := by simp at hn ⊢; omega
      clear hs hs' hn hi
      go_enter Try.func48, Try.ntmps48
      go_wp2_with (first
        | (go_at_call 43; refine (HT.out _ (Stay.refl _ _)).mono ?_; rintro e w1 ⟨rfl, hst⟩)
        | (go_at_call 64; refine (HO.out _ hst).mono ?_; rintro e w2 ⟨rfl, hp2, hst2⟩; replace hp2 := Lib.hid hp2))
      exact bodyPost_end (v := .tuple #[]) (by simp [results, Try.results48, go_sem]) rfl ⟨rfl, _, _, hnn, by rw [HE.out]; exact hp2.out, (hst.mono (by simp)).trans hst2⟩
end Go.Proofs.Ytikgjnfimagpjaa
