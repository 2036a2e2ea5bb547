/- package grid: blank. -/
import Derived.Test.YtohkjopdoejedaaGlay
namespace Go.Proofs.Ytohkjopdoejedaa
open Go.RowKit
theorem Blk.putC {w : World} {b : Nat} {L : List Value} {t : TypeId} (h : Blk w b L t) (p : Nat) (c : Ce) :
    Blk ((((((w.setCell ⟨b, p, none⟩ (.string c.text)).setCell ⟨b, p + 1, none⟩ (.int .i8 c.part)).setCell ⟨b, p + 2, none⟩ (.int .i64 c.at_)).setCell ⟨b, p + 3, none⟩ (.int .i64 c.len)).setCell ⟨b, p + 4, none⟩ (.bool c.right)).setCell ⟨b, p + 5, none⟩ (.int .u16 c.style)) b (Go.Proofs.Ytohkjopdoejedaa.putC L p c) t :=
  (((((h.set p _).set (p + 1) _).set (p + 2) _).set (p + 3) _).set (p + 4) _).set (p + 5) _
theorem Stay.putC {F : List Nat} {w w' : World} (h : Stay F w w') (b p : Nat) (hb : b ∈ F) (c : Ce) :
    Stay F w ((((((w'.setCell ⟨b, p, none⟩ (.string c.text)).setCell ⟨b, p + 1, none⟩ (.int .i8 c.part)).setCell ⟨b, p + 2, none⟩ (.int .i64 c.at_)).setCell ⟨b, p + 3, none⟩ (.int .i64 c.len)).setCell ⟨b, p + 4, none⟩ (.bool c.right)).setCell ⟨b, p + 5, none⟩ (.int .u16 c.style)) :=
  (((((h.set' (p := ⟨b, p, none⟩) (.inl hb)).set' (p := ⟨b, p + 1, none⟩) (.inl hb)).set' (p := ⟨b, p + 2, none⟩) (.inl hb)).set' (p := ⟨b, p + 3, none⟩) (.inl hb)).set' (p := ⟨b, p + 4, none⟩) (.inl hb)).set' (p := ⟨b, p + 5, none⟩) (.inl hb)
/-- the first k cells are blanks -/
def blankK (l : List Ce) (k : Nat) : List Ce := (l.take k).map Ce.blank ++ l.drop k
theorem blankK_length (l : List Ce) (k : Nat) (hk : k ≤ l.length) : (blankK l k).length = l.length := by unfold blankK; simp; omega
theorem blankK_at (l : List Ce) (k : Nat) (hk : k < l.length) (h : k < (blankK l k).length) : (blankK l k)[k] = l[k] := by
  have ht : ((l.take k).map Ce.blank).length = k := by simp; omega
  have e : (blankK l k)[k]? = some l[k] := by
    unfold blankK
    rw [List.getElem?_append_right (by omega), ht, Nat.sub_self, List.getElem?_drop, Nat.add_zero, List.getElem?_eq_getElem hk]
  rw [List.getElem?_eq_getElem h] at e
  injection e
theorem blankK_set (l : List Ce) (k : Nat) (hk : k < l.length) : (blankK l k).set k (l[k]).blank = blankK l (k + 1) := by
  unfold blankK
  have ht : ((l.take k).map Ce.blank).length = k := by simp; omega
  rw [List.set_append_right _ _ (by omega), ht, Nat.sub_self, List.drop_eq_getElem_cons hk, List.set_cons_zero, List.take_succ_eq_append_getElem hk, List.map_append, List.append_assoc]
  rfl
set_option maxHeartbeats 2000000 in
theorem blank_any (l : List Ce) (b o c : Nat) (L : List Value) (t : TypeId) (w : World) (hl : l.length ≤ 16777216) (hL : o + l.length * 6 ≤ L.length) (h : Blk w b (lay L o l) t) :
    Calls Try.prog 47 #[.slice (some ⟨b, o, none⟩) l.length c] w fun e w' => e = .returned (.tuple #[]) ∧ Blk w' b (lay L o (l.map Ce.blank)) t ∧ Stay [b] w w' := by
  go_enter Try.func47, Try.ntmps47
  go_wp2_with fail
  go_loopw [6] (fun iv wr => ∃ k : Nat, k ≤ l.length ∧ iv = .int .i64 k ∧ Hid (Blk wr b (lay L o (blankK l k)) t) ∧ Hid (Stay [b] w wr)) (fun iv _ => l.length - (intOf iv).toNat)
  case atStart => exact ⟨0, by omega, rfl, by show Blk _ _ _ _; unfold blankK; simpa using h, Stay.refl _ _⟩
  case round =>
    obtain ⟨k, hk, rfl, HB, HS⟩ := hrel
    by_cases hlt : k < l.length
    · have hlt' : (k : Int) < l.length := by omega
      have hk0 : (0 : Int) ≤ k := by omega
      have hbk := blankK_length l k hk
      have hcl : ∀ (j : Nat) (v : Value), (l[k]).cells[j]? = some v → wr.cell? ⟨b, o + k * 6 + j, none⟩ = some v := fun j v hj =>
        HB.out.cat (by rw [hbk]; exact hL) k (by omega) j v (by rw [blankK_at l k hlt]; exact hj)
      have c0 := hcl 0 _ rfl
      rw [Nat.add_zero] at c0
      have c1 := hcl 1 _ rfl
      have c2 := hcl 2 _ rfl
      have c3 := hcl 3 _ rfl
      have c4 := hcl 4 _ rfl
      have c5 := hcl 5 _ rfl
      have HP := Lib.hid (show Go.Proofs.Ytohkjopdoejedaa.putC (lay L o (blankK l k)) (o + k * 6) (l[k]).blank = lay L o (blankK l (k + 1)) from by
        rw [lay_put L o (blankK l k) (by rw [hbk]; exact hL) k (by omega), blankK_set l k hlt])
      obtain ⟨ce, hce⟩ : ∃ ce, ce = l[k] := ⟨_, rfl⟩
      rw [← hce] at c0 c1 c2 c3 c4 c5 HP
      clear hce hcl
      obtain ⟨tx, pa, at_, le, ri, st⟩ := ce
      simp only at c0 c1 c2 c3 c4 c5
      have hbl := HB.out.lt
      have f0 := HB.out.free (o + k * 6)
      have f1 := HB.out.free (o + k * 6 + 1)
      have f2 := HB.out.free (o + k * 6 + 2)
      have f3 := HB.out.free (o + k * 6 + 3)
      have f4 := HB.out.free (o + k * 6 + 4)
      have f5 := HB.out.free (o + k * 6 + 5)
      have HB2 := Lib.hid (HB.out.putC (o + k * 6) (Ce.blank ⟨tx, pa, at_, le, ri, st⟩))
      have HS2 := Lib.hid (HS.out.putC b (o + k * 6) (by simp) (Ce.blank ⟨tx, pa, at_, le, ri, st⟩))
      rw [HP.out] at HB2
      clear hbk
      go_wp2_with fail
      go_roundw
      case rel => exact ⟨k + 1, by omega, by go_num, HB2.out.stay (F := []) (Stay.alloc _ _) (by simp), HS2.out.alloc'⟩
      case measure => simp [intOf]; omega
    · have hk' : k = l.length := by omega
      have hlt' : ¬ (k : Int) < l.length := by omega
      have HB2 := Lib.hid (show Blk wr b (lay L o (l.map Ce.blank)) t from by
        have := HB.out
        rw [hk'] at this
        unfold blankK at this
        simpa using this)
      clear hk' HB
      go_wp2_with fail
      exact bodyPost_end (v := .tuple #[]) (by simp [results, Try.results47, go_sem]) rfl ⟨rfl, HB2.out, HS.out⟩
end Go.Proofs.Ytohkjopdoejedaa
