/- shuttlelaw20: the book's small calls in the book's state. -/
import Derived.Test.YtjoeebjmjnddoaaUbs
import Derived.Test.YtjoeebjmjnddoaaUrdo
namespace Go.Proofs.Ytjoeebjmjnddoaa
open Go.RowKit
set_option maxRecDepth 20000 in
set_option maxHeartbeats 4000000 in
theorem undo_none (bb rb : Nat) (A : Option Addr) (c : Nat) (uv : Value) (st sv gv : Int) (t : Rp) (rs : Int) (w : World) (h : Blk w bb (bcells rb rs (.slice A 0 c) uv st sv gv) 98) (hr : RopeAt w rb t rs) :
    Calls Try.prog 33 #[.pointer (some ⟨bb, 0, none⟩)] w fun e w' => e = .returned (.tuple #[.slice none 0 0, .int .i64 200]) ∧ Stay [] w w' := by
  have HLo := Lib.hid (look_same bb rb rs _ _ st sv gv t w h hr)
  have HLa := Lib.hid (last_none bb 2 A c w (h.cell 2))
  clear h hr
  go_enter Try.func33, Try.ntmps33
  go_wp2_with fail
  refine HLo.out.mono ?_
  rintro e w' ⟨rfl, hwe⟩
  rw [hwe]
  clear hwe
  go_wp2_with fail
  refine HLa.out.mono ?_
  rintro e w3 ⟨rfl, hs3⟩
  have HS := Lib.hid (hs3.trans (Stay.alloc (F := []) w3 (.cells #[.slice none 0 0, .int .i64 0, .int .i64 0, .int .i64 0] 100)))
  clear hs3
  go_wp2_with fail
  go_ret2
  exact ⟨rfl, HS.out⟩
set_option maxRecDepth 20000 in
set_option maxHeartbeats 4000000 in
theorem redo_none (bb rb : Nat) (A : Option Addr) (c : Nat) (dv : Value) (st sv gv : Int) (t : Rp) (rs : Int) (w : World) (h : Blk w bb (bcells rb rs dv (.slice A 0 c) st sv gv) 98) (hr : RopeAt w rb t rs) :
    Calls Try.prog 34 #[.pointer (some ⟨bb, 0, none⟩)] w fun e w' => e = .returned (.tuple #[.slice none 0 0, .int .i64 200]) ∧ Stay [] w w' := by
  have HLo := Lib.hid (look_same bb rb rs _ _ st sv gv t w h hr)
  have HLa := Lib.hid (last_none bb 3 A c w (h.cell 3))
  clear h hr
  go_enter Try.func34, Try.ntmps34
  go_wp2_with fail
  refine HLo.out.mono ?_
  rintro e w' ⟨rfl, hwe⟩
  rw [hwe]
  clear hwe
  go_wp2_with fail
  refine HLa.out.mono ?_
  rintro e w3 ⟨rfl, hs3⟩
  have HS := Lib.hid (hs3.trans (Stay.alloc (F := []) w3 (.cells #[.slice none 0 0, .int .i64 0, .int .i64 0, .int .i64 0] 100)))
  clear hs3
  go_wp2_with fail
  go_ret2
  exact ⟨rfl, HS.out⟩
section
variable {w0 w w' : World} {B bb rb : Nat} {DA : Option Addr} {dc : Nat} {D : List MG} {UA : Option Addr} {uc : Nat} {U : List MG} {rs st sv gv : Int} {tx : List UInt8}
theorem bs_undo_none (h : BS w0 w B bb rb DA dc [] UA uc U rs st sv gv tx) : Calls Try.prog 33 #[.pointer (some ⟨bb, 0, none⟩)] w fun e w' => e = .returned (.tuple #[.slice none 0 0, .int .i64 200]) ∧ Stay [] w w' := by
  obtain ⟨t, hR, _⟩ := h.R
  exact undo_none bb rb DA dc _ st sv gv t rs w h.bbk hR
theorem bs_redo_none (h : BS w0 w B bb rb DA dc D UA uc [] rs st sv gv tx) : Calls Try.prog 34 #[.pointer (some ⟨bb, 0, none⟩)] w fun e w' => e = .returned (.tuple #[.slice none 0 0, .int .i64 200]) ∧ Stay [] w w' := by
  obtain ⟨t, hR, _⟩ := h.R
  exact redo_none bb rb UA uc _ st sv gv t rs w h.bbk hR
theorem bs_depth (h : BS w0 w B bb rb DA dc D UA uc U rs st sv gv tx) : Calls Try.prog 30 #[.pointer (some ⟨bb, 0, none⟩)] w fun e w' => e = .returned (.tuple #[.int .i64 D.length, .int .i64 U.length]) ∧ Stay [] w w' := by
  obtain ⟨t, hR, _⟩ := h.R
  exact depth_any bb rb rs DA UA D.length U.length dc uc st sv gv t w h.bbk hR
theorem bs_changed (h : BS w0 w B bb rb DA dc D UA uc U rs st sv gv tx) : Calls Try.prog 35 #[.pointer (some ⟨bb, 0, none⟩)] w fun e w' => e = .returned (.bool (st != sv)) ∧ Stay [] w w' := by
  obtain ⟨t, hR, _⟩ := h.R
  exact changed_any bb rb rs _ _ st sv gv t w h.bbk hR
theorem bs_text (h : BS w0 w B bb rb DA dc D UA uc U rs st sv gv tx) : Calls Try.prog 19 #[.pointer (some ⟨rb, 0, none⟩)] w fun e w' => e = .returned (.string (str tx)) ∧ Stay [] w w' := by
  obtain ⟨t, hR, ht⟩ := h.R
  refine (text_any rb t rs w hR).mono ?_
  rintro e w' ⟨rfl, hb⟩
  exact ⟨by rw [ht], Stay.below hb⟩
theorem bs_save (h : BS w0 w B bb rb DA dc D UA uc U rs st sv gv tx) : Calls Try.prog 36 #[.pointer (some ⟨bb, 0, none⟩)] w fun e w' => e = .returned (.tuple #[]) ∧ BS w0 w' B bb rb DA dc D UA uc U rs st st gv tx ∧ Stay [bb] w w' ∧ Foot w B rb [bb] := by
  obtain ⟨t, hR, ht⟩ := h.R
  refine (save_any bb rb rs _ _ st sv gv t w h.bbk hR).mono ?_
  rintro e w' ⟨rfl, rfl⟩
  have hs : Stay [bb] w (w.setCell ⟨bb, 5, none⟩ (.int .i64 st)) := Stay.setCell _ _ _ (by simp)
  have hF : Foot w B rb [bb] := h.foot.mono (by simp)
  have n1 : ∀ {f : Nat} {l : List Value} {ty : TypeId}, Blk w f l ty → ty ≠ 98 → f ∉ [bb] := fun {f l ty} hf hn hm => by
    rw [List.mem_singleton] at hm
    exact blk_ne_of hf h.bbk hn hm
  obtain ⟨L7, h7⟩ := hR.blk
  exact ⟨rfl, ⟨h.bbk.set 5 (.int .i64 st), h.dW.stay hs (fun f hf => by
    obtain ⟨_, _, L2, hL2⟩ := h.dW.ab f hf
    exact n1 hL2 (by decide)), h.uW.stay hs (fun f hf => by
    obtain ⟨_, _, L2, hL2⟩ := h.uW.ab f hf
    exact n1 hL2 (by decide)), fun g hg => (h.dE g hg).stay hs (fun f hf L hL => n1 hL (by decide) hf), fun g hg => (h.uE g hg).stay hs (fun f hf L hL => n1 hL (by decide) hf), h.ap, ⟨t, hR.stay hs (blk_noPair98 h.bbk) (n1 h7 (by decide)), ht⟩, h.u, h.hbb, h.hrb, h.below hF hs, Nat.le_trans h.sz hs.size⟩, hs, hF⟩
/-- a new rope and its book -/
theorem bs_first {w1 w2 : World} {t : Rp} {text : List UInt8} (hR : RopeAt w1 rb t 0) (ht : t.text = text) (hrb : w.heap.size ≤ rb) (hb : Below w.heap.size w w1) (h2 : Blk w2 w1.heap.size (bcells rb 0 (.slice none 0 0) (.slice none 0 0) 0 0 0) 98) (hs : Stay [] w1 w2) :
    BS w w2 w.heap.size w1.heap.size rb none 0 [] none 0 [] 0 0 0 0 text :=
  ⟨h2, Win.nil _ _ _ _, Win.nil _ _ _ _, (fun g hg => by cases hg), (fun g hg => by cases hg), by simp [Ab], ⟨t, hR.stay0 hs, ht⟩, by unfold U64; omega, hb.size, hrb, hb.trans (hs.toBelow hb.size (by simp)), Nat.le_trans hb.size hs.size⟩
end
/-- the rope's answer to an edit that fits -/
theorem rdo_fits {rb : Nat} {t : Rp} {rs : Int} {e : Ed} {w : World} {T z : List UInt8} {b : Ed} (hr : RopeAt w rb t rs) (hu : U64 rs) (ht : t.text = T) (hf : Fits e T.length) (hb : b = ⟨e.a, e.s.size, str (cutL T e.a.toNat (e.a.toNat + e.d.toNat))⟩) (hz : z = editL T e.a.toNat e.d.toNat e.s.data.toList) :
    Undoes b z T ∧ ∀ u, Stay [] w u → RDo rb e.a e.d e.s b.a b.d b.s 0 (IntKind.u64.wrap (rs + 1)) z u := by
  have hl := hr.len
  have hll : t.len = T.length := by rw [← ht]; rfl
  subst hb hz
  have h0 : (e.a.toNat : Int) = e.a := Int.toNat_of_nonneg hf.1
  have h1 := fits_undoes e T (by rw [← hll]; exact hl) hf
  rw [bytes_length, h0] at h1
  refine ⟨h1, fun u hs => (do_fits rb t rs e u (hr.stay0 hs) hu (by rw [hll]; exact hf)).mono ?_⟩
  rintro e' w' ⟨h1, h2, h3⟩
  rw [bytes_length, ht, h0] at h1
  rw [ht] at h2
  exact ⟨h1, h2, h3⟩
end Go.Proofs.Ytjoeebjmjnddoaa
