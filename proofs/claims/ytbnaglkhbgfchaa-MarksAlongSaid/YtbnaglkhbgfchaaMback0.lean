/- shuttlelaw19, MarksBack: plain: an edit and the one that takes it back. -/
import Derived.Test.YtbnaglkhbgfchaaMset
import Derived.Laws.BytesArg
namespace Go.Proofs.Ytbnaglkhbgfchaa
open Go.RowKit
/-- was one of the ends in the edit's stretch? -/
def hitP (at_ del : Int) (x : St) : Prop := (at_ ≤ x.b ∧ x.b ≤ at_ + del) ∨ (at_ ≤ x.e ∧ x.e ≤ at_ + del)
theorem edSt_back {x : St} {a d k : Int} (h : x.b ≤ x.e) (hd : 0 ≤ d) (hk : 0 ≤ k) (hn : ¬ hitP a d x) : edSt a k d (edSt a d k x) = x := by
  obtain ⟨b, e, g, s⟩ := x
  unfold hitP at hn
  simp only at h hn
  have h3 : e < a ∨ a + d < b ∨ (b < a ∧ a + d < e) := by omega
  rcases h3 with h3 | h3 | ⟨h3, h4⟩
  · have c1 : cutP b a d = b := by unfold cutP; rw [if_neg (by omega)]; omega
    have c2 : cutP e a d = e := by unfold cutP; rw [if_neg (by omega)]; omega
    have c3 : cutP b a k = b := by unfold cutP; rw [if_neg (by omega)]; omega
    have c4 : cutP e a k = e := by unfold cutP; rw [if_neg (by omega)]; omega
    have e1 : edSt a d k ⟨b, e, g, s⟩ = ⟨b, e, g, s⟩ := by
      unfold edSt
      simp only [c1, c2]
      rw [if_neg (by omega), if_neg (by omega)]
    rw [e1]
    unfold edSt
    simp only [c3, c4]
    rw [if_neg (by omega), if_neg (by omega)]
  · have c1 : cutP b a d = b - d := by unfold cutP; rw [if_pos (by omega)]
    have c2 : cutP e a d = e - d := by unfold cutP; rw [if_pos (by omega)]
    have e1 : edSt a d k ⟨b, e, g, s⟩ = ⟨b - d + k, e - d + k, g, s⟩ := by
      unfold edSt
      simp only [c1, c2]
      rw [if_pos (by omega)]
    have c3 : cutP (b - d + k) a k = b - d := by unfold cutP; rw [if_pos (by omega)]; omega
    have c4 : cutP (e - d + k) a k = e - d := by unfold cutP; rw [if_pos (by omega)]; omega
    rw [e1]
    unfold edSt
    simp only [c3, c4]
    rw [if_pos (by omega)]
    congr 1 <;> omega
  · have c1 : cutP b a d = b := by unfold cutP; rw [if_neg (by omega)]; omega
    have c2 : cutP e a d = e - d := by unfold cutP; rw [if_pos (by omega)]
    have e1 : edSt a d k ⟨b, e, g, s⟩ = ⟨b, e - d + k, g, s⟩ := by
      unfold edSt
      simp only [c1, c2]
      rw [if_neg (by omega), if_pos (by omega)]
    have c3 : cutP b a k = b := by unfold cutP; rw [if_neg (by omega)]; omega
    have c4 : cutP (e - d + k) a k = e - d := by unfold cutP; rw [if_pos (by omega)]; omega
    rw [e1]
    unfold edSt
    simp only [c3, c4]
    rw [if_neg (by omega), if_pos (by omega)]
    congr 1; omega
/-- a string of zero bytes -/
def zeroS (n : Nat) : ByteArray := strOfNums (List.replicate n 0)
theorem zeroS_size (n : Nat) : (zeroS n).size = n := by simp [zeroS, strOfNums_size]
theorem info5 : (Try.prog.info? 5).map (fun i => (i.zero, i.size, i.bytes)) = some (some (.int .u8 0), 1, 1) := by kernel_rfl
theorem setL_at {n : Int} {L : List MK} {k : Nat} (hk : k < L.length) : (⟨(k : Int) + 1, stOf n (L[k]), k⟩ : EN) ∈ setL n L := by
  unfold setL
  rw [List.mem_mapIdx]
  exact ⟨k, hk, rfl⟩
end Go.Proofs.Ytbnaglkhbgfchaa
