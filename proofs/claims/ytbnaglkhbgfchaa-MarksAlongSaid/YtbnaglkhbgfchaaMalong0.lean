/- shuttlelaw19, MarksAlong: plain: the bytes behind a mark that an edit does not touch. -/
import Derived.Test.YtbnaglkhbgfchaaMback0
namespace Go.Proofs.Ytbnaglkhbgfchaa
open Go.RowKit
def nextS (T s : ByteArray) (p d : Int) : ByteArray := T.extract 0 p.toNat ++ s ++ T.extract (p + d).toNat T.size
theorem nextS_size {T s : ByteArray} {p d : Int} (hp : 0 ≤ p) (hd : 0 ≤ d) (h : p + d ≤ T.size) : ((nextS T s p d).size : Int) = T.size - d + s.size := by
  unfold nextS
  rw [ByteArray.size_append, ByteArray.size_append, ByteArray.size_extract, ByteArray.size_extract]
  omega
theorem edSt_in {x : St} {p d k n : Int} (h0 : 0 ≤ x.b) (h1 : x.b ≤ x.e) (h2 : x.e ≤ n) (hp : 0 ≤ p) (hd : 0 ≤ d) (hpd : p + d ≤ n) (hk : 0 ≤ k) :
    0 ≤ (edSt p d k x).b ∧ (edSt p d k x).b ≤ (edSt p d k x).e ∧ (edSt p d k x).e ≤ n - d + k ∧ (edSt p d k x).g = x.g ∧ (edSt p d k x).s = x.s := by
  obtain ⟨b, e, g, s⟩ := x
  simp only at h0 h1 h2
  have c1 : cutP b p d = if d < b - p then b - d else min b p := rfl
  have c2 : cutP e p d = if d < e - p then e - d else min e p := rfl
  have m1 := Int.min_def b p
  have m2 := Int.min_def e p
  have hmo := cutP_mono (at_ := p) h1 hd
  have hb := cutP_bounds h0 hp hd
  unfold edSt
  simp only
  have he : cutP e p d ≤ n - d := by
    rw [c2]
    split at m2 <;> split <;> omega
  generalize cutP b p d = b' at *
  generalize cutP e p d = e' at *
  split
  · simp only; refine ⟨by omega, by omega, by omega, trivial, trivial⟩
  · split
    · simp only; refine ⟨by omega, by omega, by omega, trivial, trivial⟩
    · simp only; refine ⟨by omega, by omega, by omega, trivial, trivial⟩
theorem along_eq {T s : ByteArray} {p d : Int} {x : St} (h0 : 0 ≤ x.b) (h1 : x.b ≤ x.e) (h2 : x.e ≤ T.size) (hp : 0 ≤ p) (hd : 0 ≤ d) (hpd : p + d ≤ T.size) (ha : p + d < x.b ∨ x.e < p) :
    (nextS T s p d).extract (edSt p d s.size x).b.toNat (edSt p d s.size x).e.toNat = T.extract x.b.toNat x.e.toNat := by
  obtain ⟨b, e, g, st⟩ := x
  simp only at h0 h1 h2 ha
  rcases ha with ha | ha
  · have c1 : cutP b p d = b - d := by unfold cutP; rw [if_pos (by omega)]
    have c2 : cutP e p d = e - d := by unfold cutP; rw [if_pos (by omega)]
    have e1 : edSt p d s.size ⟨b, e, g, st⟩ = ⟨b - d + s.size, e - d + s.size, g, st⟩ := by
      unfold edSt
      simp only [c1, c2]
      rw [if_pos (by omega)]
    rw [e1]
    simp only
    apply ByteArray.ext
    unfold nextS
    have hps : p.toNat ≤ T.data.size := by have : T.data.size = T.size := rfl; omega
    simp only [ByteArray.data_extract, ByteArray.data_append]
    rw [Array.extract_append]
    have hz : (T.data.extract 0 p.toNat ++ s.data).size = p.toNat + s.size := by
      rw [Array.size_append, Array.size_extract]
      have : s.data.size = s.size := rfl
      omega
    have q0 : (T.data.extract 0 p.toNat ++ s.data).extract (b - d + s.size).toNat (e - d + s.size).toNat = #[] := by
      rw [Array.extract_eq_empty_iff, hz]; omega
    rw [q0, hz, Array.empty_append, Array.extract_extract]
    congr 1 <;> (have : T.data.size = T.size := rfl; omega)
  · have c1 : cutP b p d = b := by unfold cutP; rw [if_neg (by omega)]; omega
    have c2 : cutP e p d = e := by unfold cutP; rw [if_neg (by omega)]; omega
    have e1 : edSt p d s.size ⟨b, e, g, st⟩ = ⟨b, e, g, st⟩ := by
      unfold edSt
      simp only [c1, c2]
      rw [if_neg (by omega), if_neg (by omega)]
    rw [e1]
    simp only
    apply ByteArray.ext
    unfold nextS
    have hsz : T.data.size = T.size := rfl
    simp only [ByteArray.data_extract, ByteArray.data_append]
    have hz : (T.data.extract 0 p.toNat).size = p.toNat := by rw [Array.size_extract]; omega
    have hz2 : (T.data.extract 0 p.toNat ++ s.data).size = p.toNat + s.data.size := by rw [Array.size_append, hz]
    rw [Array.extract_append, Array.extract_append, hz, hz2, Array.extract_extract]
    have q1 : s.data.extract (b.toNat - p.toNat) (e.toNat - p.toNat) = #[] := by
      rw [show e.toNat - p.toNat = 0 by omega]; simp
    have q2 : (T.data.extract (p + d).toNat T.size).extract (b.toNat - (p.toNat + s.data.size)) (e.toNat - (p.toNat + s.data.size)) = #[] := by
      rw [show e.toNat - (p.toNat + s.data.size) = 0 by omega]; simp
    rw [q1, q2, Array.append_empty, Array.append_empty]
    congr 1 <;> omega
end Go.Proofs.Ytbnaglkhbgfchaa
