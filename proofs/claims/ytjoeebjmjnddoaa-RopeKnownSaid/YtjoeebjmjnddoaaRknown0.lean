/- shuttlelaw18: RopeKnown: three ropes beside each other; the long text of zeros. -/
import Derived.Test.YtjoeebjmjnddoaaRnillaw
import Derived.Laws.BytesArg
import Derived.Laws.MakeOwn
namespace Go.Proofs.Ytjoeebjmjnddoaa
open Go.RowKit Go.Shelf
structure KS (w0 : World) (r1 r2 r3 : Nat) (t1 t2 t3 : Rp) (s1 s3 : Int) (w : World) : Prop where
  R1 : RopeAt w r1 t1 s1
  R2 : RopeAt w r2 t2 0
  R3 : RopeAt w r3 t3 s3
  n12 : r1 ≠ r2
  n13 : r1 ≠ r3
  n23 : r2 ≠ r3
  l1 : w0.heap.size ≤ r1
  l3 : w0.heap.size ≤ r3
  bel : Below w0.heap.size w0 w
section
variable {w0 w w' : World} {r1 r2 r3 : Nat} {t1 t2 t3 t' : Rp} {s1 s3 s' : Int}
theorem KS.stay0 (h : KS w0 r1 r2 r3 t1 t2 t3 s1 s3 w) (hs : Stay [] w w') : KS w0 r1 r2 r3 t1 t2 t3 s1 s3 w' :=
  ⟨h.R1.stay0 hs, h.R2.stay0 hs, h.R3.stay0 hs, h.n12, h.n13, h.n23, h.l1, h.l3, h.bel.trans (hs.toBelow h.bel.size (by simp))⟩
theorem KS.do1 (h : KS w0 r1 r2 r3 t1 t2 t3 s1 s3 w) (hs : Stay [r1] w w') (hr : RopeAt w' r1 t' s') : KS w0 r1 r2 r3 t' t2 t3 s' s3 w' :=
  ⟨hr, h.R2.stay hs h.R1.noPair (by simpa using Ne.symm h.n12), h.R3.stay hs h.R1.noPair (by simpa using Ne.symm h.n13), h.n12, h.n13, h.n23, h.l1, h.l3, h.bel.trans (hs.toBelow h.bel.size (fun g hg => by rw [List.mem_singleton] at hg; rw [hg]; exact h.l1))⟩
theorem KS.do3 (h : KS w0 r1 r2 r3 t1 t2 t3 s1 s3 w) (hs : Stay [r3] w w') (hr : RopeAt w' r3 t' s') : KS w0 r1 r2 r3 t1 t2 t' s1 s' w' :=
  ⟨h.R1.stay hs h.R3.noPair (by simpa using h.n13), h.R2.stay hs h.R3.noPair (by simpa using h.n23), hr, h.n12, h.n13, h.n23, h.l1, h.l3, h.bel.trans (hs.toBelow h.bel.size (fun g hg => by rw [List.mem_singleton] at hg; rw [hg]; exact h.l3))⟩
end
/-- the zeros -/
def zerosI (n : Nat) : List Int := List.replicate n 0
def zerosB (n : Nat) : List UInt8 := List.replicate n 0
theorem zerosB_length (n : Nat) : (zerosB n).length = n := List.length_replicate
theorem strNums_zeros (n : Nat) : strOfNums (zerosI n) = str (zerosB n) := by
  unfold strOfNums zerosI zerosB str
  simp
theorem make_zeros (w : World) (n : Nat) (hn : n ≤ 1099511627776) : (Instr.makeSlice 58 (.int .i64 n) (.int .i64 n)).run Try.prog w = .ok (.slice (some ⟨w.heap.size, 0, none⟩) n n) (w.alloc (.cells (ints .u8 (zerosI n)).toArray 5)) := by
  obtain ⟨i0, hi, hz0, hz1, hz2⟩ := info_parts infoByte
  have h := run_make (P := Try.prog) w 58 5 i0 (.int .u8 0) Try.underlying58 hi hz0 .i64 .i64 n n (by omega) (Int.le_refl _) (by rw [hz2]; omega) (by omega)
  rw [h, Int.toNat_natCast]
  have e : madeCells (Value.int .u8 0).cells (n * i0.size) = (ints .u8 (zerosI n)).toArray := by
    rw [hz1]
    have h1 := madeCells_eq (Value.int .u8 0).cells n
    rw [show (Value.int .u8 0).cells.size = 1 from rfl] at h1
    rw [h1]
    apply Array.toList_inj.1
    rw [zeroCells_list]
    show (List.replicate n [Value.int .u8 0]).flatten = _
    simp [ints, zerosI]
  rw [e]
theorem conv_zeros (w : World) (b n c m : Nat) (h : Blk w b (ints .u8 (zerosI n)) 5) (hm : m ≤ n) : (convert 58 9 (.slice (some ⟨b, 0, none⟩) m c)).run Try.prog w = .ok (.string (str (zerosB m))) w := by
  have h1 := run_convert_bytes_arg (P := Try.prog) w 58 5 Try.underlying58 Try.underlying5 b 0 m c (zerosI m) (by simp [zerosI]) (fun i hi => by
    rw [Nat.zero_add, h.cell]
    simp [ints, zerosI, List.getElem?_replicate, show i < n by omega, hi]) 9 Try.underlying9
  rw [h1, strNums_zeros]
end Go.Proofs.Ytjoeebjmjnddoaa
