/- what the bound of the second form gives: a slice's length. -/
import Derived.Test.YtlphmcodajookaaDoorRows
namespace Go.Proofs.YtlphmcodajookaaDoor
theorem bulk_pos {H : Type} (d : DataW H) : 0 < Rows.uptoBulk d := by
  cases d with
  | lit l => cases l <;> simp [Rows.uptoBulk]
  | _ => simp [Rows.uptoBulk]
theorem bulk_length {H : Type} : ∀ l : List (DataW H), l.length ≤ Rows.uptoBulkAll l
  | [] => by simp [Rows.uptoBulkAll]
  | d :: r => by
    have h1 := bulk_pos d
    have h2 := bulk_length r
    simp only [Rows.uptoBulkAll, List.length_cons]
    omega
theorem bulk_mem {H : Type} {d : DataW H} : ∀ {l : List (DataW H)}, d ∈ l → Rows.uptoBulk d ≤ Rows.uptoBulkAll l
  | x :: r, h => by
    simp only [Rows.uptoBulkAll]
    rcases List.mem_cons.1 h with rfl | h
    · omega
    · have := bulk_mem h
      omega
theorem bulk_slice {H : Type} {elems spare : List (DataW H)} {l : List (DataW H)} (hk : Rows.uptoSmall H l = true) (h : DataW.slice elems spare ∈ l) : elems.length + spare.length < 1048576 := by
  have h0 : Rows.uptoBulkAll l ≤ 1048576 := of_decide_eq_true hk
  have h1 := bulk_mem h
  have h2 := bulk_length elems
  have h3 := bulk_length spare
  simp only [Rows.uptoBulk] at h1
  omega
theorem bulk_string {H : Type} {bs : List UInt8} {l : List (DataW H)} (hk : Rows.uptoSmall H l = true) (h : DataW.lit (.string bs) ∈ l) : bs.length < 1048576 := by
  have h0 : Rows.uptoBulkAll l ≤ 1048576 := of_decide_eq_true hk
  have h1 := bulk_mem h
  simp only [Rows.uptoBulk] at h1
  omega
end Go.Proofs.YtlphmcodajookaaDoor
