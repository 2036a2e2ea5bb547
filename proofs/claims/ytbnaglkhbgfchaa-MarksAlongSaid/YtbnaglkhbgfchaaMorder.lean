/- package marks: order. -/
import Derived.Test.YtbnaglkhbgfchaaMover
import Derived.Shelf.SlSortCmp.NoneTotal
namespace Go.Proofs.Ytbnaglkhbgfchaa
open Go.RowKit Go.Sort Go.Lib
theorem ltM (x y : MK) : ltOf cmpM x y = decide (x.a < y.a ∨ (x.a = y.a ∧ x.id < y.id)) := by
  unfold ltOf cmpM Lib.compareInt
  by_cases h1 : x.a < y.a
  · simp [h1]
  · by_cases h2 : y.a < x.a
    · have : ¬ x.a = y.a := by omega
      simp [h1, h2, this]
    · have e : x.a = y.a := by omega
      by_cases h3 : x.id < y.id
      · simp [e, h3]
      · by_cases h4 : y.id < x.id <;> simp [e, h3, h4]
theorem swoM : SWO (ltOf cmpM) where
  irrefl x := by rw [ltM]; simp
  trans x y z h1 h2 := by rw [ltM] at *; simp at *; omega
  ntrans x y z h1 h2 := by rw [ltM] at *; simp at *; omega
theorem agg35 (w : World) : (isAgg 35).run Try.prog w = .ok true w := by kernel_rfl
theorem size35 (w : World) : (Go.sizeOf 35).run Try.prog w = .ok 5 w := by kernel_rfl
theorem stay_sort {w : World} {blk off m : Nat} {dk : Array MK} {os : Array Obj} : Stay [blk] w (sortWorldK MK.cells 5 w blk off m dk os) := by
  refine ⟨rfl, rfl, rfl, size_sortWorldK_c MK.cells 5 w blk off m dk os, fun i hi hn => ?_⟩
  have hne : blk ≠ i := fun e => hn (by rw [e]; simp)
  show ((putRowK MK.cells 5 (Sort.ahead w m) blk off dk).heap ++ os)[i]? = _
  rw [Array.getElem?_append_left (by
    show i < (putRowK MK.cells 5 (Sort.ahead w m) blk off dk).heap.size
    rw [size_putRowK]
    exact hi)]
  show ((Sort.ahead w m).heap.modify blk _)[i]? = _
  rw [Array.getElem?_modify, if_neg hne]
  rfl
/-- rows of k cells each, one behind the other -/
theorem flat_length {α : Type} (f : α → List Value) (k : Nat) (hf : ∀ x, (f x).length = k) : ∀ L : List α, (L.flatMap f).length = L.length * k
  | [] => by simp
  | x :: L => by simp only [List.flatMap_cons, List.length_append, hf, flat_length f k hf L, List.length_cons, Nat.add_mul]; omega
theorem flat_at {α : Type} (f : α → List Value) (k : Nat) (hf : ∀ x, (f x).length = k) : ∀ (L : List α) (i : Nat) (hi : i < L.length) (j : Nat), j < k → (L.flatMap f)[i * k + j]? = (f L[i])[j]?
  | x :: L, 0, _, j, hj => by
    simp only [List.flatMap_cons, Nat.zero_mul, Nat.zero_add, List.getElem_cons_zero]
    rw [List.getElem?_append_left (by rw [hf]; exact hj)]
  | x :: L, i + 1, hi, j, hj => by
    simp only [List.flatMap_cons, List.getElem_cons_succ]
    rw [List.getElem?_append_right (by rw [hf, Nat.add_mul]; omega), hf, ← flat_at f k hf L i (by simpa using hi) j hj]
    congr 1
    rw [Nat.add_mul]; omega
theorem MK.len (m : MK) : m.cells.length = 5 := rfl
/-- a window of marks as the sort wants it -/
theorem win_holds {w : World} {B g o c : Nat} {l : List MK} (h : Win w B 35 5 (some ⟨g, o, none⟩) l.length c (flatM l)) : HoldsK MK.cells 5 w g o l.toArray := by
  intro t ht
  rw [size_flatK] at ht
  refine ⟨?_, h.free (o + t)⟩
  rw [get_flatK _ _ _ _ (by simpa using ht)]
  refine h.cell t _ ?_
  have ht' : t < l.length * 5 := by simpa using ht
  have hk : t / 5 < l.length := by omega
  have h1 := flat_at MK.cells 5 MK.len l (t / 5) hk (t % 5) (Nat.mod_lt _ (by omega))
  rw [show t / 5 * 5 + t % 5 = t by omega] at h1
  unfold flatM
  rw [h1]
  have h2 : l.toArray[t / 5]! = l[t / 5] := by simp [hk]
  rw [h2, getElem!_pos _ _ (by rw [MK.len]; exact Nat.mod_lt _ (by omega)), List.getElem?_eq_getElem (by rw [MK.len]; exact Nat.mod_lt _ (by omega))]
  rfl
set_option maxRecDepth 20000 in
set_option maxHeartbeats 4000000 in
theorem order_any {w : World} {g o c pb : Nat} {d : Array MK} (hH : HoldsK MK.cells 5 w g o d) (hg : g < w.heap.size) (hsz : d.size < 4611686018427387904) (p0 : w.cell? ⟨pb, 0, none⟩ = some (.func (.func 34) #[] #[])) (p1 : w.cell? ⟨pb, 1, none⟩ = some (.func (.func 35) #[] #[])) (hne : pb ≠ g) :
    Calls Try.prog 33 #[.slice (some ⟨g, o, none⟩) d.size c, .slice (some ⟨pb, 0, none⟩) 2 2] w fun e w' => e = .returned (.slice (some ⟨g, o, none⟩) d.size c) ∧ ∃ d', PermIn 0 d.size d d' ∧ SortedIn (ltOf cmpM) 0 d.size d' ∧ HoldsK MK.cells 5 w' g o d' ∧ Stay [g] w w' := by
  obtain ⟨W1, hW1⟩ : ∃ W, W = w.alloc (.cells #[.slice (some ⟨pb, 0, none⟩) 2 2] 79) := ⟨_, rfl⟩
  have hs1 : Stay [] w W1 := by rw [hW1]; exact Stay.alloc _ _
  have hb1 : Blk W1 w.heap.size [.slice (some ⟨pb, 0, none⟩) 2 2] 79 := by rw [hW1]; exact Blk.new w _ _
  have hk : ∀ (b j : Nat) (v : Value), w.cell? ⟨b, j, none⟩ = some v → W1.cell? ⟨b, j, none⟩ = some v := fun b j v hv => (hs1.cell_ (a := ⟨b, j, none⟩) (World.block_lt_of_cell? _ _ hv) (by simp)).trans hv
  have hH1 : HoldsK MK.cells 5 W1 g o d := fun t ht => by
    obtain ⟨h1, h2⟩ := hH t ht
    refine ⟨hk _ _ _ h1, ?_⟩
    have h3 := hs1.block g hg (by simp)
    unfold World.frozen? at h2 ⊢
    rw [show (⟨g, o + t, none⟩ : Addr).block = g from rfl, h3]
    exact h2
  have eg : ∀ args w, (callFunc 41 args).run Try.prog w = .ok (.enter 41 args) w := enters_of Try.func41 (by kernel_rfl) rfl
  have hcmp : CmpLays Try.prog 41 #[.pointer (some ⟨w.heap.size, 0, none⟩)] MK.cells 5 cmpM g o d.size W1 := fun m os dk _ x y => by
    have hss : Stay [g] W1 (sortWorldK MK.cells 5 W1 g o m dk os) := stay_sort
    have hc : ∀ (b j : Nat) (v : Value), b ≠ g → W1.cell? ⟨b, j, none⟩ = some v → (sortWorldK MK.cells 5 W1 g o m dk os).cell? ⟨b, j, none⟩ = some v := fun b j v hb hv => (hss.cell_ (a := ⟨b, j, none⟩) (World.block_lt_of_cell? _ _ hv) (by simpa using hb)).trans hv
    exact closure41 x y w.heap.size pb _ (hc _ _ _ (by omega) (hb1.cell 0)) (hc _ _ _ hne (hk _ _ _ p0)) (hc _ _ _ hne (hk _ _ _ p1))
  have hg1 : g < W1.heap.size := Nat.lt_of_lt_of_le hg hs1.size
  have hcon := AnyQ.slices_SortFunc Try.sortMarks 5 agg35 size35 MK.cells MK.len (fun x v hv => by simp [MK.cells] at hv; rcases hv with rfl | rfl | rfl | rfl | rfl <;> rfl) cmpM swoM 41 #[.pointer (some ⟨w.heap.size, 0, none⟩)] g o c d W1 eg hcmp hH1 hg1 hsz
  change Calls Try.prog 40 _ _ _ at hcon
  have HC := Lib.hid (show Calls Try.prog 40 #[.slice (some ⟨g, o, none⟩) d.size c, .func (.func 41) #[] #[.pointer (some ⟨w.heap.size, 0, none⟩)]] W1 fun e w' => e = .returned (.tuple #[]) ∧ ∃ d', PermIn 0 d.size d d' ∧ SortedIn (ltOf cmpM) 0 d.size d' ∧ HoldsK MK.cells 5 w' g o d' ∧ Stay [g] w w' from hcon.mono (by
    rintro e w' ⟨rfl, d', n, os, h1, h2, rfl⟩
    exact ⟨rfl, d', h1, h2, holdsK_sortWorldK_c MK.cells 5 W1 g o d d' n os hH1 hg1 h1.1, (hs1.mono (by simp)).trans stay_sort⟩))
  have HW1 := Lib.hid hW1
  clear hW1 hs1 hb1 hk hH1 eg hcmp hcon hH hg hg1 hsz p0 p1 hne
  go_enter Try.func33, Try.ntmps33
  go_upto_region 1 with fail
  rw [← HW1.out]
  go_wp2_with fail
  refine HC.out.mono ?_
  rintro e w' ⟨rfl, d', h1, h2, h3, h4⟩
  have HF := Lib.hid (And.intro h1 (And.intro h2 (And.intro h3 h4)))
  clear h1 h2 h3 h4
  go_wp2_with fail
  go_ret
  exact ⟨rfl, d', HF.out⟩
set_option maxRecDepth 20000 in
set_option maxHeartbeats 4000000 in
theorem order_none (w : World) (pb : Nat) : Calls Try.prog 33 #[.slice none 0 0, .slice (some ⟨pb, 0, none⟩) 2 2] w fun e w' => e = .returned (.slice none 0 0) ∧ Stay [] w w' := by
  obtain ⟨W1, hW1⟩ : ∃ W, W = w.alloc (.cells #[.slice (some ⟨pb, 0, none⟩) 2 2] 79) := ⟨_, rfl⟩
  have HS := Lib.hid (show Stay [] w W1 from by rw [hW1]; exact Stay.alloc _ _)
  have hcon := AnyF.slices_SortFunc_none Try.sortMarks none 0 (.func (.func 41) #[] #[.pointer (some ⟨w.heap.size, 0, none⟩)]) W1
  change Calls Try.prog 40 _ _ _ at hcon
  have HC := Lib.hid hcon
  have HW1 := Lib.hid hW1
  clear hW1 hcon
  go_enter Try.func33, Try.ntmps33
  go_upto_region 1 with fail
  rw [← HW1.out]
  go_wp2_with fail
  refine HC.out.mono ?_
  rintro e w' ⟨rfl, rfl⟩
  go_wp2_with fail
  go_ret
  exact ⟨rfl, HS.out⟩
end Go.Proofs.Ytbnaglkhbgfchaa
