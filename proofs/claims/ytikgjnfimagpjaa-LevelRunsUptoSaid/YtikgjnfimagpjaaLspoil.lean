/- LevelRuns: spoil: the rows are written full, grown, looked at. -/
import Derived.Test.YtikgjnfimagpjaaLrr0
import Derived.Test.YtikgjnfimagpjaaLsame
import Derived.Deep.DeepCutAuto
namespace Go.Proofs.Ytikgjnfimagpjaa
open Go.RowKit
/-- a place of a row is written -/
theorem Mem.cellset {w : World} {B : Nat} {F : List Nat} {ov : Value} {rvs : List Value} {rows : List (List Int)} {gr l c j : Nat} (h : Mem w B F ov rvs rows) (hj : rvs[j]? = some (.slice (some ⟨gr, 0, none⟩) l c)) (k : Nat) (x : Int) :
    Mem (w.setCell ⟨gr, k, none⟩ (.int .i64 x)) B F ov rvs (rows.set j ((rows.getD j []).set k x)) := by
  have hjl := (List.getElem?_eq_some_iff.1 hj).1
  have hf := h.far j _ hj gr rfl
  refine ⟨h.own.set_far (p := ⟨gr, k, none⟩) (fun e => hf.1 e) _, by simp [h.len], fun i u hi => ?_, h.far, h.apart, h.ofar⟩
  rw [gset _ _ _ _ (by rw [← h.len]; exact hjl)]
  by_cases e : i = j
  · subst e
    rw [hj] at hi
    injection hi with hi
    subst hi
    rw [if_pos rfl]
    exact own_put (h.row i _ hj) k x
  · rw [if_neg e]
    exact (h.row i u hi).set_far (p := ⟨gr, k, none⟩) (fun e2 => h.apart j i _ u (fun e3 => e e3.symm) hj hi gr rfl e2) _
theorem Mem.blocks {w : World} {B : Nat} {F : List Nat} {ov : Value} {rvs : List Value} {rows : List (List Int)} (h : Mem w B F ov rvs rows) {j : Nat} {v : Value} (hj : rvs[j]? = some v) {x : Nat} (hx : v.ownBlock = some x) : x ∈ rvs.filterMap Value.ownBlock :=
  List.mem_filterMap.2 ⟨v, List.mem_of_getElem? hj, hx⟩
theorem Sl.stay {w w' : World} {B : Nat} {A : Option Addr} {xs : List Value} {G : List Nat} (h : Sl w B A xs) (hs : Stay G w w') (hB : B ≤ w.heap.size) (hA : ∀ ad, A = some ad → ad.block ∉ G) : Sl w' B A xs := by
  intro j u hj
  obtain ⟨ad, hA', hb, hc⟩ := h j u hj
  refine ⟨ad, hA', hb, ?_⟩
  rw [← hc]
  have h1 := hs.block ad.block (by omega) (hA ad hA')
  unfold World.cell?
  rw [add_block, h1]
/-- spoiled up to a place -/
structure Spo (rows rs : List (List Int)) (i k : Nat) : Prop where
  len : rs.length = rows.length
  lens : ∀ a, (rs.getD a []).length = (rows.getD a []).length
  done : ∀ a, a < i → ∀ q, q < (rows.getD a []).length → (rs.getD a []).getD q 0 = -(a : Int) - 5
  part : ∀ q, q < k → (rs.getD i []).getD q 0 = -(i : Int) - 5
theorem Spo.start (rows : List (List Int)) : Spo rows rows 0 0 := ⟨rfl, fun _ => rfl, fun _ h => absurd h (by omega), fun _ h => absurd h (by omega)⟩
theorem Spo.put {rows rs : List (List Int)} {i k : Nat} (h : Spo rows rs i k) (hi : i < rows.length) (hk : k < (rows.getD i []).length) : Spo rows (rs.set i ((rs.getD i []).set k (-(i : Int) - 5))) i (k + 1) := by
  have g : ∀ a, (rs.set i ((rs.getD i []).set k (-(i : Int) - 5))).getD a [] = if a = i then (rs.getD i []).set k (-(i : Int) - 5) else rs.getD a [] := fun a => gset _ _ _ _ (by rw [h.len]; exact hi)
  refine ⟨by simp [h.len], fun a => ?_, fun a ha q hq => ?_, fun q hq => ?_⟩
  · rw [g]
    split
    · rename_i e; rw [List.length_set, h.lens, e]
    · exact h.lens a
  · rw [g, if_neg (by omega)]
    exact h.done a ha q hq
  · rw [g, if_pos rfl, getD_set _ _ _ _ (by rw [h.lens]; exact hk)]
    split
    · rfl
    · exact h.part q (by omega)
theorem Spo.next {rows rs : List (List Int)} {i k : Nat} (h : Spo rows rs i k) (hk : k = (rows.getD i []).length) : Spo rows rs (i + 1) 0 :=
  ⟨h.len, h.lens, fun a ha q hq => by
    by_cases e : a = i
    · subst e; exact h.part q (by omega)
    · exact h.done a (by omega) q hq, fun _ h => absurd h (by omega)⟩
theorem Mem.grow2 {w w' : World} {B : Nat} {Fr : List Nat} {ov v v' : Value} {rvs : List Value} {rows : List (List Int)} (h : Mem w B (v.ownBlock.toList ++ Fr) ov rvs rows) (ha : Appended w w' v v') : Mem w' B (v'.ownBlock.toList ++ Fr) ov rvs rows := by
  obtain ⟨hs, hv⟩ := appended_stay ha
  have h1 : Mem w B (v.ownBlock.toList ++ (v'.ownBlock.toList ++ Fr)) ov rvs rows := h.others fun g hg => by
    rcases List.mem_append.1 hg with hg | hg
    · exact .inl (List.mem_append_left _ hg)
    · rcases List.mem_append.1 hg with hg | hg
      · rcases hv with hv | ⟨y, hy, hsz⟩
        · rw [hv] at hg; exact .inl (List.mem_append_left _ hg)
        · rw [hy] at hg
          simp at hg
          subst hg
          exact .inr hsz
      · exact .inl (List.mem_append_right _ hg)
  exact (h1.keep hs (fun g hg => List.mem_append_left _ hg)).less fun g hg => List.mem_append_right _ hg
/-- the handed out rows, as they read -/
structure LS (W w : World) (OA : Option Addr) (rvs : List Value) (rs : List (List Int)) : Prop where
  outer : Sl w W.heap.size OA rvs
  row : ∀ (j : Nat) (A : Option Addr) (l c : Nat), rvs[j]? = some (.slice A l c) → Sl w W.heap.size A (ints .i64 (rs.getD j []))
theorem LS.stay {W w w' : World} {OA : Option Addr} {rvs : List Value} {rs : List (List Int)} {G : List Nat} (h : LS W w OA rvs rs) (hs : Stay G w w') (hsz : W.heap.size ≤ w.heap.size) (hG : ∀ g ∈ G, W.heap.size ≤ g) : LS W w' OA rvs rs := by
  have one : ∀ (A : Option Addr) (xs : List Value), Sl w W.heap.size A xs → Sl w' W.heap.size A xs := fun A xs h => by
    intro j u hj
    obtain ⟨ad, hA, hb, hc⟩ := h j u hj
    refine ⟨ad, hA, hb, ?_⟩
    rw [← hc]
    have h1 := hs.block ad.block (by omega) (fun hm => by have := hG _ hm; omega)
    unfold World.cell?
    rw [add_block, h1]
  exact ⟨one _ _ h.outer, fun j A l c hj => one _ _ (h.row j A l c hj)⟩
theorem LS.app {W w w' : World} {B m oc i l c n' c' : Nat} {OA A A' : Option Addr} {rvs : List Value} {rs : List (List Int)} {gv : Value} {more : List Int} (h : LS W w OA rvs rs) (hM : Mem W B [] (.slice OA m oc) rvs rs) (hi : rvs[i]? = some (.slice A l c)) (hsz : W.heap.size ≤ w.heap.size)
    (ha : Appended w w' gv (.slice A' n' c')) (hg : gv.ownBlock = (Value.slice A l c).ownBlock ∨ ∃ b, gv.ownBlock = some b ∧ W.heap.size ≤ b) (ho : Own w' 3 B (.slice A' n' c') (ints .i64 (rs.getD i [] ++ more))) : LS W w' OA rvs rs := by
  rcases ha with ⟨h1, h2⟩ | ⟨b, h1, h2, h3⟩
  · rcases hg with hg | ⟨b, hb, hbW⟩
    · have hs : Stay gv.ownBlock.toList w w' := Stay.grown h2 (fun g hg => by simp [hg])
      rw [hg] at hs
      refine ⟨h.outer.stay hs hsz (fun ad had hm => ?_), fun j A2 l2 c2 hj => ?_⟩
      · subst had
        have hx : (Value.slice A l c).ownBlock = some ad.block := by simpa using hm
        exact (hM.far i _ hi _ hx).1 rfl
      · by_cases e : j = i
        · subst e
          rw [hi] at hj
          injection hj with hj
          injection hj with hA2 _ _
          subst hA2
          cases hA : A with
          | none =>
            have hr := hM.row j _ hi
            rw [hA] at hr
            have : (ints IntKind.i64 (rs.getD j [])) = [] := by
              cases hz : ints IntKind.i64 (rs.getD j []) with
              | nil => rfl
              | cons z r =>
                obtain ⟨ad, h, _⟩ := hr.sl 0 z (by rw [hz]; rfl)
                cases h
            rw [this]
            exact Sl.nil_ _ _ _
          | some ad =>
            have hr := hM.row j _ hi
            rw [hA] at hr hg
            obtain ⟨g, hgad⟩ := own_addr hr ad rfl
            subst hgad
            have hlt := (hr.lt g rfl).2
            have hA'b : (Value.slice A' n' c').ownBlock = some g := by rw [h1, hg]; rfl
            have hA' : A' = some ⟨g, 0, none⟩ := by
              cases hA2 : A' with
              | none => rw [hA2] at hA'b; cases hA'b
              | some ad' =>
                rw [hA2] at ho hA'b
                obtain ⟨g', hg'⟩ := own_addr ho ad' rfl
                subst hg'
                injection hA'b with hA'b
                have : g' = g := hA'b
                rw [this]
            have hsl := ho.sl
            rw [ints_app, hA'] at hsl
            have hp := sl_prefix hsl
            intro q u hq
            obtain ⟨ad, hada, _, hc⟩ := hp q u hq
            injection hada with hada
            subst hada
            exact ⟨_, rfl, hlt, hc⟩
        · refine (h.row j A2 l2 c2 hj).stay hs hsz (fun ad had hm => ?_)
          subst had
          have hx : (Value.slice A l c).ownBlock = some ad.block := by simpa using hm
          exact hM.apart i j _ _ (fun e2 => e e2.symm) hi hj _ hx rfl
    · refine h.stay (G := [b]) (Stay.grown h2 (fun g hg => by rw [hb] at hg; injection hg with hg; simp [hg])) hsz (fun g hg => by simp at hg; omega)
  · exact h.stay (G := []) (Stay.grown h3 (by simp)) hsz (by simp)
set_option maxRecDepth 20000 in
set_option maxHeartbeats 8000000 in
theorem spoil_any (rows : List (List Int)) (B : Nat) (F : List Nat) (rvs : List Value) (OA : Option Addr) (oc : Nat) (w : World) (hl : rows.length ≤ 1048576) (he : ∀ a, a < rows.length → (rows.getD a []).length ≤ 1048576)
    (h : Mem w B F (.slice OA rows.length oc) rvs rows) (hB : B ≤ w.heap.size) :
    Calls Try.prog 25 #[.slice OA rows.length oc] w fun e w' => e = .returned (.bool true) ∧ Stay (rvs.filterMap Value.ownBlock) w w' := by
  obtain ⟨i3, hi3, hz30, hz31, hz32⟩ := info_parts info3
  obtain ⟨i25, hi25, hz250, hz251, hz252⟩ := info_parts info25
  have HM := Lib.hid (h.less (G := []) (by simp))
  have HE := Lib.hid he
  clear h he
  obtain ⟨m, hm⟩ : ∃ m, m = rows.length := ⟨_, rfl⟩
  rw [← hm] at HM HE hl ⊢
  have HMr := Lib.hid hm
  clear hm
  go_enter Try.func25, Try.ntmps25
  go_wp2_with fail
  go_loopw [3] (fun iv wr => ∃ (i : Nat) (rs : List (List Int)), i ≤ m ∧ iv = .int .i64 i ∧ Hid (Spo rows rs i 0) ∧ Hid (Mem wr B [] (.slice OA m oc) rvs rs) ∧ Hid (Stay (rvs.filterMap Value.ownBlock) w wr)) (fun iv _ => m - (intOf iv).toNat)
  case atStart => exact ⟨0, rows, by omega, rfl, Spo.start rows, HM.out, Stay.refl _ _⟩
  case round =>
    obtain ⟨i, rs, hi, rfl, HSp, HMw, HSt⟩ := hrel
    by_cases hlt : i < m
    · have hlt' : (i : Int) < m := by omega
      have hi0 : (0 : Int) ≤ i := by omega
      have hrl := HSp.out.len
      have hLn := HE.out i hlt
      obtain ⟨L, hL⟩ : ∃ L, L = (rows.getD i []).length := ⟨_, rfl⟩
      rw [← hL] at hLn
      have HL := Lib.hid hL
      clear hL
      go_wp2_with fail
      go_loopw [4] (fun kv wx => ∃ (k : Nat) (rt : List (List Int)), k ≤ L ∧ kv = .int .i64 k ∧ Hid (Spo rows rt i k) ∧ Hid (Mem wx B [] (.slice OA m oc) rvs rt) ∧ Hid (Stay (rvs.filterMap Value.ownBlock) w wx)) (fun kv _ => L - (intOf kv).toNat)
      case atStart => exact ⟨0, rs, by omega, rfl, HSp.out, HMw.out, HSt.out⟩
      case round =>
        obtain ⟨k, rt, hk, rfl, HSq, HMx, HSu⟩ := hrel
        have hmr := HMr.out
        have hrt := HSq.out.len
        obtain ⟨g, RA, rl, rc, rfl, hv, hcO, -, -, hrl2, hoR, hmm⟩ := HMx.out.at_ i (by omega)
        have hrL : rl = L := by rw [hrl2, HSq.out.lens, ← HL.out]
        subst hrL
        have HLn := Lib.hid hmm
        by_cases hkl : k < rl
        · have hkl' : (k : Int) < rl := by omega
          have hk0 : (0 : Int) ≤ k := by omega
          obtain ⟨-, gr, rfl, -, -⟩ := hoR.form (by rw [ints_length]; omega)
          have hsc := own_at hoR (i := k) (by rw [← hrl2]; exact hkl)
          have hsf := hoR.free k
          have HMs := Lib.hid (HMx.out.cellset hv k (-(i : Int) - 5))
          have HSs := Lib.hid (HSu.out.set' (p := ⟨gr, k, none⟩) (u := .int .i64 (-(i : Int) - 5)) (.inl (HMx.out.blocks hv rfl)))
          have HSpn := Lib.hid (HSq.out.put (by omega) (by rw [← HL.out]; exact hkl))
          clear hoR hv hrl2 hmm hrt hmr
          go_wp2_with fail
          go_roundw
          case rel => exact ⟨k + 1, _, by omega, by go_num, HSpn.out, HMs.out, HSs.out⟩
          case measure => simp [intOf]; omega
        · have hk' : k = rl := by omega
          have HSn := Lib.hid (HSq.out.next (by rw [hk']; exact HL.out))
          have hkl' : ¬ (k : Int) < rl := by omega
          clear hoR hv hrl2 hmm hrt hmr
          go_wp2_with fail
          go_roundw
          case rel => exact ⟨i + 1, rt, by omega, by go_num, HSn.out, HMx.out, HSu.out⟩
          case measure => simp [intOf]; omega
    · have hi' : i = m := by omega
      subst hi'
      clear HM
      obtain ⟨W, hW⟩ : ∃ W, W = wr := ⟨_, rfl⟩
      rw [← hW] at HMw HSt ⊢
      clear hW
      have HRV := Lib.hid (show ∀ j, j < i → ∃ A c, rvs[j]? = some (.slice A (rs.getD j []).length c) ∧ Own W 3 B (.slice A (rs.getD j []).length c) (ints .i64 (rs.getD j [])) from fun j hj => by
        obtain ⟨g, RA, rl, rc, -, hv, -, -, -, hrl, hoR, -⟩ := HMw.out.at_ j (by have := HSp.out.len; have := HMr.out; omega)
        subst hrl
        exact ⟨RA, rc, hv, hoR⟩)
      have HSz := Lib.hid HSt.out.size
      go_wp2_with fail
      go_loopw [5, 6] (fun lv iv wr => ∃ (j : Nat) (LA : Option Addr) (lc : Nat) (lvs : List Value) (rl : List (List Int)), j ≤ i ∧ iv = .int .i64 j ∧ lv = .slice LA j lc ∧ Hid (rl.length = j ∧ ∀ q, q < j → rl.getD q [] = rs.getD q [] ++ List.replicate 20 (-(q : Int) - 5)) ∧
        Hid (Mem wr B ((rvs.drop j).filterMap Value.ownBlock) (.slice LA j lc) lvs rl) ∧ Hid (LS W wr OA rvs rs) ∧ Hid (∀ x, (Value.slice LA j lc).ownBlock = some x → W.heap.size ≤ x) ∧ Hid (∀ q v, j ≤ q → rvs[q]? = some v → Own wr 3 B v (ints .i64 (rs.getD q []))) ∧ Hid (Stay (rvs.filterMap Value.ownBlock) w wr) ∧ Hid (W.heap.size ≤ wr.heap.size)) (fun _ iv _ => i - (intOf iv).toNat)
      case atStart =>
        refine ⟨0, none, 0, [], [], by omega, rfl, rfl, ⟨rfl, fun q hq => absurd hq (by omega)⟩, Mem.start _ _ _, ⟨?_, fun j A l c hj => ?_⟩, Lib.hid (fun x hx => by simp [Value.ownBlock] at hx), Lib.hid (fun q v _ hv => HMw.out.row q v hv), HSt.out, Nat.le_refl _⟩
        · exact HMw.out.own.sl
        · exact (HMw.out.row j _ hj).sl
      case round =>
        obtain ⟨j, LA, lc, lvs, rl, hj, rfl, rfl, HRL, HML, HLS, HLA, HOW, HSu, HSy⟩ := hrel
        by_cases hlt : j < i
        · have hlt' : (j : Int) < i := by omega
          have hj0 : (0 : Int) ≤ j := by omega
          obtain ⟨A, c, hv, hoW⟩ := HRV.out j hlt
          obtain ⟨ad, rfl, -, hcO⟩ := HLS.out.outer j _ hv
          have hoj := HOW.out j _ (Nat.le_refl _) hv
          have hLn := HE.out j hlt
          rw [← HSp.out.lens] at hLn
          obtain ⟨L, hL⟩ : ∃ L, L = (rs.getD j []).length := ⟨_, rfl⟩
          rw [← hL] at hv hcO hoj hoW hLn
          have HV := Lib.hid hv
          have HOj := Lib.hid hoj
          have HOw := Lib.hid hoW
          have HL := Lib.hid hL
          obtain ⟨x, hx⟩ : ∃ x : Int, x = -(j : Int) - 5 := ⟨_, rfl⟩
          have HX := Lib.hid hx
          have hx1 : -(j : Int) - 5 = x := hx.symm
          have HFr := Lib.hid (show (rvs.drop j).filterMap Value.ownBlock = (Value.slice A L c).ownBlock.toList ++ (rvs.drop (j + 1)).filterMap Value.ownBlock from by
            have hjl := (List.getElem?_eq_some_iff.1 hv).1
            have hjv := (List.getElem?_eq_some_iff.1 hv).2
            rw [List.drop_eq_getElem_cons hjl, hjv, List.filterMap_cons]
            cases (Value.slice A L c).ownBlock <;> rfl)
          clear hv hoj hoW hL hx
          go_wp2_with fail
          go_loopw [7, 8] (fun gv kv wx => ∃ (k : Nat) (GA : Option Addr) (gc : Nat), k ≤ 20 ∧ kv = .int .i64 k ∧ gv = .slice GA (L + k) gc ∧ Hid (Own wx 3 B (.slice GA (L + k) gc) (ints .i64 (rs.getD j [] ++ List.replicate k x))) ∧
            Hid ((Value.slice GA (L + k) gc).ownBlock = (Value.slice A L c).ownBlock ∨ ∃ b, (Value.slice GA (L + k) gc).ownBlock = some b ∧ W.heap.size ≤ b) ∧ Hid (∀ q v, j + 1 ≤ q → rvs[q]? = some v → Own wx 3 B v (ints .i64 (rs.getD q []))) ∧
            Hid (Mem wx B ((Value.slice GA (L + k) gc).ownBlock.toList ++ (rvs.drop (j + 1)).filterMap Value.ownBlock) (.slice LA j lc) lvs rl) ∧ Hid (LS W wx (some ad) rvs rs) ∧ Hid (Stay (rvs.filterMap Value.ownBlock) w wx) ∧ Hid (W.heap.size ≤ wx.heap.size)) (fun _ kv _ => 20 - (intOf kv).toNat)
          case atStart =>
            refine ⟨0, A, c, by omega, rfl, rfl, ?_, .inl rfl, fun q v hq hv => HOW.out q v (by omega) hv, ?_, HLS.out, HSu.out, HSy.out⟩
            · show Own _ _ _ _ _
              rw [List.replicate_zero, List.append_nil]; exact HOj.out
            · have hml := HML.out
              rw [HFr.out] at hml
              exact hml
          case round =>
            obtain ⟨k, GA, gc, hk, rfl, rfl, HOg, HBg, HOq, HMg, HLg, HSg, HSz2⟩ := hrel
            by_cases hk20 : k < 20
            · have hk1 : (k : Int) < 20 := by omega
              have hsz := HSz2.out
              have hsz3 := HSz.out
              have hlen : (ints IntKind.i64 (rs.getD j [] ++ List.replicate k x)).length = L + k := by simp [HL.out]
              have HLen := Lib.hid hlen
              clear hlen
              go_wp2_with (first
                | (at_builtin; refine wpList_append_sl2 _ rfl (.tmp 49) (.tmp 53) 25 rfl B 3 i3 _ 8 Try.underlying25 hi3 hz30 hz31 hz32 rfl (.slice GA (L + k) gc) (L + k) _ HLen.out rfl (HOg.out.alloc _) _ _ _ 1 [.int .i64 x] rfl rfl (sl_one' _ _ _ _ (by simp)) (one_int _ _) (by unfold maxLen; omega) (by omega) (by rw [size_alloc']; omega) ?_; intro GA2 gc2 w8 ho8 ha8
                   have HO8 := Lib.hid (show Own w8 3 B (.slice GA2 (L + (k + 1)) gc2) (ints .i64 (rs.getD j [] ++ List.replicate (k + 1) x)) from by
                     rw [List.replicate_succ', ← List.append_assoc, ← ints_snoc]; exact ho8)
                   have HA8 := Lib.hid ha8
                   clear ho8 ha8))
              have hs8 := appended_stay HA8.out
              have hsa := appended_size HA8.out
              rw [size_alloc'] at hsa
              go_roundw
              case rel =>
                refine ⟨k + 1, GA2, gc2, by omega, by go_num, rfl, HO8.out, ?_, fun q v hq hv => ?_, ?_, ?_, ?_, by show W.heap.size ≤ w8.heap.size; omega⟩
                · rcases hs8.2 with h | ⟨b, hb, hbs⟩
                  · rcases HBg.out with h' | ⟨b, hb, hbW⟩
                    · exact .inl (by show (Value.slice GA2 (L + k + 1) gc2).ownBlock = _; rw [h, h'])
                    · exact .inr ⟨b, by show (Value.slice GA2 (L + k + 1) gc2).ownBlock = _; rw [h, hb], hbW⟩
                  · rw [size_alloc'] at hbs
                    exact .inr ⟨b, hb, by omega⟩
                · refine (appended_other HA8.out ((HOq.out q v hq hv).alloc _) (fun g hg e => ?_)).1
                  rcases HBg.out with h' | ⟨b, hb, hbW⟩
                  · rw [h'] at e
                    exact HMw.out.apart j q _ v (by omega) HV.out hv g e hg
                  · rw [hb] at e
                    injection e with e
                    have := ((HMw.out.row q v hv).lt g hg).2
                    omega
                · exact Mem.grow2 (HMg.out.keep (G := []) (Stay.alloc _ _) (by simp)) HA8.out
                · exact LS.app (HLg.out.stay (G := []) (Stay.alloc _ _) hsz (by simp)) HMw.out HV.out (by rw [size_alloc']; omega) HA8.out HBg.out (by
                    have := HO8.out
                    exact this)
                · refine (HSg.out.trans (Stay.alloc _ _)).trans' hs8.1 fun g hg => ?_
                  have hg' : (Value.slice GA (L + k) gc).ownBlock = some g := by simpa using hg
                  rcases HBg.out with h' | ⟨b, hb, hbW⟩
                  · exact .inl (HMw.out.blocks HV.out (by rw [← h']; exact hg'))
                  · rw [hb] at hg'
                    injection hg' with hg'
                    exact .inr (by omega)
              case measure => simp [intOf]; omega
            · have hk' : k = 20 := by omega
              subst hk'
              have hsz := HSz2.out
              have hsz3 := HSz.out
              have HLv := Lib.hid (HMg.out.len.trans HRL.out.1)
              have HFm := Lib.hid (show ∀ y ∈ (rvs.drop (j + 1)).filterMap Value.ownBlock, ∃ q v, j + 1 ≤ q ∧ rvs[q]? = some v ∧ v.ownBlock = some y from fun y hy => by
                obtain ⟨v, hv, hvy⟩ := List.mem_filterMap.1 hy
                obtain ⟨q, hq, hqv⟩ := List.mem_iff_getElem.1 hv
                rw [List.getElem_drop] at hqv
                exact ⟨j + 1 + q, v, by omega, by rw [← hqv]; exact List.getElem?_eq_getElem _, hvy⟩)
              go_wp2_with (first
                | (at_builtin; refine wpList_append_sl2 _ rfl (.tmp 55) (.tmp 57) 37 rfl B 25 i25 _ 24 Try.underlying37 hi25 hz250 hz251 hz252 rfl (.slice LA j lc) j lvs HLv.out rfl (HMg.out.own.alloc _) _ _ _ 1 [.slice GA (L + 20) gc] rfl rfl (sl_one' _ _ _ _ (by simp)) (by simp [Value.oneCell']) (by unfold maxLen; omega) (by omega) (by rw [size_alloc']; omega) ?_; intro LA2 lc2 w8 ho8 ha8
                   have HO8 := Lib.hid ho8
                   have HA8 := Lib.hid ha8
                   clear ho8 ha8))
              have hs8 := appended_stay HA8.out
              have hsa := appended_size HA8.out
              rw [size_alloc'] at hsa
              have hgF : ∀ y, (Value.slice GA (L + 20) gc).ownBlock = some y → y ∉ (rvs.drop (j + 1)).filterMap Value.ownBlock := fun y hy hm => by
                obtain ⟨q, v, hq, hv, hvy⟩ := HFm.out y hm
                rcases HBg.out with h' | ⟨b, hb, hbW⟩
                · rw [h'] at hy
                  exact HMw.out.apart j q _ v (by omega) HV.out hv y hy hvy
                · rw [hb] at hy
                  injection hy with hy
                  have := ((HMw.out.row q v hv).lt y hvy).2
                  omega
              go_roundw
              case rel =>
                refine ⟨j + 1, LA2, lc2, lvs ++ [.slice GA (L + 20) gc], rl ++ [rs.getD j [] ++ List.replicate 20 x], by omega, by go_num, rfl, ⟨by simp [HRL.out.1], fun q hq => ?_⟩, ?_, ?_, Lib.hid (fun y hy => ?_), Lib.hid (fun q v hq hv => ?_), ?_, by show W.heap.size ≤ w8.heap.size; omega⟩
                · rw [gsnoc, HRL.out.1]
                  by_cases e : q = j
                  · subst e; rw [if_pos rfl, HX.out]
                  · rw [if_neg e]; exact HRL.out.2 q (by omega)
                · exact Mem.more_row ((HMg.out.less (G := (rvs.drop (j + 1)).filterMap Value.ownBlock) (fun g hg => List.mem_append_right _ hg)).keep (G := []) (Stay.alloc _ _) (by simp)) (HOg.out.alloc _)
                    (fun y hy => ⟨fun e => HMg.out.ofar y e (by rw [hy]; simp), hgF y hy, fun j' u hj' e => (HMg.out.far j' u hj' y e).2 (by rw [hy]; simp)⟩) HO8.out HA8.out (fun g hg => by
                      obtain ⟨q, v, hq, hv, hvy⟩ := HFm.out g hg
                      have := ((HMw.out.row q v hv).lt g hvy).2
                      rw [size_alloc']; omega)
                · exact (HLg.out.stay (G := []) (Stay.alloc _ _) hsz (by simp)).stay hs8.1 (by rw [size_alloc']; omega) (fun g hg => HLA.out g (by simpa using hg))
                · rcases hs8.2 with h | ⟨b, hb, hbs⟩
                  · exact HLA.out y (by rw [← h]; exact hy)
                  · rw [size_alloc'] at hbs
                    have hy' : (Value.slice LA2 (j + 1) lc2).ownBlock = some y := hy
                    rw [hb] at hy'
                    injection hy' with hy'
                    omega
                · refine (appended_other HA8.out ((HOq.out q v hq hv).alloc _) (fun g hg e => ?_)).1
                  have h1 := HLA.out g e
                  have h2 := ((HMw.out.row q v hv).lt g hg).2
                  omega
                · refine (HSg.out.trans (Stay.alloc _ _)).trans' hs8.1 fun g hg => .inr ?_
                  have := HLA.out g (by simpa using hg)
                  omega
              case measure => simp [intOf]; omega
        · have hj' : j = i := by omega
          subst hj'
          clear HOW HSy HSz HLA
          go_wp2_with fail
          go_loop [9] (fun iv => ∃ a : Nat, a ≤ j ∧ iv = .int .i64 a) (fun iv => j - (intOf iv).toNat)
          case atStart => exact ⟨0, by omega, rfl⟩
          case round =>
            obtain ⟨a, ha, rfl⟩ := hrel
            by_cases hal : a < j
            · have hal' : (a : Int) < j := by omega
              have ha0 : (0 : Int) ≤ a := by omega
              obtain ⟨A, c, hv, hoW⟩ := HRV.out a hal
              obtain ⟨ad, rfl, -, hcO⟩ := HLS.out.outer a _ hv
              have hrow := HLS.out.row a A _ c hv
              obtain ⟨g2, R2, l2, c2, rfl, -, hc2, -, -, hl2, ho2, -⟩ := HML.out.at_ a (by rw [HRL.out.1]; exact hal)
              have hLn := HE.out a hal
              have hlens := HSp.out.lens a
              rw [← hlens] at hLn
              have hdone := HSp.out.done a hal
              rw [← hlens] at hdone
              obtain ⟨L, hL⟩ : ∃ L, L = (rs.getD a []).length := ⟨_, rfl⟩
              have hra := HRL.out.2 a hal
              have hl3 : l2 = L + 20 := by rw [hl2, hra]; simp [hL]
              subst hl3
              obtain ⟨x, hx⟩ : ∃ x : Int, x = -(a : Int) - 5 := ⟨_, rfl⟩
              have hx1 : -(a : Int) - 5 = x := hx.symm
              have HRr := Lib.hid (show ∀ q, q < L + 20 → (rl.getD a []).getD q 0 = x from fun q hq => by
                rw [hra]
                by_cases e : q < L
                · rw [getD_app1 _ _ _ (by omega), hdone q (by omega), hx]
                · obtain ⟨q', hq'⟩ : ∃ q', q = (rs.getD a []).length + q' := ⟨q - L, by omega⟩
                  rw [hq', getD_app2, List.getD_eq_getElem?_getD, List.getElem?_replicate, if_pos (by omega), hx]
                  rfl)
              have HRs := Lib.hid (show ∀ q, q < L → (rs.getD a []).getD q 0 = x from fun q hq => by rw [hdone q (by omega), hx])
              have HRow := Lib.hid hrow
              have HO2 := Lib.hid ho2
              have HL2 := Lib.hid hl2
              have HLL := Lib.hid hL
              rw [← hL] at hcO hLn
              clear hrow ho2 hl2 hoW hv hra hdone hlens hx hL
              go_wp2_with fail
              go_loop [10] (fun kv => ∃ q : Nat, q ≤ L + 20 ∧ kv = .int .i64 q) (fun kv => L + 20 - (intOf kv).toNat)
              case atStart => exact ⟨0, by omega, rfl⟩
              case round =>
                obtain ⟨q, hq, rfl⟩ := hrel
                by_cases hql : q < L + 20
                · have hql' : (q : Int) < (L : Int) + 20 := by omega
                  have hq0 : (0 : Int) ≤ q := by omega
                  obtain ⟨-, gr, rfl, -, -⟩ := HO2.out.form (by rw [ints_length, ← HL2.out]; omega)
                  have hk1 := own_at HO2.out (i := q) (by rw [← HL2.out]; exact hql)
                  rw [HRr.out q hql] at hk1
                  by_cases hqL : q < L
                  · have hqL' : (q : Int) < L := by omega
                    obtain ⟨ad2, rfl, -, hk2⟩ := sl_at HRow.out (i := q) (by rw [← HLL.out]; exact hqL)
                    rw [HRs.out q hqL] at hk2
                    go_wp2_with fail
                    go_round
                    case rel => exact ⟨q + 1, by omega, by go_num⟩
                    case measure => simp [intOf]; omega
                  · have hqL' : ¬ (q : Int) < L := by omega
                    go_wp2_with fail
                    go_round
                    case rel => exact ⟨q + 1, by omega, by go_num⟩
                    case measure => simp [intOf]; omega
                · have hq' : q = L + 20 := by omega
                  have hql' : ¬ (q : Int) < (L : Int) + 20 := by omega
                  go_wp2_with fail
                  go_round
                  case rel => exact ⟨a + 1, by omega, by go_num⟩
                  case measure => simp [intOf]; omega
            · have ha' : a = j := by omega
              subst ha'
              go_wp2_with fail
              go_ret
              exact ⟨rfl, HSu.out⟩
end Go.Proofs.Ytikgjnfimagpjaa
