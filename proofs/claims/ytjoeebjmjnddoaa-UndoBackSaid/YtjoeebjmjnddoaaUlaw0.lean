/- shuttlelaw20: UndoBack, UndoLost: what their loops keep. -/
import Derived.Test.YtjoeebjmjnddoaaUworks
import Derived.Test.YtjoeebjmjnddoaaUback
namespace Go.Proofs.Ytjoeebjmjnddoaa
open Go.RowKit
section
variable {w0 w w' : World} {B bb rb : Nat} {DA : Option Addr} {dc : Nat} {D : List MG} {UA : Option Addr} {uc : Nat} {U : List MG} {rs st sv gv : Int} {tx : List UInt8}
theorem drop_gi {L : List MG} {j : Nat} (hG : ∀ g ∈ L, GI g) (hj : j < L.length) (hc : L.length - j = 1 ∨ chg (L.drop j) ≤ 1024) : (∀ g ∈ L.drop j, GI g) ∧ chg (L.drop j) ≤ 1024 ∧ 0 < (L.drop j).length := by
  have h1 : ∀ g ∈ L.drop j, GI g := fun g hg => hG g (List.mem_of_mem_drop hg)
  refine ⟨h1, ?_, by rw [List.length_drop]; omega⟩
  rcases hc with hc | hc
  · have hl : (L.drop j).length = 1 := by rw [List.length_drop]; exact hc
    match hh : L.drop j, hl with
    | [x], _ =>
      have h2 := (h1 x (by rw [hh]; simp)).n1
      simpa [chg] using h2
  · exact hc
/-- what a call of Do does to the texts -/
def TNew (mo : Bool) (D D' : List MG) (e : Ed) (er : Int) (T T' : List (List UInt8)) : Prop :=
  (er ≠ 0 ∧ T' = T) ∨ (er = 0 ∧ (e.d = 0 ∧ e.s = ⟨#[]⟩) ∧ T' = T ∧ D'.length = D.length) ∨
  (er = 0 ∧ ¬ (e.d = 0 ∧ e.s = ⟨#[]⟩) ∧ 0 < D'.length ∧ ∃ z, T' = if mo2 mo D [] then T.set (T.length - 1) z else T ++ [z])
def DoneB (w0 w : World) (B bb rb : Nat) (mo : Bool) (D : List MG) (e : Ed) (sv gv : Int) (T : List (List UInt8)) (en : Ending) (w' : World) : Prop :=
  ∃ (er : Int) (DA' : Option Addr) (dc' : Nat) (D' : List MG) (rs' st' gv' : Int) (T' : List (List UInt8)) (F : List Nat), en = .returned (.int .i64 er) ∧ BS w0 w' B bb rb DA' dc' D' none 0 [] rs' st' sv gv' (T'.getD (T'.length - 1) []) ∧ DT D' T' ∧ (∀ g ∈ D', GI g) ∧ chg D' ≤ 1024 ∧
    (0 ≤ gv' ∧ gv' ≤ gv + 1) ∧ Stay F w w' ∧ Foot w B rb F ∧ TNew mo D D' e er T T'
theorem bs_do {T : List (List UInt8)} (h : BS w0 w B bb rb DA dc D none 0 [] rs st sv gv (T.getD (T.length - 1) [])) (hdt : DT D T) (e : Ed) (ok : e.OK) (mo : Bool) (hG : ∀ g ∈ D, GI g) (hc : chg D ≤ 1024) (hgv : 0 ≤ gv ∧ gv < 4611686018427387904) :
    Calls Try.prog 31 #[.pointer (some ⟨bb, 0, none⟩), e.val, .bool mo] w (DoneB w0 w B bb rb mo D e sv gv T) := by
  obtain ⟨t, hR, ht⟩ := h.R
  have hsame : ∀ er en w', DSame w0 w B bb rb DA dc D none 0 [] st sv gv (T.getD (T.length - 1) []) er en w' → (er ≠ 0 ∨ (e.d = 0 ∧ e.s = ⟨#[]⟩)) → DoneB w0 w B bb rb mo D e sv gv T en w' := fun er en w' ⟨rs', F, h1, h2, h3, h4⟩ hor => by
    refine ⟨er, DA, dc, D, rs', st, gv, T, F, h1, h2, hdt, hG, hc, ⟨hgv.1, by omega⟩, h3, h4, ?_⟩
    by_cases h0 : er = 0
    · rcases hor with h5 | h5
      · exact absurd h0 h5
      · exact .inr (.inl ⟨h0, h5, rfl, rfl⟩)
    · exact .inl ⟨h0, rfl⟩
  rcases rdo_cases rb t rs e w hR h.u ok with ⟨er, her, hrd⟩ | ⟨b, z, hun, hbs, hez, hrd⟩
  · rw [ht] at hrd
    refine (bs_bad h e mo hG hc ok _ _ _ er hrd her).mono ?_
    rintro en w' ⟨er', h1, _, h2⟩
    exact hsame er' en w' h2 (.inl h1)
  · rw [ht] at hun
    by_cases hem : e.d = 0 ∧ e.s = ⟨#[]⟩
    · have hz := hez hem.1 hem.2
      rw [hz, ht] at hrd
      refine (bs_emp h e mo hG hc ok _ _ _ _ (u64_wrap _) hrd hem).mono ?_
      rintro en w' ⟨er', _, h2⟩
      exact hsame er' en w' h2 (.inr hem)
    · obtain ⟨ba, bd, bs⟩ := b
      cases hm : mo2 mo D [] with
      | false =>
        refine (bs_new h e mo hG hc ba bd bs _ z (u64_wrap _) hrd hem hbs hgv hm).mono ?_
        rintro en w' ⟨g, j, DA', dc', rs', F, rfl, h1, h2, h3, h4, h5, h6, h7, h8, h9⟩
        have hgi : ∀ x ∈ D ++ [g], GI x := fun x hx => by
          rcases List.mem_append.1 hx with hx | hx
          · exact hG x hx
          · rw [List.mem_singleton] at hx
            rw [hx]
            simp only at hbs
            exact ⟨by rw [h1]; simp, by rw [h1]; simp, by rw [h2]; omega, by rw [h2, h1]; simp; omega⟩
        obtain ⟨k1, k2, k3⟩ := drop_gi hgi (by simpa using h5) (by simpa using h7)
        have hl : (T ++ [z]).getD ((T ++ [z]).length - 1) [] = z := by simp
        refine ⟨0, DA', dc', _, rs', _, _, T ++ [z], F, rfl, by rw [hl]; exact h6, (hdt.push (g := g) (by rw [h1]; exact GT.one hun)).drop j (by simp; omega), k1, k2, ⟨by omega, Int.le_refl _⟩, h8, h9, .inr (.inr ⟨rfl, hem, k3, z, by rw [hm]; rfl⟩)⟩
      | true =>
        obtain ⟨rfl, _, Dk, gl, hD⟩ := mo2_true hm
        by_cases hfu : 1024 ≤ gl.ed.length
        · refine (bs_full h e hD hG hc ok hfu).mono ?_
          intro en w' h2
          exact hsame 4 en w' h2 (.inl (by omega))
        · refine (bs_more h e hD hG hc (by omega) ba bd bs _ z (u64_wrap _) hrd hem hbs hgv).mono ?_
          rintro en w' ⟨g, j, DA', dc', rs', F, rfl, h1, h2, h3, h4, h5, h6, h7, h8, h9⟩
          have hgl := hG gl (by rw [hD]; simp)
          have hgi : ∀ x ∈ Dk ++ [g], GI x := fun x hx => by
            rcases List.mem_append.1 hx with hx | hx
            · exact hG x (by rw [hD]; exact List.mem_append_left _ hx)
            · rw [List.mem_singleton] at hx
              rw [hx]
              simp only at hbs
              have y0 := hgl.y0
              have y1 := hgl.y1
              exact ⟨by rw [h1]; simp, by rw [h1]; simp; omega, by rw [h2]; omega, by rw [h2, h1]; simp; omega⟩
          obtain ⟨k1, k2, k3⟩ := drop_gi hgi (by simpa using h5) (by simpa using h7)
          have hTl := hdt.1
          have hl : (T.set (T.length - 1) z).getD ((T.set (T.length - 1) z).length - 1) [] = z := by
            rw [List.length_set, List.getD_eq_getElem?_getD, List.getElem?_set_self (by omega)]
            rfl
          have hd2 : DT (Dk ++ [gl]) T := by rw [← hD]; exact hdt
          refine ⟨0, DA', dc', _, rs', _, _, T.set (T.length - 1) z, F, rfl, by rw [hl]; exact h6, (hd2.grow (g' := g) (z := z) (fun x y hxy hy => by
            rw [h1]
            exact hxy.more (by rw [hy]; exact hun))).drop j (by simp; omega), k1, k2, ⟨by omega, Int.le_refl _⟩, h8, h9, .inr (.inr ⟨rfl, hem, k3, z, by rw [hm]; rfl⟩)⟩
/-- the strings -/
def strs (T : List (List UInt8)) : List Value := T.map fun x => .string (str x)
theorem strs_len (T : List (List UInt8)) : (strs T).length = T.length := by simp [strs]
/-- in the second part: k groups are done, n - k undone -/
def SB (w0 : World) (B bb rb n : Nat) (T : List (List UInt8)) (SA : Option Addr) (sc : Nat) (k : Nat) (w : World) : Prop :=
  ∃ (DA : Option Addr) (dc : Nat) (D : List MG) (UA : Option Addr) (uc : Nat) (U : List MG) (rs st sv gv : Int), BS w0 w B bb rb DA dc D UA uc U rs st sv gv (T.getD k []) ∧ D.length = k ∧ k ≤ n ∧ U.length = n - k ∧ n ≤ 1024 ∧
    (∀ i (hi : i < D.length), GT D[i].ed (T.getD i []) (T.getD (i + 1) []) ∧ GI D[i]) ∧ (∀ i (hi : i < U.length), RF U[i].ed (T.getD (n - 1 - i) []) (T.getD (n - i) []) ∧ GI U[i]) ∧ Win w B 9 1 SA (n + 1) sc (strs T)
theorem BS.rope {xb : Nat} {t : Rp} {s : Int} (h : BS w0 w B bb rb DA dc D UA uc U rs st sv gv tx) (hx : RopeAt w xb t s) (hne : xb ≠ rb) (hxb : B ≤ xb) (hs : Stay [xb] w w') : BS w0 w' B bb rb DA dc D UA uc U rs st sv gv tx := by
  obtain ⟨t', h1, h2⟩ := h.R
  obtain ⟨L, hL⟩ := hx.blk
  have n1 : ∀ {f : Nat} {l : List Value} {ty : TypeId}, Blk w f l ty → ty ≠ 77 → f ∉ [xb] := fun {f l ty} hf hn hm => by
    rw [List.mem_singleton] at hm
    exact blk_ne_of hf hL hn hm
  exact ⟨h.bbk.stay hs (n1 h.bbk (by decide)), win_rope h.dW hx hs (by decide), win_rope h.uW hx hs (by decide), fun g hg => (h.dE g hg).stay hs (fun f hf L hL => n1 hL (by decide) hf), fun g hg => (h.uE g hg).stay hs (fun f hf L hL => n1 hL (by decide) hf), h.ap, ⟨t', rope_rope h1 hx hne hs, h2⟩, h.u, h.hbb, h.hrb,
    h.bel.trans (hs.toBelow h.sz (fun g hg => by rw [List.mem_singleton] at hg; rw [hg]; exact hxb)), Nat.le_trans h.sz hs.size⟩
theorem SB.rope {n k sc xb : Nat} {T : List (List UInt8)} {SA : Option Addr} {t : Rp} {s : Int} (h : SB w0 B bb rb n T SA sc k w) (hx : RopeAt w xb t s) (hne : xb ≠ rb) (hxb : B ≤ xb) (hs : Stay [xb] w w') : SB w0 B bb rb n T SA sc k w' := by
  obtain ⟨DA, dc, D, UA, uc, U, rs, st, sv, gv, h1, h2, h3, h4, h5, h6, h7, h8⟩ := h
  exact ⟨DA, dc, D, UA, uc, U, rs, st, sv, gv, h1.rope hx hne hxb hs, h2, h3, h4, h5, h6, h7, win_rope h8 hx hs (by decide)⟩
theorem SB.stay0 {n k sc : Nat} {T : List (List UInt8)} {SA : Option Addr} (h : SB w0 B bb rb n T SA sc k w) (hs : Stay [] w w') : SB w0 B bb rb n T SA sc k w' := by
  obtain ⟨DA, dc, D, UA, uc, U, rs, st, sv, gv, h1, h2, h3, h4, h5, h6, h7, h8⟩ := h
  exact ⟨DA, dc, D, UA, uc, U, rs, st, sv, gv, h1.stay0 hs, h2, h3, h4, h5, h6, h7, h8.stay0 hs⟩
theorem told_len (m : Nat) (f : Nat → Ed) : ((List.range m).map f).length = m := by simp
theorem sb_undo {n k sc : Nat} {T : List (List UInt8)} {SA : Option Addr} (h : SB w0 B bb rb n T SA sc (k + 1) w) : ∀ u, Stay [] w u → Calls Try.prog 33 #[.pointer (some ⟨bb, 0, none⟩)] u (Called (SB w0 B bb rb n T SA sc k) B rb (T.getD (k + 1) []) (T.getD k []) u) := fun u hs => by
  obtain ⟨DA, dc, D, UA, uc, U, rs, st, sv, gv, h1, h2, h3, h4, h5, h6, h7, h8⟩ := h.stay0 hs
  have hne : D ≠ [] := fun e => by rw [e] at h2; simp at h2
  obtain ⟨P, g, rfl⟩ : ∃ P g, D = P ++ [g] := ⟨D.dropLast, D.getLast hne, (List.dropLast_concat_getLast hne).symm⟩
  have hP : P.length = k := by simpa using h2
  obtain ⟨g1, g2⟩ := h6 P.length (by simp)
  rw [List.getElem_append_right (Nat.le_refl _)] at g1 g2
  simp only [Nat.sub_self, List.getElem_cons_zero, hP] at g1 g2
  refine (bs_undo h1 g1 g2 (by omega)).mono ?_
  rintro e w' ⟨tA, tc, told, g', DA', dc', UA', uc', rs', F, rfl, k1, k2, k3, k4, k5, k6, _, _, _, k7, k8⟩
  have hl : told.length = g.ed.length := by rw [k2]; exact told_len _ _
  obtain ⟨t', j1, j2⟩ := k4.R
  refine ⟨tA, tc, told, F, t', rs', rfl, k1, k3, by rw [hl]; exact g2.n0, by rw [hl]; exact Nat.le_trans g2.n1 (by omega), j1, j2, ⟨DA', dc', P, UA', uc', U ++ [g'], rs', _, sv, gv, k4, hP, by omega, by simp; omega, h5, fun i hi => ?_, fun i hi => ?_, k8.win h1.rblk h8 ⟨by decide, by decide, by decide⟩ k7⟩, k7, k8⟩
  · have := h6 i (by simp; omega)
    rw [List.getElem_append_left hi] at this
    exact this
  · simp only [List.length_append, List.length_singleton] at hi
    by_cases e : i < U.length
    · rw [List.getElem_append_left e]
      exact h7 i e
    · obtain rfl : i = U.length := by omega
      rw [List.getElem_append_right (Nat.le_refl _)]
      simp only [Nat.sub_self, List.getElem_cons_zero]
      rw [show n - 1 - U.length = k by omega, show n - U.length = k + 1 by omega]
      exact ⟨k5, k6⟩
theorem sb_redo {n k sc : Nat} {T : List (List UInt8)} {SA : Option Addr} (h : SB w0 B bb rb n T SA sc k w) (hk : k < n) : ∀ u, Stay [] w u → Calls Try.prog 34 #[.pointer (some ⟨bb, 0, none⟩)] u (Called (SB w0 B bb rb n T SA sc (k + 1)) B rb (T.getD k []) (T.getD (k + 1) []) u) := fun u hs => by
  obtain ⟨DA, dc, D, UA, uc, U, rs, st, sv, gv, h1, h2, h3, h4, h5, h6, h7, h8⟩ := h.stay0 hs
  have hne : U ≠ [] := fun e => by rw [e] at h4; simp at h4; omega
  obtain ⟨Q, g, rfl⟩ : ∃ P g, U = P ++ [g] := ⟨U.dropLast, U.getLast hne, (List.dropLast_concat_getLast hne).symm⟩
  have hQ : Q.length = n - k - 1 := by simp at h4; omega
  obtain ⟨g1, g2⟩ := h7 Q.length (by simp)
  rw [List.getElem_append_right (Nat.le_refl _)] at g1 g2
  simp only [Nat.sub_self, List.getElem_cons_zero, hQ] at g1 g2
  rw [show n - 1 - (n - k - 1) = k by omega, show n - (n - k - 1) = k + 1 by omega] at g1
  refine (bs_redo h1 g1 g2 (by omega)).mono ?_
  rintro e w' ⟨tA, tc, told, g', DA', dc', UA', uc', rs', F, rfl, k1, k2, k3, k4, k5, k6, _, _, _, k7, k8⟩
  have hl : told.length = g.ed.length := by rw [k2]; exact told_len _ _
  obtain ⟨t', j1, j2⟩ := k4.R
  refine ⟨tA, tc, told, F, t', rs', rfl, k1, k3, by rw [hl]; exact g2.n0, by rw [hl]; exact Nat.le_trans g2.n1 (by omega), j1, j2, ⟨DA', dc', D ++ [g'], UA', uc', Q, rs', _, sv, gv, k4, by simp [h2], by omega, by omega, h5, fun i hi => ?_, fun i hi => ?_, k8.win h1.rblk h8 ⟨by decide, by decide, by decide⟩ k7⟩, k7, k8⟩
  · simp only [List.length_append, List.length_singleton] at hi
    by_cases e : i < D.length
    · rw [List.getElem_append_left e]
      exact h6 i e
    · obtain rfl : i = D.length := by omega
      rw [List.getElem_append_right (Nat.le_refl _)]
      simp only [Nat.sub_self, List.getElem_cons_zero]
      rw [h2]
      exact ⟨k5, k6⟩
  · have := h7 i (by simp; omega)
    rw [List.getElem_append_left hi] at this
    exact this
end
end Go.Proofs.Ytjoeebjmjnddoaa
