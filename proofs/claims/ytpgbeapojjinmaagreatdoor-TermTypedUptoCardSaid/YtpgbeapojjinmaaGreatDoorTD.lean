/- The document's scoped and Typed (package peculiumref04). No law is proved here. -/
import Derived.Test.YtpgbeapojjinmaaGreatDoorCN
import Derived.Test.YtpgbeapojjinmaaGreatDoorRB
set_option linter.unusedVariables false
set_option linter.unusedSimpArgs false
namespace Go.Proofs.YtpgbeapojjinmaaGreatDoor
open Go.RowKit Go.Shelf Go.Proofs.YtpgbeapojjinmaaGreatDoorW.PrintLast
theorem rcan_all (p : Pg) : ∀ m, RCanOK p m
  | 0 => fun s t ty ps ss ct cy w h H rp rs r ry ht => by have := t.sz_pos; omega
  | m + 1 => rcan_step p m (Lib.hid (rcan_all p m))
theorem Chunks.append {α : Type} {R : α → List Value → Prop} {sz : Nat} {ts : List α} {xs : List Value} (h : Chunks R sz ts xs) : ∀ {us : List α} {ys : List Value}, Chunks R sz us ys → Chunks R sz (ts ++ us) (xs ++ ys) := by
  intro us ys k
  induction k with
  | nil => simpa using h
  | snoc _ r e ih => rw [← List.append_assoc, ← List.append_assoc]; exact .snoc ih r e
theorem chkL_append (ss : List ByteArray) : ∀ a b : List Ty, chkL ss (a ++ b) = if chkL ss a = 0 then chkL ss b else chkL ss a
  | [], b => by rw [List.nil_append, chkL, if_pos rfl]
  | x :: a, b => by
    rw [List.cons_append, chkL, chkL, chkL_append ss a b]
    by_cases h : checkP ss x = 0
    · rw [if_pos h, if_pos h]
    · rw [if_neg h, if_neg h, if_neg h]
theorem chkL_four (ss : List ByteArray) (a b c : List Ty) (y : Ty) : chkL ss (a ++ b ++ c ++ [y]) = chkLL ss [a, b, c, [y]] := by
  rw [chkL_append, chkL_append, chkL_append]
  simp only [chkLL]
  by_cases h1 : chkL ss a = 0
  · by_cases h2 : chkL ss b = 0
    · by_cases h3 : chkL ss c = 0
      · by_cases h4 : chkL ss [y] = 0 <;> simp [h1, h2, h3, h4]
      · simp [h1, h2, h3]
    · simp [h1, h2]
  · simp [h1]
set_option maxRecDepth 100000 in
set_option maxHeartbeats 16000000 in
theorem Rscoped_calls (p : Pg) (s : Sc) (ty : Ty) (ps ss cy : List Value) (w : World) (h : Snap) (H : Has w h) (rp : PgR h p ps) (rs : ScR h s ss) (ry : TyR h ty cy) (hsum : s.vars.length + s.pars.length + s.bound.length ≤ 1000) :
    Calls Tryz.prog 87 #[.agg ps.toArray, .agg ss.toArray, .agg cy.toArray] w fun e w' => e = .returned (.int .i64 (chkLL p.types [s.vars, s.pars, s.bound, [ty]])) ∧ Below w.heap.size w w' := by
  have rp0 := Lib.hid rp
  have ry0 := Lib.hid ry
  obtain ⟨Ay, cy, rfl, hyl, hym, hry⟩ := ry.open_
  obtain ⟨v0, v1, Z2, n2, z2, Z3, n3, z3, Z4, n4, z4, rfl, rt, rc⟩ := rp
  obtain ⟨At, kt, rfl, _⟩ := id rt
  obtain ⟨Ac, kc, rfl, _⟩ := id rc
  obtain ⟨s0, s1, s2, rfl, q0, q1, q2⟩ := rs
  obtain ⟨A0, k0, rfl, hbc0, hbl0, _⟩ := id q0
  obtain ⟨A1, k1, rfl, hbc1, hbl1, _⟩ := id q1
  obtain ⟨A2, k2, rfl, hbc2, hbl2, _⟩ := id q2
  have q0' := Lib.hid q0
  have q1' := Lib.hid q1
  have q2' := Lib.hid q2
  clear q0 q1 q2 rt rc ry hyl hym hry
  have hu31 := Tryz.underlying31
  have hu36 := Tryz.underlying36
  have hu29 := Tryz.underlying29
  unfold lim at hbl0 hbl1 hbl2
  obtain ⟨a1, a2, a3, ab⟩ := alloc3 w (.cells #[.slice At p.types.length kt, .slice Ac p.consts.length kc, .slice Z2 n2 z2, .slice Z3 n3 z3, .slice Z4 n4 z4] 28) (.cells #[.slice A0 s.vars.length k0, .slice A1 s.pars.length k1, .slice A2 s.bound.length k2] 31) (.cells #[.string ty.nm, .slice Ay ty.ar.length cy] 36)
  obtain ⟨R, hv⟩ : ∃ R, chkLL p.types [s.vars, s.pars, s.bound, [ty]] = R := ⟨_, rfl⟩
  rw [hv]
  rw [← chkL_four] at hv
  replace hv := Lib.hid hv.symm
  go_enter Tryz.func87, Tryz.ntmps87
  go_wp2_with fail
  obtain ⟨W0, hW0⟩ : ∃ W0, ((w.alloc (.cells #[.slice At p.types.length kt, .slice Ac p.consts.length kc, .slice Z2 n2 z2, .slice Z3 n3 z3, .slice Z4 n4 z4] 28)).alloc (.cells #[.slice A0 s.vars.length k0, .slice A1 s.pars.length k1, .slice A2 s.bound.length k2] 31)).alloc (.cells #[.string ty.nm, .slice Ay ty.ar.length cy] 36) = W0 := ⟨_, rfl⟩
  rw [hW0] at a1 a2 a3 ab ⊢
  have hsz : W0.heap.size = w.heap.size + 3 := by rw [← hW0]; simp
  have hsz' := Lib.hid hsz
  clear hW0 hsz
  have H0 := H.below ab
  have u2 := bx3f a2
  obtain ⟨u20, u21, u22⟩ := u2
  have u5 := box2 a3
  obtain ⟨u50, u51⟩ := u5
  refine rgs 14 (fun V => Below W0.heap.size W0 V) [13] rfl ((Below.refl _ _).drew) (fun hS => ?_)
  refine rgnf 0 10 (.slice none 0 0) rfl rfl (by kernel_rfl) (fun _ _ _ h => h) (by kernel_rfl) hS (fun V hV => by go_simp) ?_
  refine rgnf 1 11 (.pointer (some ⟨w.heap.size + 1, 0, none⟩)) rfl rfl (by kernel_rfl) (fun _ _ _ h => h) (by kernel_rfl) hS (fun V hV => by go_simp) ?_
  refine rgnf 2 12 (.slice A0 s.vars.length k0) rfl rfl (by kernel_rfl) (fun _ _ _ h => h) (by kernel_rfl) hS (fun V hV => by have q0 := cell_below u20 hV; go_simp) ?_
  refine rgnf 4 14 (.pointer (some ⟨w.heap.size + 1, 1, none⟩)) rfl rfl (by kernel_rfl) (fun _ _ _ h => h) (by kernel_rfl) hS (fun V hV => by go_simp) ?_
  refine rgnf 5 15 (.slice A1 s.pars.length k1) rfl rfl (by kernel_rfl) (fun _ _ _ h => h) (by kernel_rfl) hS (fun V hV => by have q0 := cell_below u21 hV; go_simp) ?_
  refine rgnf 7 17 (.pointer (some ⟨w.heap.size + 1, 2, none⟩)) rfl rfl (by kernel_rfl) (fun _ _ _ h => h) (by kernel_rfl) hS (fun V hV => by go_simp) ?_
  refine rgnf 8 18 (.slice A2 s.bound.length k2) rfl rfl (by kernel_rfl) (fun _ _ _ h => h) (by kernel_rfl) hS (fun V hV => by have q0 := cell_below u22 hV; go_simp) ?_
  refine rgnf 10 20 (.agg #[.string ty.nm, .slice Ay ty.ar.length cy]) rfl rfl (by kernel_rfl) (fun _ _ _ h => h) (by kernel_rfl) hS (fun V hV => by have q0 := cell_below u50 hV; have q1 := cell_below u51 hV; go_simp) ?_
  simp only [Act.put, List.setIfInBounds_toArray, List.set_cons_zero, List.set_cons_succ]
  refine join_ (σ := Value × Value × Value × List Value × Nat × Unit) 2 #[true, true, true, true, true, true, true, true, true, true, true, true, false, false] (fun z => [(13, z.1), (16, z.2.1), (19, z.2.2.1), (21, .slice (some ⟨z.2.2.2.2.1, 0, none⟩) 1 1)]) (fun z W => Below W0.heap.size W0 W ∧ W.ownsRow W0.heap.size 36 2 z.2.2.1 (s.vars.length + s.pars.length + s.bound.length) z.2.2.2.1 ∧ Chunks (TyR h) 2 (s.vars ++ s.pars ++ s.bound) z.2.2.2.1 ∧ W.heap[z.2.2.2.2.1]? = some (.cells #[.string ty.nm, .slice Ay ty.ar.length cy] 36) ∧ W0.heap.size ≤ z.2.2.2.2.1 ∧ z.2.2.1.ownBlock ≠ some z.2.2.2.2.1 ∧ True) ?_ (fun st31 => ?_)
  · rintro ⟨v1, v2, v3, ys, g, ⟨⟩⟩ W ⟨hS, hown, hch, hg, hge, hne, -⟩
    dsimp only at hown hch hg hge hne
    refine norm_ (a' := ?_) ?_ ?_
    rotate_left
    · simp only [putAll, Act.put, List.setIfInBounds_toArray, List.set_cons_zero, List.set_cons_succ]
      rfl
    refine rg1 12 rfl (by kernel_rfl) (by decide) (by kernel_rfl) (fun K hK => ?_)
    refine app36 (B := W0.heap.size) (sv := v3) _ _ rfl (by go_simp) hown (by go_simp) hg (by unfold lim; omega) hS.size ?_
    intro sv2 W2 hown2 hgr2 hat
    obtain ⟨A3, c3, rfl⟩ := own_form hown2
    have k2 : Below W0.heap.size W0 W2 := ((Kp.of_below (fun q => W0.heap.size ≤ q) hS).grown hgr2 (fun q e => .inr (hown.lt _ e).1)).below (fun i hi hq => by omega)
    refine hK.out _ _ k2 (fun hS => ?_)
    refine norm_ (a' := Act.put _ (some 22) _) rfl ?_
    simp only [Act.put, List.setIfInBounds_toArray, List.set_cons_zero, List.set_cons_succ]
    refine rgl 13 rfl (by kernel_rfl) (by decide) (by kernel_rfl) (fun K hK => ?_)
    go_simp
    refine hK.out _ _ ?_
    refine rgd (by kernel_rfl) ?_
    have H2 := H0.below k2
    obtain ⟨h3, r3, m3, _⟩ := own_TyS (w0 := w) H2 (by have := hsz'.out; omega) hown2 (hch.snoc ry0.out rfl) (by unfold lim; simp; omega)
    have r3' := Lib.hid r3
    have rp3 := Lib.hid (rp0.out.sub m3.sub)
    have hM := m3.has
    clear hown hown2 hgr2 hat hch hg hge hne r3 hK hS u20 u21 u22 u50 u51 m3 H2
    have kk := below_then ab k2 ab.size
    have a1 := box_below a1 k2
    obtain ⟨LL, hLL⟩ : ∃ LL, s.vars ++ s.pars ++ s.bound ++ [ty] = LL := ⟨_, rfl⟩
    rw [hLL] at r3' hv
    have hLn : LL.length = s.vars.length + s.pars.length + s.bound.length + 1 := by rw [← hLL]; simp; omega
    rw [← hLn] at r3' ⊢
    have hlim : LL.length < 1073741824 := by omega
    clear hLL hLn ry0 q0' q1' q2' hbc0 hbc1 hbc2 hbl0 hbl1 hbl2 hsum
    obtain ⟨A9, c9, e9, hl9, hm9, hr9⟩ := r3'.out
    cases e9
    go_wp2_with fail
    go_loopw [8] (fun i wr => ∃ k : Nat, k ≤ LL.length ∧ i = .int .i64 k ∧ Below W2.heap.size W2 wr ∧ Hid (chkL p.types (LL.drop k) = chkL p.types LL)) (fun i _ => LL.length - (intOf i).toNat)
    case atStart => exact ⟨0, by omega, rfl, Below.refl _ _, by show _ = _; simp⟩
    case round =>
      obtain ⟨k, hk, rfl, hbx, hJ⟩ := hrel
      by_cases hlk : k < LL.length
      · obtain ⟨b', o', A', c', rfl, f0, f1, rx⟩ := hr9.get k hlk
        have hw := hM.below hbx
        have hc0 := hw.cell _ _ f0
        have hc1 := hw.cell _ _ f1
        have g1 := box_below a1 hbx
        have x10 : wr.cell? ⟨w.heap.size, 0, none⟩ = some (.slice At p.types.length kt) := blk_cell g1 0
        have x11 : wr.cell? ⟨w.heap.size, 1, none⟩ = some (.slice Ac p.consts.length kc) := blk_cell g1 1
        have x12 : wr.cell? ⟨w.heap.size, 2, none⟩ = some (.slice Z2 n2 z2) := blk_cell g1 2
        have x13 : wr.cell? ⟨w.heap.size, 3, none⟩ = some (.slice Z3 n3 z3) := blk_cell g1 3
        have x14 : wr.cell? ⟨w.heap.size, 4, none⟩ = some (.slice Z4 n4 z4) := blk_cell g1 4
        have hJ2 : Hid ((if checkP p.types LL[k] = 0 then chkL p.types (LL.drop (k + 1)) else checkP p.types LL[k]) = chkL p.types LL) := Lib.hid (by have := hJ.out; rw [List.drop_eq_getElem_cons hlk, chkL] at this; exact this)
        clear hJ f0 f1
        have hir : (k : Int) < (LL.length : Int) := by omega
        generalize LL[k] = X at *
        go_wp2_with fail
        refine rgs 7 (fun V => Below wr.heap.size wr V) [6] rfl ((Below.refl _ _).drew) (fun hS => ?_)
        refine rgt 0 (.agg #[.slice At p.types.length kt, .slice Ac p.consts.length kc, .slice Z2 n2 z2, .slice Z3 n3 z3, .slice Z4 n4 z4]) rfl (by kernel_rfl) (fun _ _ _ h => h) (by kernel_rfl) hS (fun V hV => by have q0 := cell_below x10 hV; have q1 := cell_below x11 hV; have q2 := cell_below x12 hV; have q3 := cell_below x13 hV; have q4 := cell_below x14 hV; go_simp) ?_
        refine rgt 1 (.slice (some ⟨b', o', none⟩) LL.length c3) rfl (by kernel_rfl) (fun _ _ _ h => h) (by kernel_rfl) hS (fun V hV => by go_simp) ?_
        refine rgt 2 (.int .i64 k) rfl (by kernel_rfl) (fun _ _ _ h => h) (by kernel_rfl) hS (fun V hV => by go_simp) ?_
        refine rgt 3 (.pointer (some ⟨b', o' + k * 2, none⟩)) rfl (by kernel_rfl) (fun _ _ _ h => h) (by kernel_rfl) hS (fun V hV => by go_simp) ?_
        refine rgt 4 (.agg #[.string X.nm, .slice A' X.ar.length c']) rfl (by kernel_rfl) (fun _ _ _ h => h) (by kernel_rfl) hS (fun V hV => by have q0 := cell_below hc0 hV; have q1 := cell_below hc1 hV; go_simp) ?_
        refine rg1 5 rfl (by kernel_rfl) (by decide) (by kernel_rfl) (fun K hK => ?_)
        have hS0 := hS
        go_simp
        refine (RCheckType_calls p X _ _ _ h3 hw.drew rp3.out rx).mono ?_
        rintro e w5 ⟨rfl, k5⟩
        rw [← checkP_eq]
        simp only []
        refine hK.out _ _ (below_then hS0 k5 hS0.size) (fun hS => ?_)
        refine rgl 6 rfl (by kernel_rfl) (by decide) (by kernel_rfl) (fun K hK => ?_)
        go_simp
        refine hK.out _ _ ?_
        refine rgd (by kernel_rfl) ?_
        have hb5 := below_then hbx hS hbx.size
        by_cases qc : checkP p.types X = 0
        · have qc' : (checkP p.types X != 0) = false := by simp [qc]
          have hJ3 : Hid (chkL p.types (LL.drop (k + 1)) = chkL p.types LL) := Lib.hid (by have := hJ2.out; rw [if_pos qc] at this; exact this)
          clear qc hJ2
          go_wp2_with fail
          exact ⟨⟨k + 1, by omega, by simp, hb5, hJ3⟩, by simp [intOf]; omega⟩
        · have qc' : (checkP p.types X != 0) = true := by simp [qc]
          have hJ3 : Hid (checkP p.types X = chkL p.types LL) := Lib.hid (by have := hJ2.out; rw [if_neg qc] at this; exact this)
          clear qc hJ2
          go_wp2_with fail
          go_ret
          rw [hv.out, ← hJ3.out]
          exact ⟨rfl, below_then kk hb5 kk.size⟩
      · have hke : k = LL.length := by omega
        have h0 : Hid (chkL p.types LL = 0) := Lib.hid (by
          have := hJ.out
          rw [hke, List.drop_length] at this
          exact this.symm)
        clear hJ
        go_wp2_with fail
        go_ret
        rw [hv.out, h0.out]
        exact ⟨rfl, below_then kk hbx kk.size⟩
  refine join_ (σ := Value × Value × Value × List Value × Unit) 3 #[true, true, true, true, true, true, true, true, true, true, true, false, false, false] (fun z => [(13, z.1), (16, z.2.1), (19, z.2.2.1)]) (fun z W => Below W0.heap.size W0 W ∧ W.ownsRow W0.heap.size 36 2 z.2.2.1 (s.vars.length + s.pars.length + s.bound.length) z.2.2.2.1 ∧ Chunks (TyR h) 2 (s.vars ++ s.pars ++ s.bound) z.2.2.2.1 ∧ True) ?_ (fun st30 => ?_)
  · rintro ⟨v1, v2, v3, ys, ⟨⟩⟩ W ⟨hS, hown, hch, -⟩
    dsimp only at hown hch
    refine norm_ (a' := ?_) ?_ ?_
    rotate_left
    · simp only [putAll, Act.put, List.setIfInBounds_toArray, List.set_cons_zero, List.set_cons_succ]
      rfl
    refine rg1 11 rfl (by kernel_rfl) (by decide) (by kernel_rfl) (fun K hK => ?_)
    go_simp
    refine hK.out _ _ (hS.alloc hS.size _) (fun hS2 => ?_)
    exact norm_ (by kernel_rfl) (st31 (v1, v2, v3, ys, (W).heap.size, ()) _ ⟨hS2, own_kp hown ((Kp.refl (fun _ => False) (W)).alloc _) (fun _ hf => hf.elim), hch, blk_new _ _, hS.size, own_new hown (Nat.le_refl _), trivial⟩)
  refine join_ (σ := Value × Value × List Value × Nat × Unit) 3 #[true, true, true, true, true, true, true, true, true, false, true, true, false, false] (fun z => [(13, z.1), (16, z.2.1), (21, .slice (some ⟨z.2.2.2.1, 0, none⟩) 1 1)]) (fun z W => Below W0.heap.size W0 W ∧ W.ownsRow W0.heap.size 36 2 z.2.1 (s.vars.length + s.pars.length) z.2.2.1 ∧ Chunks (TyR h) 2 (s.vars ++ s.pars) z.2.2.1 ∧ W.heap[z.2.2.2.1]? = some (.cells #[.string ty.nm, .slice Ay ty.ar.length cy] 36) ∧ W0.heap.size ≤ z.2.2.2.1 ∧ z.2.1.ownBlock ≠ some z.2.2.2.1 ∧ True) ?_ (fun st21 => ?_)
  · rintro ⟨v1, v2, ys, g, ⟨⟩⟩ W ⟨hS, hown, hch, hg, hge, hne, -⟩
    dsimp only at hown hch hg hge hne
    refine norm_ (a' := ?_) ?_ ?_
    rotate_left
    · simp only [putAll, Act.put, List.setIfInBounds_toArray, List.set_cons_zero, List.set_cons_succ]
      rfl
    refine rg1 9 rfl (by kernel_rfl) (by decide) (by kernel_rfl) (fun K hK => ?_)
    refine app36S (sv := v2) (xv := .slice A2 s.bound.length k2) (us := s.bound) (h := h) _ _ rfl (by go_simp) hown (by go_simp) (H0.below hS) q2'.out (by unfold lim; omega) hS.size ?_
    intro vn W1 ys1 hown1 hch1 hgr hat
    have kp : Kp (fun q => (v2).ownBlock = some q) (W) W1 := (Kp.refl (fun q => (v2).ownBlock = some q) (W)).grown hgr (fun q e => .inl e)
    have kb1 : Below W0.heap.size W0 W1 := ((Kp.of_below (fun q => W0.heap.size ≤ q) hS).trans kp (fun q hq e => (hown.lt _ e).1)).below (fun i hi hq => by omega)
    obtain ⟨An, cn, rfl⟩ := own_form hown1
    refine hK.out _ _ kb1 (fun hS2 => ?_)
    exact norm_ (by kernel_rfl) (st31 (v1, v2, .slice An (s.vars.length + s.pars.length + s.bound.length) cn, ys ++ ys1, g, ()) _ ⟨hS2, hown1, hch.append hch1, blk_kp hg kp hne, hge, fun e => by
        rcases hat _ e with e | e
        · exact hne e
        · have e1 : (W).heap.size ≤ g := e
          have := blk_lt hg
          omega, trivial⟩)
  refine join_ (σ := Value × Value × List Value × Unit) 4 #[true, true, true, true, true, true, true, true, true, false, true, false, false, false] (fun z => [(13, z.1), (16, z.2.1)]) (fun z W => Below W0.heap.size W0 W ∧ W.ownsRow W0.heap.size 36 2 z.2.1 (s.vars.length + s.pars.length) z.2.2.1 ∧ Chunks (TyR h) 2 (s.vars ++ s.pars) z.2.2.1 ∧ True) ?_ (fun st20 => ?_)
  · rintro ⟨v1, v2, ys, ⟨⟩⟩ W ⟨hS, hown, hch, -⟩
    dsimp only at hown hch
    refine norm_ (a' := ?_) ?_ ?_
    rotate_left
    · simp only [putAll, Act.put, List.setIfInBounds_toArray, List.set_cons_zero, List.set_cons_succ]
      rfl
    refine rg2 9 11 rfl rfl (by kernel_rfl) (by decide) (by decide) (by kernel_rfl) (by kernel_rfl) (fun K hK => ?_) (fun K hK => ?_)
    · refine app36S (sv := v2) (xv := .slice A2 s.bound.length k2) (us := s.bound) (h := h) _ _ rfl (by go_simp) hown (by go_simp) (H0.below hS) q2'.out (by unfold lim; omega) hS.size ?_
      intro vn W1 ys1 hown1 hch1 hgr hat
      have kp : Kp (fun q => (v2).ownBlock = some q) (W) W1 := (Kp.refl (fun q => (v2).ownBlock = some q) (W)).grown hgr (fun q e => .inl e)
      have kb1 : Below W0.heap.size W0 W1 := ((Kp.of_below (fun q => W0.heap.size ≤ q) hS).trans kp (fun q hq e => (hown.lt _ e).1)).below (fun i hi hq => by omega)
      obtain ⟨An, cn, rfl⟩ := own_form hown1
      refine hK.out _ _ kb1 (fun hS2 => ?_)
      exact norm_ (by kernel_rfl) (st30 (v1, v2, .slice An (s.vars.length + s.pars.length + s.bound.length) cn, ys ++ ys1, ()) _ ⟨hS2, hown1, hch.append hch1, trivial⟩)
    · go_simp
      refine hK.out _ _ (hS.alloc hS.size _) (fun hS2 => ?_)
      exact norm_ (by kernel_rfl) (st21 (v1, v2, ys, (W).heap.size, ()) _ ⟨hS2, own_kp hown ((Kp.refl (fun _ => False) (W)).alloc _) (fun _ hf => hf.elim), hch, blk_new _ _, hS.size, own_new hown (Nat.le_refl _), trivial⟩)
  refine join_ (σ := Value × List Value × Nat × Unit) 4 #[true, true, true, true, true, true, false, true, true, false, true, true, false, false] (fun z => [(13, z.1), (21, .slice (some ⟨z.2.2.1, 0, none⟩) 1 1)]) (fun z W => Below W0.heap.size W0 W ∧ W.ownsRow W0.heap.size 36 2 z.1 s.vars.length z.2.1 ∧ Chunks (TyR h) 2 s.vars z.2.1 ∧ W.heap[z.2.2.1]? = some (.cells #[.string ty.nm, .slice Ay ty.ar.length cy] 36) ∧ W0.heap.size ≤ z.2.2.1 ∧ z.1.ownBlock ≠ some z.2.2.1 ∧ True) ?_ (fun st11 => ?_)
  · rintro ⟨v1, ys, g, ⟨⟩⟩ W ⟨hS, hown, hch, hg, hge, hne, -⟩
    dsimp only at hown hch hg hge hne
    refine norm_ (a' := ?_) ?_ ?_
    rotate_left
    · simp only [putAll, Act.put, List.setIfInBounds_toArray, List.set_cons_zero, List.set_cons_succ]
      rfl
    refine rg1 6 rfl (by kernel_rfl) (by decide) (by kernel_rfl) (fun K hK => ?_)
    refine app36S (sv := v1) (xv := .slice A1 s.pars.length k1) (us := s.pars) (h := h) _ _ rfl (by go_simp) hown (by go_simp) (H0.below hS) q1'.out (by unfold lim; omega) hS.size ?_
    intro vn W1 ys1 hown1 hch1 hgr hat
    have kp : Kp (fun q => (v1).ownBlock = some q) (W) W1 := (Kp.refl (fun q => (v1).ownBlock = some q) (W)).grown hgr (fun q e => .inl e)
    have kb1 : Below W0.heap.size W0 W1 := ((Kp.of_below (fun q => W0.heap.size ≤ q) hS).trans kp (fun q hq e => (hown.lt _ e).1)).below (fun i hi hq => by omega)
    obtain ⟨An, cn, rfl⟩ := own_form hown1
    refine hK.out _ _ kb1 (fun hS2 => ?_)
    exact norm_ (by kernel_rfl) (st21 (v1, .slice An (s.vars.length + s.pars.length) cn, ys ++ ys1, g, ()) _ ⟨hS2, hown1, hch.append hch1, blk_kp hg kp hne, hge, fun e => by
        rcases hat _ e with e | e
        · exact hne e
        · have e1 : (W).heap.size ≤ g := e
          have := blk_lt hg
          omega, trivial⟩)
  refine join_ (σ := Value × List Value × Unit) 5 #[true, true, true, true, true, true, false, true, true, false, true, false, false, false] (fun z => [(13, z.1)]) (fun z W => Below W0.heap.size W0 W ∧ W.ownsRow W0.heap.size 36 2 z.1 s.vars.length z.2.1 ∧ Chunks (TyR h) 2 s.vars z.2.1 ∧ True) ?_ (fun st10 => ?_)
  · rintro ⟨v1, ys, ⟨⟩⟩ W ⟨hS, hown, hch, -⟩
    dsimp only at hown hch
    refine norm_ (a' := ?_) ?_ ?_
    rotate_left
    · simp only [putAll, Act.put, List.setIfInBounds_toArray, List.set_cons_zero, List.set_cons_succ]
      rfl
    refine rg2 6 11 rfl rfl (by kernel_rfl) (by decide) (by decide) (by kernel_rfl) (by kernel_rfl) (fun K hK => ?_) (fun K hK => ?_)
    · refine app36S (sv := v1) (xv := .slice A1 s.pars.length k1) (us := s.pars) (h := h) _ _ rfl (by go_simp) hown (by go_simp) (H0.below hS) q1'.out (by unfold lim; omega) hS.size ?_
      intro vn W1 ys1 hown1 hch1 hgr hat
      have kp : Kp (fun q => (v1).ownBlock = some q) (W) W1 := (Kp.refl (fun q => (v1).ownBlock = some q) (W)).grown hgr (fun q e => .inl e)
      have kb1 : Below W0.heap.size W0 W1 := ((Kp.of_below (fun q => W0.heap.size ≤ q) hS).trans kp (fun q hq e => (hown.lt _ e).1)).below (fun i hi hq => by omega)
      obtain ⟨An, cn, rfl⟩ := own_form hown1
      refine hK.out _ _ kb1 (fun hS2 => ?_)
      exact norm_ (by kernel_rfl) (st20 (v1, .slice An (s.vars.length + s.pars.length) cn, ys ++ ys1, ()) _ ⟨hS2, hown1, hch.append hch1, trivial⟩)
    · go_simp
      refine hK.out _ _ (hS.alloc hS.size _) (fun hS2 => ?_)
      exact norm_ (by kernel_rfl) (st11 (v1, ys, (W).heap.size, ()) _ ⟨hS2, own_kp hown ((Kp.refl (fun _ => False) (W)).alloc _) (fun _ hf => hf.elim), hch, blk_new _ _, hS.size, own_new hown (Nat.le_refl _), trivial⟩)
  refine join_ (σ := Nat × Unit) 5 #[true, true, true, false, true, true, false, true, true, false, true, true, false, false] (fun z => [(21, .slice (some ⟨z.1, 0, none⟩) 1 1)]) (fun z W => Below W0.heap.size W0 W ∧ W.heap[z.1]? = some (.cells #[.string ty.nm, .slice Ay ty.ar.length cy] 36) ∧ W0.heap.size ≤ z.1 ∧ True) ?_ (fun st01 => ?_)
  · rintro ⟨g, ⟨⟩⟩ W ⟨hS, hg, hge, -⟩
    dsimp only at hg hge
    refine norm_ (a' := ?_) ?_ ?_
    rotate_left
    · simp only [putAll, Act.put, List.setIfInBounds_toArray, List.set_cons_zero, List.set_cons_succ]
      rfl
    refine rg1 3 rfl (by kernel_rfl) (by decide) (by kernel_rfl) (fun K hK => ?_)
    refine app36S (sv := Value.slice none 0 0) (xv := .slice A0 s.vars.length k0) (us := s.vars) (h := h) _ _ rfl (by go_simp) (World.ownsRow_nil W W0.heap.size 36 2) (by go_simp) (H0.below hS) q0'.out (by unfold lim; omega) hS.size ?_
    intro vn W1 ys1 hown1 hch1 hgr hat
    rw [Nat.zero_add, List.nil_append] at hown1
    have kp : Kp (fun q => (Value.slice none 0 0).ownBlock = some q) (W) W1 := (Kp.refl (fun q => (Value.slice none 0 0).ownBlock = some q) (W)).grown hgr (fun q e => .inl e)
    have kb1 : Below W0.heap.size W0 W1 := ((Kp.of_below (fun q => W0.heap.size ≤ q) hS).trans kp (fun q hq e => by cases e)).below (fun i hi hq => by omega)
    obtain ⟨An, cn, rfl⟩ := own_form hown1
    refine hK.out _ _ kb1 (fun hS2 => ?_)
    exact norm_ (by kernel_rfl) (st11 (.slice An s.vars.length cn, ys1, g, ()) _ ⟨hS2, hown1, hch1, blk_kp hg kp (fun e => by cases e), hge, fun e => by
        rcases hat _ e with e | e
        · cases e
        · have e1 : (W).heap.size ≤ g := e
          have := blk_lt hg
          omega, trivial⟩)
  refine rg2 3 11 rfl rfl (by kernel_rfl) (by decide) (by decide) (by kernel_rfl) (by kernel_rfl) (fun K hK => ?_) (fun K hK => ?_)
  · refine app36S (sv := Value.slice none 0 0) (xv := .slice A0 s.vars.length k0) (us := s.vars) (h := h) _ _ rfl (by go_simp) (World.ownsRow_nil W0.drew W0.heap.size 36 2) (by go_simp) (H0.below hS) q0'.out (by unfold lim; omega) hS.size ?_
    intro vn W1 ys1 hown1 hch1 hgr hat
    rw [Nat.zero_add, List.nil_append] at hown1
    have kp : Kp (fun q => (Value.slice none 0 0).ownBlock = some q) (W0.drew) W1 := (Kp.refl (fun q => (Value.slice none 0 0).ownBlock = some q) (W0.drew)).grown hgr (fun q e => .inl e)
    have kb1 : Below W0.heap.size W0 W1 := ((Kp.of_below (fun q => W0.heap.size ≤ q) hS).trans kp (fun q hq e => by cases e)).below (fun i hi hq => by omega)
    obtain ⟨An, cn, rfl⟩ := own_form hown1
    refine hK.out _ _ kb1 (fun hS2 => ?_)
    exact norm_ (by kernel_rfl) (st10 (.slice An s.vars.length cn, ys1, ()) _ ⟨hS2, hown1, hch1, trivial⟩)
  · go_simp
    refine hK.out _ _ (hS.alloc hS.size _) (fun hS2 => ?_)
    exact norm_ (by kernel_rfl) (st01 ((W0.drew).heap.size, ()) _ ⟨hS2, blk_new _ _, hS.size, trivial⟩)
theorem check_form {ss : List ByteArray} {u : Ty} (h : checkP ss u = 0) : formTy u = 0 := by
  rw [checkP_eq] at h
  unfold checkTy at h
  split at h
  · assumption
  · exact absurd h ‹_›
theorem chkL_form {ss : List ByteArray} : ∀ {l : List Ty}, chkL ss l = 0 → ∀ u ∈ l, formTy u = 0
  | [], _, u, hu => by cases hu
  | x :: l, h, u, hu => by
    rw [chkL] at h
    split at h
    · rcases List.mem_cons.1 hu with rfl | hu
      · exact check_form ‹_›
      · exact chkL_form h u hu
    · exact absurd h ‹_›
theorem chkLL_form {ss : List ByteArray} : ∀ {ll : List (List Ty)}, chkLL ss ll = 0 → ∀ l ∈ ll, ∀ u ∈ l, formTy u = 0
  | [], _, l, hl => by cases hl
  | x :: ll, h, l, hl => by
    rw [chkLL] at h
    split at h
    · rcases List.mem_cons.1 hl with rfl | hl
      · exact chkL_form ‹_›
      · exact chkLL_form h l hl
    · exact absurd h ‹_›
set_option maxRecDepth 100000 in
set_option maxHeartbeats 16000000 in
theorem RTyped_calls (p : Pg) (s : Sc) (t : Tm) (ty : Ty) (ps ss ct cy : List Value) (w : World) (h : Snap) (H : Has w h) (rp : PgR h p ps) (rs : ScR h s ss) (r : TmR h t ct) (ry : TyR h ty cy) (hsum : s.vars.length + s.pars.length + s.bound.length ≤ 1000) :
    Calls Tryz.prog 23 #[.agg ps.toArray, .agg ss.toArray, .agg ct.toArray, .agg cy.toArray] w fun e w' => e = .returned (.int .i64 (typedP p s t ty)) ∧ Below w.heap.size w w' := by
  have rp0 := Lib.hid rp
  have rs0 := Lib.hid rs
  have r0 := Lib.hid r
  have ry0 := Lib.hid ry
  obtain ⟨A, cap, rfl, hl, hlm, hk1, hn1, hr⟩ := r.open_
  obtain ⟨Ay, cy, rfl, hyl, hym, hry⟩ := ry.open_
  obtain ⟨v0, v1, Z2, n2, z2, Z3, n3, z3, Z4, n4, z4, rfl, rt, rc⟩ := rp
  obtain ⟨At, kt, rfl, _⟩ := id rt
  obtain ⟨Ac, kc, rfl, _⟩ := id rc
  obtain ⟨s0, s1, s2, rfl, q0, q1, q2⟩ := rs
  obtain ⟨A0, k0, rfl, _⟩ := id q0
  obtain ⟨A1, k1, rfl, _⟩ := id q1
  obtain ⟨A2, k2, rfl, _⟩ := id q2
  have hu28 := Tryz.underlying28
  have hu31 := Tryz.underlying31
  have hu34 := Tryz.underlying34
  have hu36 := Tryz.underlying36
  clear rt rc q0 q1 q2 r ry hl hlm hk1 hn1 hr hyl hym hry
  obtain ⟨a1, a2, a3, a4, ab⟩ := alloc4 w (.cells #[.slice At p.types.length kt, .slice Ac p.consts.length kc, .slice Z2 n2 z2, .slice Z3 n3 z3, .slice Z4 n4 z4] 28) (.cells #[.slice A0 s.vars.length k0, .slice A1 s.pars.length k1, .slice A2 s.bound.length k2] 31) (.cells #[.int .i64 t.k, .int .i64 t.n, .string t.nm, .slice A t.ar.length cap] 34) (.cells #[.string ty.nm, .slice Ay ty.ar.length cy] 36)
  have hval : typedP p s t ty = if rawP t = 0 then (if chkLL p.types [s.vars, s.pars, s.bound, [ty]] = 0 then (if canP p s.vars s.pars t.sz s.bound t ty then 0 else 41) else chkLL p.types [s.vars, s.pars, s.bound, [ty]]) else rawP t := rfl
  have hraw := Lib.hid (rawP_zero t)
  have hform := Lib.hid (@chkLL_form p.types [s.vars, s.pars, s.bound, [ty]])
  have hsum' := Lib.hid hsum
  clear hsum
  obtain ⟨R, hR⟩ : ∃ R, typedP p s t ty = R := ⟨_, rfl⟩
  rw [hR] at hval ⊢
  clear hR
  have hraw0 := RRaw_calls t _ _ h (H.below ab) r0.out
  generalize rawP t = rr at *
  obtain ⟨cc, hcc⟩ : ∃ c, chkLL p.types [s.vars, s.pars, s.bound, [ty]] = c := ⟨_, rfl⟩
  rw [hcc] at hval hform
  replace hcc := Lib.hid hcc
  have hval' := Lib.hid hval
  clear hval
  go_enter Tryz.func23, Tryz.ntmps23
  go_wp2_with fail
  refine hraw0.mono ?_
  rintro e w1 ⟨rfl, k1'⟩
  have kb := below_then ab k1' ab.size
  have b1 := box_below a1 k1'
  have b2 := box_below a2 k1'
  have b3 := box_below a3 k1'
  have b4 := box_below a4 k1'
  clear a1 a2 a3 a4 ab k1' hraw0
  obtain ⟨x0, x1, x2, x3, x4⟩ := box5c b1
  obtain ⟨y0, y1, y2⟩ := bx3f b2
  obtain ⟨t0, t1, t2, t3⟩ := box4 b3
  obtain ⟨e0, e1⟩ := box2 b4
  cases qr : rr == 0
  · have hv : Hid (rr = R) := Lib.hid (by have := hval'.out; rw [if_neg (by simpa using qr)] at this; exact this.symm)
    clear hval' hraw
    go_wp2_with fail
    go_ret
    rw [← hv.out]
    exact ⟨rfl, kb⟩
  have hr0 : rr = 0 := by simpa using qr
  have hval2 := Lib.hid (show R = if cc = 0 then (if canP p s.vars s.pars t.sz s.bound t ty then 0 else 41) else cc by have := hval'.out; rw [if_pos hr0] at this; exact this)
  have hr1 := Lib.hid (hraw.out.1 hr0)
  clear hval' hraw
  subst hr0
  go_wp2_with fail
  refine (Rscoped_calls p s ty _ _ _ w1 h (H.below kb) rp0.out rs0.out ry0.out hsum'.out).mono ?_
  rintro e w2 ⟨rfl, k2'⟩
  rw [hcc.out]
  replace kb := below_then kb k2' kb.size
  replace b1 := box_below b1 k2'
  replace b2 := box_below b2 k2'
  replace b3 := box_below b3 k2'
  replace b4 := box_below b4 k2'
  clear x0 x1 x2 x3 x4 y0 y1 y2 t0 t1 t2 t3 e0 e1 k2'
  obtain ⟨x0, x1, x2, x3, x4⟩ := box5c b1
  obtain ⟨y0, y1, y2⟩ := bx3f b2
  obtain ⟨t0, t1, t2, t3⟩ := box4 b3
  obtain ⟨e0, e1⟩ := box2 b4
  cases qc : cc == 0
  · have hv : Hid (cc = R) := Lib.hid (by have := hval2.out; rw [if_neg (by simpa using qc)] at this; exact this.symm)
    clear hval2 hform
    go_wp2_with fail
    go_ret
    rw [← hv.out]
    exact ⟨rfl, kb⟩
  have hc0 : cc = 0 := by simpa using qc
  have hf := Lib.hid (hform.out hc0)
  have hv : Hid (R = if canP p s.vars s.pars t.sz s.bound t ty then 0 else 41) := Lib.hid (by have := hval2.out; rw [if_pos hc0] at this; exact this)
  clear hval2 hform
  subst hc0
  have hcan := rcan_all p t.sz s t ty _ _ _ _ w2 h (H.below kb) rp0.out rs0.out r0.out ry0.out (Nat.le_refl _) hr1.out.2 (by have := hsum'.out; have := hr1.out.1.1; omega) (fun u hu => hf.out s.bound (by simp) u hu) (fun u hu => hf.out s.vars (by simp) u hu) (fun u hu => hf.out s.pars (by simp) u hu) (hf.out [ty] (by simp) ty (by simp))
  generalize canP p s.vars s.pars t.sz s.bound t ty = cb at *
  cases cb
  · go_wp2_with fail
    all_goals
      refine hcan.mono ?_
      rintro e w3 ⟨rfl, k3'⟩
      have kb := below_then kb k3' kb.size
      go_wp2_with fail
      go_ret
      rw [hv.out]
      exact ⟨rfl, kb⟩
  · go_wp2_with fail
    all_goals
      refine hcan.mono ?_
      rintro e w3 ⟨rfl, k3'⟩
      have kb := below_then kb k3' kb.size
      go_wp2_with fail
      go_ret
      rw [hv.out]
      exact ⟨rfl, kb⟩
end Go.Proofs.YtpgbeapojjinmaaGreatDoor
