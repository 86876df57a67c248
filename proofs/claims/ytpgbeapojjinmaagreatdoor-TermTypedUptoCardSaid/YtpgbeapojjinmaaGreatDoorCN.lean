/- The document's canonical (package peculiumref04). No law is proved here. -/
import Derived.Test.YtpgbeapojjinmaaGreatDoorTO
import Derived.Test.YtpgbeapojjinmaaGreatDoorNA
set_option linter.unusedVariables false
set_option linter.unusedSimpArgs false
namespace Go.Proofs.YtpgbeapojjinmaaGreatDoor
open Go.RowKit Go.Shelf Go.Proofs.YtpgbeapojjinmaaGreatDoorW.PrintLast
/-- Appending nothing. -/
theorem app36N {o : Oper} {a : Act} {w : World} {K : Act → World → Prop} {Q : Exit → Act → World → Prop} (s x : Operand) (hop : o.op = .call { callee := .builtin .append, args := #[s, x], argTypes := #[29, 29] })
    {A B : Option Addr} {n c d : Nat} (hs : a.eval s = .slice A n c) (hnc : n ≤ c) (hx : a.eval x = .slice B 0 d) (h : K (a.put o.dst (.slice A n c)) w) : Oper.wp Tryz.prog o a w K Q := by
  have hu29 := Tryz.underlying29
  obtain ⟨i0, hi0, hz0, hz1, hz2⟩ := info_parts info36
  unfold Oper.wp execOp
  simp only [hop, resolve, invoke, builtin, Sem.run_bind, Sem.run_pure, Result.andThen_ok, List.map_toArray, List.map_cons, List.map_nil, hs, hx]
  cases A <;> cases B <;> simp [go_sem, hu29, hnc, storeCells] <;> exact h
/-- Appending a whole slice of types to a row of the call's own. -/
theorem app36S {o : Oper} {a : Act} {w : World} {K : Act → World → Prop} {Q : Exit → Act → World → Prop} (s x : Operand) (ho : o.op = .call { callee := .builtin .append, args := #[s, x], argTypes := #[29, 29] })
    {B n : Nat} {sv xv : Value} {xs : List Value} {us : List Ty} {h : Snap} (hs : a.eval s = sv) (hown : w.ownsRow B 36 2 sv n xs) (hx : a.eval x = xv) (H : Has w h) (rx : TyS h us xv) (hn : n + us.length < lim) (hB : B ≤ w.heap.size)
    (h : ∀ sv' w' ys, w'.ownsRow B 36 2 sv' (n + us.length) (xs ++ ys) → Chunks (TyR h) 2 us ys → w.grownBy w' sv.ownBlock → (∀ q, sv'.ownBlock = some q → sv.ownBlock = some q ∨ w.heap.size ≤ q) → K (a.put o.dst sv') w') : Oper.wp Tryz.prog o a w K Q := by
  obtain ⟨i0, hi0, hz0, hz1, hz2⟩ := info_parts info36
  obtain ⟨A, cap, rfl, hc, hl, hr⟩ := rx
  unfold lim at hn hl
  obtain ⟨As, ks, rfl⟩ := own_form hown
  by_cases hpos : 0 < us.length
  · obtain ⟨b, o', A', c', e, _⟩ := hr.get 0 hpos
    cases e
    obtain ⟨news, n1, n2, n3, n4⟩ := hr.flat
    have ch : Chunks (TyR _) 2 us news := Chunks.of_at us.length us _ rfl n1 n3
    have hnews : ∀ j u, news[j]? = some u → w.cell? ((⟨b, o', none⟩ : Addr).add j) = some u := fun j u hu => by
      have hadd : (⟨b, o', none⟩ : Addr).add j = ⟨b, o' + j, none⟩ := by unfold Addr.add; split <;> simp_all
      rw [hadd]
      exact H.cell _ _ (by simpa using n2 j u hu)
    exact wp_append_lies w s x 29 ho B 36 i0 _ 2 40 Tryz.underlying29 hi0 hz0 hz1 hz2 rfl (by omega) _ n xs hs hown ⟨b, o', none⟩ us.length cap news hx n1 hnews n4 hpos (by simp [maxLen]; omega) (by omega) hB _ rfl
      (fun g' cap' w' h1 h2 h3 _ => h _ w' news h1 ch h2 (fun q e => by
        simp only [Value.ownBlock, Option.some.injEq] at e
        subst e
        exact h3.imp id (fun e => by omega)))
  · have hl0 : us = [] := List.eq_nil_of_length_eq_zero (by omega)
    subst hl0
    have hnc : n ≤ ks := by
      rcases hown.2 with ⟨e, h0⟩ | ⟨g, cap', cur, e, _, _, h2, _⟩
      · cases e; omega
      · cases e; exact h2
    exact app36N s x ho hs hnc hx (h _ w [] (by simpa using hown) .nil ⟨rfl, rfl, rfl, Nat.le_refl _, fun _ _ _ => rfl⟩ (fun q e => .inl e))
theorem box5c {w : World} {b : Nat} {x0 x1 x2 x3 x4 : Value} {T : TypeId} (hb : w.heap[b]? = some (.cells #[x0, x1, x2, x3, x4] T)) : w.cell? ⟨b, 0, none⟩ = some x0 ∧ w.cell? ⟨b, 1, none⟩ = some x1 ∧ w.cell? ⟨b, 2, none⟩ = some x2 ∧ w.cell? ⟨b, 3, none⟩ = some x3 ∧ w.cell? ⟨b, 4, none⟩ = some x4 :=
  ⟨(blk_cell hb 0).trans rfl, (blk_cell hb 1).trans rfl, (blk_cell hb 2).trans rfl, (blk_cell hb 3).trans rfl, (blk_cell hb 4).trans rfl⟩
theorem formTy_sub {nm : ByteArray} {a b : Ty} (h : formTy (.mk nm [a, b]) = 0) (hf : arrB nm = true) : formTy a = 0 ∧ formTy b = 0 := by
  rw [formTy_zero] at h ⊢
  rw [formTy_zero]
  obtain ⟨⟨h1, h2⟩, h3⟩ := h
  rw [formedT_two hf, Bool.and_eq_true] at h3
  have pa := a.sz_pos
  have pb := b.sz_pos
  simp only [Ty.sz, Ty.szL] at h1
  simp only [Ty.dep, Ty.depL] at h2
  exact ⟨⟨⟨by omega, by omega⟩, h3.1⟩, ⟨by omega, by omega⟩, h3.2⟩
theorem formTy_leaf {ty : Ty} (h : formTy ty = 0) : (arrB ty.nm = true ∧ ∃ a b, ty.ar = [a, b] ∧ formTy a = 0 ∧ formTy b = 0) ∨ (arrB ty.nm = false ∧ ty.ar.length ≠ 2) := by
  obtain ⟨nm, l⟩ := ty
  have hf := ((formTy_zero _).1 h).2
  cases c : arrB nm
  · refine .inr ⟨c, ?_⟩
    unfold formedT at hf
    rw [c] at hf
    simp at hf
    simp [Ty.ar, hf]
  · obtain ⟨a, b, rfl, h1, h2⟩ := formedT_inv c hf
    exact .inl ⟨c, a, b, rfl, formTy_sub h c⟩
/-- The rest of canonical, behind the type of the head. -/
def canH (f : Tm → Ty → Bool) (nm : ByteArray) (ar : List Tm) : Option Ty → Bool
  | none => false
  | some own => if ((partsR own).toList == nm.toList && (partsL own).length == ar.length) = true then canAll f ar (partsL own) else false
/-- What is known of the document's canonical, for terms of so many nodes. -/
def RCanOK (p : Pg) (m : Nat) : Prop := ∀ (s : Sc) (t : Tm) (ty : Ty) (ps ss ct cy : List Value) (w : World) (h : Snap) (H : Has w h) (rp : PgR h p ps) (rs : ScR h s ss) (r : TmR h t ct) (ry : TyR h ty cy)
    (ht : t.sz ≤ m) (hraw : rawN t = true) (hb : s.bound.length + m ≤ 1000000) (hfb : ∀ u ∈ s.bound, formTy u = 0) (hfv : ∀ u ∈ s.vars, formTy u = 0) (hfq : ∀ u ∈ s.pars, formTy u = 0) (hy : formTy ty = 0),
    Calls Tryz.prog 88 #[.agg ps.toArray, .agg ss.toArray, .agg ct.toArray, .agg cy.toArray] w fun e w' => e = .returned (.bool (canP p s.vars s.pars m s.bound t ty)) ∧ Below w.heap.size w w'
theorem typeOf_form {p : Pg} {v q b : List Ty} {t : Tm} {u : Ty} (hv : ∀ u ∈ v, formTy u = 0) (hq : ∀ u ∈ q, formTy u = 0) (hb : ∀ u ∈ b, formTy u = 0) (h : typeOfP p v q b t = some u) : formTy u = 0 := by
  unfold typeOfP at h
  split at h
  · unfold conO at h
    split at h
    · cases h
    · split at h
      · split at h
        · rename_i hk
          cases h
          rw [checkP_eq] at hk
          unfold checkTy at hk
          split at hk
          · assumption
          · exact absurd hk ‹_›
        · cases h
      · cases h
  · split at h
    · exact hb _ (fromO_mem h)
    · split at h
      · exact hq _ (fromO_mem h)
      · exact hv _ (fromO_mem h)
set_option maxRecDepth 100000 in
set_option maxHeartbeats 16000000 in
theorem rcan_step (p : Pg) (m : Nat) (IH : Hid (RCanOK p m)) : RCanOK p (m + 1) := by
  intro s t ty ps ss ct cy w h H rp rs r ry ht hraw hb hfb hfv hfq hy
  have rp0 := Lib.hid rp
  have rs0 := Lib.hid rs
  have r0 := Lib.hid r
  have ry0 := Lib.hid ry
  obtain ⟨A, cap, rfl, hl, hlm, hk1, hn1, hr⟩ := r.open_
  obtain ⟨Ay, cy, rfl, hyl, hym, hry⟩ := ry.open_
  obtain ⟨v0, v1, Z2, n2, z2, Z3, n3, z3, Z4, n4, z4, rfl, rt, rc⟩ := rp
  obtain ⟨At, kt, rfl, _⟩ := id rt
  obtain ⟨Ac, kc, rfl, _⟩ := id rc
  obtain ⟨s0, s1, s2, rfl, q0, q1, q2⟩ := rs
  obtain ⟨A0, k0, rfl, _⟩ := id q0
  obtain ⟨A1, k1, rfl, _⟩ := id q1
  obtain ⟨A2, k2, rfl, hbc, hbl, _⟩ := id q2
  have q0' := Lib.hid q0
  have q1' := Lib.hid q1
  have q2' := Lib.hid q2
  clear q0 q1 q2 rt rc r ry
  have hu28 := Tryz.underlying28
  have hu31 := Tryz.underlying31
  have hu34 := Tryz.underlying34
  have hu36 := Tryz.underlying36
  have hu62 := Tryz.underlying62
  unfold lim at hlm hbl hym
  obtain ⟨hnd, hrl⟩ := raw_open hraw
  obtain ⟨a1, a2, a3, a4, ab⟩ := alloc4 w (.cells #[.slice At p.types.length kt, .slice Ac p.consts.length kc, .slice Z2 n2 z2, .slice Z3 n3 z3, .slice Z4 n4 z4] 28) (.cells #[.slice A0 s.vars.length k0, .slice A1 s.pars.length k1, .slice A2 s.bound.length k2] 31) (.cells #[.int .i64 t.k, .int .i64 t.n, .string t.nm, .slice A t.ar.length cap] 34) (.cells #[.string ty.nm, .slice Ay ty.ar.length cy] 36)
  have hcan : canP p s.vars s.pars (m + 1) s.bound t ty = if ty.ar.length = 2 then (if t.k = 5 then canP p s.vars s.pars m (s.bound ++ [ty.ar.getD 0 ty0]) (t.ar.getD 0 tm0) (ty.ar.getD 1 ty0) else false)
    else if t.k = 5 then false else match typeOfP p s.vars s.pars s.bound t with
      | none => false
      | some own => if ((partsR own).toList == ty.nm.toList && (partsL own).length == t.ar.length) = true then canAll (canP p s.vars s.pars m s.bound) t.ar (partsL own) else false := rfl
  obtain ⟨R, hR⟩ : ∃ R, canP p s.vars s.pars (m + 1) s.bound t ty = R := ⟨_, rfl⟩
  rw [hR] at hcan ⊢
  clear hR
  rcases formTy_leaf hy with ⟨ha, ya, yb, har, hfa, hfb2⟩ | ⟨ha, hl2⟩
  · have hq := (arr_t ha).1
    have hy2 : ty.ar.length = 2 := by rw [har]; rfl
    have hy0 : ¬ ty.ar = [] := by rw [har]; simp
    have hy1 : (1 : Int) < (ty.ar.length : Int) := by omega
    have har' := Lib.hid har
    by_cases k5 : t.k = 5
    · obtain ⟨x, hx⟩ : ∃ x, t.ar = [x] := by
        have := lam_one k5 hnd
        match hh : t.ar, this with
        | [x], _ => exact ⟨x, rfl⟩
      have hcan' : Hid (R = canP p s.vars s.pars m (s.bound ++ [ya]) x yb) := Lib.hid (by rw [hcan, hx, har, if_pos (by rfl), if_pos k5]; rfl)
      have g5 : (t.k != 5) = false := by simp [k5]
      have hxz := Lib.hid (show x.sz ≤ m by obtain ⟨k, n, nm, ar⟩ := t; simp only [Tm.ar] at hx; subst hx; simp only [Tm.sz, Tm.szL] at ht; omega)
      have hxr := Lib.hid (show rawN x = true by rw [hx] at hrl; rw [rawNL, Bool.and_eq_true] at hrl; exact hrl.1)
      rw [hx] at hr
      rw [har] at hry
      have hx0 : ¬ t.ar = [] := by rw [hx]; simp
      have hx' := Lib.hid hx
      obtain ⟨b0, o0, Ax, cx, rfl, f0, f1, f2, f3, rx⟩ := hr.get 0 (by simp)
      obtain ⟨b1, o1, Aa, ca, Ab, cb, rfl, e0, e1, e2, e3, ra, rb⟩ := hry.two
      simp only [List.getElem_cons_zero, Nat.zero_mul, Nat.add_zero] at f0 f1 f2 f3 rx
      have rx' := Lib.hid rx
      have ra' := Lib.hid ra
      have rb' := Lib.hid rb
      clear hcan k5 hrl hnd hraw hr hry rx ra rb hx har hy2
      go_enter Tryz.func88, Tryz.ntmps88
      go_wp2_with fail
      obtain ⟨W0, hW0⟩ : ∃ W0, (((w.alloc (.cells #[.slice At p.types.length kt, .slice Ac p.consts.length kc, .slice Z2 n2 z2, .slice Z3 n3 z3, .slice Z4 n4 z4] 28)).alloc (.cells #[.slice A0 s.vars.length k0, .slice A1 s.pars.length k1, .slice A2 s.bound.length k2] 31)).alloc (.cells #[.int .i64 t.k, .int .i64 t.n, .string t.nm, .slice (some ⟨b0, o0, none⟩) t.ar.length cap] 34)).alloc (.cells #[.string ty.nm, .slice (some ⟨b1, o1, none⟩) ty.ar.length cy] 36) = W0 := ⟨_, rfl⟩
      rw [hW0] at a1 a2 a3 a4 ab ⊢
      have hsz : W0.heap.size = w.heap.size + 4 := by rw [← hW0]; simp
      have hsz' := Lib.hid hsz
      clear hW0 hsz
      have H0 := H.below ab
      have u2 := bx3f a2
      obtain ⟨u20, u21, u22⟩ := u2
      have u4 := box2 a4
      obtain ⟨u40, u41⟩ := u4
      have hc0 := H0.cell _ _ e0
      have hc1 := H0.cell _ _ e1
      refine rgs 11 (fun V => Below W0.heap.size W0 V) [9] rfl ((Below.refl _ _).drew) (fun hS => ?_)
      refine rgnf 0 20 (.slice none 0 0) rfl rfl (by kernel_rfl) (fun _ _ _ h => h) (by kernel_rfl) hS (fun V hV => by go_simp) ?_
      refine rgnf 1 21 (.pointer (some ⟨w.heap.size + 1, 2, none⟩)) rfl rfl (by kernel_rfl) (fun _ _ _ h => h) (by kernel_rfl) hS (fun V hV => by go_simp) ?_
      refine rgnf 2 22 (.slice A2 s.bound.length k2) rfl rfl (by kernel_rfl) (fun _ _ _ h => h) (by kernel_rfl) hS (fun V hV => by have q0 := cell_below u22 hV; go_simp) ?_
      refine rgnf 4 24 (.pointer (some ⟨w.heap.size + 1 + 1 + 1, 1, none⟩)) rfl rfl (by kernel_rfl) (fun _ _ _ h => h) (by kernel_rfl) hS (fun V hV => by go_simp) ?_
      refine rgnf 5 25 (.slice (some ⟨b1, o1, none⟩) ty.ar.length cy) rfl rfl (by kernel_rfl) (fun _ _ _ h => h) (by kernel_rfl) hS (fun V hV => by have q0 := cell_below u41 hV; go_simp) ?_
      refine rgnf 6 26 (.pointer (some ⟨b1, o1, none⟩)) rfl rfl (by kernel_rfl) (fun _ _ _ h => h) (by kernel_rfl) hS (fun V hV => by go_simp) ?_
      refine rgnf 7 27 (.agg #[.string ya.nm, .slice Aa ya.ar.length ca]) rfl rfl (by kernel_rfl) (fun _ _ _ h => h) (by kernel_rfl) hS (fun V hV => by have q0 := cell_below hc0 hV; have q1 := cell_below hc1 hV; go_simp) ?_
      simp only [Act.put, List.setIfInBounds_toArray, List.set_cons_zero, List.set_cons_succ]
      refine join_ (σ := Value × List Value × Nat) 2 #[true, true, true, true, true, true, true, true, true, false, false] (fun z => [(23, z.1), (28, .slice (some ⟨z.2.2, 0, none⟩) 1 1)])
        (fun z W => Below W0.heap.size W0 W ∧ W.ownsRow W0.heap.size 36 2 z.1 s.bound.length z.2.1 ∧ Chunks (TyR h) 2 s.bound z.2.1 ∧ W.heap[z.2.2]? = some (.cells #[.string ya.nm, .slice Aa ya.ar.length ca] 36) ∧ W0.heap.size ≤ z.2.2 ∧ z.1.ownBlock ≠ some z.2.2) ?_ (fun hcont => ?_)
      · rintro ⟨v, ys, g⟩ W ⟨hS, hown, hch, hg, hge, hne⟩
        dsimp only at hown hch hg hge hne
        refine norm_ (a' := ?_) ?_ ?_
        rotate_left
        · simp only [putAll, Act.put, List.setIfInBounds_toArray, List.set_cons_zero, List.set_cons_succ]
          rfl
        refine rgl 9 rfl (by kernel_rfl) (by decide) (by kernel_rfl) (fun K hK => ?_)
        refine app36 (B := W0.heap.size) (sv := v) _ _ rfl (by go_simp) hown (by go_simp) hg (by unfold lim; omega) hS.size ?_
        intro sv2 W2 hown2 hgr2 hat
        obtain ⟨A3, c3, rfl⟩ := own_form hown2
        refine hK.out _ _ ?_
        refine norm_ (a' := Act.put _ (some 29) _) rfl ?_
        simp only [Act.put, List.setIfInBounds_toArray, List.set_cons_zero, List.set_cons_succ]
        refine rgp 10 (.slice A3 (s.bound.length + 1) c3) rfl (by kernel_rfl) (fun _ _ _ h => h) (by kernel_rfl) (fun V => by go_simp) ?_
        refine rgd (by kernel_rfl) ?_
        have k2 : Below W0.heap.size W0 W2 := ((Kp.of_below (fun q => W0.heap.size ≤ q) hS).grown hgr2 (fun q e => .inr (hown.lt _ e).1)).below (fun i hi hq => by omega)
        have H2 := H0.below k2
        obtain ⟨h3, r3, m3, _⟩ := own_TyS (w0 := w) H2 (by have := hsz'.out; omega) hown2 (hch.snoc ra'.out rfl) (by unfold lim; simp; omega)
        have r3' := Lib.hid r3
        clear hown hown2 hgr2 hat hch hg hge hne r3 hK hS u20 u21 u22 u40 u41 hc0 hc1
        have kk := below_then ab k2 ab.size
        have a1 := box_below a1 k2
        have a2 := box_below a2 k2
        have a3 := box_below a3 k2
        have a4 := box_below a4 k2
        have vv := box5c a1
        obtain ⟨v0, v1, v2, v3, v4⟩ := vv
        have u2 := bx3f a2
        obtain ⟨u20, u21, u22⟩ := u2
        have u3 := box4 a3
        obtain ⟨u30, u31, u32, u33⟩ := u3
        have u4 := box2 a4
        obtain ⟨u40, u41⟩ := u4
        have hd2 := H2.cell _ _ e2
        have hd3 := H2.cell _ _ e3
        have hx0' := H2.cell _ _ f0
        have hx1' := H2.cell _ _ f1
        have hx2' := H2.cell _ _ f2
        have hx3' := H2.cell _ _ f3
        go_wp2_with fail
        refine rgs 17 (fun V => Below W2.heap.size W2 V) [] rfl ((Below.refl _ _).drew) (fun hS => ?_)
        refine rgt 0 (.agg #[.slice At p.types.length kt, .slice Ac p.consts.length kc, .slice Z2 n2 z2, .slice Z3 n3 z3, .slice Z4 n4 z4]) rfl (by kernel_rfl) (fun _ _ _ h => h) (by kernel_rfl) hS (fun V hV => by have q0 := cell_below v0 hV; have q1 := cell_below v1 hV; have q2 := cell_below v2 hV; have q3 := cell_below v3 hV; have q4 := cell_below v4 hV; go_simp) ?_
        refine rgt 1 (.pointer (some ⟨w.heap.size + 1, 0, none⟩)) rfl (by kernel_rfl) (fun _ _ _ h => h) (by kernel_rfl) hS (fun V hV => by go_simp) ?_
        refine rgt 2 (.slice A0 s.vars.length k0) rfl (by kernel_rfl) (fun _ _ _ h => h) (by kernel_rfl) hS (fun V hV => by have q0 := cell_below u20 hV; go_simp) ?_
        refine rgt 3 (.pointer (some ⟨w.heap.size + 1, 1, none⟩)) rfl (by kernel_rfl) (fun _ _ _ h => h) (by kernel_rfl) hS (fun V hV => by go_simp) ?_
        refine rgt 4 (.slice A1 s.pars.length k1) rfl (by kernel_rfl) (fun _ _ _ h => h) (by kernel_rfl) hS (fun V hV => by have q0 := cell_below u21 hV; go_simp) ?_
        refine rgt 5 (.slice A3 (s.bound.length + 1) c3) rfl (by kernel_rfl) (fun _ _ _ h => h) (by kernel_rfl) hS (fun V hV => by go_simp) ?_
        refine rgt 6 (.agg #[.slice A0 s.vars.length k0, .slice A1 s.pars.length k1, .slice A3 (s.bound.length + 1) c3]) rfl (by kernel_rfl) (fun _ _ _ h => h) (by kernel_rfl) hS (fun V hV => by go_simp) ?_
        refine rgt 7 (.pointer (some ⟨w.heap.size + 1 + 1, 3, none⟩)) rfl (by kernel_rfl) (fun _ _ _ h => h) (by kernel_rfl) hS (fun V hV => by go_simp) ?_
        refine rgt 8 (.slice (some ⟨b0, o0, none⟩) t.ar.length cap) rfl (by kernel_rfl) (fun _ _ _ h => h) (by kernel_rfl) hS (fun V hV => by have q0 := cell_below u33 hV; go_simp) ?_
        refine rgt 9 (.pointer (some ⟨b0, o0, none⟩)) rfl (by kernel_rfl) (fun _ _ _ h => h) (by kernel_rfl) hS (fun V hV => by go_simp) ?_
        refine rgt 10 (.agg #[.int .i64 x.k, .int .i64 x.n, .string x.nm, .slice Ax x.ar.length cx]) rfl (by kernel_rfl) (fun _ _ _ h => h) (by kernel_rfl) hS (fun V hV => by have q0 := cell_below hx0' hV; have q1 := cell_below hx1' hV; have q2 := cell_below hx2' hV; have q3 := cell_below hx3' hV; go_simp) ?_
        refine rgt 11 (.pointer (some ⟨w.heap.size + 1 + 1 + 1, 1, none⟩)) rfl (by kernel_rfl) (fun _ _ _ h => h) (by kernel_rfl) hS (fun V hV => by go_simp) ?_
        refine rgt 12 (.slice (some ⟨b1, o1, none⟩) ty.ar.length cy) rfl (by kernel_rfl) (fun _ _ _ h => h) (by kernel_rfl) hS (fun V hV => by have q0 := cell_below u41 hV; go_simp) ?_
        refine rgt 13 (.pointer (some ⟨b1, o1 + 2, none⟩)) rfl (by kernel_rfl) (fun _ _ _ h => h) (by kernel_rfl) hS (fun V hV => by go_simp) ?_
        refine rgt 14 (.agg #[.string yb.nm, .slice Ab yb.ar.length cb]) rfl (by kernel_rfl) (fun _ _ _ h => h) (by kernel_rfl) hS (fun V hV => by have q0 := cell_below hd2 hV; have q1 := cell_below hd3 hV; go_simp) ?_
        refine rg1 15 rfl (by kernel_rfl) (by decide) (by kernel_rfl) (fun K hK => ?_)
        have hS0 := hS
        go_simp
        refine (IH.out ⟨s.vars, s.pars, s.bound ++ [ya]⟩ x yb _ _ _ _ W2.drew h3 m3.has.drew (PgR.sub rp0.out m3.sub) ⟨_, _, _, rfl, q0'.out.sub m3.sub, q1'.out.sub m3.sub, r3'.out⟩ (rx'.out.sub m3.sub) (rb'.out.sub m3.sub) hxz.out hxr.out (by simp; omega) (fun u hu => by
          rcases List.mem_append.1 hu with hu | hu
          · exact hfb u hu
          · rw [List.mem_singleton.1 hu]; exact hfa) hfv hfq hfb2).mono ?_
        rintro e W4 ⟨rfl, k4⟩
        simp only []
        refine hK.out _ _ (below_then hS0 k4 hS0.size) (fun hS => ?_)
        refine rgt 16 (.bool (canP p s.vars s.pars m (s.bound ++ [ya]) x yb)) rfl (by kernel_rfl) (fun _ _ _ h => h) (by kernel_rfl) hS (fun V hV => by go_simp) ?_
        refine rgd (by kernel_rfl) ?_
        have kE := below_then kk hS kk.size
        go_wp2_with fail
        go_ret
        rw [hcan'.out]
        exact ⟨rfl, kE⟩
      refine rg2 3 8 rfl rfl (by kernel_rfl) (by decide) (by decide) (by kernel_rfl) (by kernel_rfl) (fun K hK => ?_) (fun K hK => ?_)
      · refine app36S (sv := .slice none 0 0) (xv := .slice A2 s.bound.length k2) (us := s.bound) (h := h) _ _ rfl (by go_simp) (World.ownsRow_nil W0.drew W0.heap.size 36 2) (by go_simp) H0.drew q2'.out (by unfold lim; omega) (Nat.le_refl _) ?_
        intro v W1 ys hown hch hgr hat
        rw [Nat.zero_add, List.nil_append] at hown
        have k1 : Below W0.heap.size W0 W1 := ((Kp.refl (fun _ => False) W0).drew.grown hgr (fun q e => by cases e)).below (fun i hi hf => hf)
        obtain ⟨A3, c3, rfl⟩ := own_form hown
        refine hK.out _ _ k1 (fun hS => ?_)
        refine rg1 8 rfl (by kernel_rfl) (by decide) (by kernel_rfl) (fun K hK => ?_)
        go_simp
        refine hK.out _ _ (hS.alloc hS.size _) (fun hS2 => ?_)
        exact norm_ (by kernel_rfl) (hcont (.slice A3 s.bound.length c3, ys, W1.heap.size) _ ⟨hS2, own_kp hown ((Kp.refl (fun _ => False) W1).alloc _) (fun _ hf => hf.elim), hch, blk_new _ _, hS.size, own_new hown (Nat.le_refl _)⟩)
      · go_simp
        refine hK.out _ _ ((Below.refl _ W0).drew.alloc (Nat.le_refl _) _) (fun hS => ?_)
        refine rg1 3 rfl (by kernel_rfl) (by decide) (by kernel_rfl) (fun K hK => ?_)
        refine app36S (sv := .slice none 0 0) (xv := .slice A2 s.bound.length k2) (us := s.bound) (h := h) _ _ rfl (by go_simp) (World.ownsRow_nil (W0.drew.alloc (.cells #[.string ya.nm, .slice Aa ya.ar.length ca] 36)) W0.heap.size 36 2) (by go_simp) (H0.drew.alloc _) q2'.out (by unfold lim; omega) hS.size ?_
        intro v W1 ys hown hch hgr hat
        rw [Nat.zero_add, List.nil_append] at hown
        have kp : Kp (fun _ => False) (W0.drew.alloc (.cells #[.string ya.nm, .slice Aa ya.ar.length ca] 36)) W1 := (Kp.refl _ _).grown hgr (fun q e => by cases e)
        have k1 : Below W0.heap.size W0 W1 := (((Kp.refl (fun _ => False) W0).drew.alloc _).trans kp (fun _ _ hf => hf)).below (fun i hi hf => hf)
        obtain ⟨A3, c3, rfl⟩ := own_form hown
        refine hK.out _ _ k1 (fun hS2 => ?_)
        exact norm_ (by kernel_rfl) (hcont (.slice A3 s.bound.length c3, ys, W0.heap.size) _ ⟨hS2, hown, hch, blk_kp (blk_new W0.drew _) kp (fun hf => hf), Nat.le_refl _, fun e => by
          rcases hat _ e with e | e
          · cases e
          · simp at e <;> omega⟩)
    · have hcan' : Hid (R = false) := Lib.hid (by rw [hcan, if_pos hy2, if_neg k5])
      have g5 : (t.k != 5) = true := by simp [k5]
      clear hcan k5 har hy2
      go_enter Tryz.func88, Tryz.ntmps88
      go_wp2_with fail
      go_ret
      rw [hcan'.out]
      exact ⟨rfl, ab⟩
  · have hq : (ty.nm.toList == [45, 62]) = false := ha
    rw [if_neg hl2] at hcan
    have hn0 := node_n hnd
    have hO0 : t.k ≠ 5 → rTyO p s t = typeOfP p s.vars s.pars s.bound t := fun h5 => by
      unfold rTyO
      rw [if_pos]
      have h1 := hnd
      unfold nodeP at h1
      by_cases c1 : t.k = 1
      · exact .inl c1
      · rw [if_neg c1] at h1
        by_cases c2 : t.k = 2 ∨ (t.k = 3 ∨ t.k = 4)
        · exact .inr c2
        · rw [if_neg c2] at h1
          simp [h5] at h1
    obtain ⟨O, hO⟩ : ∃ O, rTyO p s t = O := ⟨_, rfl⟩
    rw [hO] at hO0
    have hcan' := Lib.hid hcan
    have hO0' := Lib.hid hO0
    have hO' := Lib.hid hO
    have hl2' := Lib.hid hl2
    clear hcan hO0 hO hl2 ha hraw
    go_enter Tryz.func88, Tryz.ntmps88
    go_wp2_with fail
    refine (RtypeOf_calls p s t _ _ _ _ h (H.below ab) rp0.out rs0.out r0.out hn0).mono ?_
    rintro e W1 ⟨k1', u, Au, cu, rfl, ru, hu⟩
    rw [hO'.out] at hu ⊢
    have ab1 := below_then ab k1' ab.size
    have b1 := box_below a1 k1'
    have b2 := box_below a2 k1'
    have b3 := box_below a3 k1'
    have b4 := box_below a4 k1'
    clear a1 a2 a3 a4 ab k1'
    have u3 := box4 b3
    have u4 := box2 b4
    have l4 := blk_lt b4
    have l3 := blk_lt b3
    have l2 := blk_lt b2
    have l1 := blk_lt b1
    have hsz := ab1.size
    by_cases k5 : t.k = 5
    · have hR : Hid (R = false) := Lib.hid (by rw [hcan'.out, if_pos k5])
      have g5 : (t.k == 5) = true := by simp [k5]
      clear k5
      go_wp2_with fail
      go_ret
      rw [hR.out]
      exact ⟨rfl, ab1.alloc ab1.size _⟩
    have g5 : (t.k == 5) = false := by simp [k5]
    have hO1 := hO0'.out k5
    have hcan2 : Hid (R = canH (canP p s.vars s.pars m s.bound) ty.nm t.ar O) := Lib.hid (by rw [hcan'.out, if_neg k5, hO1]; rfl)
    clear k5
    cases O with
    | none =>
      have hR : Hid (R = false) := Lib.hid hcan2.out
      clear hO1
      go_wp2_with fail
      go_ret
      rw [hR.out]
      exact ⟨rfl, ab1.alloc ab1.size _⟩
    | some own =>
      have hform := typeOf_form hfv hfq hfb hO1.symm
      obtain rfl := hu own rfl
      have hszu := ((formTy_zero _).1 hform).1.1
      have hpl := (parts_le u).1
      have hpf := (parts_form u.sz u (Nat.le_refl _) hform).1
      have hpf' := Lib.hid hpf
      have hff := ((formTy_zero _).1 hform).2
      have hpl2 : (partsL u).length ≤ 4000 := by omega
      clear hO1 hpf hu hpl
      have kx := (alloc1 W1 (.cells #[.string u.nm, .slice Au u.ar.length cu] 36)).2
      go_wp2_with fail
      refine (split_calls u _ _ h ((H.below ab1).below kx) ru (by unfold lim; omega) hff).mono ?_
      rintro e W3 ⟨sv, xs, rfl, hown, hch, k3⟩
      have ab2 := below_then ab1 kx ab1.size
      have c1 := box_below (box_below b1 kx) k3
      have c2 := box_below (box_below b2 kx) k3
      have c3 := box_below (box_below b3 kx) k3
      have c4 := box_below (box_below b4 kx) k3
      have ab3 := below_then ab2 k3 ab2.size
      have hsk2 := ab2.size
      clear b1 b2 b3 b4 u3 u4 l4 l3 l2 l1 hsz ab1 ab2
      have u3 := box4 c3
      have u4 := box2 c4
      have l4 := blk_lt c4
      have l3 := blk_lt c3
      have l2 := blk_lt c2
      have l1 := blk_lt c1
      have hsz := ab3.size
      have hsk := kx.size
      obtain ⟨h4, r4, m4, _⟩ := own_TyS (w0 := w) (H.below ab3) hsk2 hown hch (by unfold lim; omega)
      have r4' := Lib.hid r4
      obtain ⟨As, ks, rfl, _⟩ := id r4
      obtain ⟨PL, hPL⟩ : ∃ l, partsL u = l := ⟨_, rfl⟩
      obtain ⟨PR, hPR⟩ : ∃ l, partsR u = l := ⟨_, rfl⟩
      have hcan3 : Hid (R = if ((partsR u).toList == ty.nm.toList && (partsL u).length == t.ar.length) = true then canAll (canP p s.vars s.pars m s.bound) t.ar (partsL u) else false) := Lib.hid hcan2.out
      rw [hPL] at hpf' r4' hcan3 hpl2 ⊢
      rw [hPR] at hcan3 ⊢
      clear hcan2
      clear hPL hPR hown hch r4
      have H4 := m4.has
      have bx := blk_new W3 (.cells #[.slice As PL.length ks, .string PR] 62)
      have kx4 := (alloc1 W3 (.cells #[.slice As PL.length ks, .string PR] 62)).2
      have ab4 := below_then ab3 kx4 ab3.size
      have d1 := box_below c1 kx4
      have d2 := box_below c2 kx4
      have d3 := box_below c3 kx4
      have hlt4 := m4.has.below kx4
      have rp4 := Lib.hid (PgR.sub rp0.out m4.sub)
      have rs4 : Hid (ScR h4 s _) := Lib.hid ⟨_, _, _, rfl, q0'.out.sub m4.sub, q1'.out.sub m4.sub, q2'.out.sub m4.sub⟩
      have hr4 := Lib.hid (hr.sub m4.sub)
      have hrl' := Lib.hid hrl
      cases e1 : PR.toList == ty.nm.toList
      · have hR : Hid (R = false) := Lib.hid (by rw [hcan3.out, e1]; rfl)
        have g1 : (PR.toList != ty.nm.toList) = true := by simp at e1 ⊢; exact e1
        go_wp2_with fail
        go_ret
        rw [hR.out]
        exact ⟨rfl, ab4⟩
      have g1 : (PR.toList != ty.nm.toList) = false := by simp at e1 ⊢; exact e1
      cases e2 : PL.length == t.ar.length
      · have hR : Hid (R = false) := Lib.hid (by rw [hcan3.out, e1, e2]; rfl)
        have g2 : ((PL.length : Int) != (t.ar.length : Int)) = true := by simp at e2 ⊢; omega
        clear e2
        go_wp2_with fail
        go_ret
        rw [hR.out]
        exact ⟨rfl, ab4⟩
      have g2 : ((PL.length : Int) != (t.ar.length : Int)) = false := by simp at e2 ⊢; omega
      have hR : Hid (R = canAll (canP p s.vars s.pars m s.bound) t.ar PL) := Lib.hid (by rw [hcan3.out, e1, e2]; rfl)
      have hle : t.ar.length ≤ PL.length := by simp at e2; omega
      clear e2 hcan3
      go_wp2_with fail
      go_loopw [13] (fun i wr => ∃ k : Nat, k ≤ t.ar.length ∧ i = .int .i64 k ∧ Hid (canAll (canP p s.vars s.pars m s.bound) (t.ar.drop k) (PL.drop k) = canAll (canP p s.vars s.pars m s.bound) t.ar PL) ∧ wr.heap[w.heap.size]? = some (.cells #[.slice At p.types.length kt, .slice Ac p.consts.length kc, .slice Z2 n2 z2, .slice Z3 n3 z3, .slice Z4 n4 z4] 28) ∧ wr.heap[w.heap.size + 1]? = some (.cells #[.slice A0 s.vars.length k0, .slice A1 s.pars.length k1, .slice A2 s.bound.length k2] 31) ∧ wr.heap[w.heap.size + 1 + 1]? = some (.cells #[.int .i64 t.k, .int .i64 t.n, .string t.nm, .slice A t.ar.length cap] 34) ∧ wr.heap[W3.heap.size]? = some (.cells #[.slice As PL.length ks, .string PR] 62) ∧ Has wr h4 ∧ Below w.heap.size w wr) (fun i _ => t.ar.length - (intOf i).toNat)
      case atStart => exact ⟨0, by omega, rfl, by show canAll _ _ _ = _; simp, d1, d2, d3, bx, hlt4, ab4⟩
      case round =>
        obtain ⟨k, hk, rfl, hI, zb1, zb2, zb3, zb4, hw, hbel⟩ := hrel
        obtain ⟨v0, v1, v2, v3, v4⟩ := box5c zb1
        obtain ⟨w0', w1', w2'⟩ := bx3f zb2
        obtain ⟨y0, y1, y2, y3⟩ := box4 zb3
        obtain ⟨n0, n1⟩ := box2 zb4
        have ls := blk_lt zb4
        by_cases hlt : k < t.ar.length
        · have hlt2 : k < PL.length := by omega
          obtain ⟨bt, ot, At', ct', rfl, e0, e1, e2, e3, rt⟩ := hr4.out.get k hlt
          obtain ⟨Ap, cp, ep, _, _, rpl⟩ := r4'.out
          cases ep
          obtain ⟨by_, oy, Ay', cy', rfl, f0, f1, ry⟩ := rpl.get k hlt2
          have hc0 := hw.cell _ _ e0
          have hc1 := hw.cell _ _ e1
          have hc2 := hw.cell _ _ e2
          have hc3 := hw.cell _ _ e3
          have hd0 := hw.cell _ _ f0
          have hd1 := hw.cell _ _ f1
          have hI' : Hid ((canP p s.vars s.pars m s.bound t.ar[k] PL[k] && canAll (canP p s.vars s.pars m s.bound) (t.ar.drop (k + 1)) (PL.drop (k + 1))) = canAll (canP p s.vars s.pars m s.bound) t.ar PL) := by
            have := hI.out
            rw [List.drop_eq_getElem_cons hlt, List.drop_eq_getElem_cons hlt2, canAll] at this
            exact this
          have hszk := Lib.hid (show t.ar[k].sz ≤ m by
            have h2 := Tm.sz_at t.ar k hlt
            obtain ⟨kk, nn, nm, ar⟩ := t
            simp only [Tm.sz, Tm.ar] at ht h2 ⊢
            omega)
          have hrk := Lib.hid (rawN_at hrl'.out k hlt)
          have hfk := Lib.hid (hpf'.out _ (List.getElem_mem hlt2))
          clear hI
          go_wp2_with fail
          refine rgs 14 (fun V => Below wr.heap.size wr V) [] rfl ((Below.refl _ _).drew) (fun hS => ?_)
          refine rgt 0 (.agg #[.slice At p.types.length kt, .slice Ac p.consts.length kc, .slice Z2 n2 z2, .slice Z3 n3 z3, .slice Z4 n4 z4]) rfl (by kernel_rfl) (fun _ _ _ h => h) (by kernel_rfl) hS (fun V hV => by have q0 := cell_below v0 hV; have q1 := cell_below v1 hV; have q2 := cell_below v2 hV; have q3 := cell_below v3 hV; have q4 := cell_below v4 hV; go_simp) ?_
          refine rgt 1 (.agg #[.slice A0 s.vars.length k0, .slice A1 s.pars.length k1, .slice A2 s.bound.length k2]) rfl (by kernel_rfl) (fun _ _ _ h => h) (by kernel_rfl) hS (fun V hV => by have q0 := cell_below w0' hV; have q1 := cell_below w1' hV; have q2 := cell_below w2' hV; go_simp) ?_
          refine rgt 2 (.pointer (some ⟨w.heap.size + 1 + 1, 3, none⟩)) rfl (by kernel_rfl) (fun _ _ _ h => h) (by kernel_rfl) hS (fun V hV => by go_simp) ?_
          refine rgt 3 (.slice (some ⟨bt, ot, none⟩) t.ar.length cap) rfl (by kernel_rfl) (fun _ _ _ h => h) (by kernel_rfl) hS (fun V hV => by have q0 := cell_below y3 hV; go_simp) ?_
          refine rgt 4 (.int .i64 k) rfl (by kernel_rfl) (fun _ _ _ h => h) (by kernel_rfl) hS (fun V hV => by go_simp) ?_
          refine rgt 5 (.pointer (some ⟨bt, ot + k * 4, none⟩)) rfl (by kernel_rfl) (fun _ _ _ h => h) (by kernel_rfl) hS (fun V hV => by go_simp) ?_
          refine rgt 6 (.agg #[.int .i64 t.ar[k].k, .int .i64 t.ar[k].n, .string t.ar[k].nm, .slice At' t.ar[k].ar.length ct']) rfl (by kernel_rfl) (fun _ _ _ h => h) (by kernel_rfl) hS (fun V hV => by have q0 := cell_below hc0 hV; have q1 := cell_below hc1 hV; have q2 := cell_below hc2 hV; have q3 := cell_below hc3 hV; go_simp) ?_
          refine rgt 7 (.pointer (some ⟨W3.heap.size, 0, none⟩)) rfl (by kernel_rfl) (fun _ _ _ h => h) (by kernel_rfl) hS (fun V hV => by go_simp) ?_
          refine rgt 8 (.slice (some ⟨by_, oy, none⟩) PL.length ks) rfl (by kernel_rfl) (fun _ _ _ h => h) (by kernel_rfl) hS (fun V hV => by have q0 := cell_below n0 hV; go_simp) ?_
          refine rgt 9 (.int .i64 k) rfl (by kernel_rfl) (fun _ _ _ h => h) (by kernel_rfl) hS (fun V hV => by go_simp) ?_
          refine rgt 10 (.pointer (some ⟨by_, oy + k * 2, none⟩)) rfl (by kernel_rfl) (fun _ _ _ h => h) (by kernel_rfl) hS (fun V hV => by go_simp) ?_
          refine rgt 11 (.agg #[.string PL[k].nm, .slice Ay' PL[k].ar.length cy']) rfl (by kernel_rfl) (fun _ _ _ h => h) (by kernel_rfl) hS (fun V hV => by have q0 := cell_below hd0 hV; have q1 := cell_below hd1 hV; go_simp) ?_
          refine rg1 12 rfl (by kernel_rfl) (by decide) (by kernel_rfl) (fun K hK => ?_)
          have hS0 := hS
          go_simp
          refine (IH.out s t.ar[k] PL[k] _ _ _ _ wr.drew h4 hw.drew rp4.out rs4.out rt ry hszk.out hrk.out (by omega) hfb hfv hfq hfk.out).mono ?_
          rintro e W6 ⟨rfl, k6⟩
          simp only []
          refine hK.out _ _ (below_then hS0 k6 hS0.size) (fun hS => ?_)
          have hbel6 := below_then hbel hS hbel.size
          cases hb6 : canP p s.vars s.pars m s.bound t.ar[k] PL[k]
          · have hI2 : Hid (R = false) := Lib.hid (by rw [hR.out, ← hI'.out, hb6]; rfl)
            clear hI' hb6
            refine rgt 13 (.bool true) rfl (by kernel_rfl) (fun _ _ _ h => h) (by kernel_rfl) hS (fun V hV => by go_simp) ?_
            refine rgd (by kernel_rfl) ?_
            go_wp2_with fail
            go_ret
            rw [hI2.out]
            exact ⟨rfl, hbel6⟩
          · have hI2 : Hid (canAll (canP p s.vars s.pars m s.bound) (t.ar.drop (k + 1)) (PL.drop (k + 1)) = canAll (canP p s.vars s.pars m s.bound) t.ar PL) := Lib.hid (by rw [← hI'.out, hb6]; rfl)
            clear hI' hb6
            refine rgt 13 (.bool false) rfl (by kernel_rfl) (fun _ _ _ h => h) (by kernel_rfl) hS (fun V hV => by go_simp) ?_
            refine rgd (by kernel_rfl) ?_
            go_wp2_with fail
            exact ⟨⟨k + 1, by omega, by go_num, hI2, box_below zb1 hS, box_below zb2 hS, box_below zb3 hS, box_below zb4 hS, hw.below hS, hbel6⟩, by simp [intOf]; omega⟩
        · have hI2 : Hid (R = true) := Lib.hid (by
            have := hI.out
            rw [show t.ar.drop k = [] from List.drop_eq_nil_of_le (by omega), canAll] at this
            rw [hR.out, ← this]
            simp)
          go_wp2_with fail
          go_ret
          rw [hI2.out]
          exact ⟨rfl, hbel⟩
end Go.Proofs.YtpgbeapojjinmaaGreatDoor
