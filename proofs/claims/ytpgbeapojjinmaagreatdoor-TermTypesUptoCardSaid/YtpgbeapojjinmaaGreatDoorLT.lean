/- The statement TermTypes: its walk. -/
import Derived.Test.YtpgbeapojjinmaaGreatDoorSN
set_option linter.unusedVariables false
set_option linter.unusedSimpArgs false
namespace Go.Proofs.YtpgbeapojjinmaaGreatDoor
open Go.RowKit Go.Shelf Go.Proofs.YtpgbeapojjinmaaGreatDoorW.PrintLast
/-- An operation whose guard is off. -/
theorem rgo {ops : Array Oper} {Q : Exit → Act → World → Prop} {S : World → Prop} {ds : List Nat} {a : Act} {w : World} {l : Array Bool} {fuel : Nat} (i d : Nat) {oi : Oper} (hi : ops[i]? = some oi) (hd : oi.dst = some d) (hc : takeB .any ops ds l (l.setIfInBounds i true) i = true) (hQ : ∀ c a w, Q (.panic c) (a.put (some d) undef) w → Q (.panic c) a w)
    (hw : Region.wanted oi (yielded ops a.tmps) = false) (hS : S w) (h : wpAnyLast Tryz.prog .any ops Q S ds fuel (l.setIfInBounds i true) (a.put (some d) undef) w) : wpAnyLast Tryz.prog .any ops Q S ds (fuel + 1) l a w :=
  take_ (l.setIfInBounds i true) hi rfl hc (by rw [hd]; exact hQ) (.inr ⟨hw, rfl⟩) hS rfl (by rw [hd]; exact h)
/-- An operation that yields, its slot named. -/
theorem rgn {ops : Array Oper} {Q : Exit → Act → World → Prop} {S : World → Prop} {ds : List Nat} {a : Act} {w : World} {l : Array Bool} {fuel : Nat} (i d : Nat) (v : Value) {oi : Oper} (hi : ops[i]? = some oi) (hd : oi.dst = some d) (hc : takeB .any ops ds l (l.setIfInBounds i true) i = true) (hQ : ∀ c a w, Q (.panic c) (a.put (some d) v) w → Q (.panic c) a w)
    (hw : Region.wanted oi (yielded ops a.tmps) = true) (hS : S w) (hr : ∀ w, S w → (execOp a.eval oi).run Tryz.prog w = .ok (.value v) w)
    (h : wpAnyLast Tryz.prog .any ops Q S ds fuel (l.setIfInBounds i true) (a.put (some d) v) w) : wpAnyLast Tryz.prog .any ops Q S ds (fuel + 1) l a w :=
  take_ (l.setIfInBounds i true) hi rfl hc (by rw [hd]; exact hQ) (.inl ⟨hw, hr⟩) hS rfl (by rw [hd]; exact h)
set_option maxRecDepth 100000 in
set_option maxHeartbeats 16000000 in
theorem TermTypes_calls (p : Pg) (a b : Ty) (ps ca cb : List Value) (w : World) (h : Snap) (H : Has w h) (rp : PgR h p ps) (ra : TyR h a ca) (rb : TyR h b cb) :
    Calls Tryz.prog 6 #[.agg ps.toArray, .agg ca.toArray, .agg cb.toArray] w fun e w' => e = .returned (.bool true) ∧ Below w.heap.size w w' := by
  have hd : formP a = true → (partsL a).length ≤ lim := fun hf => by
    rw [formP_eq] at hf
    have := ((formTy_zero a).1 (by simpa using hf)).1.1
    have h2 := (parts_le a).1
    unfold lim
    omega
  have rp0 := Lib.hid rp
  have ra0 := Lib.hid ra
  have rb0 := Lib.hid rb
  obtain ⟨Aa, ka, rfl, hla, hma, _⟩ := ra.open_
  obtain ⟨Ab, kb, rfl, hlb, hmb, _⟩ := rb.open_
  obtain ⟨v0, v1, Z2, n2, z2, Z3, n3, z3, Z4, n4, z4, rfl, rt, rc⟩ := rp
  obtain ⟨At, kt, rfl, _, htm, _⟩ := id rt
  obtain ⟨Ac, kc, rfl, _⟩ := id rc
  have hu36 := Tryz.underlying36
  have hu28 := Tryz.underlying28
  have hu62 := Tryz.underlying62
  obtain ⟨a1, a2, a3, ab⟩ := alloc3 w (.cells #[.slice At p.types.length kt, .slice Ac p.consts.length kc, .slice Z2 n2 z2, .slice Z3 n3 z3, .slice Z4 n4 z4] 28) (.cells #[.string a.nm, .slice Aa a.ar.length ka] 36) (.cells #[.string b.nm, .slice Ab b.ar.length kb] 36)
  unfold lim at htm
  have hd' := Lib.hid hd
  clear rt rc hd hla hlb hma hmb rb ra
  go_enter Tryz.func6, Tryz.ntmps6
  go_wp2_with fail
  refine (sane_calls _ h (H.below ab)).mono ?_
  rintro e w1 ⟨rfl, k1⟩
  have kk := below_then ab k1 ab.size
  have d1 := box_below a1 k1
  have d2 := box_below a2 k1
  have d3 := box_below a3 k1
  have x10 : w1.cell? ⟨w.heap.size, 0, none⟩ = some (.slice At p.types.length kt) := blk_cell d1 0
  have l1 := blk_lt d1
  by_cases q : 60 < p.types.length
  · go_wp2_with fail
    go_ret
    exact ⟨rfl, kk⟩
  · have q' : p.types.length ≤ 60 := by omega
    clear q
    have y2 := box2 d2
    have l2 := blk_lt d2
    go_wp2_with fail
    refine (Parts_calls a _ _ h (H.below kk) ra0.out hd'.out).mono ?_
    rintro e w2 ⟨sv, h1, rfl, rl, m1, k2⟩
    rw [(PParts_eq a).1] at rl
    rw [(PParts_eq a).2]
    have kk2 := below_then kk k2 kk.size
    obtain ⟨As, cs, rfl, _⟩ := id rl
    have e2 := box_below d2 k2
    have ye2 := box2 e2
    have le2 := blk_lt e2
    clear y2 l2 x10 l1
    go_wp2_with fail
    refine (RParts_calls a _ w2 h1 m1.has (ra0.out.sub m1.sub)).mono ?_
    rintro e w3 ⟨sx, h2, rfl, rx, m2, k3⟩
    have kk3 := below_then kk2 k3 kk2.size
    obtain ⟨Ax, cx, rfl, _⟩ := id rx
    go_wp2_with fail
    have b4 := blk_new w3 (.cells #[.slice Ax (PartsL a).length cx, .string (PartsR a)] 62)
    have k4 := (alloc1 w3 (.cells #[.slice Ax (PartsL a).length cx, .string (PartsR a)] 62)).2
    obtain ⟨W4, hW4⟩ : ∃ W4, w3.alloc (.cells #[.slice Ax (PartsL a).length cx, .string (PartsR a)] 62) = W4 := ⟨_, rfl⟩
    rw [hW4] at b4 k4 ⊢
    clear hW4
    have kk4 := below_then kk3 k4 kk3.size
    have H4 := m2.has.below k4
    have s12 := m1.sub.trans m2.sub
    have ra4 := Lib.hid (ra0.out.sub s12)
    have rb4 := Lib.hid (rb0.out.sub s12)
    have rp4 := Lib.hid (PgR.sub rp0.out s12)
    have rl4 := Lib.hid (rl.sub m2.sub)
    have rx4 := Lib.hid rx
    have f1 := box_below (box_below (box_below d1 k2) k3) k4
    have f2 := box_below (box_below (box_below d2 k2) k3) k4
    have f3 := box_below (box_below (box_below d3 k2) k3) k4
    have y20 := (box2 f2).1
    have y21 := (box2 f2).2
    have y30 := (box2 f3).1
    have y31 := (box2 f3).2
    have g0 := (box2 b4).1
    have g1 := (box2 b4).2
    have p0 := (box5 f1).1
    have p1 := (box5 f1).2.1
    have p2 := (box5 f1).2.2.1
    have p3 := (box5 f1).2.2.2.1
    have p4 := (box5 f1).2.2.2.2
    have hst : ((PartsL a).length == (PartsL a).length && sameTys (PartsL a) (PartsL a)) = true := by simp [sameTys_refl (PartsL_form a)]
    have hst' := Lib.hid hst
    have hpl : Hid ((PPartsL a).length = (PartsL a).length) := Lib.hid (by rw [(PParts_eq a).1])
    have hln : (PartsL a).length ≤ lim := by obtain ⟨_, _, _, _, h, _⟩ := id rx; exact h
    unfold lim at hln
    obtain ⟨LP, hLP⟩ : ∃ LP, PartsL a = LP := ⟨_, rfl⟩
    obtain ⟨RP, hRP⟩ : ∃ RP, PartsR a = RP := ⟨_, rfl⟩
    rw [hLP] at hst' hpl hln rl4 rx4 g0 b4 ⊢
    rw [hRP] at g1 b4 ⊢
    have hLP' := Lib.hid hLP
    have hRP' := Lib.hid hRP
    clear hst rl rx m1 m2 k1 k2 k3 kk kk2 kk3 e2 ye2 le2 d1 d2 d3 a1 a2 a3 ab f1 f2 f3 hLP hRP H
    refine rgs 22 (fun V => Below W4.heap.size W4 V) [] rfl ((Below.refl _ _).drew) (fun hS => ?_)
    refine rgt 0 (.bool true) rfl (by kernel_rfl) (fun _ _ _ h => h) (by kernel_rfl) hS (fun V hV => by go_simp) ?_
    refine rgt 1 (.bool false) rfl (by kernel_rfl) (fun _ _ _ h => h) (by kernel_rfl) hS (fun V hV => by go_simp) ?_
    refine rgt 2 (.bool false) rfl (by kernel_rfl) (fun _ _ _ h => h) (by kernel_rfl) hS (fun V hV => by go_simp) ?_
    refine rgt 3 (.string RP) rfl (by kernel_rfl) (fun _ _ _ h => h) (by kernel_rfl) hS (fun V hV => by go_simp) ?_
    refine rgt 4 (.pointer (some ⟨w3.heap.size, 1, none⟩)) rfl (by kernel_rfl) (fun _ _ _ h => h) (by kernel_rfl) hS (fun V hV => by go_simp) ?_
    refine rgt 5 (.string RP) rfl (by kernel_rfl) (fun _ _ _ h => h) (by kernel_rfl) hS (fun V hV => by have q0 := cell_below g1 hV; go_simp) ?_
    refine rgt 6 (.bool false) rfl (by kernel_rfl) (fun _ _ _ h => h) (by kernel_rfl) hS (fun V hV => by go_simp) ?_
    refine rgt 7 (.bool false) rfl (by kernel_rfl) (fun _ _ _ h => h) (by kernel_rfl) hS (fun V hV => by go_simp) ?_
    refine rgt 8 (.bool false) rfl (by kernel_rfl) (fun _ _ _ h => h) (by kernel_rfl) hS (fun V hV => by go_simp) ?_
    refine rgt 9 (.slice As LP.length cs) rfl (by kernel_rfl) (fun _ _ _ h => h) (by kernel_rfl) hS (fun V hV => by go_simp) ?_
    refine rgt 10 (.pointer (some ⟨w3.heap.size, 0, none⟩)) rfl (by kernel_rfl) (fun _ _ _ h => h) (by kernel_rfl) hS (fun V hV => by go_simp) ?_
    refine rgt 11 (.slice Ax LP.length cx) rfl (by kernel_rfl) (fun _ _ _ h => h) (by kernel_rfl) hS (fun V hV => by have q0 := cell_below g0 hV; go_simp) ?_
    refine rg1 12 rfl (by kernel_rfl) (by decide) (by kernel_rfl) (fun K hK => ?_)
    have hS0 := hS
    go_simp
    refine (SameTypes_calls LP LP _ _ W4.drew h2 (H4.below hS0) rl4.out rx4.out).mono ?_
    rintro e WN ⟨rfl, kN⟩
    rw [hst'.out]
    simp only []
    refine hK.out _ _ (below_then hS0 kN hS0.size) (fun hS => ?_)
    refine rgt 13 (.bool false) rfl (by kernel_rfl) (fun _ _ _ h => h) (by kernel_rfl) hS (fun V hV => by go_simp) ?_
    refine rgt 14 (.bool false) rfl (by kernel_rfl) (fun _ _ _ h => h) (by kernel_rfl) hS (fun V hV => by go_simp) ?_
    refine rgt 15 (.bool false) rfl (by kernel_rfl) (fun _ _ _ h => h) (by kernel_rfl) hS (fun V hV => by go_simp) ?_
    refine rgt 16 (.agg #[.string a.nm, .slice Aa a.ar.length ka]) rfl (by kernel_rfl) (fun _ _ _ h => h) (by kernel_rfl) hS (fun V hV => by have q0 := cell_below y20 hV; have q1 := cell_below y21 hV; go_simp) ?_
    refine rgt 18 (.agg #[.string a.nm, .slice Aa a.ar.length ka]) rfl (by kernel_rfl) (fun _ _ _ h => h) (by kernel_rfl) hS (fun V hV => by have q0 := cell_below y20 hV; have q1 := cell_below y21 hV; go_simp) ?_
    refine rg1 17 rfl (by kernel_rfl) (by decide) (by kernel_rfl) (fun K hK => ?_)
    have hS0 := hS
    go_simp
    refine (Arity_calls a _ _ h2 (H4.below hS0) ra4.out hd'.out).mono ?_
    rintro e WN ⟨rfl, kN⟩
    rw [hpl.out]
    simp only []
    refine hK.out _ _ (below_then hS0 kN hS0.size) (fun hS => ?_)
    refine rg1 19 rfl (by kernel_rfl) (by decide) (by kernel_rfl) (fun K hK => ?_)
    have hS0 := hS
    go_simp
    refine (RArity_calls a _ _ h2 (H4.below hS0) ra4.out).mono ?_
    rintro e WN ⟨rfl, kN⟩
    rw [hLP'.out]
    simp only []
    refine hK.out _ _ (below_then hS0 kN hS0.size) (fun hS => ?_)
    refine rgt 20 (.bool false) rfl (by kernel_rfl) (fun _ _ _ h => h) (by kernel_rfl) hS (fun V hV => by go_simp) ?_
    refine rgt 21 (.bool false) rfl (by kernel_rfl) (fun _ _ _ h => h) (by kernel_rfl) hS (fun V hV => by go_simp) ?_
    refine rgd (by kernel_rfl) ?_
    have kk5 := below_then kk4 hS kk4.size
    have H5 := H4.below hS
    clear hS0 kN
    go_wp2_with fail
    refine (Arrow_calls RP LP _ _ h2 H5 rl4.out).mono ?_
    rintro e w6 ⟨cy, h3, rfl, ry, k6, m6⟩
    obtain ⟨YT, hYT⟩ : ∃ YT, arrowT RP LP = YT := ⟨_, rfl⟩
    rw [hYT] at ry
    obtain ⟨Ay, ky, rfl, _⟩ := ry.open_
    have kk6 := below_then kk5 k6 kk5.size
    go_wp2_with fail
    have b7 := blk_new w6 (.cells #[.string YT.nm, .slice Ay YT.ar.length ky] 36)
    have k7 := (alloc1 w6 (.cells #[.string YT.nm, .slice Ay YT.ar.length ky] 36)).2
    obtain ⟨W7, hW7⟩ : ∃ W7, w6.alloc (.cells #[.string YT.nm, .slice Ay YT.ar.length ky] 36) = W7 := ⟨_, rfl⟩
    rw [hW7] at b7 k7 ⊢
    clear hW7
    have kk7 := below_then kk6 k7 kk6.size
    have H7 := m6.has.below k7
    have k47 := below_then (below_then hS k6 hS.size) k7 (below_then hS k6 hS.size).size
    have z20 := cell_below y20 k47
    have z21 := cell_below y21 k47
    have z30 := cell_below y30 k47
    have z31 := cell_below y31 k47
    have q0' := cell_below p0 k47
    have q1' := cell_below p1 k47
    have q2' := cell_below p2 k47
    have q3' := cell_below p3 k47
    have q4' := cell_below p4 k47
    have x0 := (box2 b7).1
    have x1 := (box2 b7).2
    have ra7 := Lib.hid (ra4.out.sub m6.sub)
    have rb7 := Lib.hid (rb4.out.sub m6.sub)
    have rp7 := Lib.hid (PgR.sub rp4.out m6.sub)
    have ry7 := Lib.hid ry
    have hck : Hid (checkP p.types a = checkTy p.types a) := Lib.hid (checkP_eq _ _)
    have hsm : Hid (sameP a b = sameTy a b) := Lib.hid (sameP_eq _ _)
    have har : Hid (formTy a = 0 → sameTy YT a = true) := Lib.hid (fun hf => by rw [← hYT, ← hLP'.out, ← hRP'.out]; exact PartsL_arrow hf)
    clear y20 y21 y30 y31 p0 p1 p2 p3 p4 g0 g1 ry H4 H5 k4 kk4 kk5 kk6 k6 b4 b7 m6 s12 hYT hLP' hRP' rl4 rx4 hpl hst' ra4 rb4 rp4
    refine rgs 27 (fun V => Below W7.heap.size W7 V) [] rfl ((Below.refl _ _).drew) (fun hS => ?_)
    refine rgt 0 (.agg #[.slice At p.types.length kt, .slice Ac p.consts.length kc, .slice Z2 n2 z2, .slice Z3 n3 z3, .slice Z4 n4 z4]) rfl (by kernel_rfl) (fun _ _ _ h => h) (by kernel_rfl) hS (fun V hV => by have e0 := cell_below q0' hV; have e1 := cell_below q1' hV; have e2 := cell_below q2' hV; have e3 := cell_below q3' hV; have e4 := cell_below q4' hV; go_simp) ?_
    refine rgt 1 (.agg #[.string a.nm, .slice Aa a.ar.length ka]) rfl (by kernel_rfl) (fun _ _ _ h => h) (by kernel_rfl) hS (fun V hV => by have q0 := cell_below z20 hV; have q1 := cell_below z21 hV; go_simp) ?_
    refine rgt 3 (.agg #[.slice At p.types.length kt, .slice Ac p.consts.length kc, .slice Z2 n2 z2, .slice Z3 n3 z3, .slice Z4 n4 z4]) rfl (by kernel_rfl) (fun _ _ _ h => h) (by kernel_rfl) hS (fun V hV => by have e0 := cell_below q0' hV; have e1 := cell_below q1' hV; have e2 := cell_below q2' hV; have e3 := cell_below q3' hV; have e4 := cell_below q4' hV; go_simp) ?_
    refine rgt 4 (.agg #[.string a.nm, .slice Aa a.ar.length ka]) rfl (by kernel_rfl) (fun _ _ _ h => h) (by kernel_rfl) hS (fun V hV => by have q0 := cell_below z20 hV; have q1 := cell_below z21 hV; go_simp) ?_
    refine rg1 2 rfl (by kernel_rfl) (by decide) (by kernel_rfl) (fun K hK => ?_)
    have hS0 := hS
    go_simp
    refine (CheckType_calls p a _ _ W7.drew h3 (H7.below hS0) rp7.out ra7.out).mono ?_
    rintro e WN ⟨rfl, kN⟩
    rw [hck.out]
    simp only []
    refine hK.out _ _ (below_then hS0 kN hS0.size) (fun hS => ?_)
    refine rg1 5 rfl (by kernel_rfl) (by decide) (by kernel_rfl) (fun K hK => ?_)
    have hS0 := hS
    go_simp
    refine (RCheckType_calls p a _ _ _ h3 (H7.below hS0) rp7.out ra7.out).mono ?_
    rintro e WN ⟨rfl, kN⟩
    simp only []
    refine hK.out _ _ (below_then hS0 kN hS0.size) (fun hS => ?_)
    refine rgt 6 (.bool true) rfl (by kernel_rfl) (fun _ _ _ h => h) (by kernel_rfl) hS (fun V hV => by go_simp) ?_
    refine rgt 7 (.bool true) rfl (by kernel_rfl) (fun _ _ _ h => h) (by kernel_rfl) hS (fun V hV => by go_simp) ?_
    refine rgt 8 (.agg #[.string a.nm, .slice Aa a.ar.length ka]) rfl (by kernel_rfl) (fun _ _ _ h => h) (by kernel_rfl) hS (fun V hV => by have q0 := cell_below z20 hV; have q1 := cell_below z21 hV; go_simp) ?_
    refine rgt 9 (.agg #[.string b.nm, .slice Ab b.ar.length kb]) rfl (by kernel_rfl) (fun _ _ _ h => h) (by kernel_rfl) hS (fun V hV => by have q0 := cell_below z30 hV; have q1 := cell_below z31 hV; go_simp) ?_
    refine rgt 11 (.agg #[.string a.nm, .slice Aa a.ar.length ka]) rfl (by kernel_rfl) (fun _ _ _ h => h) (by kernel_rfl) hS (fun V hV => by have q0 := cell_below z20 hV; have q1 := cell_below z21 hV; go_simp) ?_
    refine rgt 12 (.agg #[.string b.nm, .slice Ab b.ar.length kb]) rfl (by kernel_rfl) (fun _ _ _ h => h) (by kernel_rfl) hS (fun V hV => by have q0 := cell_below z30 hV; have q1 := cell_below z31 hV; go_simp) ?_
    refine rg1 10 rfl (by kernel_rfl) (by decide) (by kernel_rfl) (fun K hK => ?_)
    have hS0 := hS
    go_simp
    refine (SameTypeP_calls a b _ _ _ h3 (H7.below hS0) ra7.out rb7.out).mono ?_
    rintro e WN ⟨rfl, kN⟩
    rw [hsm.out]
    simp only []
    refine hK.out _ _ (below_then hS0 kN hS0.size) (fun hS => ?_)
    refine rg1 13 rfl (by kernel_rfl) (by decide) (by kernel_rfl) (fun K hK => ?_)
    have hS0 := hS
    go_simp
    refine (SameType_calls a b _ _ _ h3 (H7.below hS0) ra7.out rb7.out).mono ?_
    rintro e WN ⟨rfl, kN⟩
    simp only []
    refine hK.out _ _ (below_then hS0 kN hS0.size) (fun hS => ?_)
    refine rgt 14 (.bool true) rfl (by kernel_rfl) (fun _ _ _ h => h) (by kernel_rfl) hS (fun V hV => by go_simp) ?_
    refine rgt 15 (.bool true) rfl (by kernel_rfl) (fun _ _ _ h => h) (by kernel_rfl) hS (fun V hV => by go_simp) ?_
    refine rgt 16 (.bool true) rfl (by kernel_rfl) (fun _ _ _ h => h) (by kernel_rfl) hS (fun V hV => by go_simp) ?_
    refine rgt 17 (.agg #[.string a.nm, .slice Aa a.ar.length ka]) rfl (by kernel_rfl) (fun _ _ _ h => h) (by kernel_rfl) hS (fun V hV => by have q0 := cell_below z20 hV; have q1 := cell_below z21 hV; go_simp) ?_
    refine rg1 18 rfl (by kernel_rfl) (by decide) (by kernel_rfl) (fun K hK => ?_)
    have hS0 := hS
    go_simp
    refine (FormType_calls a _ _ h3 (H7.below hS0) ra7.out).mono ?_
    rintro e WN ⟨rfl, kN⟩
    simp only []
    refine hK.out _ _ (below_then hS0 kN hS0.size) (fun hS => ?_)
    by_cases hf : formTy a = 0
    · have hs1 : sameTy YT a = true := har.out hf
      rw [hf]
      refine rgt 19 (.bool false) rfl (by kernel_rfl) (fun _ _ _ h => h) (by kernel_rfl) hS (fun V hV => by go_simp) ?_
      refine rgt 20 (.bool false) rfl (by kernel_rfl) (fun _ _ _ h => h) (by kernel_rfl) hS (fun V hV => by go_simp) ?_
      refine rgt 21 (.agg #[.string YT.nm, .slice Ay YT.ar.length ky]) rfl (by kernel_rfl) (fun _ _ _ h => h) (by kernel_rfl) hS (fun V hV => by have q0 := cell_below x0 hV; have q1 := cell_below x1 hV; go_simp) ?_
      refine rgt 22 (.agg #[.string a.nm, .slice Aa a.ar.length ka]) rfl (by kernel_rfl) (fun _ _ _ h => h) (by kernel_rfl) hS (fun V hV => by have q0 := cell_below z20 hV; have q1 := cell_below z21 hV; go_simp) ?_
      refine rg1 23 rfl (by kernel_rfl) (by decide) (by kernel_rfl) (fun K hK => ?_)
      have hS0 := hS
      go_simp
      refine (SameType_calls YT a _ _ _ h3 (H7.below hS0) ry7.out ra7.out).mono ?_
      rintro e WN ⟨rfl, kN⟩
      rw [hs1]
      simp only []
      refine hK.out _ _ (below_then hS0 kN hS0.size) (fun hS => ?_)
      refine rgt 24 (.bool true) rfl (by kernel_rfl) (fun _ _ _ h => h) (by kernel_rfl) hS (fun V hV => by go_simp) ?_
      refine rgt 25 (.bool true) rfl (by kernel_rfl) (fun _ _ _ h => h) (by kernel_rfl) hS (fun V hV => by go_simp) ?_
      refine rgt 26 (.bool true) rfl (by kernel_rfl) (fun _ _ _ h => h) (by kernel_rfl) hS (fun V hV => by go_simp) ?_
      refine rgd (by kernel_rfl) ?_
      have kE := below_then kk7 hS kk7.size
      go_wp2_with fail
      go_ret
      exact ⟨rfl, kE⟩
    · have hf2 : (formTy a != 0) = true := by simp [hf]
      clear hf
      refine rgn 19 69 (.bool true) rfl rfl (by kernel_rfl) (fun _ _ _ h => h) (by kernel_rfl) hS (fun V hV => by go_simp) ?_
      refine rgn 20 70 (.bool true) rfl rfl (by kernel_rfl) (fun _ _ _ h => h) (by kernel_rfl) hS (fun V hV => by go_simp) ?_
      simp only [Act.put, List.setIfInBounds_toArray, List.set_cons_zero, List.set_cons_succ]
      refine rgo 21 71 rfl rfl (by kernel_rfl) (fun _ _ _ h => h) (by kernel_rfl) hS ?_
      refine rgo 22 72 rfl rfl (by kernel_rfl) (fun _ _ _ h => h) (by kernel_rfl) hS ?_
      refine rgo 23 73 rfl rfl (by kernel_rfl) (fun _ _ _ h => h) (by kernel_rfl) hS ?_
      simp only [Act.put, List.setIfInBounds_toArray, List.set_cons_zero, List.set_cons_succ]
      refine rgn 24 74 (.bool true) rfl rfl (by kernel_rfl) (fun _ _ _ h => h) (by kernel_rfl) hS (fun V hV => by go_simp) ?_
      refine rgn 25 75 (.bool true) rfl rfl (by kernel_rfl) (fun _ _ _ h => h) (by kernel_rfl) hS (fun V hV => by go_simp) ?_
      refine rgn 26 6 (.bool true) rfl rfl (by kernel_rfl) (fun _ _ _ h => h) (by kernel_rfl) hS (fun V hV => by go_simp) ?_
      refine rgd (by kernel_rfl) ?_
      simp only [Act.put, List.setIfInBounds_toArray, List.set_cons_zero, List.set_cons_succ]
      have kE := below_then kk7 hS kk7.size
      go_wp2_with fail
      go_ret
      exact ⟨rfl, kE⟩
end Go.Proofs.YtpgbeapojjinmaaGreatDoor
