/- The statement TermExpands: its walk. -/
import Derived.Test.YtpgbeapojjinmaaGreatDoorWK
import Derived.Test.YtpgbeapojjinmaaGreatDoorWX
set_option linter.unusedVariables false
set_option linter.unusedSimpArgs false
namespace Go.Proofs.YtpgbeapojjinmaaGreatDoor
open Go.RowKit Go.Shelf Go.Proofs.YtpgbeapojjinmaaGreatDoorW.PrintLast
theorem typedP_parts {p : Pg} {s : Sc} {t : Tm} {ty : Ty} (h : typedP p s t ty = 0) : rawP t = 0 ∧ chkLL p.types [s.vars, s.pars, s.bound, [ty]] = 0 ∧ okT p s.vars s.pars s.bound.reverse t ty = true := by
  have h1 : rawP t = 0 := by
    unfold typedP at h
    split at h
    · assumption
    · exact absurd h ‹_›
  rw [← can_ok p s.vars s.pars t.sz t s.bound ty (Nat.le_refl _) (raw_parts h1).2.1]
  unfold typedP at h
  rw [if_pos h1] at h
  split at h
  · rename_i h2
    split at h
    · exact ⟨h1, h2, ‹_›⟩
    · cases h
  · exact absurd h ‹_›
theorem typedP_of {p : Pg} {s : Sc} {t : Tm} {ty : Ty} (h1 : rawP t = 0) (h2 : chkLL p.types [s.vars, s.pars, s.bound, [ty]] = 0) (h3 : okT p s.vars s.pars s.bound.reverse t ty = true) : typedP p s t ty = 0 := by
  rw [← can_ok p s.vars s.pars t.sz t s.bound ty (Nat.le_refl _) (raw_parts h1).2.1] at h3
  unfold typedP
  rw [if_pos h1, if_pos h2, if_pos h3]
theorem chkLL_each {ss : List ByteArray} {a b c : List Ty} {y : Ty} : chkLL ss [a, b, c, [y]] = 0 ↔ chkL ss a = 0 ∧ chkL ss b = 0 ∧ chkL ss c = 0 ∧ checkP ss y = 0 := by
  simp only [chkLL, chkL]
  by_cases h1 : chkL ss a = 0
  · by_cases h2 : chkL ss b = 0
    · by_cases h3 : chkL ss c = 0
      · by_cases h4 : checkP ss y = 0 <;> simp [h1, h2, h3, h4]
      · simp [h1, h2, h3]
    · simp [h1, h2]
  · simp [h1]
theorem expands_law {p : Pg} {s : Sc} {T : Tm} {ty Uy : Ty} (hT : typedP p ⟨s.vars, s.pars, s.bound ++ [Uy]⟩ T ty = 0) (hl : s.vars.length + s.pars.length + s.bound.length ≤ 1000) :
    (codeS (shiftS T 1 1) = 0 ∨ codeS (shiftS T 1 1) = 2) ∧ ∃ o, EtaIs B0 Uy o ∧ (codeS o = 0 → typedP p ⟨s.vars, s.pars, s.bound ++ [Uy]⟩ (tmS o) Uy = 0 ∧
      (codeS (shiftS T 1 1) = 0 → ∃ o2, SubstIs (tmS (shiftS T 1 1)) (tmS o) o2 ∧ ((codeS o2 = 0 ∧ sameV (tmS o2) T = true) ∨ codeS o2 = 2 ∨ codeS o2 = 4))) := by
  obtain ⟨r1, c1, k1⟩ := typedP_parts hT
  have k1' : okT p s.vars s.pars (Uy :: s.bound.reverse) T ty = true := by simpa using k1
  obtain ⟨q1, q2, q3, q4⟩ := chkLL_each.1 c1
  have q3' : chkL p.types s.bound = 0 ∧ checkP p.types Uy = 0 := by
    have : chkL p.types (s.bound ++ [Uy]) = 0 := q3
    rw [chkL_append] at this
    by_cases h : chkL p.types s.bound = 0
    · rw [if_pos h, chkL] at this
      by_cases h2 : checkP p.types Uy = 0
      · exact ⟨h, h2⟩
      · rw [if_neg h2] at this; exact absurd this h2
    · rw [if_neg h] at this; exact absurd this h
  have hform : checkP [] Uy = 0 ∨ checkP [] Uy = 40 := by
    have h1 := check_form q3'.2
    have h2 : formP Uy = true := by rw [formP_eq, h1]; rfl
    unfold formP at h2
    simpa using h2
  refine ⟨?_, ?_⟩
  · have ha : askedP T 1 1 = 0 := by
      unfold askedP
      rw [if_pos r1]
      rfl
    unfold shiftS
    rw [if_pos ha]
    cases shT 1 1 T with
    | none => exact .inr rfl
    | some u => exact .inl rfl
  · obtain ⟨o, h1, h2⟩ := expand_law (p := p) (v := s.vars) (q := s.pars) (G := s.bound.reverse) k1' r1 hform (checkP_sz q3'.2) (by simp; omega) (by omega) (by omega)
    refine ⟨o, h1, fun hc => ?_⟩
    obtain ⟨h3, h4, h5⟩ := h2 hc
    exact ⟨typedP_of h3 (chkLL_each.2 ⟨q1, q2, q3, q3'.2⟩) (by simpa using h4), h5⟩
set_option maxRecDepth 100000 in
set_option maxHeartbeats 16000000 in
theorem TermExpands_calls (p : Pg) (s : Sc) (T : Tm) (ty : Ty) (U : Tm) (Uy : Ty) (L : List Tm) (ps ss cT cty cU cUy : List Value) (lv : Value) (w : World) (h00 : Snap) (H : Has w h00) (rp : PgR h00 p ps) (rs : ScR h00 s ss) (rT : TmR h00 T cT) (rty : TyR h00 ty cty) (rU : TmR h00 U cU) (rUy : TyR h00 Uy cUy) (rL : TmS h00 L lv) :
    Calls Tryz.prog 10 #[.agg (ps ++ ss ++ cT ++ cty ++ cU ++ cUy ++ [lv]).toArray] w fun e w' => e = .returned (.bool true) ∧ Below w.heap.size w w' := by
  have rT0 := rT
  obtain ⟨AT, cT, rfl, -, -, -, -, -⟩ := rT.open_
  have rU0 := rU
  obtain ⟨AU, cU, rfl, -, -, -, -, -⟩ := rU.open_
  have rty0 := rty
  obtain ⟨Aty, cty, rfl, -, -, -⟩ := rty.open_
  have rUy0 := rUy
  obtain ⟨AUy, cUy, rfl, -, -, -⟩ := rUy.open_
  have rp0 := rp
  have rs0 := rs
  obtain ⟨AL, cL, rfl, -⟩ := rL
  obtain ⟨v0, v1, Z2, n2, z2, Z3, n3, z3, Z4, n4, z4, rfl, ⟨At, kt, rfl, -⟩, ⟨Ac, kc, rfl, -⟩⟩ := rp
  obtain ⟨s0, s1, s2, rfl, ⟨A0, k0, rfl, -⟩, ⟨A1, k1, rfl, -⟩, ⟨A2, k2, rfl, -⟩⟩ := rs
  have hu28 := Tryz.underlying28
  have hu31 := Tryz.underlying31
  have hu34 := Tryz.underlying34
  have hu36 := Tryz.underlying36
  have hu82 := Tryz.underlying82
  clear rT rU rty rUy
  simp only [List.cons_append, List.nil_append]
  obtain ⟨a1, kb⟩ := alloc1 w (.cells #[.slice At p.types.length kt, .slice Ac p.consts.length kc, .slice Z2 n2 z2, .slice Z3 n3 z3, .slice Z4 n4 z4, .slice A0 s.vars.length k0, .slice A1 s.pars.length k1, .slice A2 s.bound.length k2, .int .i64 T.k, .int .i64 T.n, .string T.nm, .slice AT T.ar.length cT, .string ty.nm, .slice Aty ty.ar.length cty, .int .i64 U.k, .int .i64 U.n, .string U.nm, .slice AU U.ar.length cU, .string Uy.nm, .slice AUy Uy.ar.length cUy, .slice AL L.length cL] 82)
  obtain ⟨h, F, m0⟩ := row_snap (w0 := w) (H.below kb) a1 (Nat.le_refl _)
  replace F := Lib.hid F
  have sb0 := m0.sub
  replace H := m0.has
  replace rT0 := Lib.hid (rT0.sub sb0)
  replace rU0 := Lib.hid (rU0.sub sb0)
  replace rty0 := Lib.hid (rty0.sub sb0)
  replace rUy0 := Lib.hid (rUy0.sub sb0)
  replace rp0 := Lib.hid (rp0.sub sb0)
  replace rs0 := Lib.hid (rs0.sub sb0)
  clear a1 m0 sb0
  go_enter Tryz.func10, Tryz.ntmps10
  go_wp2_with fail
  refine (sane_calls _ h H).mono ?_
  rintro e w0 ⟨rfl, kk⟩
  replace kb := below_then kb kk kb.size
  have mb : Mk w h w0 h := Mk.refl (H.below kk)
  clear H kk
  have x0 := mb.has.cell _ _ (mb.sub.at_ _ _ (F.out 0 _ rfl))
  have x1 := mb.has.cell _ _ (mb.sub.at_ _ _ (F.out 1 _ rfl))
  have x2 := mb.has.cell _ _ (mb.sub.at_ _ _ (F.out 2 _ rfl))
  have x3 := mb.has.cell _ _ (mb.sub.at_ _ _ (F.out 3 _ rfl))
  have x4 := mb.has.cell _ _ (mb.sub.at_ _ _ (F.out 4 _ rfl))
  have x5 := mb.has.cell _ _ (mb.sub.at_ _ _ (F.out 5 _ rfl))
  have x6 := mb.has.cell _ _ (mb.sub.at_ _ _ (F.out 6 _ rfl))
  have x7 := mb.has.cell _ _ (mb.sub.at_ _ _ (F.out 7 _ rfl))
  have x8 := mb.has.cell _ _ (mb.sub.at_ _ _ (F.out 8 _ rfl))
  have x9 := mb.has.cell _ _ (mb.sub.at_ _ _ (F.out 9 _ rfl))
  have x10 := mb.has.cell _ _ (mb.sub.at_ _ _ (F.out 10 _ rfl))
  have x11 := mb.has.cell _ _ (mb.sub.at_ _ _ (F.out 11 _ rfl))
  have x12 := mb.has.cell _ _ (mb.sub.at_ _ _ (F.out 12 _ rfl))
  have x13 := mb.has.cell _ _ (mb.sub.at_ _ _ (F.out 13 _ rfl))
  have x14 := mb.has.cell _ _ (mb.sub.at_ _ _ (F.out 14 _ rfl))
  have x15 := mb.has.cell _ _ (mb.sub.at_ _ _ (F.out 15 _ rfl))
  have x16 := mb.has.cell _ _ (mb.sub.at_ _ _ (F.out 16 _ rfl))
  have x17 := mb.has.cell _ _ (mb.sub.at_ _ _ (F.out 17 _ rfl))
  have x18 := mb.has.cell _ _ (mb.sub.at_ _ _ (F.out 18 _ rfl))
  have x19 := mb.has.cell _ _ (mb.sub.at_ _ _ (F.out 19 _ rfl))
  have xl := mb.has.lt (mb.sub.at_ _ _ (F.out 0 _ rfl))
  go_wp2_with fail
  refine rgs 37 (fun V => Below w0.heap.size w0 V) [] rfl ((Below.refl _ _).drew) (fun hS => ?_)
  refine rgnf 0 11 (.bool true) rfl rfl (by kernel_rfl) (fun _ _ _ h => h) (by kernel_rfl) hS (fun V hV => by go_simp) ?_
  refine rgnf 1 12 (.bool false) rfl rfl (by kernel_rfl) (fun _ _ _ h => h) (by kernel_rfl) hS (fun V hV => by go_simp) ?_
  refine rgnf 2 13 (.bool false) rfl rfl (by kernel_rfl) (fun _ _ _ h => h) (by kernel_rfl) hS (fun V hV => by go_simp) ?_
  refine rgnf 3 14 (.pointer (some ⟨w.heap.size, 5, none⟩)) rfl rfl (by kernel_rfl) (fun _ _ _ h => h) (by kernel_rfl) hS (fun V hV => by go_simp) ?_
  refine rgnf 4 15 (.agg #[.slice A0 s.vars.length k0, .slice A1 s.pars.length k1, .slice A2 s.bound.length k2]) rfl rfl (by kernel_rfl) (fun _ _ _ h => h) (by kernel_rfl) hS (fun V hV => by have q0 := cell_below x5 hV; have q1 := cell_below x6 hV; have q2 := cell_below x7 hV; go_simp) ?_
  simp only [Act.put, List.setIfInBounds_toArray, List.set_cons_zero, List.set_cons_succ]
  refine rg1 5 rfl (by kernel_rfl) (by decide) (by kernel_rfl) (fun K hK => ?_)
  have hS0 := hS
  go_simp
  refine (wide_calls s _ _ h (mb.has.below hS0) (rs0.out.sub mb.sub)).mono ?_
  rintro e W7 ⟨rfl, k7⟩
  have mb := mb.world (mb.has.below (below_then hS0 k7 hS0.size))
  simp only []
  have kx := k7
  refine hK.out _ _ (below_then hS0 kx hS0.size) (fun hS => ?_)
  by_cases c1 : 60 < s.vars.length + s.pars.length + s.bound.length
  · rw [decide_eq_true c1] at *
    clear c1
    refine rgnf 6 17 (.bool true) rfl rfl (by kernel_rfl) (fun _ _ _ h => h) (by kernel_rfl) hS (fun V hV => by go_simp) ?_
    refine rgnf 7 18 (.bool true) rfl rfl (by kernel_rfl) (fun _ _ _ h => h) (by kernel_rfl) hS (fun V hV => by go_simp) ?_
    refine rgof 8 19 rfl rfl (by kernel_rfl) (fun _ _ _ h => h) (by kernel_rfl) hS ?_
    refine rgof 9 20 rfl rfl (by kernel_rfl) (fun _ _ _ h => h) (by kernel_rfl) hS ?_
    refine rgof 10 21 rfl rfl (by kernel_rfl) (fun _ _ _ h => h) (by kernel_rfl) hS ?_
    refine rgof 11 22 rfl rfl (by kernel_rfl) (fun _ _ _ h => h) (by kernel_rfl) hS ?_
    refine rgof 12 23 rfl rfl (by kernel_rfl) (fun _ _ _ h => h) (by kernel_rfl) hS ?_
    refine rgof 13 24 rfl rfl (by kernel_rfl) (fun _ _ _ h => h) (by kernel_rfl) hS ?_
    simp only [Act.put, List.setIfInBounds_toArray, List.set_cons_zero, List.set_cons_succ]
    refine rgnf 14 25 (.bool true) rfl rfl (by kernel_rfl) (fun _ _ _ h => h) (by kernel_rfl) hS (fun V hV => by go_simp) ?_
    refine rgnf 15 26 (.bool true) rfl rfl (by kernel_rfl) (fun _ _ _ h => h) (by kernel_rfl) hS (fun V hV => by go_simp) ?_
    refine rgof 16 27 rfl rfl (by kernel_rfl) (fun _ _ _ h => h) (by kernel_rfl) hS ?_
    refine rgof 17 28 rfl rfl (by kernel_rfl) (fun _ _ _ h => h) (by kernel_rfl) hS ?_
    refine rgof 18 29 rfl rfl (by kernel_rfl) (fun _ _ _ h => h) (by kernel_rfl) hS ?_
    refine rgof 19 30 rfl rfl (by kernel_rfl) (fun _ _ _ h => h) (by kernel_rfl) hS ?_
    refine rgof 20 31 rfl rfl (by kernel_rfl) (fun _ _ _ h => h) (by kernel_rfl) hS ?_
    simp only [Act.put, List.setIfInBounds_toArray, List.set_cons_zero, List.set_cons_succ]
    refine rgnf 21 32 (.bool true) rfl rfl (by kernel_rfl) (fun _ _ _ h => h) (by kernel_rfl) hS (fun V hV => by go_simp) ?_
    refine rgnf 22 33 (.bool true) rfl rfl (by kernel_rfl) (fun _ _ _ h => h) (by kernel_rfl) hS (fun V hV => by go_simp) ?_
    refine rgof 23 34 rfl rfl (by kernel_rfl) (fun _ _ _ h => h) (by kernel_rfl) hS ?_
    refine rgof 24 35 rfl rfl (by kernel_rfl) (fun _ _ _ h => h) (by kernel_rfl) hS ?_
    refine rgof 25 36 rfl rfl (by kernel_rfl) (fun _ _ _ h => h) (by kernel_rfl) hS ?_
    refine rgof 26 37 rfl rfl (by kernel_rfl) (fun _ _ _ h => h) (by kernel_rfl) hS ?_
    refine rgof 27 38 rfl rfl (by kernel_rfl) (fun _ _ _ h => h) (by kernel_rfl) hS ?_
    refine rgof 28 39 rfl rfl (by kernel_rfl) (fun _ _ _ h => h) (by kernel_rfl) hS ?_
    refine rgof 29 40 rfl rfl (by kernel_rfl) (fun _ _ _ h => h) (by kernel_rfl) hS ?_
    refine rgof 30 41 rfl rfl (by kernel_rfl) (fun _ _ _ h => h) (by kernel_rfl) hS ?_
    refine rgof 31 42 rfl rfl (by kernel_rfl) (fun _ _ _ h => h) (by kernel_rfl) hS ?_
    refine rgof 32 43 rfl rfl (by kernel_rfl) (fun _ _ _ h => h) (by kernel_rfl) hS ?_
    refine rgof 33 44 rfl rfl (by kernel_rfl) (fun _ _ _ h => h) (by kernel_rfl) hS ?_
    refine rgof 34 45 rfl rfl (by kernel_rfl) (fun _ _ _ h => h) (by kernel_rfl) hS ?_
    refine rgof 35 46 rfl rfl (by kernel_rfl) (fun _ _ _ h => h) (by kernel_rfl) hS ?_
    simp only [Act.put, List.setIfInBounds_toArray, List.set_cons_zero, List.set_cons_succ]
    refine rgnf 36 47 (.bool true) rfl rfl (by kernel_rfl) (fun _ _ _ h => h) (by kernel_rfl) hS (fun V hV => by go_simp) ?_
    refine rgd (by kernel_rfl) ?_
    simp only [Act.put, List.setIfInBounds_toArray, List.set_cons_zero, List.set_cons_succ]
    have kE := below_then kb hS kb.size
    go_wp2_with fail
    go_ret
    exact ⟨rfl, kE⟩
  rw [decide_eq_false c1] at *
  have hsum := Lib.hid c1
  clear c1
  refine rgnf 6 17 (.bool false) rfl rfl (by kernel_rfl) (fun _ _ _ h => h) (by kernel_rfl) hS (fun V hV => by go_simp) ?_
  refine rgnf 7 18 (.bool false) rfl rfl (by kernel_rfl) (fun _ _ _ h => h) (by kernel_rfl) hS (fun V hV => by go_simp) ?_
  refine rgnf 8 19 (.pointer (some ⟨w.heap.size, 0, none⟩)) rfl rfl (by kernel_rfl) (fun _ _ _ h => h) (by kernel_rfl) hS (fun V hV => by go_simp) ?_
  refine rgnf 9 20 (.agg #[.slice At p.types.length kt, .slice Ac p.consts.length kc, .slice Z2 n2 z2, .slice Z3 n3 z3, .slice Z4 n4 z4]) rfl rfl (by kernel_rfl) (fun _ _ _ h => h) (by kernel_rfl) hS (fun V hV => by have q0 := cell_below x0 hV; have q1 := cell_below x1 hV; have q2 := cell_below x2 hV; have q3 := cell_below x3 hV; have q4 := cell_below x4 hV; go_simp) ?_
  refine rgnf 10 21 (.pointer (some ⟨w.heap.size, 5, none⟩)) rfl rfl (by kernel_rfl) (fun _ _ _ h => h) (by kernel_rfl) hS (fun V hV => by go_simp) ?_
  refine rgnf 11 22 (.agg #[.slice A0 s.vars.length k0, .slice A1 s.pars.length k1, .slice A2 s.bound.length k2]) rfl rfl (by kernel_rfl) (fun _ _ _ h => h) (by kernel_rfl) hS (fun V hV => by have q0 := cell_below x5 hV; have q1 := cell_below x6 hV; have q2 := cell_below x7 hV; go_simp) ?_
  simp only [Act.put, List.setIfInBounds_toArray, List.set_cons_zero, List.set_cons_succ]
  refine rg1 12 rfl (by kernel_rfl) (by decide) (by kernel_rfl) (fun K hK => ?_)
  have hS0 := hS
  go_simp
  refine (Few_calls p s _ _ _ h mb.has (rp0.out.sub mb.sub) (rs0.out.sub mb.sub)).mono ?_
  rintro e W7 ⟨bf, rfl, -, k7⟩
  replace mb := mb.world (mb.has.below k7)
  simp only []
  have kx := k7
  refine hK.out _ _ (below_then hS0 kx hS0.size) (fun hS => ?_)
  cases bf
  · refine rgnf 13 24 (.bool true) rfl rfl (by kernel_rfl) (fun _ _ _ h => h) (by kernel_rfl) hS (fun V hV => by go_simp) ?_
    refine rgnf 14 25 (.bool true) rfl rfl (by kernel_rfl) (fun _ _ _ h => h) (by kernel_rfl) hS (fun V hV => by go_simp) ?_
    refine rgnf 15 26 (.bool true) rfl rfl (by kernel_rfl) (fun _ _ _ h => h) (by kernel_rfl) hS (fun V hV => by go_simp) ?_
    refine rgof 16 27 rfl rfl (by kernel_rfl) (fun _ _ _ h => h) (by kernel_rfl) hS ?_
    refine rgof 17 28 rfl rfl (by kernel_rfl) (fun _ _ _ h => h) (by kernel_rfl) hS ?_
    refine rgof 18 29 rfl rfl (by kernel_rfl) (fun _ _ _ h => h) (by kernel_rfl) hS ?_
    refine rgof 19 30 rfl rfl (by kernel_rfl) (fun _ _ _ h => h) (by kernel_rfl) hS ?_
    refine rgof 20 31 rfl rfl (by kernel_rfl) (fun _ _ _ h => h) (by kernel_rfl) hS ?_
    simp only [Act.put, List.setIfInBounds_toArray, List.set_cons_zero, List.set_cons_succ]
    refine rgnf 21 32 (.bool true) rfl rfl (by kernel_rfl) (fun _ _ _ h => h) (by kernel_rfl) hS (fun V hV => by go_simp) ?_
    refine rgnf 22 33 (.bool true) rfl rfl (by kernel_rfl) (fun _ _ _ h => h) (by kernel_rfl) hS (fun V hV => by go_simp) ?_
    refine rgof 23 34 rfl rfl (by kernel_rfl) (fun _ _ _ h => h) (by kernel_rfl) hS ?_
    refine rgof 24 35 rfl rfl (by kernel_rfl) (fun _ _ _ h => h) (by kernel_rfl) hS ?_
    refine rgof 25 36 rfl rfl (by kernel_rfl) (fun _ _ _ h => h) (by kernel_rfl) hS ?_
    refine rgof 26 37 rfl rfl (by kernel_rfl) (fun _ _ _ h => h) (by kernel_rfl) hS ?_
    refine rgof 27 38 rfl rfl (by kernel_rfl) (fun _ _ _ h => h) (by kernel_rfl) hS ?_
    refine rgof 28 39 rfl rfl (by kernel_rfl) (fun _ _ _ h => h) (by kernel_rfl) hS ?_
    refine rgof 29 40 rfl rfl (by kernel_rfl) (fun _ _ _ h => h) (by kernel_rfl) hS ?_
    refine rgof 30 41 rfl rfl (by kernel_rfl) (fun _ _ _ h => h) (by kernel_rfl) hS ?_
    refine rgof 31 42 rfl rfl (by kernel_rfl) (fun _ _ _ h => h) (by kernel_rfl) hS ?_
    refine rgof 32 43 rfl rfl (by kernel_rfl) (fun _ _ _ h => h) (by kernel_rfl) hS ?_
    refine rgof 33 44 rfl rfl (by kernel_rfl) (fun _ _ _ h => h) (by kernel_rfl) hS ?_
    refine rgof 34 45 rfl rfl (by kernel_rfl) (fun _ _ _ h => h) (by kernel_rfl) hS ?_
    refine rgof 35 46 rfl rfl (by kernel_rfl) (fun _ _ _ h => h) (by kernel_rfl) hS ?_
    simp only [Act.put, List.setIfInBounds_toArray, List.set_cons_zero, List.set_cons_succ]
    refine rgnf 36 47 (.bool true) rfl rfl (by kernel_rfl) (fun _ _ _ h => h) (by kernel_rfl) hS (fun V hV => by go_simp) ?_
    refine rgd (by kernel_rfl) ?_
    simp only [Act.put, List.setIfInBounds_toArray, List.set_cons_zero, List.set_cons_succ]
    have kE := below_then kb hS kb.size
    go_wp2_with fail
    go_ret
    exact ⟨rfl, kE⟩
  refine rgnf 13 24 (.bool false) rfl rfl (by kernel_rfl) (fun _ _ _ h => h) (by kernel_rfl) hS (fun V hV => by go_simp) ?_
  refine rgnf 14 25 (.bool false) rfl rfl (by kernel_rfl) (fun _ _ _ h => h) (by kernel_rfl) hS (fun V hV => by go_simp) ?_
  refine rgnf 15 26 (.bool false) rfl rfl (by kernel_rfl) (fun _ _ _ h => h) (by kernel_rfl) hS (fun V hV => by go_simp) ?_
  refine rgnf 16 27 (.pointer (some ⟨w.heap.size, 8, none⟩)) rfl rfl (by kernel_rfl) (fun _ _ _ h => h) (by kernel_rfl) hS (fun V hV => by go_simp) ?_
  refine rgnf 17 28 (.agg #[.int .i64 T.k, .int .i64 T.n, .string T.nm, .slice AT T.ar.length cT]) rfl rfl (by kernel_rfl) (fun _ _ _ h => h) (by kernel_rfl) hS (fun V hV => by have q0 := cell_below x8 hV; have q1 := cell_below x9 hV; have q2 := cell_below x10 hV; have q3 := cell_below x11 hV; go_simp) ?_
  simp only [Act.put, List.setIfInBounds_toArray, List.set_cons_zero, List.set_cons_succ]
  refine rg1 18 rfl (by kernel_rfl) (by decide) (by kernel_rfl) (fun K hK => ?_)
  have hS0 := hS
  go_simp
  obtain ⟨c1, d1⟩ := alloc1 W7 (.cells #[.int .i64 T.k, .int .i64 T.n, .string T.nm, .slice AT T.ar.length cT] 34)
  refine hK.out _ _ (below_then hS0 d1 hS0.size) (fun hS => ?_)
  obtain ⟨h2, r2, m2, -⟩ := one_TmS2 (w0 := w) (u := T) (mb.has.below d1) c1 (rT0.out.sub mb.sub) (Nat.le_trans kb.size hS0.size)
  obtain ⟨g8, hg8⟩ : ∃ g, W7.heap.size = g := ⟨_, rfl⟩
  rw [hg8] at r2 ⊢
  obtain ⟨W8, hW8⟩ : ∃ W8, W7.alloc (.cells #[.int .i64 T.k, .int .i64 T.n, .string T.nm, .slice AT T.ar.length cT] 34) = W8 := ⟨_, rfl⟩
  rw [hW8] at hS m2 ⊢
  replace mb : Mk w h W8 h2 := mb.then_ m2
  clear hW8 hg8 c1 d1 m2 hS0
  refine rg1 19 rfl (by kernel_rfl) (by decide) (by kernel_rfl) (fun K hK => ?_)
  have hS0 := hS
  go_simp
  refine (Brief_calls [T] _ _ h2 mb.has r2).mono ?_
  rintro e W7 ⟨bg, rfl, k7⟩
  replace mb := mb.world (mb.has.below k7)
  simp only []
  have kx := k7
  refine hK.out _ _ (below_then hS0 kx hS0.size) (fun hS => ?_)
  cases bg
  · refine rgnf 20 31 (.bool true) rfl rfl (by kernel_rfl) (fun _ _ _ h => h) (by kernel_rfl) hS (fun V hV => by go_simp) ?_
    refine rgnf 21 32 (.bool true) rfl rfl (by kernel_rfl) (fun _ _ _ h => h) (by kernel_rfl) hS (fun V hV => by go_simp) ?_
    refine rgnf 22 33 (.bool true) rfl rfl (by kernel_rfl) (fun _ _ _ h => h) (by kernel_rfl) hS (fun V hV => by go_simp) ?_
    refine rgof 23 34 rfl rfl (by kernel_rfl) (fun _ _ _ h => h) (by kernel_rfl) hS ?_
    refine rgof 24 35 rfl rfl (by kernel_rfl) (fun _ _ _ h => h) (by kernel_rfl) hS ?_
    refine rgof 25 36 rfl rfl (by kernel_rfl) (fun _ _ _ h => h) (by kernel_rfl) hS ?_
    refine rgof 26 37 rfl rfl (by kernel_rfl) (fun _ _ _ h => h) (by kernel_rfl) hS ?_
    refine rgof 27 38 rfl rfl (by kernel_rfl) (fun _ _ _ h => h) (by kernel_rfl) hS ?_
    refine rgof 28 39 rfl rfl (by kernel_rfl) (fun _ _ _ h => h) (by kernel_rfl) hS ?_
    refine rgof 29 40 rfl rfl (by kernel_rfl) (fun _ _ _ h => h) (by kernel_rfl) hS ?_
    refine rgof 30 41 rfl rfl (by kernel_rfl) (fun _ _ _ h => h) (by kernel_rfl) hS ?_
    refine rgof 31 42 rfl rfl (by kernel_rfl) (fun _ _ _ h => h) (by kernel_rfl) hS ?_
    refine rgof 32 43 rfl rfl (by kernel_rfl) (fun _ _ _ h => h) (by kernel_rfl) hS ?_
    refine rgof 33 44 rfl rfl (by kernel_rfl) (fun _ _ _ h => h) (by kernel_rfl) hS ?_
    refine rgof 34 45 rfl rfl (by kernel_rfl) (fun _ _ _ h => h) (by kernel_rfl) hS ?_
    refine rgof 35 46 rfl rfl (by kernel_rfl) (fun _ _ _ h => h) (by kernel_rfl) hS ?_
    simp only [Act.put, List.setIfInBounds_toArray, List.set_cons_zero, List.set_cons_succ]
    refine rgnf 36 47 (.bool true) rfl rfl (by kernel_rfl) (fun _ _ _ h => h) (by kernel_rfl) hS (fun V hV => by go_simp) ?_
    refine rgd (by kernel_rfl) ?_
    simp only [Act.put, List.setIfInBounds_toArray, List.set_cons_zero, List.set_cons_succ]
    have kE := below_then kb hS kb.size
    go_wp2_with fail
    go_ret
    exact ⟨rfl, kE⟩
  refine rgnf 20 31 (.bool false) rfl rfl (by kernel_rfl) (fun _ _ _ h => h) (by kernel_rfl) hS (fun V hV => by go_simp) ?_
  refine rgnf 21 32 (.bool false) rfl rfl (by kernel_rfl) (fun _ _ _ h => h) (by kernel_rfl) hS (fun V hV => by go_simp) ?_
  refine rgnf 22 33 (.bool false) rfl rfl (by kernel_rfl) (fun _ _ _ h => h) (by kernel_rfl) hS (fun V hV => by go_simp) ?_
  refine rgnf 23 34 (.pointer (some ⟨w.heap.size, 0, none⟩)) rfl rfl (by kernel_rfl) (fun _ _ _ h => h) (by kernel_rfl) hS (fun V hV => by go_simp) ?_
  refine rgnf 24 35 (.agg #[.slice At p.types.length kt, .slice Ac p.consts.length kc, .slice Z2 n2 z2, .slice Z3 n3 z3, .slice Z4 n4 z4]) rfl rfl (by kernel_rfl) (fun _ _ _ h => h) (by kernel_rfl) hS (fun V hV => by have q0 := cell_below x0 hV; have q1 := cell_below x1 hV; have q2 := cell_below x2 hV; have q3 := cell_below x3 hV; have q4 := cell_below x4 hV; go_simp) ?_
  refine rgnf 25 36 (.pointer (some ⟨w.heap.size, 5, none⟩)) rfl rfl (by kernel_rfl) (fun _ _ _ h => h) (by kernel_rfl) hS (fun V hV => by go_simp) ?_
  refine rgnf 26 37 (.agg #[.slice A0 s.vars.length k0, .slice A1 s.pars.length k1, .slice A2 s.bound.length k2]) rfl rfl (by kernel_rfl) (fun _ _ _ h => h) (by kernel_rfl) hS (fun V hV => by have q0 := cell_below x5 hV; have q1 := cell_below x6 hV; have q2 := cell_below x7 hV; go_simp) ?_
  refine rgnf 27 38 (.pointer (some ⟨w.heap.size, 18, none⟩)) rfl rfl (by kernel_rfl) (fun _ _ _ h => h) (by kernel_rfl) hS (fun V hV => by go_simp) ?_
  refine rgnf 28 39 (.agg #[.string Uy.nm, .slice AUy Uy.ar.length cUy]) rfl rfl (by kernel_rfl) (fun _ _ _ h => h) (by kernel_rfl) hS (fun V hV => by have q0 := cell_below x18 hV; have q1 := cell_below x19 hV; go_simp) ?_
  refine rgnf 30 41 (.pointer (some ⟨w.heap.size, 8, none⟩)) rfl rfl (by kernel_rfl) (fun _ _ _ h => h) (by kernel_rfl) hS (fun V hV => by go_simp) ?_
  refine rgnf 31 42 (.agg #[.int .i64 T.k, .int .i64 T.n, .string T.nm, .slice AT T.ar.length cT]) rfl rfl (by kernel_rfl) (fun _ _ _ h => h) (by kernel_rfl) hS (fun V hV => by have q0 := cell_below x8 hV; have q1 := cell_below x9 hV; have q2 := cell_below x10 hV; have q3 := cell_below x11 hV; go_simp) ?_
  refine rgnf 32 43 (.pointer (some ⟨w.heap.size, 12, none⟩)) rfl rfl (by kernel_rfl) (fun _ _ _ h => h) (by kernel_rfl) hS (fun V hV => by go_simp) ?_
  refine rgnf 33 44 (.agg #[.string ty.nm, .slice Aty ty.ar.length cty]) rfl rfl (by kernel_rfl) (fun _ _ _ h => h) (by kernel_rfl) hS (fun V hV => by have q0 := cell_below x12 hV; have q1 := cell_below x13 hV; go_simp) ?_
  simp only [Act.put, List.setIfInBounds_toArray, List.set_cons_zero, List.set_cons_succ]
  refine rg1 29 rfl (by kernel_rfl) (by decide) (by kernel_rfl) (fun K hK => ?_)
  have hS0 := hS
  go_simp
  refine (below_calls s Uy A0 A1 A2 k0 k1 k2 _ _ h2 mb.has (rs0.out.sub mb.sub).three.2.2 (rUy0.out.sub mb.sub) (by have := hsum.out; omega)).mono ?_
  rintro e W7 ⟨AB, cB, hb, rfl, rB, m7, k7⟩
  have hsz0 := hS0.size
  simp only []
  have kx := k7
  refine hK.out _ _ (below_then hS0 kx hS0.size) (fun hS => ?_)
  replace mb := mb.trans m7 (Nat.le_trans kb.size hsz0)
  have rO : Hid (ScR hb ⟨s.vars, s.pars, s.bound ++ [Uy]⟩ [.slice A0 s.vars.length k0, .slice A1 s.pars.length k1, .slice AB (s.bound.length + 1) cB]) := Lib.hid ⟨_, _, _, rfl, (rs0.out.sub mb.sub).three.1, (rs0.out.sub mb.sub).three.2.1, rB⟩
  clear m7 rB k7 kx hS0 hsz0
  obtain ⟨e1, he1⟩ : ∃ e, typedP p ⟨s.vars, s.pars, s.bound ++ [Uy]⟩ T ty = e := ⟨_, rfl⟩
  have hlaw := Lib.hid (show e1 = 0 → _ from fun q1 => expands_law (he1.trans q1) (by have := hsum.out; omega))
  replace he1 := Lib.hid he1
  refine rg1 34 rfl (by kernel_rfl) (by decide) (by kernel_rfl) (fun K hK => ?_)
  have hS0 := hS
  go_simp
  refine (Typed_calls p ⟨s.vars, s.pars, s.bound ++ [Uy]⟩ T ty _ _ _ _ _ hb mb.has (rp0.out.sub mb.sub) rO.out (rT0.out.sub mb.sub) (rty0.out.sub mb.sub) (by have := hsum.out; simp; omega)).mono ?_
  rintro e W7 ⟨rfl, k7⟩
  rw [he1.out]
  replace mb := mb.world (mb.has.below k7)
  simp only []
  have kx := k7
  refine hK.out _ _ (below_then hS0 kx hS0.size) (fun hS => ?_)
  cases q1 : e1 != 0
  rotate_left
  · refine rgnf 35 46 (.bool true) rfl rfl (by kernel_rfl) (fun _ _ _ h => h) (by kernel_rfl) hS (fun V hV => by go_simp) ?_
    refine rgnf 36 47 (.bool true) rfl rfl (by kernel_rfl) (fun _ _ _ h => h) (by kernel_rfl) hS (fun V hV => by go_simp) ?_
    refine rgd (by kernel_rfl) ?_
    simp only [Act.put, List.setIfInBounds_toArray, List.set_cons_zero, List.set_cons_succ]
    have kE := below_then kb hS kb.size
    go_wp2_with fail
    go_ret
    exact ⟨rfl, kE⟩
  have e1z := Lib.hid (show e1 = 0 by simpa using q1)
  refine rgnf 35 46 (.bool false) rfl rfl (by kernel_rfl) (fun _ _ _ h => h) (by kernel_rfl) hS (fun V hV => by go_simp) ?_
  refine rgnf 36 47 (.bool false) rfl rfl (by kernel_rfl) (fun _ _ _ h => h) (by kernel_rfl) hS (fun V hV => by go_simp) ?_
  refine rgd (by kernel_rfl) ?_
  simp only [Act.put, List.setIfInBounds_toArray, List.set_cons_zero, List.set_cons_succ]
  replace kb := below_then kb hS kb.size
  obtain ⟨hsh, o, io, hfin⟩ := hlaw.out e1z.out
  obtain ⟨XV, dXV⟩ : ∃ X, tmS o = X := ⟨_, rfl⟩
  obtain ⟨eV, deV⟩ : ∃ X, codeS o = X := ⟨_, rfl⟩
  obtain ⟨XT, dXT⟩ : ∃ X, tmS (shiftS T 1 1) = X := ⟨_, rfl⟩
  obtain ⟨eT, deT⟩ : ∃ X, codeS (shiftS T 1 1) = X := ⟨_, rfl⟩
  rw [dXV, deV, dXT, deT] at hfin
  rw [deT] at hsh
  have hr0 := Lib.hid (typedP_parts (he1.out.trans e1z.out)).1
  replace dXV := Lib.hid dXV
  replace deV := Lib.hid deV
  replace dXT := Lib.hid dXT
  replace deT := Lib.hid deT
  replace io := Lib.hid io
  replace hfin := Lib.hid hfin
  replace hsh := Lib.hid hsh
  clear hlaw he1 e1z q1 hS kx k7 rO
  clear x0 x1 x2 x3 x4 x5 x6 x7 x8 x9 x10 x11 x12 x13 x14 x15 x16 x17 x18 x19 xl
  have x18 := mb.has.cell _ _ (mb.sub.at_ _ _ (F.out 18 _ rfl))
  have x19 := mb.has.cell _ _ (mb.sub.at_ _ _ (F.out 19 _ rfl))
  have xl := mb.has.lt (mb.sub.at_ _ _ (F.out 18 _ rfl))
  go_wp2_with fail
  obtain ⟨WN, hWN⟩ : ∃ W, W7 = W := ⟨_, rfl⟩
  rw [hWN] at kb mb x18 x19 xl ⊢
  clear hWN
  refine rgs 10 (fun V => Below WN.heap.size WN V) [8] rfl ((Below.refl _ _).drew) (fun hS => ?_)
  refine rgt 1 (.pointer (some ⟨w.heap.size, 18, none⟩)) rfl (by kernel_rfl) (fun _ _ _ h => h) (by kernel_rfl) hS (fun V hV => by go_simp) ?_
  refine rgt 2 (.agg #[.string Uy.nm, .slice AUy Uy.ar.length cUy]) rfl (by kernel_rfl) (fun _ _ _ h => h) (by kernel_rfl) hS (fun V hV => by have q0 := cell_below x18 hV; have q1 := cell_below x19 hV; go_simp) ?_
  refine join_ (σ := Option Addr × Nat × Snap × Nat × Unit) 2 #[true, true, true, true, true, true, true, true, false, false] (fun s => [(50, .agg #[.int .i64 2, .int .i64 0, .string ⟨#[]⟩, .slice none 0 0]), (53, .tuple #[.agg #[.int .i64 XV.k, .int .i64 XV.n, .string XV.nm, .slice s.1 XV.ar.length s.2.1], .int .i64 eV]), (49, .tuple #[.agg #[.int .i64 XV.k, .int .i64 XV.n, .string XV.nm, .slice s.1 XV.ar.length s.2.1], .int .i64 eV]), (54, .agg #[.int .i64 XV.k, .int .i64 XV.n, .string XV.nm, .slice s.1 XV.ar.length s.2.1]), (55, .int .i64 eV), (4, .pointer (some ⟨s.2.2.2.1, 0, none⟩))]) (fun s W => Below WN.heap.size WN W ∧ (TmR s.2.2.1 XV [.int .i64 XV.k, .int .i64 XV.n, .string XV.nm, .slice s.1 XV.ar.length s.2.1] ∧ Mk w hb W s.2.2.1) ∧ (W.heap[s.2.2.2.1]? = some (.cells #[.int .i64 0, .int .i64 0, .string ⟨#[]⟩, .slice none 0 0] 34) ∧ WN.heap.size ≤ s.2.2.2.1) ∧ (Off s.2.2.1 (fun q => q = s.2.2.2.1)) ∧ True) ?_ (fun stc_0_3_7 => ?_)
  rotate_left
  · refine join_ (σ := Option Addr × Nat × Snap × Unit) 3 #[true, true, true, true, true, true, true, false, false, false] (fun s => [(50, .agg #[.int .i64 2, .int .i64 0, .string ⟨#[]⟩, .slice none 0 0]), (53, .tuple #[.agg #[.int .i64 XV.k, .int .i64 XV.n, .string XV.nm, .slice s.1 XV.ar.length s.2.1], .int .i64 eV]), (49, .tuple #[.agg #[.int .i64 XV.k, .int .i64 XV.n, .string XV.nm, .slice s.1 XV.ar.length s.2.1], .int .i64 eV]), (54, .agg #[.int .i64 XV.k, .int .i64 XV.n, .string XV.nm, .slice s.1 XV.ar.length s.2.1]), (55, .int .i64 eV)]) (fun s W => Below WN.heap.size WN W ∧ (TmR s.2.2.1 XV [.int .i64 XV.k, .int .i64 XV.n, .string XV.nm, .slice s.1 XV.ar.length s.2.1] ∧ Mk w hb W s.2.2.1) ∧ True) ?_ (fun stc_0_3 => ?_)
    · rintro ⟨AXV, cXV, hXV, ⟨⟩⟩ W ⟨hS, f3, -⟩
      dsimp only [putAll]
      refine rg1 7 rfl (by kernel_rfl) (by decide) (by kernel_rfl) (fun K hK => ?_)
      have hS0 := hS
      go_simp
      have kx := (alloc1 W (.cells #[.int .i64 0, .int .i64 0, .string ⟨#[]⟩, .slice none 0 0] 34)).2
      have kn := blk_new W (.cells #[.int .i64 0, .int .i64 0, .string ⟨#[]⟩, .slice none 0 0] 34)
      have kz : WN.heap.size ≤ W.heap.size := hS.size
      refine hK.out _ _ (below_then hS kx hS.size) (fun hS => ?_)
      exact norm_ (by kernel_rfl) (stc_0_3_7 (AXV, cXV, hXV, W.heap.size, ()) _ ⟨hS, ⟨f3.1, f3.2.world (f3.2.has.below kx)⟩, ⟨kn, kz⟩, f3.2.has.off_new (fun k e => by rw [e]; exact Nat.le_refl _), trivial⟩)
    refine join_ (σ := Nat × Unit) 6 #[true, true, true, false, false, false, false, true, false, false] (fun s => [(50, .agg #[.int .i64 2, .int .i64 0, .string ⟨#[]⟩, .slice none 0 0]), (4, .pointer (some ⟨s.1, 0, none⟩))]) (fun s W => Below WN.heap.size WN W ∧ (W.heap[s.1]? = some (.cells #[.int .i64 0, .int .i64 0, .string ⟨#[]⟩, .slice none 0 0] 34) ∧ WN.heap.size ≤ s.1) ∧ True) ?_ (fun stc_0_7 => ?_)
    · rintro ⟨g7, ⟨⟩⟩ W ⟨hS, f7, -⟩
      dsimp only [putAll]
      refine rg1 3 rfl (by kernel_rfl) (by decide) (by kernel_rfl) (fun K hK => ?_)
      have hS0 := hS
      go_simp
      have hS_size := hS.size
      refine (Eta_calls B0 Uy o _ _ W _ (mb.has.below hS) (bdT_R (by omega) (TmS_nil _)) (rUy0.out.sub mb.sub) io.out).mono ?_
      rintro e W7 ⟨k7, cs7, hXV, rfl, r7, m7⟩
      rw [dXV.out] at r7
      obtain ⟨AXV, cXV, rfl, _⟩ := r7.open_
      rw [deV.out]
      simp only []
      have kx := k7
      refine hK.out _ _ (below_then hS kx hS.size) (fun hS => ?_)
      refine rgt 4 (.tuple #[.agg #[.int .i64 XV.k, .int .i64 XV.n, .string XV.nm, .slice AXV XV.ar.length cXV], .int .i64 eV]) rfl (by kernel_rfl) (fun _ _ _ h => h) (by kernel_rfl) hS (fun V hV => by go_simp) ?_
      refine rgt 5 (.agg #[.int .i64 XV.k, .int .i64 XV.n, .string XV.nm, .slice AXV XV.ar.length cXV]) rfl (by kernel_rfl) (fun _ _ _ h => h) (by kernel_rfl) hS (fun V hV => by go_simp) ?_
      refine rgp 6 (.int .i64 eV) rfl (by kernel_rfl) (fun _ _ _ h => h) (by kernel_rfl) (fun V => by go_simp) ?_
      exact norm_ (by kernel_rfl) (stc_0_3_7 (AXV, cXV, hXV, g7, ()) _ ⟨hS, ⟨r7, m7.from_ (Nat.le_trans kb.size hS_size)⟩, ⟨box_below f7.1 kx, f7.2⟩, m7.off (mb.has.off_new (S := fun q => q = g7) (fun k e => by rw [e]; exact f7.2)) (fun k e => by rw [e]; exact blk_lt f7.1), trivial⟩)
    refine join_ (σ := Unit) 7 #[true, true, true, false, false, false, false, false, false, false] (fun s => [(50, .agg #[.int .i64 2, .int .i64 0, .string ⟨#[]⟩, .slice none 0 0])]) (fun s W => Below WN.heap.size WN W ∧ True) ?_ (fun stc_0 => ?_)
    · rintro ⟨⟩ W ⟨hS, -⟩
      dsimp only [putAll]
      refine rg2 3 7 rfl rfl (by kernel_rfl) (by decide) (by decide) (by kernel_rfl) (by kernel_rfl) (fun K hK => ?_) (fun K hK => ?_)
      · have hS0 := hS
        go_simp
        have hS_size := hS.size
        refine (Eta_calls B0 Uy o _ _ W _ (mb.has.below hS) (bdT_R (by omega) (TmS_nil _)) (rUy0.out.sub mb.sub) io.out).mono ?_
        rintro e W7 ⟨k7, cs7, hXV, rfl, r7, m7⟩
        rw [dXV.out] at r7
        obtain ⟨AXV, cXV, rfl, _⟩ := r7.open_
        rw [deV.out]
        simp only []
        have kx := k7
        refine hK.out _ _ (below_then hS kx hS.size) (fun hS => ?_)
        refine rgt 4 (.tuple #[.agg #[.int .i64 XV.k, .int .i64 XV.n, .string XV.nm, .slice AXV XV.ar.length cXV], .int .i64 eV]) rfl (by kernel_rfl) (fun _ _ _ h => h) (by kernel_rfl) hS (fun V hV => by go_simp) ?_
        refine rgt 5 (.agg #[.int .i64 XV.k, .int .i64 XV.n, .string XV.nm, .slice AXV XV.ar.length cXV]) rfl (by kernel_rfl) (fun _ _ _ h => h) (by kernel_rfl) hS (fun V hV => by go_simp) ?_
        refine rgp 6 (.int .i64 eV) rfl (by kernel_rfl) (fun _ _ _ h => h) (by kernel_rfl) (fun V => by go_simp) ?_
        exact norm_ (by kernel_rfl) (stc_0_3 (AXV, cXV, hXV, ()) _ ⟨hS, ⟨r7, m7.from_ (Nat.le_trans kb.size hS_size)⟩, trivial⟩)
      · have hS0 := hS
        go_simp
        have kx := (alloc1 W (.cells #[.int .i64 0, .int .i64 0, .string ⟨#[]⟩, .slice none 0 0] 34)).2
        have kn := blk_new W (.cells #[.int .i64 0, .int .i64 0, .string ⟨#[]⟩, .slice none 0 0] 34)
        have kz : WN.heap.size ≤ W.heap.size := hS.size
        refine hK.out _ _ (below_then hS kx hS.size) (fun hS => ?_)
        exact norm_ (by kernel_rfl) (stc_0_7 (W.heap.size, ()) _ ⟨hS, ⟨kn, kz⟩, trivial⟩)
    refine join_ (σ := Nat × Unit) 7 #[false, true, true, false, false, false, false, true, false, false] (fun s => [(4, .pointer (some ⟨s.1, 0, none⟩))]) (fun s W => Below WN.heap.size WN W ∧ (W.heap[s.1]? = some (.cells #[.int .i64 0, .int .i64 0, .string ⟨#[]⟩, .slice none 0 0] 34) ∧ WN.heap.size ≤ s.1) ∧ True) ?_ (fun stc_7 => ?_)
    · rintro ⟨g7, ⟨⟩⟩ W ⟨hS, f7, -⟩
      dsimp only [putAll]
      refine rg1 0 rfl (by kernel_rfl) (by decide) (by kernel_rfl) (fun K hK => ?_)
      have hS0 := hS
      go_simp
      refine (bound_calls 0 _ none 0 0 rfl _).mono ?_
      rintro e W7 ⟨rfl, k7⟩
      simp only []
      have kx := k7
      refine hK.out _ _ (below_then hS kx hS.size) (fun hS => ?_)
      exact norm_ (by kernel_rfl) (stc_0_7 (g7, ()) _ ⟨hS, ⟨box_below f7.1 kx, f7.2⟩, trivial⟩)
    refine rg2 0 7 rfl rfl (by kernel_rfl) (by decide) (by decide) (by kernel_rfl) (by kernel_rfl) (fun K hK => ?_) (fun K hK => ?_)
    · have hS0 := hS
      go_simp
      refine (bound_calls 0 _ none 0 0 rfl _).mono ?_
      rintro e W7 ⟨rfl, k7⟩
      simp only []
      have kx := k7
      refine hK.out _ _ (below_then hS kx hS.size) (fun hS => ?_)
      exact norm_ (by kernel_rfl) (stc_0 () _ ⟨hS, trivial⟩)
    · have hS0 := hS
      go_simp
      have kx := (alloc1 WN.drew (.cells #[.int .i64 0, .int .i64 0, .string ⟨#[]⟩, .slice none 0 0] 34)).2
      have kn := blk_new WN.drew (.cells #[.int .i64 0, .int .i64 0, .string ⟨#[]⟩, .slice none 0 0] 34)
      have kz : WN.heap.size ≤ WN.drew.heap.size := hS.size
      refine hK.out _ _ (below_then hS kx hS.size) (fun hS => ?_)
      exact norm_ (by kernel_rfl) (stc_7 (WN.drew.heap.size, ()) _ ⟨hS, ⟨kn, kz⟩, trivial⟩)
  rintro ⟨AXV, cXV, hXV, g7, ⟨⟩⟩ WR ⟨hS, f3, f7, p3_7, -⟩
  dsimp only [putAll]
  try dsimp only at f3
  try dsimp only at f7
  try dsimp only at p3_7
  have xg := box4 f7.1
  have zg := blk_frozen f7.1
  have lg := blk_lt f7.1
  refine rgl 8 rfl (by kernel_rfl) (by decide) (by kernel_rfl) (fun K hK => ?_)
  go_simp
  refine hK.out _ _ ?_
  refine rgp 9 (.int .i64 eV) rfl (by kernel_rfl) (fun _ _ _ h => h) (by kernel_rfl) (fun V => by go_simp) ?_
  refine rgd (by kernel_rfl) ?_
  obtain ⟨WG, hWF, bF, kpF⟩ : ∃ WF, ((((WR.setCell ⟨g7, 0, none⟩ (.int .i64 XV.k)).setCell ⟨g7, 1, none⟩ (.int .i64 XV.n)).setCell ⟨g7, 2, none⟩ (.string XV.nm)).setCell ⟨g7, 3, none⟩ (.slice AXV XV.ar.length cXV)) = WF ∧
      WF.heap[g7]? = some (.cells #[.int .i64 XV.k, .int .i64 XV.n, .string XV.nm, .slice AXV XV.ar.length cXV] 34) ∧ Kp (fun q => q = g7) WR WF := ⟨_, rfl, (set4 f7.1 _ _ _ _).1, (set4 f7.1 _ _ _ _).2⟩
  rw [hWF]
  have HF := f3.2.has.kp kpF p3_7
  have kE := below_then kb hS kb.size
  have kF : Below w.heap.size w WG := ((Kp.of_below (fun q => q = g7) kE).trans kpF (fun i hi e => e)).below (fun i hi (e : i = g7) => by have h1 := f7.2; have h2 := kb.size; omega)
  obtain ⟨hg, BV, mc⟩ := BoxM.mk_ (w0 := w) HF bF f3.1 (Nat.le_trans kb.size f7.2)
  have ss := f3.2.sub.trans mc.sub
  replace mc := (mb.then_ (f3.2.world HF)).then_ mc
  clear hWF xg zg lg HF kE kpF bF ss hS kb mb f3 f7 p3_7
  have kb := kF
  have mb := mc
  clear kF mc
  clear x18 x19 xl
  cases zV : eV != 0
  rotate_left
  · go_wp2_with fail
    go_ret
    exact ⟨rfl, kb⟩
  obtain ⟨htv, hfin2⟩ := hfin.out (by simpa using zV)
  replace htv := Lib.hid htv
  replace hfin2 := Lib.hid hfin2
  clear hfin
  have x0 := mb.has.cell _ _ (mb.sub.at_ _ _ (F.out 0 _ rfl))
  have x1 := mb.has.cell _ _ (mb.sub.at_ _ _ (F.out 1 _ rfl))
  have x2 := mb.has.cell _ _ (mb.sub.at_ _ _ (F.out 2 _ rfl))
  have x3 := mb.has.cell _ _ (mb.sub.at_ _ _ (F.out 3 _ rfl))
  have x4 := mb.has.cell _ _ (mb.sub.at_ _ _ (F.out 4 _ rfl))
  have x5 := mb.has.cell _ _ (mb.sub.at_ _ _ (F.out 5 _ rfl))
  have x6 := mb.has.cell _ _ (mb.sub.at_ _ _ (F.out 6 _ rfl))
  have x7 := mb.has.cell _ _ (mb.sub.at_ _ _ (F.out 7 _ rfl))
  have x18 := mb.has.cell _ _ (mb.sub.at_ _ _ (F.out 18 _ rfl))
  have x19 := mb.has.cell _ _ (mb.sub.at_ _ _ (F.out 19 _ rfl))
  have xl := mb.has.lt (mb.sub.at_ _ _ (F.out 0 _ rfl))
  obtain ⟨Ad, cd, de0, de1, de2, de3, rd⟩ := BV.at_
  have dx0 := mb.has.cell _ _ de0
  have dx1 := mb.has.cell _ _ de1
  have dx2 := mb.has.cell _ _ de2
  have dx3 := mb.has.cell _ _ de3
  have dl := mb.has.lt de0
  clear de0 de1 de2 de3
  go_wp2_with fail
  refine rgs 12 (fun V => Below WG.heap.size WG V) [] rfl ((Below.refl _ _).drew) (fun hS => ?_)
  refine rgnf 0 58 (.pointer (some ⟨w.heap.size, 0, none⟩)) rfl rfl (by kernel_rfl) (fun _ _ _ h => h) (by kernel_rfl) hS (fun V hV => by go_simp) ?_
  refine rgnf 1 59 (.agg #[.slice At p.types.length kt, .slice Ac p.consts.length kc, .slice Z2 n2 z2, .slice Z3 n3 z3, .slice Z4 n4 z4]) rfl rfl (by kernel_rfl) (fun _ _ _ h => h) (by kernel_rfl) hS (fun V hV => by have q0 := cell_below x0 hV; have q1 := cell_below x1 hV; have q2 := cell_below x2 hV; have q3 := cell_below x3 hV; have q4 := cell_below x4 hV; go_simp) ?_
  refine rgnf 2 60 (.pointer (some ⟨w.heap.size, 5, none⟩)) rfl rfl (by kernel_rfl) (fun _ _ _ h => h) (by kernel_rfl) hS (fun V hV => by go_simp) ?_
  refine rgnf 3 61 (.agg #[.slice A0 s.vars.length k0, .slice A1 s.pars.length k1, .slice A2 s.bound.length k2]) rfl rfl (by kernel_rfl) (fun _ _ _ h => h) (by kernel_rfl) hS (fun V hV => by have q0 := cell_below x5 hV; have q1 := cell_below x6 hV; have q2 := cell_below x7 hV; go_simp) ?_
  refine rgnf 4 62 (.pointer (some ⟨w.heap.size, 18, none⟩)) rfl rfl (by kernel_rfl) (fun _ _ _ h => h) (by kernel_rfl) hS (fun V hV => by go_simp) ?_
  refine rgnf 5 63 (.agg #[.string Uy.nm, .slice AUy Uy.ar.length cUy]) rfl rfl (by kernel_rfl) (fun _ _ _ h => h) (by kernel_rfl) hS (fun V hV => by have q0 := cell_below x18 hV; have q1 := cell_below x19 hV; go_simp) ?_
  refine rgnf 7 65 (.agg #[.int .i64 XV.k, .int .i64 XV.n, .string XV.nm, .slice Ad XV.ar.length cd]) rfl rfl (by kernel_rfl) (fun _ _ _ h => h) (by kernel_rfl) hS (fun V hV => by have q0 := cell_below dx0 hV; have q1 := cell_below dx1 hV; have q2 := cell_below dx2 hV; have q3 := cell_below dx3 hV; go_simp) ?_
  refine rgnf 8 66 (.pointer (some ⟨w.heap.size, 18, none⟩)) rfl rfl (by kernel_rfl) (fun _ _ _ h => h) (by kernel_rfl) hS (fun V hV => by go_simp) ?_
  refine rgnf 9 67 (.agg #[.string Uy.nm, .slice AUy Uy.ar.length cUy]) rfl rfl (by kernel_rfl) (fun _ _ _ h => h) (by kernel_rfl) hS (fun V hV => by have q0 := cell_below x18 hV; have q1 := cell_below x19 hV; go_simp) ?_
  simp only [Act.put, List.setIfInBounds_toArray, List.set_cons_zero, List.set_cons_succ]
  refine rg1 6 rfl (by kernel_rfl) (by decide) (by kernel_rfl) (fun K hK => ?_)
  have hS0 := hS
  go_simp
  refine (below_calls s Uy A0 A1 A2 k0 k1 k2 _ _ _ (mb.has.below hS0) (rs0.out.sub mb.sub).three.2.2 (rUy0.out.sub mb.sub) (by have := hsum.out; omega)).mono ?_
  rintro e W7 ⟨AC, cC, hc, rfl, rC, m7, k7⟩
  simp only []
  have kx := k7
  refine hK.out _ _ (below_then hS0 kx hS0.size) (fun hS => ?_)
  have m8 := m7.from_ (w0 := WG) (Nat.le_refl _)
  have rO : Hid (ScR hc ⟨s.vars, s.pars, s.bound ++ [Uy]⟩ [.slice A0 s.vars.length k0, .slice A1 s.pars.length k1, .slice AC (s.bound.length + 1) cC]) := Lib.hid ⟨_, _, _, rfl, ((rs0.out.sub mb.sub).sub m7.sub).three.1, ((rs0.out.sub mb.sub).sub m7.sub).three.2.1, rC⟩
  have sm := m7.sub
  replace mb := mb.trans m8 kb.size
  replace BV := BV.sub sm
  replace rd := rd.sub sm
  clear m7 m8 rC k7 kx hS0
  refine rg1 10 rfl (by kernel_rfl) (by decide) (by kernel_rfl) (fun K hK => ?_)
  have hS0 := hS
  go_simp
  refine (Typed_calls p ⟨s.vars, s.pars, s.bound ++ [Uy]⟩ XV Uy _ _ _ _ _ hc mb.has (rp0.out.sub mb.sub) rO.out rd (rUy0.out.sub mb.sub) (by have := hsum.out; simp; omega)).mono ?_
  rintro e W7 ⟨rfl, k7⟩
  rw [htv.out]
  replace mb := mb.world (mb.has.below k7)
  simp only []
  have kx := k7
  refine hK.out _ _ (below_then hS0 kx hS0.size) (fun hS => ?_)
  refine rgnf 11 69 (.bool false) rfl rfl (by kernel_rfl) (fun _ _ _ h => h) (by kernel_rfl) hS (fun V hV => by go_simp) ?_
  refine rgd (by kernel_rfl) ?_
  simp only [Act.put, List.setIfInBounds_toArray, List.set_cons_zero, List.set_cons_succ]
  replace kb := below_then kb hS kb.size
  clear hS kx k7 rO htv sm
  clear dx0 dx1 dx2 dx3  dl rd
  clear x0 x1 x2 x3 x4 x5 x6 x7 x18 x19 xl
  obtain ⟨WM, hWM⟩ : ∃ W, W7 = W := ⟨_, rfl⟩
  rw [hWM] at kb mb ⊢
  clear hWM
  have x8 := mb.has.cell _ _ (mb.sub.at_ _ _ (F.out 8 _ rfl))
  have x9 := mb.has.cell _ _ (mb.sub.at_ _ _ (F.out 9 _ rfl))
  have x10 := mb.has.cell _ _ (mb.sub.at_ _ _ (F.out 10 _ rfl))
  have x11 := mb.has.cell _ _ (mb.sub.at_ _ _ (F.out 11 _ rfl))
  have xl := mb.has.lt (mb.sub.at_ _ _ (F.out 8 _ rfl))
  go_wp2_with fail
  refine (Shift_calls T 1 1 _ _ _ mb.has (rT0.out.sub mb.sub) (fun hh => by have := ((rawP_zero T).1 hh).1.1; omega)).mono ?_
  rintro e wA ⟨kk, cs1, hh, rfl, r1, m1⟩
  rw [dXT.out] at r1
  rw [deT.out]
  obtain ⟨PA, qA, rfl, -, -, -, -, -⟩ := r1.open_
  have mm := mb.trans m1 kb.size
  replace kb := below_then kb kk kb.size
  replace BV := BV.sub m1.sub
  clear m1 kk
  clear x8 x9 x10 x11 xl
  rcases hsh.out with zT | zT
  rotate_left
  · subst zT
    go_wp2_with fail
    go_ret
    first | exact ⟨rfl, kb⟩ | exact ⟨rfl, kb.alloc kb.size _⟩
  obtain ⟨o2, i2, hres⟩ := hfin2.out zT
  replace i2 := Lib.hid i2
  replace hres := Lib.hid hres
  clear hfin2 hsh
  subst zT
  obtain ⟨Ad, cd, de0, de1, de2, de3, rd⟩ := BV.at_
  have dx0 := mm.has.cell _ _ de0
  have dx1 := mm.has.cell _ _ de1
  have dx2 := mm.has.cell _ _ de2
  have dx3 := mm.has.cell _ _ de3
  have dl := mm.has.lt de0
  clear de0 de1 de2 de3
  go_wp2_with fail
  clear dx0 dx1 dx2 dx3  dl 
  have bx := blk_new wA (.cells #[.int .i64 XT.k, .int .i64 XT.n, .string XT.nm, .slice PA XT.ar.length qA] 34)
  have kx := (alloc1 wA (.cells #[.int .i64 XT.k, .int .i64 XT.n, .string XT.nm, .slice PA XT.ar.length qA] 34)).2
  obtain ⟨hn, BT, mn⟩ := BoxM.mk_ (w0 := w) (mm.has.below kx) bx r1 kb.size
  obtain ⟨WN, hWN⟩ : ∃ WN, wA.alloc (.cells #[.int .i64 XT.k, .int .i64 XT.n, .string XT.nm, .slice PA XT.ar.length qA] 34) = WN := ⟨_, rfl⟩
  rw [hWN] at kx mn ⊢
  replace kb := below_then kb kx kb.size
  have sn := mn.sub
  have mb : Mk w h WN hn := mm.then_ mn
  clear hWN bx kx mn
  replace BV := BV.sub sn
  replace r1 := r1.sub sn
  replace rd := rd.sub sn
  clear sn
  clear mm
  refine (Subst_calls XT XV o2 _ _ _ _ mb.has r1 rd i2.out).mono ?_
  rintro e wB ⟨kk, cs1, hh, rfl, r2, m1⟩
  obtain ⟨XA, dXA⟩ : ∃ X, tmS o2 = X := ⟨_, rfl⟩
  obtain ⟨eA, deA⟩ : ∃ X, codeS o2 = X := ⟨_, rfl⟩
  rw [dXA] at r2
  rw [deA]
  have hres2 := hres.out
  rw [dXA, deA] at hres2
  clear dXA deA hres
  obtain ⟨PB, qB, rfl, -, -, -, -, -⟩ := r2.open_
  have mm := mb.trans m1 kb.size
  replace kb := below_then kb kk kb.size
  clear m1 kk rd
  rcases hres2 with ⟨zA, hS2⟩ | zA | zA
  · subst zA
    replace hS2 := Lib.hid hS2
    have x8 := mm.has.cell _ _ (mm.sub.at_ _ _ (F.out 8 _ rfl))
    have x9 := mm.has.cell _ _ (mm.sub.at_ _ _ (F.out 9 _ rfl))
    have x10 := mm.has.cell _ _ (mm.sub.at_ _ _ (F.out 10 _ rfl))
    have x11 := mm.has.cell _ _ (mm.sub.at_ _ _ (F.out 11 _ rfl))
    have xl := mm.has.lt (mm.sub.at_ _ _ (F.out 8 _ rfl))
    go_wp2_with fail
    clear x8 x9 x10 x11 xl
    have bx := blk_new wB (.cells #[.int .i64 XA.k, .int .i64 XA.n, .string XA.nm, .slice PB XA.ar.length qB] 34)
    have kx := (alloc1 wB (.cells #[.int .i64 XA.k, .int .i64 XA.n, .string XA.nm, .slice PB XA.ar.length qB] 34)).2
    obtain ⟨hn, BA, mn⟩ := BoxM.mk_ (w0 := w) (mm.has.below kx) bx r2 kb.size
    obtain ⟨WN, hWN⟩ : ∃ WN, wB.alloc (.cells #[.int .i64 XA.k, .int .i64 XA.n, .string XA.nm, .slice PB XA.ar.length qB] 34) = WN := ⟨_, rfl⟩
    rw [hWN] at kx mn ⊢
    replace kb := below_then kb kx kb.size
    have sn := mn.sub
    have mb : Mk w h WN hn := mm.then_ mn
    clear hWN bx kx mn
    replace r2 := r2.sub sn
    clear sn
    refine (Same_calls XA T _ _ _ _ mb.has r2 (rT0.out.sub mb.sub)).mono ?_
    rintro e wF ⟨rfl, kF⟩
    rw [hS2.out]
    replace kb := below_then kb kF kb.size
    go_wp2_with fail
    go_ret
    exact ⟨rfl, kb⟩
  · subst zA
    go_wp2_with fail
    go_ret
    first | exact ⟨rfl, kb⟩ | exact ⟨rfl, kb.alloc kb.size _⟩
  · subst zA
    go_wp2_with fail
    go_ret
    first | exact ⟨rfl, kb⟩ | exact ⟨rfl, kb.alloc kb.size _⟩
end Go.Proofs.YtpgbeapojjinmaaGreatDoor
