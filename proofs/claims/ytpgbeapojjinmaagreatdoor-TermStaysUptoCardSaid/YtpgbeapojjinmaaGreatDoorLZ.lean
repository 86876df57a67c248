/- The statement TermStays: its walk. -/
import Derived.Test.YtpgbeapojjinmaaGreatDoorWK
import Derived.Test.YtpgbeapojjinmaaGreatDoorPX
set_option linter.unusedVariables false
set_option linter.unusedSimpArgs false
namespace Go.Proofs.YtpgbeapojjinmaaGreatDoor
open Go.RowKit Go.Shelf Go.Proofs.YtpgbeapojjinmaaGreatDoorW.PrintLast
theorem typedP_parts {p : Pg} {s : Sc} {t : Tm} {ty : Ty} (h : typedP p s t ty = 0) : rawP t = 0 ∧ chkLL p.types [s.vars, s.pars, s.bound, [ty]] = 0 ∧ okT p s.vars s.pars s.bound.reverse t ty = true := by
  have h1 : rawP t = 0 := by
    unfold typedP at h
    split at h
    · assumption
    · exact absurd h ‹_›
  rw [← can_ok p s.vars s.pars t.sz t s.bound ty (Nat.le_refl _) (raw_parts h1).2.1]
  unfold typedP at h
  rw [if_pos h1] at h
  split at h
  · rename_i h2
    split at h
    · exact ⟨h1, h2, ‹_›⟩
    · cases h
  · exact absurd h ‹_›
theorem typedP_of {p : Pg} {s : Sc} {t : Tm} {ty : Ty} (h1 : rawP t = 0) (h2 : chkLL p.types [s.vars, s.pars, s.bound, [ty]] = 0) (h3 : okT p s.vars s.pars s.bound.reverse t ty = true) : typedP p s t ty = 0 := by
  rw [← can_ok p s.vars s.pars t.sz t s.bound ty (Nat.le_refl _) (raw_parts h1).2.1] at h3
  unfold typedP
  rw [if_pos h1, if_pos h2, if_pos h3]
theorem chkLL_each {ss : List ByteArray} {a b c : List Ty} {y : Ty} : chkLL ss [a, b, c, [y]] = 0 ↔ chkL ss a = 0 ∧ chkL ss b = 0 ∧ chkL ss c = 0 ∧ checkP ss y = 0 := by
  simp only [chkLL, chkL]
  by_cases h1 : chkL ss a = 0
  · by_cases h2 : chkL ss b = 0
    · by_cases h3 : chkL ss c = 0
      · by_cases h4 : checkP ss y = 0 <;> simp [h1, h2, h3, h4]
      · simp [h1, h2, h3]
    · simp [h1, h2]
  · simp [h1]
theorem TyS_nil' (h : Snap) : TyS h [] (.slice none 0 0) := ⟨none, 0, rfl, Nat.le_refl _, by simp [lim], trivial⟩
theorem stays_law {p : Pg} {s : Sc} {T U : Tm} {ty Uy : Ty} {L : List Tm} (hT : typedP p ⟨s.vars, s.pars, s.bound ++ [Uy]⟩ T ty = 0) (hl : s.vars.length + s.pars.length + s.bound.length ≤ 1000) :
    rawP T = 0 ∧ (typedP p s U Uy = 0 → rawP U = 0 ∧ ∃ o o2, SubstIs T U o ∧ AppAns (.mk 5 0 ⟨#[]⟩ [T]) [U] o2 ∧ (codeS o = 0 → typedP p s (tmS o) ty = 0 ∧ sameV (tmS o) (tmS o) = true) ∧ (codeS o2 = 0 → codeS o = 0 ∧ tmS o2 = tmS o)) ∧
    (L.length = s.vars.length → (∀ (j : Nat) (x : Tm) (A : Ty), L[j]? = some x → s.vars[j]? = some A → typedP p ⟨[], s.pars, []⟩ x A = 0) → ∃ o, PutAns T L o ∧ (codeS o = 0 → typedP p ⟨[], s.pars, s.bound ++ [Uy]⟩ (tmS o) ty = 0)) := by
  obtain ⟨r1, c1, k1⟩ := typedP_parts hT
  obtain ⟨q1, q2, q3, q4⟩ := chkLL_each.1 c1
  have k1' : okT p s.vars s.pars (Uy :: s.bound.reverse) T ty = true := by simpa using k1
  have q3' : chkL p.types s.bound = 0 := by
    have : chkL p.types (s.bound ++ [Uy]) = 0 := q3
    rw [chkL_append] at this
    by_cases h : chkL p.types s.bound = 0
    · exact h
    · rw [if_neg h] at this; exact absurd this h
  refine ⟨r1, fun hU => ?_, fun hlen hL => ?_⟩
  · obtain ⟨r2, c2, k2⟩ := typedP_parts hU
    obtain ⟨o, o2, i1, i2, h1, h2⟩ := apply_law (p := p) (v := s.vars) (q := s.pars) (G := s.bound.reverse) k1' k2 r1 r2 (by simp; omega) (by omega) (by omega)
    exact ⟨r2, o, o2, i1, i2, fun hc => ⟨typedP_of (h1 hc).1 (chkLL_each.2 ⟨q1, q2, q3', q4⟩) (h1 hc).2, sameV_refl (h1 hc).1⟩, h2⟩
  · obtain ⟨o, h1, h2⟩ := put_law (p := p) (v := s.vars) (q := s.pars) (G := (s.bound ++ [Uy]).reverse) (l := L) k1 r1 hlen (by omega) (fun j x A e e' => by
      obtain ⟨a, _, b⟩ := typedP_parts (hL j x A e e')
      exact ⟨a, b⟩) (by simp; omega) (by omega)
    exact ⟨o, h1, fun hc => typedP_of (h2 hc).1 (chkLL_each.2 ⟨rfl, q2, q3, q4⟩) (h2 hc).2⟩
set_option maxRecDepth 100000 in
set_option maxHeartbeats 64000000 in
theorem TermStays_calls (p : Pg) (s : Sc) (T : Tm) (ty : Ty) (U : Tm) (Uy : Ty) (L : List Tm) (ps ss cT cty cU cUy : List Value) (lv : Value) (w : World) (h00 : Snap) (H : Has w h00) (rp : PgR h00 p ps) (rs : ScR h00 s ss) (rT : TmR h00 T cT) (rty : TyR h00 ty cty) (rU : TmR h00 U cU) (rUy : TyR h00 Uy cUy) (rL : TmS h00 L lv) :
    Calls Tryz.prog 12 #[.agg (ps ++ ss ++ cT ++ cty ++ cU ++ cUy ++ [lv]).toArray] w fun e w' => e = .returned (.bool true) ∧ Below w.heap.size w w' := by
  have rT0 := rT
  obtain ⟨AT, cT, rfl, -, -, -, -, -⟩ := rT.open_
  have rU0 := rU
  obtain ⟨AU, cU, rfl, -, -, -, -, -⟩ := rU.open_
  have rty0 := rty
  obtain ⟨Aty, cty, rfl, -, -, -⟩ := rty.open_
  have rUy0 := rUy
  obtain ⟨AUy, cUy, rfl, -, -, -⟩ := rUy.open_
  have rp0 := rp
  have rs0 := rs
  have rL0 := rL
  obtain ⟨AL, cL, rfl, -, hLm, -⟩ := rL
  unfold lim at hLm
  obtain ⟨v0, v1, Z2, n2, z2, Z3, n3, z3, Z4, n4, z4, rfl, ⟨At, kt, rfl, -⟩, ⟨Ac, kc, rfl, -⟩⟩ := rp
  obtain ⟨s0, s1, s2, rfl, ⟨A0, k0, rfl, -⟩, ⟨A1, k1, rfl, -⟩, ⟨A2, k2, rfl, -⟩⟩ := rs
  have hu28 := Tryz.underlying28
  have hu29 := Tryz.underlying29
  have hu31 := Tryz.underlying31
  have hu32 := Tryz.underlying32
  have hu34 := Tryz.underlying34
  have hu36 := Tryz.underlying36
  have hu82 := Tryz.underlying82
  clear rT rU rty rUy
  simp only [List.cons_append, List.nil_append]
  obtain ⟨a1, kb⟩ := alloc1 w (.cells #[.slice At p.types.length kt, .slice Ac p.consts.length kc, .slice Z2 n2 z2, .slice Z3 n3 z3, .slice Z4 n4 z4, .slice A0 s.vars.length k0, .slice A1 s.pars.length k1, .slice A2 s.bound.length k2, .int .i64 T.k, .int .i64 T.n, .string T.nm, .slice AT T.ar.length cT, .string ty.nm, .slice Aty ty.ar.length cty, .int .i64 U.k, .int .i64 U.n, .string U.nm, .slice AU U.ar.length cU, .string Uy.nm, .slice AUy Uy.ar.length cUy, .slice AL L.length cL] 82)
  obtain ⟨h, F, m0⟩ := row_snap (w0 := w) (H.below kb) a1 (Nat.le_refl _)
  replace F := Lib.hid F
  have sb0 := m0.sub
  replace H := m0.has
  replace rT0 := Lib.hid (rT0.sub sb0)
  replace rU0 := Lib.hid (rU0.sub sb0)
  replace rty0 := Lib.hid (rty0.sub sb0)
  replace rUy0 := Lib.hid (rUy0.sub sb0)
  replace rp0 := Lib.hid (rp0.sub sb0)
  replace rs0 := Lib.hid (rs0.sub sb0)
  replace rL0 := Lib.hid (rL0.sub sb0)
  clear a1 m0 sb0
  go_enter Tryz.func12, Tryz.ntmps12
  go_wp2_with fail
  refine (sane_calls _ h H).mono ?_
  rintro e w0 ⟨rfl, kk⟩
  replace kb := below_then kb kk kb.size
  have mb : Mk w h w0 h := Mk.refl (H.below kk)
  clear H kk
  have x0 := mb.has.cell _ _ (mb.sub.at_ _ _ (F.out 0 _ rfl))
  have x1 := mb.has.cell _ _ (mb.sub.at_ _ _ (F.out 1 _ rfl))
  have x2 := mb.has.cell _ _ (mb.sub.at_ _ _ (F.out 2 _ rfl))
  have x3 := mb.has.cell _ _ (mb.sub.at_ _ _ (F.out 3 _ rfl))
  have x4 := mb.has.cell _ _ (mb.sub.at_ _ _ (F.out 4 _ rfl))
  have x5 := mb.has.cell _ _ (mb.sub.at_ _ _ (F.out 5 _ rfl))
  have x6 := mb.has.cell _ _ (mb.sub.at_ _ _ (F.out 6 _ rfl))
  have x7 := mb.has.cell _ _ (mb.sub.at_ _ _ (F.out 7 _ rfl))
  have x8 := mb.has.cell _ _ (mb.sub.at_ _ _ (F.out 8 _ rfl))
  have x9 := mb.has.cell _ _ (mb.sub.at_ _ _ (F.out 9 _ rfl))
  have x10 := mb.has.cell _ _ (mb.sub.at_ _ _ (F.out 10 _ rfl))
  have x11 := mb.has.cell _ _ (mb.sub.at_ _ _ (F.out 11 _ rfl))
  have x12 := mb.has.cell _ _ (mb.sub.at_ _ _ (F.out 12 _ rfl))
  have x13 := mb.has.cell _ _ (mb.sub.at_ _ _ (F.out 13 _ rfl))
  have x14 := mb.has.cell _ _ (mb.sub.at_ _ _ (F.out 14 _ rfl))
  have x15 := mb.has.cell _ _ (mb.sub.at_ _ _ (F.out 15 _ rfl))
  have x16 := mb.has.cell _ _ (mb.sub.at_ _ _ (F.out 16 _ rfl))
  have x17 := mb.has.cell _ _ (mb.sub.at_ _ _ (F.out 17 _ rfl))
  have x18 := mb.has.cell _ _ (mb.sub.at_ _ _ (F.out 18 _ rfl))
  have x19 := mb.has.cell _ _ (mb.sub.at_ _ _ (F.out 19 _ rfl))
  have x20 := mb.has.cell _ _ (mb.sub.at_ _ _ (F.out 20 _ rfl))
  have xl := mb.has.lt (mb.sub.at_ _ _ (F.out 0 _ rfl))
  go_wp2_with fail
  refine rgs 45 (fun V => Below w0.heap.size w0 V) [] rfl ((Below.refl _ _).drew) (fun hS => ?_)
  refine rgnf 0 13 (.bool true) rfl rfl (by kernel_rfl) (fun _ _ _ h => h) (by kernel_rfl) hS (fun V hV => by go_simp) ?_
  refine rgnf 1 14 (.bool false) rfl rfl (by kernel_rfl) (fun _ _ _ h => h) (by kernel_rfl) hS (fun V hV => by go_simp) ?_
  refine rgnf 2 15 (.bool false) rfl rfl (by kernel_rfl) (fun _ _ _ h => h) (by kernel_rfl) hS (fun V hV => by go_simp) ?_
  refine rgnf 3 16 (.pointer (some ⟨w.heap.size, 5, none⟩)) rfl rfl (by kernel_rfl) (fun _ _ _ h => h) (by kernel_rfl) hS (fun V hV => by go_simp) ?_
  refine rgnf 4 17 (.agg #[.slice A0 s.vars.length k0, .slice A1 s.pars.length k1, .slice A2 s.bound.length k2]) rfl rfl (by kernel_rfl) (fun _ _ _ h => h) (by kernel_rfl) hS (fun V hV => by have q0 := cell_below x5 hV; have q1 := cell_below x6 hV; have q2 := cell_below x7 hV; go_simp) ?_
  simp only [Act.put, List.setIfInBounds_toArray, List.set_cons_zero, List.set_cons_succ]
  refine rg1 5 rfl (by kernel_rfl) (by decide) (by kernel_rfl) (fun K hK => ?_)
  have hS0 := hS
  go_simp
  refine (wide_calls s _ _ h (mb.has.below hS0) (rs0.out.sub mb.sub)).mono ?_
  rintro e W7 ⟨rfl, k7⟩
  replace mb := mb.world (mb.has.below (below_then hS0 k7 hS0.size))
  simp only []
  have kx := k7
  refine hK.out _ _ (below_then hS0 kx hS0.size) (fun hS => ?_)
  by_cases c1 : 60 < s.vars.length + s.pars.length + s.bound.length
  · rw [decide_eq_true c1] at *
    clear c1
    refine rgnf 6 19 (.bool true) rfl rfl (by kernel_rfl) (fun _ _ _ h => h) (by kernel_rfl) hS (fun V hV => by go_simp) ?_
    refine rgnf 7 20 (.bool true) rfl rfl (by kernel_rfl) (fun _ _ _ h => h) (by kernel_rfl) hS (fun V hV => by go_simp) ?_
    refine rgof 8 21 rfl rfl (by kernel_rfl) (fun _ _ _ h => h) (by kernel_rfl) hS ?_
    refine rgof 9 22 rfl rfl (by kernel_rfl) (fun _ _ _ h => h) (by kernel_rfl) hS ?_
    refine rgof 10 23 rfl rfl (by kernel_rfl) (fun _ _ _ h => h) (by kernel_rfl) hS ?_
    refine rgof 11 24 rfl rfl (by kernel_rfl) (fun _ _ _ h => h) (by kernel_rfl) hS ?_
    refine rgof 12 25 rfl rfl (by kernel_rfl) (fun _ _ _ h => h) (by kernel_rfl) hS ?_
    refine rgof 13 26 rfl rfl (by kernel_rfl) (fun _ _ _ h => h) (by kernel_rfl) hS ?_
    simp only [Act.put, List.setIfInBounds_toArray, List.set_cons_zero, List.set_cons_succ]
    refine rgnf 14 27 (.bool true) rfl rfl (by kernel_rfl) (fun _ _ _ h => h) (by kernel_rfl) hS (fun V hV => by go_simp) ?_
    refine rgnf 15 28 (.bool true) rfl rfl (by kernel_rfl) (fun _ _ _ h => h) (by kernel_rfl) hS (fun V hV => by go_simp) ?_
    refine rgof 16 29 rfl rfl (by kernel_rfl) (fun _ _ _ h => h) (by kernel_rfl) hS ?_
    refine rgof 17 30 rfl rfl (by kernel_rfl) (fun _ _ _ h => h) (by kernel_rfl) hS ?_
    refine rgof 18 31 rfl rfl (by kernel_rfl) (fun _ _ _ h => h) (by kernel_rfl) hS ?_
    refine rgof 19 32 rfl rfl (by kernel_rfl) (fun _ _ _ h => h) (by kernel_rfl) hS ?_
    refine rgof 20 33 rfl rfl (by kernel_rfl) (fun _ _ _ h => h) (by kernel_rfl) hS ?_
    refine rgof 21 34 rfl rfl (by kernel_rfl) (fun _ _ _ h => h) (by kernel_rfl) hS ?_
    refine rgof 22 35 rfl rfl (by kernel_rfl) (fun _ _ _ h => h) (by kernel_rfl) hS ?_
    simp only [Act.put, List.setIfInBounds_toArray, List.set_cons_zero, List.set_cons_succ]
    refine rgnf 23 36 (.bool true) rfl rfl (by kernel_rfl) (fun _ _ _ h => h) (by kernel_rfl) hS (fun V hV => by go_simp) ?_
    refine rgnf 24 37 (.bool true) rfl rfl (by kernel_rfl) (fun _ _ _ h => h) (by kernel_rfl) hS (fun V hV => by go_simp) ?_
    refine rgof 25 38 rfl rfl (by kernel_rfl) (fun _ _ _ h => h) (by kernel_rfl) hS ?_
    refine rgof 26 39 rfl rfl (by kernel_rfl) (fun _ _ _ h => h) (by kernel_rfl) hS ?_
    refine rgof 27 40 rfl rfl (by kernel_rfl) (fun _ _ _ h => h) (by kernel_rfl) hS ?_
    refine rgof 28 41 rfl rfl (by kernel_rfl) (fun _ _ _ h => h) (by kernel_rfl) hS ?_
    simp only [Act.put, List.setIfInBounds_toArray, List.set_cons_zero, List.set_cons_succ]
    refine rgnf 29 42 (.bool true) rfl rfl (by kernel_rfl) (fun _ _ _ h => h) (by kernel_rfl) hS (fun V hV => by go_simp) ?_
    refine rgnf 30 43 (.bool true) rfl rfl (by kernel_rfl) (fun _ _ _ h => h) (by kernel_rfl) hS (fun V hV => by go_simp) ?_
    refine rgof 31 44 rfl rfl (by kernel_rfl) (fun _ _ _ h => h) (by kernel_rfl) hS ?_
    refine rgof 32 45 rfl rfl (by kernel_rfl) (fun _ _ _ h => h) (by kernel_rfl) hS ?_
    refine rgof 33 46 rfl rfl (by kernel_rfl) (fun _ _ _ h => h) (by kernel_rfl) hS ?_
    refine rgof 34 47 rfl rfl (by kernel_rfl) (fun _ _ _ h => h) (by kernel_rfl) hS ?_
    refine rgof 35 48 rfl rfl (by kernel_rfl) (fun _ _ _ h => h) (by kernel_rfl) hS ?_
    refine rgof 36 49 rfl rfl (by kernel_rfl) (fun _ _ _ h => h) (by kernel_rfl) hS ?_
    refine rgof 37 50 rfl rfl (by kernel_rfl) (fun _ _ _ h => h) (by kernel_rfl) hS ?_
    refine rgof 38 51 rfl rfl (by kernel_rfl) (fun _ _ _ h => h) (by kernel_rfl) hS ?_
    refine rgof 39 52 rfl rfl (by kernel_rfl) (fun _ _ _ h => h) (by kernel_rfl) hS ?_
    refine rgof 40 53 rfl rfl (by kernel_rfl) (fun _ _ _ h => h) (by kernel_rfl) hS ?_
    refine rgof 41 54 rfl rfl (by kernel_rfl) (fun _ _ _ h => h) (by kernel_rfl) hS ?_
    refine rgof 42 55 rfl rfl (by kernel_rfl) (fun _ _ _ h => h) (by kernel_rfl) hS ?_
    refine rgof 43 56 rfl rfl (by kernel_rfl) (fun _ _ _ h => h) (by kernel_rfl) hS ?_
    simp only [Act.put, List.setIfInBounds_toArray, List.set_cons_zero, List.set_cons_succ]
    refine rgnf 44 57 (.bool true) rfl rfl (by kernel_rfl) (fun _ _ _ h => h) (by kernel_rfl) hS (fun V hV => by go_simp) ?_
    refine rgd (by kernel_rfl) ?_
    simp only [Act.put, List.setIfInBounds_toArray, List.set_cons_zero, List.set_cons_succ]
    have kE := below_then kb hS kb.size
    go_wp2_with fail
    go_ret
    exact ⟨rfl, kE⟩
  rw [decide_eq_false c1] at *
  have hsum := Lib.hid c1
  clear c1
  refine rgnf 6 19 (.bool false) rfl rfl (by kernel_rfl) (fun _ _ _ h => h) (by kernel_rfl) hS (fun V hV => by go_simp) ?_
  refine rgnf 7 20 (.bool false) rfl rfl (by kernel_rfl) (fun _ _ _ h => h) (by kernel_rfl) hS (fun V hV => by go_simp) ?_
  refine rgnf 8 21 (.pointer (some ⟨w.heap.size, 0, none⟩)) rfl rfl (by kernel_rfl) (fun _ _ _ h => h) (by kernel_rfl) hS (fun V hV => by go_simp) ?_
  refine rgnf 9 22 (.agg #[.slice At p.types.length kt, .slice Ac p.consts.length kc, .slice Z2 n2 z2, .slice Z3 n3 z3, .slice Z4 n4 z4]) rfl rfl (by kernel_rfl) (fun _ _ _ h => h) (by kernel_rfl) hS (fun V hV => by have q0 := cell_below x0 hV; have q1 := cell_below x1 hV; have q2 := cell_below x2 hV; have q3 := cell_below x3 hV; have q4 := cell_below x4 hV; go_simp) ?_
  refine rgnf 10 23 (.pointer (some ⟨w.heap.size, 5, none⟩)) rfl rfl (by kernel_rfl) (fun _ _ _ h => h) (by kernel_rfl) hS (fun V hV => by go_simp) ?_
  refine rgnf 11 24 (.agg #[.slice A0 s.vars.length k0, .slice A1 s.pars.length k1, .slice A2 s.bound.length k2]) rfl rfl (by kernel_rfl) (fun _ _ _ h => h) (by kernel_rfl) hS (fun V hV => by have q0 := cell_below x5 hV; have q1 := cell_below x6 hV; have q2 := cell_below x7 hV; go_simp) ?_
  simp only [Act.put, List.setIfInBounds_toArray, List.set_cons_zero, List.set_cons_succ]
  refine rg1 12 rfl (by kernel_rfl) (by decide) (by kernel_rfl) (fun K hK => ?_)
  have hS0 := hS
  go_simp
  refine (Few_calls p s _ _ _ h mb.has (rp0.out.sub mb.sub) (rs0.out.sub mb.sub)).mono ?_
  rintro e W7 ⟨bf, rfl, -, k7⟩
  replace mb := mb.world (mb.has.below k7)
  simp only []
  have kx := k7
  refine hK.out _ _ (below_then hS0 kx hS0.size) (fun hS => ?_)
  cases bf
  · refine rgnf 13 26 (.bool true) rfl rfl (by kernel_rfl) (fun _ _ _ h => h) (by kernel_rfl) hS (fun V hV => by go_simp) ?_
    refine rgnf 14 27 (.bool true) rfl rfl (by kernel_rfl) (fun _ _ _ h => h) (by kernel_rfl) hS (fun V hV => by go_simp) ?_
    refine rgnf 15 28 (.bool true) rfl rfl (by kernel_rfl) (fun _ _ _ h => h) (by kernel_rfl) hS (fun V hV => by go_simp) ?_
    refine rgof 16 29 rfl rfl (by kernel_rfl) (fun _ _ _ h => h) (by kernel_rfl) hS ?_
    refine rgof 17 30 rfl rfl (by kernel_rfl) (fun _ _ _ h => h) (by kernel_rfl) hS ?_
    refine rgof 18 31 rfl rfl (by kernel_rfl) (fun _ _ _ h => h) (by kernel_rfl) hS ?_
    refine rgof 19 32 rfl rfl (by kernel_rfl) (fun _ _ _ h => h) (by kernel_rfl) hS ?_
    refine rgof 20 33 rfl rfl (by kernel_rfl) (fun _ _ _ h => h) (by kernel_rfl) hS ?_
    refine rgof 21 34 rfl rfl (by kernel_rfl) (fun _ _ _ h => h) (by kernel_rfl) hS ?_
    refine rgof 22 35 rfl rfl (by kernel_rfl) (fun _ _ _ h => h) (by kernel_rfl) hS ?_
    simp only [Act.put, List.setIfInBounds_toArray, List.set_cons_zero, List.set_cons_succ]
    refine rgnf 23 36 (.bool true) rfl rfl (by kernel_rfl) (fun _ _ _ h => h) (by kernel_rfl) hS (fun V hV => by go_simp) ?_
    refine rgnf 24 37 (.bool true) rfl rfl (by kernel_rfl) (fun _ _ _ h => h) (by kernel_rfl) hS (fun V hV => by go_simp) ?_
    refine rgof 25 38 rfl rfl (by kernel_rfl) (fun _ _ _ h => h) (by kernel_rfl) hS ?_
    refine rgof 26 39 rfl rfl (by kernel_rfl) (fun _ _ _ h => h) (by kernel_rfl) hS ?_
    refine rgof 27 40 rfl rfl (by kernel_rfl) (fun _ _ _ h => h) (by kernel_rfl) hS ?_
    refine rgof 28 41 rfl rfl (by kernel_rfl) (fun _ _ _ h => h) (by kernel_rfl) hS ?_
    simp only [Act.put, List.setIfInBounds_toArray, List.set_cons_zero, List.set_cons_succ]
    refine rgnf 29 42 (.bool true) rfl rfl (by kernel_rfl) (fun _ _ _ h => h) (by kernel_rfl) hS (fun V hV => by go_simp) ?_
    refine rgnf 30 43 (.bool true) rfl rfl (by kernel_rfl) (fun _ _ _ h => h) (by kernel_rfl) hS (fun V hV => by go_simp) ?_
    refine rgof 31 44 rfl rfl (by kernel_rfl) (fun _ _ _ h => h) (by kernel_rfl) hS ?_
    refine rgof 32 45 rfl rfl (by kernel_rfl) (fun _ _ _ h => h) (by kernel_rfl) hS ?_
    refine rgof 33 46 rfl rfl (by kernel_rfl) (fun _ _ _ h => h) (by kernel_rfl) hS ?_
    refine rgof 34 47 rfl rfl (by kernel_rfl) (fun _ _ _ h => h) (by kernel_rfl) hS ?_
    refine rgof 35 48 rfl rfl (by kernel_rfl) (fun _ _ _ h => h) (by kernel_rfl) hS ?_
    refine rgof 36 49 rfl rfl (by kernel_rfl) (fun _ _ _ h => h) (by kernel_rfl) hS ?_
    refine rgof 37 50 rfl rfl (by kernel_rfl) (fun _ _ _ h => h) (by kernel_rfl) hS ?_
    refine rgof 38 51 rfl rfl (by kernel_rfl) (fun _ _ _ h => h) (by kernel_rfl) hS ?_
    refine rgof 39 52 rfl rfl (by kernel_rfl) (fun _ _ _ h => h) (by kernel_rfl) hS ?_
    refine rgof 40 53 rfl rfl (by kernel_rfl) (fun _ _ _ h => h) (by kernel_rfl) hS ?_
    refine rgof 41 54 rfl rfl (by kernel_rfl) (fun _ _ _ h => h) (by kernel_rfl) hS ?_
    refine rgof 42 55 rfl rfl (by kernel_rfl) (fun _ _ _ h => h) (by kernel_rfl) hS ?_
    refine rgof 43 56 rfl rfl (by kernel_rfl) (fun _ _ _ h => h) (by kernel_rfl) hS ?_
    simp only [Act.put, List.setIfInBounds_toArray, List.set_cons_zero, List.set_cons_succ]
    refine rgnf 44 57 (.bool true) rfl rfl (by kernel_rfl) (fun _ _ _ h => h) (by kernel_rfl) hS (fun V hV => by go_simp) ?_
    refine rgd (by kernel_rfl) ?_
    simp only [Act.put, List.setIfInBounds_toArray, List.set_cons_zero, List.set_cons_succ]
    have kE := below_then kb hS kb.size
    go_wp2_with fail
    go_ret
    exact ⟨rfl, kE⟩
  refine rgnf 13 26 (.bool false) rfl rfl (by kernel_rfl) (fun _ _ _ h => h) (by kernel_rfl) hS (fun V hV => by go_simp) ?_
  refine rgnf 14 27 (.bool false) rfl rfl (by kernel_rfl) (fun _ _ _ h => h) (by kernel_rfl) hS (fun V hV => by go_simp) ?_
  refine rgnf 15 28 (.bool false) rfl rfl (by kernel_rfl) (fun _ _ _ h => h) (by kernel_rfl) hS (fun V hV => by go_simp) ?_
  refine rgnf 16 29 (.pointer (some ⟨w.heap.size, 8, none⟩)) rfl rfl (by kernel_rfl) (fun _ _ _ h => h) (by kernel_rfl) hS (fun V hV => by go_simp) ?_
  refine rgnf 17 30 (.agg #[.int .i64 T.k, .int .i64 T.n, .string T.nm, .slice AT T.ar.length cT]) rfl rfl (by kernel_rfl) (fun _ _ _ h => h) (by kernel_rfl) hS (fun V hV => by have q0 := cell_below x8 hV; have q1 := cell_below x9 hV; have q2 := cell_below x10 hV; have q3 := cell_below x11 hV; go_simp) ?_
  refine rgnf 18 31 (.pointer (some ⟨w.heap.size, 14, none⟩)) rfl rfl (by kernel_rfl) (fun _ _ _ h => h) (by kernel_rfl) hS (fun V hV => by go_simp) ?_
  refine rgnf 19 32 (.agg #[.int .i64 U.k, .int .i64 U.n, .string U.nm, .slice AU U.ar.length cU]) rfl rfl (by kernel_rfl) (fun _ _ _ h => h) (by kernel_rfl) hS (fun V hV => by have q0 := cell_below x14 hV; have q1 := cell_below x15 hV; have q2 := cell_below x16 hV; have q3 := cell_below x17 hV; go_simp) ?_
  simp only [Act.put, List.setIfInBounds_toArray, List.set_cons_zero, List.set_cons_succ]
  refine rg1 20 rfl (by kernel_rfl) (by decide) (by kernel_rfl) (fun K hK => ?_)
  have hS0 := hS
  go_simp
  obtain ⟨c1, d1⟩ := alloc1 W7 (.cells #[.int .i64 T.k, .int .i64 T.n, .string T.nm, .slice AT T.ar.length cT, .int .i64 U.k, .int .i64 U.n, .string U.nm, .slice AU U.ar.length cU] 34)
  refine hK.out _ _ (below_then hS0 d1 hS0.size) (fun hS => ?_)
  obtain ⟨h2, r2, m2⟩ := two_TmL (w0 := w) (u := T) (v := U) (mb.has.below d1) c1 (rT0.out.sub mb.sub) (rU0.out.sub mb.sub) (Nat.le_trans kb.size hS0.size)
  obtain ⟨g8, hg8⟩ : ∃ g, W7.heap.size = g := ⟨_, rfl⟩
  rw [hg8] at r2 ⊢
  obtain ⟨W8, hW8⟩ : ∃ W8, W7.alloc (.cells #[.int .i64 T.k, .int .i64 T.n, .string T.nm, .slice AT T.ar.length cT, .int .i64 U.k, .int .i64 U.n, .string U.nm, .slice AU U.ar.length cU] 34) = W8 := ⟨_, rfl⟩
  rw [hW8] at hS m2 ⊢
  replace mb : Mk w h W8 h2 := mb.then_ m2
  clear hW8 hg8 c1 d1 m2 hS0
  refine rg1 21 rfl (by kernel_rfl) (by decide) (by kernel_rfl) (fun K hK => ?_)
  have hS0 := hS
  go_simp
  refine (Brief_calls [T, U] _ _ h2 mb.has ⟨_, 2, rfl, by simp, by simp [lim], r2⟩).mono ?_
  rintro e W7 ⟨bg, rfl, k7⟩
  replace mb := mb.world (mb.has.below k7)
  simp only []
  have kx := k7
  refine hK.out _ _ (below_then hS0 kx hS0.size) (fun hS => ?_)
  cases bg
  · refine rgnf 22 35 (.bool true) rfl rfl (by kernel_rfl) (fun _ _ _ h => h) (by kernel_rfl) hS (fun V hV => by go_simp) ?_
    refine rgnf 23 36 (.bool true) rfl rfl (by kernel_rfl) (fun _ _ _ h => h) (by kernel_rfl) hS (fun V hV => by go_simp) ?_
    refine rgnf 24 37 (.bool true) rfl rfl (by kernel_rfl) (fun _ _ _ h => h) (by kernel_rfl) hS (fun V hV => by go_simp) ?_
    refine rgof 25 38 rfl rfl (by kernel_rfl) (fun _ _ _ h => h) (by kernel_rfl) hS ?_
    refine rgof 26 39 rfl rfl (by kernel_rfl) (fun _ _ _ h => h) (by kernel_rfl) hS ?_
    refine rgof 27 40 rfl rfl (by kernel_rfl) (fun _ _ _ h => h) (by kernel_rfl) hS ?_
    refine rgof 28 41 rfl rfl (by kernel_rfl) (fun _ _ _ h => h) (by kernel_rfl) hS ?_
    simp only [Act.put, List.setIfInBounds_toArray, List.set_cons_zero, List.set_cons_succ]
    refine rgnf 29 42 (.bool true) rfl rfl (by kernel_rfl) (fun _ _ _ h => h) (by kernel_rfl) hS (fun V hV => by go_simp) ?_
    refine rgnf 30 43 (.bool true) rfl rfl (by kernel_rfl) (fun _ _ _ h => h) (by kernel_rfl) hS (fun V hV => by go_simp) ?_
    refine rgof 31 44 rfl rfl (by kernel_rfl) (fun _ _ _ h => h) (by kernel_rfl) hS ?_
    refine rgof 32 45 rfl rfl (by kernel_rfl) (fun _ _ _ h => h) (by kernel_rfl) hS ?_
    refine rgof 33 46 rfl rfl (by kernel_rfl) (fun _ _ _ h => h) (by kernel_rfl) hS ?_
    refine rgof 34 47 rfl rfl (by kernel_rfl) (fun _ _ _ h => h) (by kernel_rfl) hS ?_
    refine rgof 35 48 rfl rfl (by kernel_rfl) (fun _ _ _ h => h) (by kernel_rfl) hS ?_
    refine rgof 36 49 rfl rfl (by kernel_rfl) (fun _ _ _ h => h) (by kernel_rfl) hS ?_
    refine rgof 37 50 rfl rfl (by kernel_rfl) (fun _ _ _ h => h) (by kernel_rfl) hS ?_
    refine rgof 38 51 rfl rfl (by kernel_rfl) (fun _ _ _ h => h) (by kernel_rfl) hS ?_
    refine rgof 39 52 rfl rfl (by kernel_rfl) (fun _ _ _ h => h) (by kernel_rfl) hS ?_
    refine rgof 40 53 rfl rfl (by kernel_rfl) (fun _ _ _ h => h) (by kernel_rfl) hS ?_
    refine rgof 41 54 rfl rfl (by kernel_rfl) (fun _ _ _ h => h) (by kernel_rfl) hS ?_
    refine rgof 42 55 rfl rfl (by kernel_rfl) (fun _ _ _ h => h) (by kernel_rfl) hS ?_
    refine rgof 43 56 rfl rfl (by kernel_rfl) (fun _ _ _ h => h) (by kernel_rfl) hS ?_
    simp only [Act.put, List.setIfInBounds_toArray, List.set_cons_zero, List.set_cons_succ]
    refine rgnf 44 57 (.bool true) rfl rfl (by kernel_rfl) (fun _ _ _ h => h) (by kernel_rfl) hS (fun V hV => by go_simp) ?_
    refine rgd (by kernel_rfl) ?_
    simp only [Act.put, List.setIfInBounds_toArray, List.set_cons_zero, List.set_cons_succ]
    have kE := below_then kb hS kb.size
    go_wp2_with fail
    go_ret
    exact ⟨rfl, kE⟩
  refine rgnf 22 35 (.bool false) rfl rfl (by kernel_rfl) (fun _ _ _ h => h) (by kernel_rfl) hS (fun V hV => by go_simp) ?_
  refine rgnf 23 36 (.bool false) rfl rfl (by kernel_rfl) (fun _ _ _ h => h) (by kernel_rfl) hS (fun V hV => by go_simp) ?_
  refine rgnf 24 37 (.bool false) rfl rfl (by kernel_rfl) (fun _ _ _ h => h) (by kernel_rfl) hS (fun V hV => by go_simp) ?_
  refine rgnf 25 38 (.pointer (some ⟨w.heap.size, 20, none⟩)) rfl rfl (by kernel_rfl) (fun _ _ _ h => h) (by kernel_rfl) hS (fun V hV => by go_simp) ?_
  refine rgnf 26 39 (.slice AL L.length cL) rfl rfl (by kernel_rfl) (fun _ _ _ h => h) (by kernel_rfl) hS (fun V hV => by have q0 := cell_below x20 hV; go_simp) ?_
  simp only [Act.put, List.setIfInBounds_toArray, List.set_cons_zero, List.set_cons_succ]
  refine rg1 27 rfl (by kernel_rfl) (by decide) (by kernel_rfl) (fun K hK => ?_)
  have hS0 := hS
  go_simp
  refine (Brief_calls L _ _ h2 mb.has (rL0.out.sub mb.sub)).mono ?_
  rintro e W7 ⟨bl, rfl, k7⟩
  replace mb := mb.world (mb.has.below k7)
  simp only []
  have kx := k7
  refine hK.out _ _ (below_then hS0 kx hS0.size) (fun hS => ?_)
  cases bl
  · refine rgnf 28 41 (.bool true) rfl rfl (by kernel_rfl) (fun _ _ _ h => h) (by kernel_rfl) hS (fun V hV => by go_simp) ?_
    refine rgnf 29 42 (.bool true) rfl rfl (by kernel_rfl) (fun _ _ _ h => h) (by kernel_rfl) hS (fun V hV => by go_simp) ?_
    refine rgnf 30 43 (.bool true) rfl rfl (by kernel_rfl) (fun _ _ _ h => h) (by kernel_rfl) hS (fun V hV => by go_simp) ?_
    refine rgof 31 44 rfl rfl (by kernel_rfl) (fun _ _ _ h => h) (by kernel_rfl) hS ?_
    refine rgof 32 45 rfl rfl (by kernel_rfl) (fun _ _ _ h => h) (by kernel_rfl) hS ?_
    refine rgof 33 46 rfl rfl (by kernel_rfl) (fun _ _ _ h => h) (by kernel_rfl) hS ?_
    refine rgof 34 47 rfl rfl (by kernel_rfl) (fun _ _ _ h => h) (by kernel_rfl) hS ?_
    refine rgof 35 48 rfl rfl (by kernel_rfl) (fun _ _ _ h => h) (by kernel_rfl) hS ?_
    refine rgof 36 49 rfl rfl (by kernel_rfl) (fun _ _ _ h => h) (by kernel_rfl) hS ?_
    refine rgof 37 50 rfl rfl (by kernel_rfl) (fun _ _ _ h => h) (by kernel_rfl) hS ?_
    refine rgof 38 51 rfl rfl (by kernel_rfl) (fun _ _ _ h => h) (by kernel_rfl) hS ?_
    refine rgof 39 52 rfl rfl (by kernel_rfl) (fun _ _ _ h => h) (by kernel_rfl) hS ?_
    refine rgof 40 53 rfl rfl (by kernel_rfl) (fun _ _ _ h => h) (by kernel_rfl) hS ?_
    refine rgof 41 54 rfl rfl (by kernel_rfl) (fun _ _ _ h => h) (by kernel_rfl) hS ?_
    refine rgof 42 55 rfl rfl (by kernel_rfl) (fun _ _ _ h => h) (by kernel_rfl) hS ?_
    refine rgof 43 56 rfl rfl (by kernel_rfl) (fun _ _ _ h => h) (by kernel_rfl) hS ?_
    simp only [Act.put, List.setIfInBounds_toArray, List.set_cons_zero, List.set_cons_succ]
    refine rgnf 44 57 (.bool true) rfl rfl (by kernel_rfl) (fun _ _ _ h => h) (by kernel_rfl) hS (fun V hV => by go_simp) ?_
    refine rgd (by kernel_rfl) ?_
    simp only [Act.put, List.setIfInBounds_toArray, List.set_cons_zero, List.set_cons_succ]
    have kE := below_then kb hS kb.size
    go_wp2_with fail
    go_ret
    exact ⟨rfl, kE⟩
  refine rgnf 28 41 (.bool false) rfl rfl (by kernel_rfl) (fun _ _ _ h => h) (by kernel_rfl) hS (fun V hV => by go_simp) ?_
  refine rgnf 29 42 (.bool false) rfl rfl (by kernel_rfl) (fun _ _ _ h => h) (by kernel_rfl) hS (fun V hV => by go_simp) ?_
  refine rgnf 30 43 (.bool false) rfl rfl (by kernel_rfl) (fun _ _ _ h => h) (by kernel_rfl) hS (fun V hV => by go_simp) ?_
  refine rgnf 31 44 (.pointer (some ⟨w.heap.size, 0, none⟩)) rfl rfl (by kernel_rfl) (fun _ _ _ h => h) (by kernel_rfl) hS (fun V hV => by go_simp) ?_
  refine rgnf 32 45 (.agg #[.slice At p.types.length kt, .slice Ac p.consts.length kc, .slice Z2 n2 z2, .slice Z3 n3 z3, .slice Z4 n4 z4]) rfl rfl (by kernel_rfl) (fun _ _ _ h => h) (by kernel_rfl) hS (fun V hV => by have q0 := cell_below x0 hV; have q1 := cell_below x1 hV; have q2 := cell_below x2 hV; have q3 := cell_below x3 hV; have q4 := cell_below x4 hV; go_simp) ?_
  refine rgnf 33 46 (.pointer (some ⟨w.heap.size, 5, none⟩)) rfl rfl (by kernel_rfl) (fun _ _ _ h => h) (by kernel_rfl) hS (fun V hV => by go_simp) ?_
  refine rgnf 34 47 (.agg #[.slice A0 s.vars.length k0, .slice A1 s.pars.length k1, .slice A2 s.bound.length k2]) rfl rfl (by kernel_rfl) (fun _ _ _ h => h) (by kernel_rfl) hS (fun V hV => by have q0 := cell_below x5 hV; have q1 := cell_below x6 hV; have q2 := cell_below x7 hV; go_simp) ?_
  refine rgnf 35 48 (.pointer (some ⟨w.heap.size, 18, none⟩)) rfl rfl (by kernel_rfl) (fun _ _ _ h => h) (by kernel_rfl) hS (fun V hV => by go_simp) ?_
  refine rgnf 36 49 (.agg #[.string Uy.nm, .slice AUy Uy.ar.length cUy]) rfl rfl (by kernel_rfl) (fun _ _ _ h => h) (by kernel_rfl) hS (fun V hV => by have q0 := cell_below x18 hV; have q1 := cell_below x19 hV; go_simp) ?_
  refine rgnf 38 51 (.pointer (some ⟨w.heap.size, 8, none⟩)) rfl rfl (by kernel_rfl) (fun _ _ _ h => h) (by kernel_rfl) hS (fun V hV => by go_simp) ?_
  refine rgnf 39 52 (.agg #[.int .i64 T.k, .int .i64 T.n, .string T.nm, .slice AT T.ar.length cT]) rfl rfl (by kernel_rfl) (fun _ _ _ h => h) (by kernel_rfl) hS (fun V hV => by have q0 := cell_below x8 hV; have q1 := cell_below x9 hV; have q2 := cell_below x10 hV; have q3 := cell_below x11 hV; go_simp) ?_
  refine rgnf 40 53 (.pointer (some ⟨w.heap.size, 12, none⟩)) rfl rfl (by kernel_rfl) (fun _ _ _ h => h) (by kernel_rfl) hS (fun V hV => by go_simp) ?_
  refine rgnf 41 54 (.agg #[.string ty.nm, .slice Aty ty.ar.length cty]) rfl rfl (by kernel_rfl) (fun _ _ _ h => h) (by kernel_rfl) hS (fun V hV => by have q0 := cell_below x12 hV; have q1 := cell_below x13 hV; go_simp) ?_
  simp only [Act.put, List.setIfInBounds_toArray, List.set_cons_zero, List.set_cons_succ]
  refine rg1 37 rfl (by kernel_rfl) (by decide) (by kernel_rfl) (fun K hK => ?_)
  have hS0 := hS
  go_simp
  refine (below_calls s Uy A0 A1 A2 k0 k1 k2 _ _ h2 mb.has (rs0.out.sub mb.sub).three.2.2 (rUy0.out.sub mb.sub) (by have := hsum.out; omega)).mono ?_
  rintro e W7 ⟨AB, cB, hb, rfl, rB, m7, k7⟩
  have hsz0 := hS0.size
  simp only []
  have kx := k7
  refine hK.out _ _ (below_then hS0 kx hS0.size) (fun hS => ?_)
  replace mb := mb.trans m7 (Nat.le_trans kb.size hsz0)
  have rO : Hid (ScR hb ⟨s.vars, s.pars, s.bound ++ [Uy]⟩ [.slice A0 s.vars.length k0, .slice A1 s.pars.length k1, .slice AB (s.bound.length + 1) cB]) := Lib.hid ⟨_, _, _, rfl, (rs0.out.sub mb.sub).three.1, (rs0.out.sub mb.sub).three.2.1, rB⟩
  clear m7 rB k7 kx hS0 hsz0
  obtain ⟨e1, he1⟩ : ∃ e, typedP p ⟨s.vars, s.pars, s.bound ++ [Uy]⟩ T ty = e := ⟨_, rfl⟩
  have hlaw := Lib.hid (show e1 = 0 → _ from fun q1 => stays_law (U := U) (L := L) (he1.trans q1) (by have := hsum.out; omega))
  replace he1 := Lib.hid he1
  refine rg1 42 rfl (by kernel_rfl) (by decide) (by kernel_rfl) (fun K hK => ?_)
  have hS0 := hS
  go_simp
  refine (Typed_calls p ⟨s.vars, s.pars, s.bound ++ [Uy]⟩ T ty _ _ _ _ _ hb mb.has (rp0.out.sub mb.sub) rO.out (rT0.out.sub mb.sub) (rty0.out.sub mb.sub) (by have := hsum.out; simp; omega)).mono ?_
  rintro e W7 ⟨rfl, k7⟩
  rw [he1.out]
  replace mb := mb.world (mb.has.below k7)
  simp only []
  have kx := k7
  refine hK.out _ _ (below_then hS0 kx hS0.size) (fun hS => ?_)
  cases q1 : e1 != 0
  rotate_left
  · refine rgnf 43 56 (.bool true) rfl rfl (by kernel_rfl) (fun _ _ _ h => h) (by kernel_rfl) hS (fun V hV => by go_simp) ?_
    refine rgnf 44 57 (.bool true) rfl rfl (by kernel_rfl) (fun _ _ _ h => h) (by kernel_rfl) hS (fun V hV => by go_simp) ?_
    refine rgd (by kernel_rfl) ?_
    simp only [Act.put, List.setIfInBounds_toArray, List.set_cons_zero, List.set_cons_succ]
    have kE := below_then kb hS kb.size
    go_wp2_with fail
    go_ret
    exact ⟨rfl, kE⟩
  have e1z := Lib.hid (show e1 = 0 by simpa using q1)
  refine rgnf 43 56 (.bool false) rfl rfl (by kernel_rfl) (fun _ _ _ h => h) (by kernel_rfl) hS (fun V hV => by go_simp) ?_
  refine rgnf 44 57 (.bool false) rfl rfl (by kernel_rfl) (fun _ _ _ h => h) (by kernel_rfl) hS (fun V hV => by go_simp) ?_
  refine rgd (by kernel_rfl) ?_
  simp only [Act.put, List.setIfInBounds_toArray, List.set_cons_zero, List.set_cons_succ]
  replace kb := below_then kb hS kb.size
  obtain ⟨rTz, hSU, hPU⟩ := hlaw.out e1z.out
  obtain ⟨e3, he3⟩ : ∃ e, typedP p s U Uy = e := ⟨_, rfl⟩
  rw [he3] at hSU
  replace he3 := Lib.hid he3
  replace hSU := Lib.hid hSU
  replace hPU := Lib.hid hPU
  replace rTz := Lib.hid rTz
  clear hlaw he1 e1z q1 hS kx k7 rO r2
  obtain ⟨WN, hWN⟩ : ∃ W, W7 = W := ⟨_, rfl⟩
  rw [hWN] at kb mb ⊢
  clear hWN
  clear x0 x1 x2 x3 x4 x5 x6 x7 x8 x9 x10 x11 x12 x13 x14 x15 x16 x17 x18 x19 x20 xl
  have x0 := mb.has.cell _ _ (mb.sub.at_ _ _ (F.out 0 _ rfl))
  have x1 := mb.has.cell _ _ (mb.sub.at_ _ _ (F.out 1 _ rfl))
  have x2 := mb.has.cell _ _ (mb.sub.at_ _ _ (F.out 2 _ rfl))
  have x3 := mb.has.cell _ _ (mb.sub.at_ _ _ (F.out 3 _ rfl))
  have x4 := mb.has.cell _ _ (mb.sub.at_ _ _ (F.out 4 _ rfl))
  have x5 := mb.has.cell _ _ (mb.sub.at_ _ _ (F.out 5 _ rfl))
  have x6 := mb.has.cell _ _ (mb.sub.at_ _ _ (F.out 6 _ rfl))
  have x7 := mb.has.cell _ _ (mb.sub.at_ _ _ (F.out 7 _ rfl))
  have x14 := mb.has.cell _ _ (mb.sub.at_ _ _ (F.out 14 _ rfl))
  have x15 := mb.has.cell _ _ (mb.sub.at_ _ _ (F.out 15 _ rfl))
  have x16 := mb.has.cell _ _ (mb.sub.at_ _ _ (F.out 16 _ rfl))
  have x17 := mb.has.cell _ _ (mb.sub.at_ _ _ (F.out 17 _ rfl))
  have x18 := mb.has.cell _ _ (mb.sub.at_ _ _ (F.out 18 _ rfl))
  have x19 := mb.has.cell _ _ (mb.sub.at_ _ _ (F.out 19 _ rfl))
  have xl := mb.has.lt (mb.sub.at_ _ _ (F.out 0 _ rfl))
  go_wp2_with fail
  refine (Typed_calls p s U Uy _ _ _ _ _ _ mb.has (rp0.out.sub mb.sub) (rs0.out.sub mb.sub) (rU0.out.sub mb.sub) (rUy0.out.sub mb.sub) (by have := hsum.out; omega)).mono ?_
  rintro e wA ⟨rfl, kk⟩
  rw [he3.out]
  replace kb := below_then kb kk kb.size
  replace mb := mb.world (mb.has.below kk)
  clear kk
  clear x0 x1 x2 x3 x4 x5 x6 x7 x14 x15 x16 x17 x18 x19 xl
  by_cases z3 : e3 = 0
  rotate_left
  have z3n : (e3 == 0) = false := by simpa using z3
  obtain ⟨WQ, hWQ⟩ : ∃ W, wA = W := ⟨_, rfl⟩
  rw [hWQ] at kb mb ⊢
  clear hWQ
  clear z3 hSU
  have xS5 := mb.has.cell _ _ (mb.sub.at_ _ _ (F.out 5 _ rfl))
  have xL20 := mb.has.cell _ _ (mb.sub.at_ _ _ (F.out 20 _ rfl))
  have xl := mb.has.lt (mb.sub.at_ _ _ (F.out 20 _ rfl))
  refine Hid.out ?_
  rotate_left
  subst z3
  obtain ⟨rUz, o, o2, i1, i2, hA0, hB0⟩ := hSU.out rfl
  obtain ⟨XA, dXA⟩ : ∃ X, tmS o = X := ⟨_, rfl⟩
  obtain ⟨eA, deA⟩ : ∃ X, codeS o = X := ⟨_, rfl⟩
  obtain ⟨XB, dXB⟩ : ∃ X, tmS o2 = X := ⟨_, rfl⟩
  obtain ⟨eB, deB⟩ : ∃ X, codeS o2 = X := ⟨_, rfl⟩
  rw [dXA, deA] at hA0 hB0
  rw [dXB, deB] at hB0
  replace dXA := Lib.hid dXA
  replace deA := Lib.hid deA
  replace dXB := Lib.hid dXB
  replace deB := Lib.hid deB
  replace i1 := Lib.hid i1
  replace i2 := Lib.hid i2
  replace hA0 := Lib.hid hA0
  replace hB0 := Lib.hid hB0
  replace rUz := Lib.hid rUz
  clear hSU
  have x8 := mb.has.cell _ _ (mb.sub.at_ _ _ (F.out 8 _ rfl))
  have x9 := mb.has.cell _ _ (mb.sub.at_ _ _ (F.out 9 _ rfl))
  have x10 := mb.has.cell _ _ (mb.sub.at_ _ _ (F.out 10 _ rfl))
  have x11 := mb.has.cell _ _ (mb.sub.at_ _ _ (F.out 11 _ rfl))
  have x14 := mb.has.cell _ _ (mb.sub.at_ _ _ (F.out 14 _ rfl))
  have x15 := mb.has.cell _ _ (mb.sub.at_ _ _ (F.out 15 _ rfl))
  have x16 := mb.has.cell _ _ (mb.sub.at_ _ _ (F.out 16 _ rfl))
  have x17 := mb.has.cell _ _ (mb.sub.at_ _ _ (F.out 17 _ rfl))
  have xl := mb.has.lt (mb.sub.at_ _ _ (F.out 8 _ rfl))
  go_wp2_with fail
  refine (Subst_calls T U o _ _ _ _ mb.has (rT0.out.sub mb.sub) (rU0.out.sub mb.sub) i1.out).mono ?_
  rintro e wB ⟨kk, cs1, hh, rfl, r1, m1⟩
  rw [dXA.out] at r1
  rw [deA.out]
  obtain ⟨PA, qA, rfl, -, -, -, -, -⟩ := r1.open_
  have mm := mb.trans m1 kb.size
  replace kb := below_then kb kk kb.size
  clear m1 kk mb
  clear x8 x9 x10 x11 x14 x15 x16 x17 xl
  go_wp2_with fail
  have bx := blk_new wB (.cells #[.int .i64 XA.k, .int .i64 XA.n, .string XA.nm, .slice PA XA.ar.length qA] 34)
  have kx := (alloc1 wB (.cells #[.int .i64 XA.k, .int .i64 XA.n, .string XA.nm, .slice PA XA.ar.length qA] 34)).2
  obtain ⟨hn, BA, mn⟩ := BoxM.mk_ (w0 := w) (mm.has.below kx) bx r1 kb.size
  obtain ⟨WN, hWN⟩ : ∃ WN, wB.alloc (.cells #[.int .i64 XA.k, .int .i64 XA.n, .string XA.nm, .slice PA XA.ar.length qA] 34) = WN := ⟨_, rfl⟩
  rw [hWN] at kx mn ⊢
  replace kb := below_then kb kx kb.size
  have sn := mn.sub
  have mb : Mk w h WN hn := mm.then_ mn
  clear hWN bx kx mn
  replace r1 := r1.sub sn
  clear sn
  clear mm r1
  have hTk := Lib.hid (show T.k ≠ 0 from fun e => by
    have h1 := (raw_parts rTz.out).2.1
    obtain ⟨k, n, nm, ar⟩ := T
    rw [shp, Bool.and_eq_true] at h1
    have h2 := (shp_k h1.1).2.2.1
    simp only [Tm.k] at e
    omega)
  have hUk := Lib.hid (show U.k ≠ 0 from fun e => by
    have h1 := (raw_parts rUz.out).2.1
    obtain ⟨k, n, nm, ar⟩ := U
    rw [shp, Bool.and_eq_true] at h1
    have h2 := (shp_k h1.1).2.2.1
    simp only [Tm.k] at e
    omega)
  have x8 := mb.has.cell _ _ (mb.sub.at_ _ _ (F.out 8 _ rfl))
  have x9 := mb.has.cell _ _ (mb.sub.at_ _ _ (F.out 9 _ rfl))
  have x10 := mb.has.cell _ _ (mb.sub.at_ _ _ (F.out 10 _ rfl))
  have x11 := mb.has.cell _ _ (mb.sub.at_ _ _ (F.out 11 _ rfl))
  have x14 := mb.has.cell _ _ (mb.sub.at_ _ _ (F.out 14 _ rfl))
  have x15 := mb.has.cell _ _ (mb.sub.at_ _ _ (F.out 15 _ rfl))
  have x16 := mb.has.cell _ _ (mb.sub.at_ _ _ (F.out 16 _ rfl))
  have x17 := mb.has.cell _ _ (mb.sub.at_ _ _ (F.out 17 _ rfl))
  have xl := mb.has.lt (mb.sub.at_ _ _ (F.out 8 _ rfl))
  go_wp2_with fail
  refine rgs 13 (fun V => Below WN.heap.size WN V) [11] rfl ((Below.refl _ _).drew) (fun hS => ?_)
  refine rgt 0 (.pointer (some ⟨w.heap.size, 8, none⟩)) rfl (by kernel_rfl) (fun _ _ _ h => h) (by kernel_rfl) hS (fun V hV => by go_simp) ?_
  refine rgt 1 (.agg #[.int .i64 T.k, .int .i64 T.n, .string T.nm, .slice AT T.ar.length cT]) rfl (by kernel_rfl) (fun _ _ _ h => h) (by kernel_rfl) hS (fun V hV => by have q0 := cell_below x8 hV; have q1 := cell_below x9 hV; have q2 := cell_below x10 hV; have q3 := cell_below x11 hV; go_simp) ?_
  refine rgt 3 (.pointer (some ⟨w.heap.size, 14, none⟩)) rfl (by kernel_rfl) (fun _ _ _ h => h) (by kernel_rfl) hS (fun V hV => by go_simp) ?_
  refine rgt 4 (.agg #[.int .i64 U.k, .int .i64 U.n, .string U.nm, .slice AU U.ar.length cU]) rfl (by kernel_rfl) (fun _ _ _ h => h) (by kernel_rfl) hS (fun V hV => by have q0 := cell_below x14 hV; have q1 := cell_below x15 hV; have q2 := cell_below x16 hV; have q3 := cell_below x17 hV; go_simp) ?_
  refine join_ (σ := Nat × Nat × Option Addr × Nat × Snap × Nat × Unit) 2 #[true, true, true, true, true, true, true, true, true, true, true, false, false] (fun s => [(80, .agg #[.int .i64 5, .int .i64 0, .string ⟨#[]⟩, .slice (some ⟨s.1, 0, none⟩) 1 1]), (83, .slice (some ⟨s.2.1, 0, none⟩) 1 1), (84, .tuple #[.agg #[.int .i64 XB.k, .int .i64 XB.n, .string XB.nm, .slice s.2.2.1 XB.ar.length s.2.2.2.1], .int .i64 eB]), (77, .tuple #[.agg #[.int .i64 XB.k, .int .i64 XB.n, .string XB.nm, .slice s.2.2.1 XB.ar.length s.2.2.2.1], .int .i64 eB]), (85, .agg #[.int .i64 XB.k, .int .i64 XB.n, .string XB.nm, .slice s.2.2.1 XB.ar.length s.2.2.2.1]), (86, .int .i64 eB), (6, .pointer (some ⟨s.2.2.2.2.2.1, 0, none⟩))]) (fun s W => Below WN.heap.size WN W ∧ (W.heap[s.1]? = some (.cells #[.int .i64 T.k, .int .i64 T.n, .string T.nm, .slice AT T.ar.length cT] 34) ∧ WN.heap.size ≤ s.1) ∧ (W.heap[s.2.1]? = some (.cells #[.int .i64 U.k, .int .i64 U.n, .string U.nm, .slice AU U.ar.length cU] 34) ∧ WN.heap.size ≤ s.2.1) ∧ (TmR s.2.2.2.2.1 XB [.int .i64 XB.k, .int .i64 XB.n, .string XB.nm, .slice s.2.2.1 XB.ar.length s.2.2.2.1] ∧ Mk w hn W s.2.2.2.2.1) ∧ (W.heap[s.2.2.2.2.2.1]? = some (.cells #[.int .i64 0, .int .i64 0, .string ⟨#[]⟩, .slice none 0 0] 34) ∧ WN.heap.size ≤ s.2.2.2.2.2.1) ∧ (Off s.2.2.2.2.1 (fun q => q = s.2.2.2.2.2.1)) ∧ True) ?jA (fun stc_2_5_6_10 => ?jB)
  case jB =>
    refine join_ (σ := Nat × Nat × Option Addr × Nat × Snap × Unit) 3 #[true, true, true, true, true, true, true, true, true, true, false, false, false] (fun s => [(80, .agg #[.int .i64 5, .int .i64 0, .string ⟨#[]⟩, .slice (some ⟨s.1, 0, none⟩) 1 1]), (83, .slice (some ⟨s.2.1, 0, none⟩) 1 1), (84, .tuple #[.agg #[.int .i64 XB.k, .int .i64 XB.n, .string XB.nm, .slice s.2.2.1 XB.ar.length s.2.2.2.1], .int .i64 eB]), (77, .tuple #[.agg #[.int .i64 XB.k, .int .i64 XB.n, .string XB.nm, .slice s.2.2.1 XB.ar.length s.2.2.2.1], .int .i64 eB]), (85, .agg #[.int .i64 XB.k, .int .i64 XB.n, .string XB.nm, .slice s.2.2.1 XB.ar.length s.2.2.2.1]), (86, .int .i64 eB)]) (fun s W => Below WN.heap.size WN W ∧ (W.heap[s.1]? = some (.cells #[.int .i64 T.k, .int .i64 T.n, .string T.nm, .slice AT T.ar.length cT] 34) ∧ WN.heap.size ≤ s.1) ∧ (W.heap[s.2.1]? = some (.cells #[.int .i64 U.k, .int .i64 U.n, .string U.nm, .slice AU U.ar.length cU] 34) ∧ WN.heap.size ≤ s.2.1) ∧ (TmR s.2.2.2.2.1 XB [.int .i64 XB.k, .int .i64 XB.n, .string XB.nm, .slice s.2.2.1 XB.ar.length s.2.2.2.1] ∧ Mk w hn W s.2.2.2.2.1) ∧ True) ?_ (fun stc_2_5_6 => ?_)
    · rintro ⟨gl, g5, AXB, cXB, hXB, ⟨⟩⟩ W ⟨hS, f2, f5, f6, -⟩
      dsimp only [putAll]
      refine rg1 10 rfl (by kernel_rfl) (by decide) (by kernel_rfl) (fun K hK => ?_)
      have hS0 := hS
      go_simp
      have kx := (alloc1 W (.cells #[.int .i64 0, .int .i64 0, .string ⟨#[]⟩, .slice none 0 0] 34)).2
      have kn := blk_new W (.cells #[.int .i64 0, .int .i64 0, .string ⟨#[]⟩, .slice none 0 0] 34)
      have kz : WN.heap.size ≤ W.heap.size := hS.size
      refine hK.out _ _ (below_then hS kx hS.size) (fun hS => ?_)
      exact norm_ (by kernel_rfl) (stc_2_5_6_10 (gl, g5, AXB, cXB, hXB, W.heap.size, ()) _ ⟨hS, ⟨box_below f2.1 kx, f2.2⟩, ⟨box_below f5.1 kx, f5.2⟩, ⟨f6.1, f6.2.world (f6.2.has.below kx)⟩, ⟨kn, kz⟩, f6.2.has.off_new (fun k e => by rw [e]; exact Nat.le_refl _), trivial⟩)
    refine join_ (σ := Nat × Nat × Nat × Unit) 6 #[true, true, true, true, true, true, false, false, false, false, true, false, false] (fun s => [(80, .agg #[.int .i64 5, .int .i64 0, .string ⟨#[]⟩, .slice (some ⟨s.1, 0, none⟩) 1 1]), (83, .slice (some ⟨s.2.1, 0, none⟩) 1 1), (6, .pointer (some ⟨s.2.2.1, 0, none⟩))]) (fun s W => Below WN.heap.size WN W ∧ (W.heap[s.1]? = some (.cells #[.int .i64 T.k, .int .i64 T.n, .string T.nm, .slice AT T.ar.length cT] 34) ∧ WN.heap.size ≤ s.1) ∧ (W.heap[s.2.1]? = some (.cells #[.int .i64 U.k, .int .i64 U.n, .string U.nm, .slice AU U.ar.length cU] 34) ∧ WN.heap.size ≤ s.2.1) ∧ (W.heap[s.2.2.1]? = some (.cells #[.int .i64 0, .int .i64 0, .string ⟨#[]⟩, .slice none 0 0] 34) ∧ WN.heap.size ≤ s.2.2.1) ∧ True) ?_ (fun stc_2_5_10 => ?_)
    · rintro ⟨gl, g5, g10, ⟨⟩⟩ W ⟨hS, f2, f5, f10, -⟩
      dsimp only [putAll]
      refine rg1 6 rfl (by kernel_rfl) (by decide) (by kernel_rfl) (fun K hK => ?_)
      have hS0 := hS
      go_simp
      have hS_size := hS.size
      obtain ⟨hz, tz, mz, vz⟩ := one_TmS2 (w0 := w) (u := T) (mb.has.below hS) f2.1 (rT0.out.sub mb.sub) (Nat.le_trans kb.size f2.2)
      obtain ⟨hy, ty_, my, vy⟩ := one_TmS2 (w0 := w) (u := U) mz.has f5.1 ((rU0.out.sub mb.sub).sub mz.sub) (Nat.le_trans kb.size f5.2)
      refine (Apply_calls (.mk 5 0 ⟨#[]⟩ [T]) [U] o2 _ _ W hy my.has ((lmT_R tz).sub my.sub) ty_ i2.out).mono ?_
      rintro e W7 ⟨k7, cs7, hXB, rfl, r7, m7⟩
      rw [dXB.out] at r7
      obtain ⟨AXB, cXB, rfl, _⟩ := r7.open_
      rw [deB.out]
      simp only []
      have kx := k7
      refine hK.out _ _ (below_then hS kx hS.size) (fun hS => ?_)
      refine rgt 7 (.tuple #[.agg #[.int .i64 XB.k, .int .i64 XB.n, .string XB.nm, .slice AXB XB.ar.length cXB], .int .i64 eB]) rfl (by kernel_rfl) (fun _ _ _ h => h) (by kernel_rfl) hS (fun V hV => by go_simp) ?_
      refine rgt 8 (.agg #[.int .i64 XB.k, .int .i64 XB.n, .string XB.nm, .slice AXB XB.ar.length cXB]) rfl (by kernel_rfl) (fun _ _ _ h => h) (by kernel_rfl) hS (fun V hV => by go_simp) ?_
      refine rgp 9 (.int .i64 eB) rfl (by kernel_rfl) (fun _ _ _ h => h) (by kernel_rfl) (fun V => by go_simp) ?_
      exact norm_ (by kernel_rfl) (stc_2_5_6_10 (gl, g5, AXB, cXB, hXB, g10, ()) _ ⟨hS, ⟨box_below f2.1 kx, f2.2⟩, ⟨box_below f5.1 kx, f5.2⟩, ⟨r7, (mz.then_ my).trans m7 (Nat.le_trans kb.size hS_size)⟩, ⟨box_below f10.1 kx, f10.2⟩, off_made m7 vy (off_row vz (mb.has.off_new (S := fun q => q = g10) (fun k e => by rw [e]; exact f10.2)) (blk_ne f2.1 f10.1 (fun e => by simp at e; have := hTk.out; omega))) (blk_ne f5.1 f10.1 (fun e => by simp at e; have := hUk.out; omega)) (blk_lt f10.1), trivial⟩)
    refine join_ (σ := Nat × Nat × Unit) 7 #[true, true, true, true, true, true, false, false, false, false, false, false, false] (fun s => [(80, .agg #[.int .i64 5, .int .i64 0, .string ⟨#[]⟩, .slice (some ⟨s.1, 0, none⟩) 1 1]), (83, .slice (some ⟨s.2.1, 0, none⟩) 1 1)]) (fun s W => Below WN.heap.size WN W ∧ (W.heap[s.1]? = some (.cells #[.int .i64 T.k, .int .i64 T.n, .string T.nm, .slice AT T.ar.length cT] 34) ∧ WN.heap.size ≤ s.1) ∧ (W.heap[s.2.1]? = some (.cells #[.int .i64 U.k, .int .i64 U.n, .string U.nm, .slice AU U.ar.length cU] 34) ∧ WN.heap.size ≤ s.2.1) ∧ True) ?_ (fun stc_2_5 => ?_)
    · rintro ⟨gl, g5, ⟨⟩⟩ W ⟨hS, f2, f5, -⟩
      dsimp only [putAll]
      refine rg2 6 10 rfl rfl (by kernel_rfl) (by decide) (by decide) (by kernel_rfl) (by kernel_rfl) (fun K hK => ?_) (fun K hK => ?_)
      · have hS0 := hS
        go_simp
        have hS_size := hS.size
        obtain ⟨hz, tz, mz, vz⟩ := one_TmS2 (w0 := w) (u := T) (mb.has.below hS) f2.1 (rT0.out.sub mb.sub) (Nat.le_trans kb.size f2.2)
        obtain ⟨hy, ty_, my, vy⟩ := one_TmS2 (w0 := w) (u := U) mz.has f5.1 ((rU0.out.sub mb.sub).sub mz.sub) (Nat.le_trans kb.size f5.2)
        refine (Apply_calls (.mk 5 0 ⟨#[]⟩ [T]) [U] o2 _ _ W hy my.has ((lmT_R tz).sub my.sub) ty_ i2.out).mono ?_
        rintro e W7 ⟨k7, cs7, hXB, rfl, r7, m7⟩
        rw [dXB.out] at r7
        obtain ⟨AXB, cXB, rfl, _⟩ := r7.open_
        rw [deB.out]
        simp only []
        have kx := k7
        refine hK.out _ _ (below_then hS kx hS.size) (fun hS => ?_)
        refine rgt 7 (.tuple #[.agg #[.int .i64 XB.k, .int .i64 XB.n, .string XB.nm, .slice AXB XB.ar.length cXB], .int .i64 eB]) rfl (by kernel_rfl) (fun _ _ _ h => h) (by kernel_rfl) hS (fun V hV => by go_simp) ?_
        refine rgt 8 (.agg #[.int .i64 XB.k, .int .i64 XB.n, .string XB.nm, .slice AXB XB.ar.length cXB]) rfl (by kernel_rfl) (fun _ _ _ h => h) (by kernel_rfl) hS (fun V hV => by go_simp) ?_
        refine rgp 9 (.int .i64 eB) rfl (by kernel_rfl) (fun _ _ _ h => h) (by kernel_rfl) (fun V => by go_simp) ?_
        exact norm_ (by kernel_rfl) (stc_2_5_6 (gl, g5, AXB, cXB, hXB, ()) _ ⟨hS, ⟨box_below f2.1 kx, f2.2⟩, ⟨box_below f5.1 kx, f5.2⟩, ⟨r7, (mz.then_ my).trans m7 (Nat.le_trans kb.size hS_size)⟩, trivial⟩)
      · have hS0 := hS
        go_simp
        have kx := (alloc1 W (.cells #[.int .i64 0, .int .i64 0, .string ⟨#[]⟩, .slice none 0 0] 34)).2
        have kn := blk_new W (.cells #[.int .i64 0, .int .i64 0, .string ⟨#[]⟩, .slice none 0 0] 34)
        have kz : WN.heap.size ≤ W.heap.size := hS.size
        refine hK.out _ _ (below_then hS kx hS.size) (fun hS => ?_)
        exact norm_ (by kernel_rfl) (stc_2_5_10 (gl, g5, W.heap.size, ()) _ ⟨hS, ⟨box_below f2.1 kx, f2.2⟩, ⟨box_below f5.1 kx, f5.2⟩, ⟨kn, kz⟩, trivial⟩)
    refine join_ (σ := Nat × Nat × Unit) 7 #[true, true, true, true, true, false, false, false, false, false, true, false, false] (fun s => [(80, .agg #[.int .i64 5, .int .i64 0, .string ⟨#[]⟩, .slice (some ⟨s.1, 0, none⟩) 1 1]), (6, .pointer (some ⟨s.2.1, 0, none⟩))]) (fun s W => Below WN.heap.size WN W ∧ (W.heap[s.1]? = some (.cells #[.int .i64 T.k, .int .i64 T.n, .string T.nm, .slice AT T.ar.length cT] 34) ∧ WN.heap.size ≤ s.1) ∧ (W.heap[s.2.1]? = some (.cells #[.int .i64 0, .int .i64 0, .string ⟨#[]⟩, .slice none 0 0] 34) ∧ WN.heap.size ≤ s.2.1) ∧ True) ?_ (fun stc_2_10 => ?_)
    · rintro ⟨gl, g10, ⟨⟩⟩ W ⟨hS, f2, f10, -⟩
      dsimp only [putAll]
      refine rg1 5 rfl (by kernel_rfl) (by decide) (by kernel_rfl) (fun K hK => ?_)
      have hS0 := hS
      go_simp
      have kx := (alloc1 W (.cells #[.int .i64 U.k, .int .i64 U.n, .string U.nm, .slice AU U.ar.length cU] 34)).2
      have kn := blk_new W (.cells #[.int .i64 U.k, .int .i64 U.n, .string U.nm, .slice AU U.ar.length cU] 34)
      have kz : WN.heap.size ≤ W.heap.size := hS.size
      refine hK.out _ _ (below_then hS kx hS.size) (fun hS => ?_)
      exact norm_ (by kernel_rfl) (stc_2_5_10 (gl, W.heap.size, g10, ()) _ ⟨hS, ⟨box_below f2.1 kx, f2.2⟩, ⟨kn, kz⟩, ⟨box_below f10.1 kx, f10.2⟩, trivial⟩)
    refine join_ (σ := Nat × Nat × Unit) 7 #[true, true, false, true, true, true, false, false, false, false, true, false, false] (fun s => [(83, .slice (some ⟨s.1, 0, none⟩) 1 1), (6, .pointer (some ⟨s.2.1, 0, none⟩))]) (fun s W => Below WN.heap.size WN W ∧ (W.heap[s.1]? = some (.cells #[.int .i64 U.k, .int .i64 U.n, .string U.nm, .slice AU U.ar.length cU] 34) ∧ WN.heap.size ≤ s.1) ∧ (W.heap[s.2.1]? = some (.cells #[.int .i64 0, .int .i64 0, .string ⟨#[]⟩, .slice none 0 0] 34) ∧ WN.heap.size ≤ s.2.1) ∧ True) ?_ (fun stc_5_10 => ?_)
    · rintro ⟨g5, g10, ⟨⟩⟩ W ⟨hS, f5, f10, -⟩
      dsimp only [putAll]
      refine rg1 2 rfl (by kernel_rfl) (by decide) (by kernel_rfl) (fun K hK => ?_)
      have hS0 := hS
      go_simp
      refine (lam_calls _ _ _ _ _ _ _).mono ?_
      rintro e W7 ⟨gl, rfl, k7, bl, hgl⟩
      simp only []
      have kx := k7
      refine hK.out _ _ (below_then hS kx hS.size) (fun hS => ?_)
      exact norm_ (by kernel_rfl) (stc_2_5_10 (gl, g5, g10, ()) _ ⟨hS, ⟨bl, Nat.le_trans hS0.size hgl⟩, ⟨box_below f5.1 kx, f5.2⟩, ⟨box_below f10.1 kx, f10.2⟩, trivial⟩)
    refine join_ (σ := Nat × Unit) 8 #[true, true, true, true, true, false, false, false, false, false, false, false, false] (fun s => [(80, .agg #[.int .i64 5, .int .i64 0, .string ⟨#[]⟩, .slice (some ⟨s.1, 0, none⟩) 1 1])]) (fun s W => Below WN.heap.size WN W ∧ (W.heap[s.1]? = some (.cells #[.int .i64 T.k, .int .i64 T.n, .string T.nm, .slice AT T.ar.length cT] 34) ∧ WN.heap.size ≤ s.1) ∧ True) ?_ (fun stc_2 => ?_)
    · rintro ⟨gl, ⟨⟩⟩ W ⟨hS, f2, -⟩
      dsimp only [putAll]
      refine rg2 5 10 rfl rfl (by kernel_rfl) (by decide) (by decide) (by kernel_rfl) (by kernel_rfl) (fun K hK => ?_) (fun K hK => ?_)
      · have hS0 := hS
        go_simp
        have kx := (alloc1 W (.cells #[.int .i64 U.k, .int .i64 U.n, .string U.nm, .slice AU U.ar.length cU] 34)).2
        have kn := blk_new W (.cells #[.int .i64 U.k, .int .i64 U.n, .string U.nm, .slice AU U.ar.length cU] 34)
        have kz : WN.heap.size ≤ W.heap.size := hS.size
        refine hK.out _ _ (below_then hS kx hS.size) (fun hS => ?_)
        exact norm_ (by kernel_rfl) (stc_2_5 (gl, W.heap.size, ()) _ ⟨hS, ⟨box_below f2.1 kx, f2.2⟩, ⟨kn, kz⟩, trivial⟩)
      · have hS0 := hS
        go_simp
        have kx := (alloc1 W (.cells #[.int .i64 0, .int .i64 0, .string ⟨#[]⟩, .slice none 0 0] 34)).2
        have kn := blk_new W (.cells #[.int .i64 0, .int .i64 0, .string ⟨#[]⟩, .slice none 0 0] 34)
        have kz : WN.heap.size ≤ W.heap.size := hS.size
        refine hK.out _ _ (below_then hS kx hS.size) (fun hS => ?_)
        exact norm_ (by kernel_rfl) (stc_2_10 (gl, W.heap.size, ()) _ ⟨hS, ⟨box_below f2.1 kx, f2.2⟩, ⟨kn, kz⟩, trivial⟩)
    refine join_ (σ := Nat × Unit) 8 #[true, true, false, true, true, true, false, false, false, false, false, false, false] (fun s => [(83, .slice (some ⟨s.1, 0, none⟩) 1 1)]) (fun s W => Below WN.heap.size WN W ∧ (W.heap[s.1]? = some (.cells #[.int .i64 U.k, .int .i64 U.n, .string U.nm, .slice AU U.ar.length cU] 34) ∧ WN.heap.size ≤ s.1) ∧ True) ?_ (fun stc_5 => ?_)
    · rintro ⟨g5, ⟨⟩⟩ W ⟨hS, f5, -⟩
      dsimp only [putAll]
      refine rg2 2 10 rfl rfl (by kernel_rfl) (by decide) (by decide) (by kernel_rfl) (by kernel_rfl) (fun K hK => ?_) (fun K hK => ?_)
      · have hS0 := hS
        go_simp
        refine (lam_calls _ _ _ _ _ _ _).mono ?_
        rintro e W7 ⟨gl, rfl, k7, bl, hgl⟩
        simp only []
        have kx := k7
        refine hK.out _ _ (below_then hS kx hS.size) (fun hS => ?_)
        exact norm_ (by kernel_rfl) (stc_2_5 (gl, g5, ()) _ ⟨hS, ⟨bl, Nat.le_trans hS0.size hgl⟩, ⟨box_below f5.1 kx, f5.2⟩, trivial⟩)
      · have hS0 := hS
        go_simp
        have kx := (alloc1 W (.cells #[.int .i64 0, .int .i64 0, .string ⟨#[]⟩, .slice none 0 0] 34)).2
        have kn := blk_new W (.cells #[.int .i64 0, .int .i64 0, .string ⟨#[]⟩, .slice none 0 0] 34)
        have kz : WN.heap.size ≤ W.heap.size := hS.size
        refine hK.out _ _ (below_then hS kx hS.size) (fun hS => ?_)
        exact norm_ (by kernel_rfl) (stc_5_10 (g5, W.heap.size, ()) _ ⟨hS, ⟨box_below f5.1 kx, f5.2⟩, ⟨kn, kz⟩, trivial⟩)
    refine join_ (σ := Nat × Unit) 8 #[true, true, false, true, true, false, false, false, false, false, true, false, false] (fun s => [(6, .pointer (some ⟨s.1, 0, none⟩))]) (fun s W => Below WN.heap.size WN W ∧ (W.heap[s.1]? = some (.cells #[.int .i64 0, .int .i64 0, .string ⟨#[]⟩, .slice none 0 0] 34) ∧ WN.heap.size ≤ s.1) ∧ True) ?_ (fun stc_10 => ?_)
    · rintro ⟨g10, ⟨⟩⟩ W ⟨hS, f10, -⟩
      dsimp only [putAll]
      refine rg2 2 5 rfl rfl (by kernel_rfl) (by decide) (by decide) (by kernel_rfl) (by kernel_rfl) (fun K hK => ?_) (fun K hK => ?_)
      · have hS0 := hS
        go_simp
        refine (lam_calls _ _ _ _ _ _ _).mono ?_
        rintro e W7 ⟨gl, rfl, k7, bl, hgl⟩
        simp only []
        have kx := k7
        refine hK.out _ _ (below_then hS kx hS.size) (fun hS => ?_)
        exact norm_ (by kernel_rfl) (stc_2_10 (gl, g10, ()) _ ⟨hS, ⟨bl, Nat.le_trans hS0.size hgl⟩, ⟨box_below f10.1 kx, f10.2⟩, trivial⟩)
      · have hS0 := hS
        go_simp
        have kx := (alloc1 W (.cells #[.int .i64 U.k, .int .i64 U.n, .string U.nm, .slice AU U.ar.length cU] 34)).2
        have kn := blk_new W (.cells #[.int .i64 U.k, .int .i64 U.n, .string U.nm, .slice AU U.ar.length cU] 34)
        have kz : WN.heap.size ≤ W.heap.size := hS.size
        refine hK.out _ _ (below_then hS kx hS.size) (fun hS => ?_)
        exact norm_ (by kernel_rfl) (stc_5_10 (W.heap.size, g10, ()) _ ⟨hS, ⟨kn, kz⟩, ⟨box_below f10.1 kx, f10.2⟩, trivial⟩)
    refine rg3 2 5 10 rfl rfl rfl (by kernel_rfl) (by decide) (by decide) (by decide) (by kernel_rfl) (by kernel_rfl) (by kernel_rfl) (fun K hK => ?_) (fun K hK => ?_) (fun K hK => ?_)
    · have hS0 := hS
      go_simp
      refine (lam_calls _ _ _ _ _ _ _).mono ?_
      rintro e W7 ⟨gl, rfl, k7, bl, hgl⟩
      simp only []
      have kx := k7
      refine hK.out _ _ (below_then hS kx hS.size) (fun hS => ?_)
      exact norm_ (by kernel_rfl) (stc_2 (gl, ()) _ ⟨hS, ⟨bl, Nat.le_trans hS0.size hgl⟩, trivial⟩)
    · have hS0 := hS
      go_simp
      have kx := (alloc1 WN.drew (.cells #[.int .i64 U.k, .int .i64 U.n, .string U.nm, .slice AU U.ar.length cU] 34)).2
      have kn := blk_new WN.drew (.cells #[.int .i64 U.k, .int .i64 U.n, .string U.nm, .slice AU U.ar.length cU] 34)
      have kz : WN.heap.size ≤ WN.drew.heap.size := hS.size
      refine hK.out _ _ (below_then hS kx hS.size) (fun hS => ?_)
      exact norm_ (by kernel_rfl) (stc_5 (WN.drew.heap.size, ()) _ ⟨hS, ⟨kn, kz⟩, trivial⟩)
    · have hS0 := hS
      go_simp
      have kx := (alloc1 WN.drew (.cells #[.int .i64 0, .int .i64 0, .string ⟨#[]⟩, .slice none 0 0] 34)).2
      have kn := blk_new WN.drew (.cells #[.int .i64 0, .int .i64 0, .string ⟨#[]⟩, .slice none 0 0] 34)
      have kz : WN.heap.size ≤ WN.drew.heap.size := hS.size
      refine hK.out _ _ (below_then hS kx hS.size) (fun hS => ?_)
      exact norm_ (by kernel_rfl) (stc_10 (WN.drew.heap.size, ()) _ ⟨hS, ⟨kn, kz⟩, trivial⟩)
  rintro ⟨gl, g5, AXB, cXB, hXB, g10, ⟨⟩⟩ WR ⟨hS, f2, f5, f6, f10, p6_10, -⟩
  dsimp only [putAll]
  try dsimp only at f2
  try dsimp only at f5
  try dsimp only at f6
  try dsimp only at f10
  try dsimp only at p6_10
  clear f2 f5
  have xg := box4 f10.1
  have zg := blk_frozen f10.1
  have lg := blk_lt f10.1
  refine rgl 11 rfl (by kernel_rfl) (by decide) (by kernel_rfl) (fun K hK => ?_)
  go_simp
  refine hK.out _ _ ?_
  refine rgp 12 (.int .i64 eB) rfl (by kernel_rfl) (fun _ _ _ h => h) (by kernel_rfl) (fun V => by go_simp) ?_
  refine rgd (by kernel_rfl) ?_
  obtain ⟨WG, hWF, bF, kpF⟩ : ∃ WF, ((((WR.setCell ⟨g10, 0, none⟩ (.int .i64 XB.k)).setCell ⟨g10, 1, none⟩ (.int .i64 XB.n)).setCell ⟨g10, 2, none⟩ (.string XB.nm)).setCell ⟨g10, 3, none⟩ (.slice AXB XB.ar.length cXB)) = WF ∧
      WF.heap[g10]? = some (.cells #[.int .i64 XB.k, .int .i64 XB.n, .string XB.nm, .slice AXB XB.ar.length cXB] 34) ∧ Kp (fun q => q = g10) WR WF := ⟨_, rfl, (set4 f10.1 _ _ _ _).1, (set4 f10.1 _ _ _ _).2⟩
  rw [hWF]
  have HF := f6.2.has.kp kpF p6_10
  have kE := below_then kb hS kb.size
  have kF : Below w.heap.size w WG := ((Kp.of_below (fun q => q = g10) kE).trans kpF (fun i hi e => e)).below (fun i hi (e : i = g10) => by have h1 := f10.2; have h2 := kb.size; omega)
  obtain ⟨hg, BB, mc⟩ := BoxM.mk_ (w0 := w) HF bF f6.1 (Nat.le_trans kb.size f10.2)
  have ss := f6.2.sub.trans mc.sub
  replace mc := (mb.then_ (f6.2.world HF)).then_ mc
  replace BA := BA.sub ss
  clear hWF xg zg lg HF kE kpF bF ss hS kb mb f6 f10 p6_10
  have kb := kF
  have mb := mc
  clear kF mc
  clear x8 x9 x10 x11 x14 x15 x16 x17 xl
  by_cases zA : eA = 0
  rotate_left
  have zAn : (eA == 0) = false := by simpa using zA
  have zAm : (eA != 0) = true := by simpa using zA
  have zB : (eB == 0) = false := by
    by_cases e : eB = 0
    · exact absurd (hB0.out e).1 zA
    · simpa using e
  clear zA
  obtain ⟨WQ, hWQ⟩ : ∃ W, WG = W := ⟨_, rfl⟩
  rw [hWQ] at kb mb ⊢
  clear hWQ
  clear BA BB hA0 hB0 i1 i2 dXA deA dXB deB rUz hTk hUk
  have xS5 := mb.has.cell _ _ (mb.sub.at_ _ _ (F.out 5 _ rfl))
  have xL20 := mb.has.cell _ _ (mb.sub.at_ _ _ (F.out 20 _ rfl))
  have xl := mb.has.lt (mb.sub.at_ _ _ (F.out 20 _ rfl))
  refine Hid.out ?_
  rotate_left
  rotate_left
  have hA1 := Lib.hid (hA0.out zA)
  subst zA
  have x0 := mb.has.cell _ _ (mb.sub.at_ _ _ (F.out 0 _ rfl))
  have x1 := mb.has.cell _ _ (mb.sub.at_ _ _ (F.out 1 _ rfl))
  have x2 := mb.has.cell _ _ (mb.sub.at_ _ _ (F.out 2 _ rfl))
  have x3 := mb.has.cell _ _ (mb.sub.at_ _ _ (F.out 3 _ rfl))
  have x4 := mb.has.cell _ _ (mb.sub.at_ _ _ (F.out 4 _ rfl))
  have x5 := mb.has.cell _ _ (mb.sub.at_ _ _ (F.out 5 _ rfl))
  have x6 := mb.has.cell _ _ (mb.sub.at_ _ _ (F.out 6 _ rfl))
  have x7 := mb.has.cell _ _ (mb.sub.at_ _ _ (F.out 7 _ rfl))
  have x12 := mb.has.cell _ _ (mb.sub.at_ _ _ (F.out 12 _ rfl))
  have x13 := mb.has.cell _ _ (mb.sub.at_ _ _ (F.out 13 _ rfl))
  have xl := mb.has.lt (mb.sub.at_ _ _ (F.out 0 _ rfl))
  obtain ⟨Aa, ca, ae0, ae1, ae2, ae3, ra⟩ := BA.at_
  have ax0 := mb.has.cell _ _ ae0
  have ax1 := mb.has.cell _ _ ae1
  have ax2 := mb.has.cell _ _ ae2
  have ax3 := mb.has.cell _ _ ae3
  have al := mb.has.lt ae0
  clear ae0 ae1 ae2 ae3
  go_wp2_with fail
  refine (Typed_calls p s XA ty _ _ _ _ _ _ mb.has (rp0.out.sub mb.sub) (rs0.out.sub mb.sub) ra (rty0.out.sub mb.sub) (by have := hsum.out; omega)).mono ?_
  rintro e wC ⟨rfl, kk⟩
  rw [hA1.out.1]
  replace kb := below_then kb kk kb.size
  replace mb := mb.world (mb.has.below kk)
  clear kk ax0 ax1 ax2 ax3 al ra x0 x1 x2 x3 x4 x5 x6 x7 x12 x13 xl
  by_cases zB : eB = 0
  rotate_left
  have zBn : (eB == 0) = false := by simpa using zB
  clear zB
  obtain ⟨WQ, hWQ⟩ : ∃ W, wC = W := ⟨_, rfl⟩
  rw [hWQ] at kb mb ⊢
  clear hWQ
  clear BA BB hA0 hB0 i1 i2 dXA deA dXB deB rUz hTk hUk hA1
  have xS5 := mb.has.cell _ _ (mb.sub.at_ _ _ (F.out 5 _ rfl))
  have xL20 := mb.has.cell _ _ (mb.sub.at_ _ _ (F.out 20 _ rfl))
  have xl := mb.has.lt (mb.sub.at_ _ _ (F.out 20 _ rfl))
  refine Hid.out ?_
  rotate_left
  rotate_left
  rotate_left
  have hB1 := (hB0.out zB).2
  subst hB1
  subst zB
  obtain ⟨Aa, ca, ae0, ae1, ae2, ae3, ra⟩ := BA.at_
  have ax0 := mb.has.cell _ _ ae0
  have ax1 := mb.has.cell _ _ ae1
  have ax2 := mb.has.cell _ _ ae2
  have ax3 := mb.has.cell _ _ ae3
  have al := mb.has.lt ae0
  clear ae0 ae1 ae2 ae3
  obtain ⟨Ab, cb, be0, be1, be2, be3, rb⟩ := BB.at_
  have bx0 := mb.has.cell _ _ be0
  have bx1 := mb.has.cell _ _ be1
  have bx2 := mb.has.cell _ _ be2
  have bx3 := mb.has.cell _ _ be3
  have bl := mb.has.lt be0
  clear be0 be1 be2 be3
  go_wp2_with fail
  refine (Same_calls XB XB _ _ _ _ mb.has ra rb).mono ?_
  rintro e wD ⟨rfl, kk⟩
  rw [hA1.out.2]
  replace kb := below_then kb kk kb.size
  replace mb := mb.world (mb.has.below kk)
  clear kk ax0 ax1 ax2 ax3 al ra bx0 bx1 bx2 bx3 bl rb
  have x0 := mb.has.cell _ _ (mb.sub.at_ _ _ (F.out 0 _ rfl))
  have x1 := mb.has.cell _ _ (mb.sub.at_ _ _ (F.out 1 _ rfl))
  have x2 := mb.has.cell _ _ (mb.sub.at_ _ _ (F.out 2 _ rfl))
  have x3 := mb.has.cell _ _ (mb.sub.at_ _ _ (F.out 3 _ rfl))
  have x4 := mb.has.cell _ _ (mb.sub.at_ _ _ (F.out 4 _ rfl))
  have x5 := mb.has.cell _ _ (mb.sub.at_ _ _ (F.out 5 _ rfl))
  have x6 := mb.has.cell _ _ (mb.sub.at_ _ _ (F.out 6 _ rfl))
  have x7 := mb.has.cell _ _ (mb.sub.at_ _ _ (F.out 7 _ rfl))
  have x12 := mb.has.cell _ _ (mb.sub.at_ _ _ (F.out 12 _ rfl))
  have x13 := mb.has.cell _ _ (mb.sub.at_ _ _ (F.out 13 _ rfl))
  have xl := mb.has.lt (mb.sub.at_ _ _ (F.out 0 _ rfl))
  obtain ⟨Ab, cb, be0, be1, be2, be3, rb⟩ := BB.at_
  have bx0 := mb.has.cell _ _ be0
  have bx1 := mb.has.cell _ _ be1
  have bx2 := mb.has.cell _ _ be2
  have bx3 := mb.has.cell _ _ be3
  have bl := mb.has.lt be0
  clear be0 be1 be2 be3
  go_wp2_with fail
  refine (Typed_calls p s XB ty _ _ _ _ _ _ mb.has (rp0.out.sub mb.sub) (rs0.out.sub mb.sub) rb (rty0.out.sub mb.sub) (by have := hsum.out; omega)).mono ?_
  rintro e wE ⟨rfl, kk⟩
  rw [hA1.out.1]
  replace kb := below_then kb kk kb.size
  replace mb := mb.world (mb.has.below kk)
  clear kk bx0 bx1 bx2 bx3 bl rb x0 x1 x2 x3 x4 x5 x6 x7 x12 x13 xl
  obtain ⟨WQ, hWQ⟩ : ∃ W, wE = W := ⟨_, rfl⟩
  rw [hWQ] at kb mb ⊢
  clear hWQ
  clear BA BB hA0 hB0 i1 i2 dXA deA dXB deB rUz hTk hUk hA1
  have xS5 := mb.has.cell _ _ (mb.sub.at_ _ _ (F.out 5 _ rfl))
  have xL20 := mb.has.cell _ _ (mb.sub.at_ _ _ (F.out 20 _ rfl))
  have xl := mb.has.lt (mb.sub.at_ _ _ (F.out 20 _ rfl))
  refine Hid.out ?_
  all_goals
    refine Lib.hid ?_
    by_cases hLV : L.length = s.vars.length
    rotate_left
    · have hLVn : ((L.length : Int) != s.vars.length) = true := by simp; omega
      go_wp2_with fail
      go_ret
      exact ⟨rfl, kb⟩
    have hLVn : ((L.length : Int) != s.vars.length) = false := by simp; omega
    replace hLV := Lib.hid hLV
    go_wp2_with fail
    clear xS5 xL20 xl hLVn
    (try clear z3n)
    (try clear zAn zAm zB)
    (try clear zBn)
    have hPU2 := Lib.hid (hPU.out hLV.out)
    have hLV' := hLV
    clear hPU hLV
    have hVm := Lib.hid (show (s.vars.length : Int) ≤ 100 by have := hsum.out; omega)
    go_loopw [8] (fun i wr => ∃ j : Nat, j ≤ L.length ∧ i = .int .i64 j ∧ Below w.heap.size w wr ∧ Mk w h wr _ ∧ Hid (∀ j', j' < j → ∀ (x : Tm) (A : Ty), L[j']? = some x → s.vars[j']? = some A → typedP p ⟨[], s.pars, []⟩ x A = 0)) (fun i _ => L.length - (intOf i).toNat)
    case atStart => exact ⟨0, by omega, rfl, kb, mb, by show ∀ j', _ → _; intro j' hj; omega⟩
    case round =>
      obtain ⟨j, hj, rfl, kb, mb, hI⟩ := hrel
      have x20 := mb.has.cell _ _ (mb.sub.at_ _ _ (F.out 20 _ rfl))
      have xl := mb.has.lt (mb.sub.at_ _ _ (F.out 20 _ rfl))
      by_cases hlt : j < L.length
      rotate_left
      · have hlt' : ¬ ((j : Int) < (L.length : Int)) := by omega
        obtain ⟨o, io, hres⟩ := hPU2.out (fun j' x A hx hA => hI.out j' (by have := (List.getElem?_eq_some_iff.1 hx).1; omega) x A hx hA)
        obtain ⟨XP, dXP⟩ : ∃ X, tmS o = X := ⟨_, rfl⟩
        obtain ⟨eP, deP⟩ : ∃ X, codeS o = X := ⟨_, rfl⟩
        rw [dXP, deP] at hres
        replace dXP := Lib.hid dXP
        replace deP := Lib.hid deP
        replace io := Lib.hid io
        replace hres := Lib.hid hres
        clear hI hPU2
        have x8 := mb.has.cell _ _ (mb.sub.at_ _ _ (F.out 8 _ rfl))
        have x9 := mb.has.cell _ _ (mb.sub.at_ _ _ (F.out 9 _ rfl))
        have x10 := mb.has.cell _ _ (mb.sub.at_ _ _ (F.out 10 _ rfl))
        have x11 := mb.has.cell _ _ (mb.sub.at_ _ _ (F.out 11 _ rfl))
        have xl := mb.has.lt (mb.sub.at_ _ _ (F.out 8 _ rfl))
        go_wp2_with fail
        refine (PutG_calls T L o _ _ _ _ mb.has (rT0.out.sub mb.sub) (rL0.out.sub mb.sub) io.out).mono ?_
        rintro e wP ⟨kk, cs1, hh, rfl, r1, m1⟩
        rw [dXP.out] at r1
        rw [deP.out]
        obtain ⟨PA, qA, rfl, -, -, -, -, -⟩ := r1.open_
        have mm := mb.trans m1 kb.size
        replace kb := below_then kb kk kb.size
        clear m1 kk mb
        clear x8 x9 x10 x11 xl
        clear x20 xl
        have x5 := mm.has.cell _ _ (mm.sub.at_ _ _ (F.out 5 _ rfl))
        have x6 := mm.has.cell _ _ (mm.sub.at_ _ _ (F.out 6 _ rfl))
        have x7 := mm.has.cell _ _ (mm.sub.at_ _ _ (F.out 7 _ rfl))
        have x18 := mm.has.cell _ _ (mm.sub.at_ _ _ (F.out 18 _ rfl))
        have x19 := mm.has.cell _ _ (mm.sub.at_ _ _ (F.out 19 _ rfl))
        have xl := mm.has.lt (mm.sub.at_ _ _ (F.out 5 _ rfl))
        go_wp2_with fail
        clear x5 x6 x7 x18 x19 xl
        have bx := blk_new wP (.cells #[.int .i64 XP.k, .int .i64 XP.n, .string XP.nm, .slice PA XP.ar.length qA] 34)
        have kx := (alloc1 wP (.cells #[.int .i64 XP.k, .int .i64 XP.n, .string XP.nm, .slice PA XP.ar.length qA] 34)).2
        obtain ⟨hn, BP, mn⟩ := BoxM.mk_ (w0 := w) (mm.has.below kx) bx r1 kb.size
        obtain ⟨WN, hWN⟩ : ∃ WN, wP.alloc (.cells #[.int .i64 XP.k, .int .i64 XP.n, .string XP.nm, .slice PA XP.ar.length qA] 34) = WN := ⟨_, rfl⟩
        rw [hWN] at kx mn ⊢
        replace kb := below_then kb kx kb.size
        have sn := mn.sub
        have mb : Mk w h WN hn := mm.then_ mn
        clear hWN bx kx mn
        replace r1 := r1.sub sn
        clear sn
        clear mm r1
        refine (below_calls s Uy A0 A1 A2 k0 k1 k2 _ _ _ mb.has (rs0.out.sub mb.sub).three.2.2 (rUy0.out.sub mb.sub) (by have := hsum.out; omega)).mono ?_
        rintro e wR ⟨AB, cB, hb2, rfl, rB, m7, k7⟩
        have mm := mb.trans m7 kb.size
        replace kb := below_then kb k7 kb.size
        replace BP := BP.sub m7.sub
        clear m7 k7 mb
        cases qP : eP != 0
        rotate_left
        · go_wp2_with fail
          go_ret
          first | exact ⟨rfl, kb⟩ | exact ⟨rfl, kb.alloc kb.size _⟩
        have hres2 := Lib.hid (hres.out (by simpa using qP))
        obtain ⟨Ad, cd, de0, de1, de2, de3, rd⟩ := BP.at_
        have dx0 := mm.has.cell _ _ de0
        have dx1 := mm.has.cell _ _ de1
        have dx2 := mm.has.cell _ _ de2
        have dx3 := mm.has.cell _ _ de3
        have dl := mm.has.lt de0
        clear de0 de1 de2 de3
        have x0 := mm.has.cell _ _ (mm.sub.at_ _ _ (F.out 0 _ rfl))
        have x1 := mm.has.cell _ _ (mm.sub.at_ _ _ (F.out 1 _ rfl))
        have x2 := mm.has.cell _ _ (mm.sub.at_ _ _ (F.out 2 _ rfl))
        have x3 := mm.has.cell _ _ (mm.sub.at_ _ _ (F.out 3 _ rfl))
        have x4 := mm.has.cell _ _ (mm.sub.at_ _ _ (F.out 4 _ rfl))
        have x12 := mm.has.cell _ _ (mm.sub.at_ _ _ (F.out 12 _ rfl))
        have x13 := mm.has.cell _ _ (mm.sub.at_ _ _ (F.out 13 _ rfl))
        have xl := mm.has.lt (mm.sub.at_ _ _ (F.out 0 _ rfl))
        obtain ⟨cR, dR⟩ := alloc1 wR (.cells #[.slice A0 s.vars.length k0, .slice A1 s.pars.length k1, .slice AB (s.bound.length + 1) cB] 31)
        go_wp2_with fail
        refine (Typed_calls p ⟨[], s.pars, s.bound ++ [Uy]⟩ XP ty _ _ _ _ _ _ (mm.has.below dR) (rp0.out.sub mm.sub) ⟨_, _, _, rfl, TyS_nil' _, (rs0.out.sub mm.sub).three.2.1, rB⟩ rd (rty0.out.sub mm.sub) (by have := hsum.out; simp; omega)).mono ?_
        rintro e wS ⟨rfl, kk⟩
        rw [hres2.out]
        replace kb := below_then (below_then kb dR kb.size) kk (Nat.le_trans kb.size dR.size)
        go_wp2_with fail
        go_ret
        exact ⟨rfl, kb⟩
      have hlt' : (j : Int) < (L.length : Int) := by omega
      have hltv : j < s.vars.length := by have := hLV'.out; omega
      go_wp2_with fail
      clear x20 xl
      have x0 := mb.has.cell _ _ (mb.sub.at_ _ _ (F.out 0 _ rfl))
      have x1 := mb.has.cell _ _ (mb.sub.at_ _ _ (F.out 1 _ rfl))
      have x2 := mb.has.cell _ _ (mb.sub.at_ _ _ (F.out 2 _ rfl))
      have x3 := mb.has.cell _ _ (mb.sub.at_ _ _ (F.out 3 _ rfl))
      have x4 := mb.has.cell _ _ (mb.sub.at_ _ _ (F.out 4 _ rfl))
      have x5 := mb.has.cell _ _ (mb.sub.at_ _ _ (F.out 5 _ rfl))
      have x6 := mb.has.cell _ _ (mb.sub.at_ _ _ (F.out 6 _ rfl))
      have x7 := mb.has.cell _ _ (mb.sub.at_ _ _ (F.out 7 _ rfl))
      have x20 := mb.has.cell _ _ (mb.sub.at_ _ _ (F.out 20 _ rfl))
      have xl := mb.has.lt (mb.sub.at_ _ _ (F.out 0 _ rfl))
      obtain ⟨AL', cL', eL, hLc, hLm2, hLl⟩ := (rL0.out.sub mb.sub)
      cases eL
      obtain ⟨b', o', A', c', rfl, e0, e1, e2, e3, rt⟩ := hLl.get j hlt
      obtain ⟨AV', cV', eV, hVc, hVm2, hVl⟩ := (rs0.out.sub mb.sub).three.1
      cases eV
      obtain ⟨b'', o'', A'', c'', rfl, f0, f1, rv⟩ := hVl.get j hltv
      have u0 := mb.has.cell _ _ e0
      have u1 := mb.has.cell _ _ e1
      have u2 := mb.has.cell _ _ e2
      have u3 := mb.has.cell _ _ e3
      have v0 := mb.has.cell _ _ f0
      have v1 := mb.has.cell _ _ f1
      have hjI := Lib.hid (show L[j]? = some L[j] from List.getElem?_eq_getElem hlt)
      have hjV := Lib.hid (show s.vars[j]? = some s.vars[j] from List.getElem?_eq_getElem hltv)
      replace rt := Lib.hid rt
      replace rv := Lib.hid rv
      generalize L[j] = X at *
      generalize s.vars[j] = Y at *
      clear e0 e1 e2 e3 f0 f1 hLl hVl
      refine rgs 19 (fun V => Below wr.heap.size wr V) [] rfl ((Below.refl _ _).drew) (fun hS => ?_)
      refine rgnf 0 146 (.pointer (some ⟨w.heap.size, 0, none⟩)) rfl rfl (by kernel_rfl) (fun _ _ _ h => h) (by kernel_rfl) hS (fun V hV => by go_simp) ?_
      refine rgnf 1 147 (.agg #[.slice At p.types.length kt, .slice Ac p.consts.length kc, .slice Z2 n2 z2, .slice Z3 n3 z3, .slice Z4 n4 z4]) rfl rfl (by kernel_rfl) (fun _ _ _ h => h) (by kernel_rfl) hS (fun V hV => by have q0 := cell_below x0 hV; have q1 := cell_below x1 hV; have q2 := cell_below x2 hV; have q3 := cell_below x3 hV; have q4 := cell_below x4 hV; go_simp) ?_
      refine rgnf 2 148 (.pointer (some ⟨w.heap.size, 5, none⟩)) rfl rfl (by kernel_rfl) (fun _ _ _ h => h) (by kernel_rfl) hS (fun V hV => by go_simp) ?_
      refine rgnf 3 149 (.pointer (some ⟨w.heap.size, 6, none⟩)) rfl rfl (by kernel_rfl) (fun _ _ _ h => h) (by kernel_rfl) hS (fun V hV => by go_simp) ?_
      refine rgnf 4 150 (.slice A1 s.pars.length k1) rfl rfl (by kernel_rfl) (fun _ _ _ h => h) (by kernel_rfl) hS (fun V hV => by have q0 := cell_below x6 hV; go_simp) ?_
      refine rgnf 5 151 (.agg #[.slice none 0 0, .slice A1 s.pars.length k1, .slice none 0 0]) rfl rfl (by kernel_rfl) (fun _ _ _ h => h) (by kernel_rfl) hS (fun V hV => by go_simp) ?_
      refine rgnf 6 152 (.pointer (some ⟨w.heap.size, 20, none⟩)) rfl rfl (by kernel_rfl) (fun _ _ _ h => h) (by kernel_rfl) hS (fun V hV => by go_simp) ?_
      refine rgnf 7 153 (.slice (some ⟨b', o', none⟩) L.length cL) rfl rfl (by kernel_rfl) (fun _ _ _ h => h) (by kernel_rfl) hS (fun V hV => by have q0 := cell_below x20 hV; go_simp) ?_
      refine rgnf 8 154 (.int .i64 j) rfl rfl (by kernel_rfl) (fun _ _ _ h => h) (by kernel_rfl) hS (fun V hV => by go_simp) ?_
      refine rgnf 9 155 (.pointer (some ⟨b', o' + j * 4, none⟩)) rfl rfl (by kernel_rfl) (fun _ _ _ h => h) (by kernel_rfl) hS (fun V hV => by go_simp) ?_
      refine rgnf 10 156 (.agg #[.int .i64 X.k, .int .i64 X.n, .string X.nm, .slice A' X.ar.length c']) rfl rfl (by kernel_rfl) (fun _ _ _ h => h) (by kernel_rfl) hS (fun V hV => by have q0 := cell_below u0 hV; have q1 := cell_below u1 hV; have q2 := cell_below u2 hV; have q3 := cell_below u3 hV; go_simp) ?_
      refine rgnf 11 157 (.pointer (some ⟨w.heap.size, 5, none⟩)) rfl rfl (by kernel_rfl) (fun _ _ _ h => h) (by kernel_rfl) hS (fun V hV => by go_simp) ?_
      refine rgnf 12 158 (.pointer (some ⟨w.heap.size, 5, none⟩)) rfl rfl (by kernel_rfl) (fun _ _ _ h => h) (by kernel_rfl) hS (fun V hV => by go_simp) ?_
      refine rgnf 13 159 (.slice (some ⟨b'', o'', none⟩) s.vars.length k0) rfl rfl (by kernel_rfl) (fun _ _ _ h => h) (by kernel_rfl) hS (fun V hV => by have q0 := cell_below x5 hV; go_simp) ?_
      refine rgnf 14 160 (.int .i64 j) rfl rfl (by kernel_rfl) (fun _ _ _ h => h) (by kernel_rfl) hS (fun V hV => by go_simp) ?_
      refine rgnf 15 161 (.pointer (some ⟨b'', o'' + j * 2, none⟩)) rfl rfl (by kernel_rfl) (fun _ _ _ h => h) (by kernel_rfl) hS (fun V hV => by go_simp) ?_
      refine rgnf 16 162 (.agg #[.string Y.nm, .slice A'' Y.ar.length c'']) rfl rfl (by kernel_rfl) (fun _ _ _ h => h) (by kernel_rfl) hS (fun V hV => by have q0 := cell_below v0 hV; have q1 := cell_below v1 hV; go_simp) ?_
      simp only [Act.put, List.setIfInBounds_toArray, List.set_cons_zero, List.set_cons_succ]
      refine rg1 17 rfl (by kernel_rfl) (by decide) (by kernel_rfl) (fun K hK => ?_)
      have hS0 := hS
      go_simp
      refine (Typed_calls p ⟨[], s.pars, []⟩ X Y _ _ _ _ _ _ (mb.has.below hS0) (rp0.out.sub mb.sub) ⟨_, _, _, rfl, TyS_nil' _, (rs0.out.sub mb.sub).three.2.1, TyS_nil' _⟩ rt.out rv.out (by simp)).mono ?_
      rintro e W7 ⟨rfl, k7⟩
      simp only []
      have kx := k7
      refine hK.out _ _ (below_then hS0 kx hS0.size) (fun hS => ?_)
      replace kb := below_then kb hS kb.size
      replace mb := mb.world (mb.has.below hS)
      obtain ⟨eX, heX⟩ : ∃ e, typedP p ⟨[], s.pars, []⟩ X Y = e := ⟨_, rfl⟩
      rw [heX]
      cases qX : eX != 0
      · refine rgnf 18 164 (.bool false) rfl rfl (by kernel_rfl) (fun _ _ _ h => h) (by kernel_rfl) hS (fun V hV => by go_simp) ?_
        refine rgd (by kernel_rfl) ?_
        simp only [Act.put, List.setIfInBounds_toArray, List.set_cons_zero, List.set_cons_succ]
        have hI2 : Hid (∀ j', j' < j + 1 → ∀ (x : Tm) (A : Ty), L[j']? = some x → s.vars[j']? = some A → typedP p ⟨[], s.pars, []⟩ x A = 0) := by
          show ∀ j', _ → _
          intro j' hj' x A hx hA
          by_cases e : j' = j
          · subst e
            rw [hjI.out] at hx
            rw [hjV.out] at hA
            cases hx
            cases hA
            rw [heX]
            simpa using qX
          · exact hI.out j' (by omega) x A hx hA
        clear hI qX heX hjI hjV hS kx k7
        clear x0 x1 x2 x3 x4 x5 x6 x7 x20 xl
        have x20 := mb.has.cell _ _ (mb.sub.at_ _ _ (F.out 20 _ rfl))
        have xl := mb.has.lt (mb.sub.at_ _ _ (F.out 20 _ rfl))
        go_wp2_with fail
        exact ⟨⟨j + 1, by omega, by go_num, kb, mb, hI2⟩, by simp [intOf]; omega⟩
      · refine rgnf 18 164 (.bool true) rfl rfl (by kernel_rfl) (fun _ _ _ h => h) (by kernel_rfl) hS (fun V hV => by go_simp) ?_
        refine rgd (by kernel_rfl) ?_
        simp only [Act.put, List.setIfInBounds_toArray, List.set_cons_zero, List.set_cons_succ]
        go_wp2_with fail
        go_ret
        exact ⟨rfl, kb⟩
end Go.Proofs.YtpgbeapojjinmaaGreatDoor
