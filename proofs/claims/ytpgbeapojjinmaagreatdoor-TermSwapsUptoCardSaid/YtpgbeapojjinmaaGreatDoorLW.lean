/- The statement TermSwaps: its walk. -/
import Derived.Test.YtpgbeapojjinmaaGreatDoorWK
import Derived.Test.YtpgbeapojjinmaaGreatDoorWV
set_option linter.unusedVariables false
set_option linter.unusedSimpArgs false
namespace Go.Proofs.YtpgbeapojjinmaaGreatDoor
open Go.RowKit Go.Shelf Go.Proofs.YtpgbeapojjinmaaGreatDoorW.PrintLast
theorem typedP_ok2 {p : Pg} {s : Sc} {t : Tm} {ty : Ty} (h : typedP p s t ty = 0) : rawP t = 0 ∧ okT p s.vars s.pars s.bound.reverse t ty = true := by
  have h1 : rawP t = 0 := by
    unfold typedP at h
    split at h
    · assumption
    · exact absurd h ‹_›
  refine ⟨h1, ?_⟩
  rw [← can_ok p s.vars s.pars t.sz t s.bound ty (Nat.le_refl _) (raw_parts h1).2.1]
  unfold typedP at h
  rw [if_pos h1] at h
  split at h
  · split at h
    · assumption
    · cases h
  · exact absurd h ‹_›
theorem swaps_law {p : Pg} {s : Sc} {T S U : Tm} {ty Sy Uy : Ty} (hT : typedP p ⟨s.vars, s.pars, s.bound ++ [Uy] ++ [Sy]⟩ T ty = 0) (hS : typedP p ⟨s.vars, s.pars, s.bound ++ [Uy]⟩ S Sy = 0) (hU : typedP p s U Uy = 0) (hl : s.vars.length + s.pars.length + s.bound.length ≤ 1000) :
    ∃ o1 o2 o3 o4, SubstIs T S o1 ∧ SubstIs (tmS o1) U o2 ∧ SubstIs (.mk 5 0 ⟨#[]⟩ [T]) U o3 ∧ SubstIs S U o4 ∧
      (codeS o1 = 0 → codeS o2 = 0 → codeS o3 = 0 → codeS o4 = 0 → ∃ x, tmS o3 = .mk 5 0 ⟨#[]⟩ [x] ∧ ∃ o5, SubstIs x (tmS o4) o5 ∧ (codeS o5 = 0 → sameV (tmS o5) (tmS o2) = true)) := by
  obtain ⟨r1, k1⟩ := typedP_ok2 hT
  obtain ⟨r2, k2⟩ := typedP_ok2 hS
  obtain ⟨r3, k3⟩ := typedP_ok2 hU
  simp only [List.reverse_append, List.reverse_cons, List.reverse_nil, List.nil_append, List.cons_append] at k1 k2
  exact swap_law k1 k2 k3 r1 r2 r3 (by simp; omega) (by omega) (by omega)
set_option maxRecDepth 100000 in
set_option maxHeartbeats 16000000 in
theorem TermSwaps_calls (p : Pg) (s : Sc) (T : Tm) (ty : Ty) (S : Tm) (Sy : Ty) (U : Tm) (Uy : Ty) (ps ss cT cty cS cSy cU cUy : List Value) (w : World) (h00 : Snap) (H : Has w h00) (rp : PgR h00 p ps) (rs : ScR h00 s ss) (rT : TmR h00 T cT) (rty : TyR h00 ty cty) (rS : TmR h00 S cS) (rSy : TyR h00 Sy cSy) (rU : TmR h00 U cU) (rUy : TyR h00 Uy cUy) :
    Calls Tryz.prog 9 #[.agg (ps ++ ss ++ cT ++ cty ++ cS ++ cSy ++ cU ++ cUy).toArray] w fun e w' => e = .returned (.bool true) ∧ Below w.heap.size w w' := by
  have rT0 := rT
  obtain ⟨AT, cT, rfl, -, -, -, -, -⟩ := rT.open_
  have rS0 := rS
  obtain ⟨AS, cS, rfl, -, -, -, -, -⟩ := rS.open_
  have rU0 := rU
  obtain ⟨AU, cU, rfl, -, -, -, -, -⟩ := rU.open_
  have rty0 := rty
  obtain ⟨Aty, cty, rfl, -, -, -⟩ := rty.open_
  have rSy0 := rSy
  obtain ⟨ASy, cSy, rfl, -, -, -⟩ := rSy.open_
  have rUy0 := rUy
  obtain ⟨AUy, cUy, rfl, -, -, -⟩ := rUy.open_
  have rp0 := rp
  have rs0 := rs
  obtain ⟨v0, v1, Z2, n2, z2, Z3, n3, z3, Z4, n4, z4, rfl, ⟨At, kt, rfl, -⟩, ⟨Ac, kc, rfl, -⟩⟩ := rp
  obtain ⟨s0, s1, s2, rfl, ⟨A0, k0, rfl, -⟩, ⟨A1, k1, rfl, -⟩, ⟨A2, k2, rfl, -⟩⟩ := rs
  have hu28 := Tryz.underlying28
  have hu31 := Tryz.underlying31
  have hu34 := Tryz.underlying34
  have hu36 := Tryz.underlying36
  have hu77 := Tryz.underlying77
  clear rT rS rU rty rSy rUy
  simp only [List.cons_append, List.nil_append]
  obtain ⟨a1, kb⟩ := alloc1 w (.cells #[.slice At p.types.length kt, .slice Ac p.consts.length kc, .slice Z2 n2 z2, .slice Z3 n3 z3, .slice Z4 n4 z4, .slice A0 s.vars.length k0, .slice A1 s.pars.length k1, .slice A2 s.bound.length k2, .int .i64 T.k, .int .i64 T.n, .string T.nm, .slice AT T.ar.length cT, .string ty.nm, .slice Aty ty.ar.length cty, .int .i64 S.k, .int .i64 S.n, .string S.nm, .slice AS S.ar.length cS, .string Sy.nm, .slice ASy Sy.ar.length cSy, .int .i64 U.k, .int .i64 U.n, .string U.nm, .slice AU U.ar.length cU, .string Uy.nm, .slice AUy Uy.ar.length cUy] 77)
  obtain ⟨h, F, m0⟩ := row_snap (w0 := w) (H.below kb) a1 (Nat.le_refl _)
  replace F := Lib.hid F
  have sb0 := m0.sub
  replace H := m0.has
  replace rT0 := Lib.hid (rT0.sub sb0)
  replace rS0 := Lib.hid (rS0.sub sb0)
  replace rU0 := Lib.hid (rU0.sub sb0)
  replace rty0 := Lib.hid (rty0.sub sb0)
  replace rSy0 := Lib.hid (rSy0.sub sb0)
  replace rUy0 := Lib.hid (rUy0.sub sb0)
  replace rp0 := Lib.hid (rp0.sub sb0)
  replace rs0 := Lib.hid (rs0.sub sb0)
  clear a1 m0 sb0
  go_enter Tryz.func9, Tryz.ntmps9
  go_wp2_with fail
  refine (sane_calls _ h H).mono ?_
  rintro e w0 ⟨rfl, kk⟩
  replace kb := below_then kb kk kb.size
  have mb : Mk w h w0 h := Mk.refl (H.below kk)
  clear H kk
  have x5 := mb.has.cell _ _ (mb.sub.at_ _ _ (F.out 5 _ rfl))
  have x6 := mb.has.cell _ _ (mb.sub.at_ _ _ (F.out 6 _ rfl))
  have x7 := mb.has.cell _ _ (mb.sub.at_ _ _ (F.out 7 _ rfl))
  have xl := mb.has.lt (mb.sub.at_ _ _ (F.out 5 _ rfl))
  go_wp2_with fail
  refine (wide_calls s _ _ h mb.has (rs0.out.sub mb.sub)).mono ?_
  rintro e w1 ⟨rfl, kk⟩
  replace kb := below_then kb kk kb.size
  replace mb := mb.world (mb.has.below kk)
  clear kk
  clear x5 x6 x7 xl
  by_cases c1 : 60 < s.vars.length + s.pars.length + s.bound.length
  · rw [decide_eq_true c1]
    clear c1
    go_wp2_with fail
    go_ret
    exact ⟨rfl, kb⟩
  rw [decide_eq_false c1]
  have hsum := Lib.hid c1
  clear c1
  have x0 := mb.has.cell _ _ (mb.sub.at_ _ _ (F.out 0 _ rfl))
  have x1 := mb.has.cell _ _ (mb.sub.at_ _ _ (F.out 1 _ rfl))
  have x2 := mb.has.cell _ _ (mb.sub.at_ _ _ (F.out 2 _ rfl))
  have x3 := mb.has.cell _ _ (mb.sub.at_ _ _ (F.out 3 _ rfl))
  have x4 := mb.has.cell _ _ (mb.sub.at_ _ _ (F.out 4 _ rfl))
  have x5 := mb.has.cell _ _ (mb.sub.at_ _ _ (F.out 5 _ rfl))
  have x6 := mb.has.cell _ _ (mb.sub.at_ _ _ (F.out 6 _ rfl))
  have x7 := mb.has.cell _ _ (mb.sub.at_ _ _ (F.out 7 _ rfl))
  have xl := mb.has.lt (mb.sub.at_ _ _ (F.out 0 _ rfl))
  go_wp2_with fail
  refine (Few_calls p s _ _ _ h mb.has (rp0.out.sub mb.sub) (rs0.out.sub mb.sub)).mono ?_
  rintro e w2 ⟨bf, rfl, -, kk⟩
  replace kb := below_then kb kk kb.size
  replace mb := mb.world (mb.has.below kk)
  clear kk
  clear x0 x1 x2 x3 x4 x5 x6 x7 xl
  cases bf
  · go_wp2_with fail
    go_ret
    exact ⟨rfl, kb⟩
  have x8 := mb.has.cell _ _ (mb.sub.at_ _ _ (F.out 8 _ rfl))
  have x9 := mb.has.cell _ _ (mb.sub.at_ _ _ (F.out 9 _ rfl))
  have x10 := mb.has.cell _ _ (mb.sub.at_ _ _ (F.out 10 _ rfl))
  have x11 := mb.has.cell _ _ (mb.sub.at_ _ _ (F.out 11 _ rfl))
  have x14 := mb.has.cell _ _ (mb.sub.at_ _ _ (F.out 14 _ rfl))
  have x15 := mb.has.cell _ _ (mb.sub.at_ _ _ (F.out 15 _ rfl))
  have x16 := mb.has.cell _ _ (mb.sub.at_ _ _ (F.out 16 _ rfl))
  have x17 := mb.has.cell _ _ (mb.sub.at_ _ _ (F.out 17 _ rfl))
  have x20 := mb.has.cell _ _ (mb.sub.at_ _ _ (F.out 20 _ rfl))
  have x21 := mb.has.cell _ _ (mb.sub.at_ _ _ (F.out 21 _ rfl))
  have x22 := mb.has.cell _ _ (mb.sub.at_ _ _ (F.out 22 _ rfl))
  have x23 := mb.has.cell _ _ (mb.sub.at_ _ _ (F.out 23 _ rfl))
  have xl := mb.has.lt (mb.sub.at_ _ _ (F.out 8 _ rfl))
  go_wp2_with fail
  obtain ⟨c1, d1⟩ := alloc1 w2 (.cells #[.int .i64 T.k, .int .i64 T.n, .string T.nm, .slice AT T.ar.length cT, .int .i64 S.k, .int .i64 S.n, .string S.nm, .slice AS S.ar.length cS, .int .i64 U.k, .int .i64 U.n, .string U.nm, .slice AU U.ar.length cU] 34)
  obtain ⟨h2, r2, m2⟩ := three_TmS (w0 := w2) (u := T) (v := S) (x := U) (mb.has.below d1) c1 (rT0.out.sub mb.sub) (rS0.out.sub mb.sub) (rU0.out.sub mb.sub) (Nat.le_refl _)
  refine (Brief_calls [T, S, U] _ _ h2 m2.has r2).mono ?_
  rintro e w3 ⟨bg, rfl, kk⟩
  replace kk := below_then d1 kk d1.size
  replace kb := below_then kb kk kb.size
  replace mb := mb.world (mb.has.below kk)
  clear c1 d1 r2 m2 kk
  clear x8 x9 x10 x11 x14 x15 x16 x17 x20 x21 x22 x23 xl
  cases bg
  · go_wp2_with fail
    go_ret
    exact ⟨rfl, kb⟩
  have x5 := mb.has.cell _ _ (mb.sub.at_ _ _ (F.out 5 _ rfl))
  have x6 := mb.has.cell _ _ (mb.sub.at_ _ _ (F.out 6 _ rfl))
  have x7 := mb.has.cell _ _ (mb.sub.at_ _ _ (F.out 7 _ rfl))
  have x24 := mb.has.cell _ _ (mb.sub.at_ _ _ (F.out 24 _ rfl))
  have x25 := mb.has.cell _ _ (mb.sub.at_ _ _ (F.out 25 _ rfl))
  have xl := mb.has.lt (mb.sub.at_ _ _ (F.out 5 _ rfl))
  go_wp2_with fail
  refine (below_calls s Uy A0 A1 A2 k0 k1 k2 _ _ h mb.has (rs0.out.sub mb.sub).three.2.2 (rUy0.out.sub mb.sub) (by have := hsum.out; omega)).mono ?_
  rintro e w4 ⟨AB, cB, hb, rfl, rB, m1, kk⟩
  replace mb := mb.trans m1 kb.size
  replace kb := below_then kb kk kb.size
  clear m1 kk
  clear x5 x6 x7 x24 x25 xl
  have x5 := mb.has.cell _ _ (mb.sub.at_ _ _ (F.out 5 _ rfl))
  have xl := mb.has.lt (mb.sub.at_ _ _ (F.out 5 _ rfl))
  go_wp2_with fail
  obtain ⟨c1, d1⟩ := alloc1 w4 (.cells #[.slice A0 s.vars.length k0, .slice A1 s.pars.length k1, .slice AB (s.bound.length + 1) cB] 31)
  obtain ⟨h1, F1, m1⟩ := row_snap (w0 := w) (mb.has.below d1) c1 kb.size
  obtain ⟨g1, hg1⟩ : ∃ g, w4.heap.size = g := ⟨_, rfl⟩
  obtain ⟨W5, hW5⟩ : ∃ W5, w4.alloc (.cells #[.slice A0 s.vars.length k0, .slice A1 s.pars.length k1, .slice AB (s.bound.length + 1) cB] 31) = W5 := ⟨_, rfl⟩
  rw [hW5] at d1 m1 ⊢
  rw [hg1] at F1 ⊢
  replace kb := below_then kb d1 kb.size
  replace F1 := Lib.hid F1
  replace rB := Lib.hid (rB.sub m1.sub)
  replace mb : Mk w h W5 h1 := mb.then_ m1
  have rO : Hid (ScR h1 ⟨s.vars, s.pars, s.bound ++ [Uy]⟩ [.slice A0 s.vars.length k0, .slice A1 s.pars.length k1, .slice AB (s.bound.length + 1) cB]) := Lib.hid ⟨_, _, _, rfl, (rs0.out.sub mb.sub).three.1, (rs0.out.sub mb.sub).three.2.1, rB.out⟩
  clear hW5 c1 d1 m1 hg1 xl x5
  obtain ⟨e1, he1⟩ : ∃ e, typedP p ⟨s.vars, s.pars, s.bound ++ [Uy] ++ [Sy]⟩ T ty = e := ⟨_, rfl⟩
  obtain ⟨e2, he2⟩ : ∃ e, typedP p ⟨s.vars, s.pars, s.bound ++ [Uy]⟩ S Sy = e := ⟨_, rfl⟩
  obtain ⟨e3, he3⟩ : ∃ e, typedP p s U Uy = e := ⟨_, rfl⟩
  have hlaw := Lib.hid (show e1 = 0 → e2 = 0 → e3 = 0 → _ from fun q1 q2 q3 => swaps_law (he1.trans q1) (he2.trans q2) (he3.trans q3) (by have := hsum.out; omega))
  replace he1 := Lib.hid he1
  replace he2 := Lib.hid he2
  replace he3 := Lib.hid he3
  have x0 := mb.has.cell _ _ (mb.sub.at_ _ _ (F.out 0 _ rfl))
  have x1 := mb.has.cell _ _ (mb.sub.at_ _ _ (F.out 1 _ rfl))
  have x2 := mb.has.cell _ _ (mb.sub.at_ _ _ (F.out 2 _ rfl))
  have x3 := mb.has.cell _ _ (mb.sub.at_ _ _ (F.out 3 _ rfl))
  have x4 := mb.has.cell _ _ (mb.sub.at_ _ _ (F.out 4 _ rfl))
  have x5 := mb.has.cell _ _ (mb.sub.at_ _ _ (F.out 5 _ rfl))
  have x6 := mb.has.cell _ _ (mb.sub.at_ _ _ (F.out 6 _ rfl))
  have x7 := mb.has.cell _ _ (mb.sub.at_ _ _ (F.out 7 _ rfl))
  have x8 := mb.has.cell _ _ (mb.sub.at_ _ _ (F.out 8 _ rfl))
  have x9 := mb.has.cell _ _ (mb.sub.at_ _ _ (F.out 9 _ rfl))
  have x10 := mb.has.cell _ _ (mb.sub.at_ _ _ (F.out 10 _ rfl))
  have x11 := mb.has.cell _ _ (mb.sub.at_ _ _ (F.out 11 _ rfl))
  have x12 := mb.has.cell _ _ (mb.sub.at_ _ _ (F.out 12 _ rfl))
  have x13 := mb.has.cell _ _ (mb.sub.at_ _ _ (F.out 13 _ rfl))
  have x14 := mb.has.cell _ _ (mb.sub.at_ _ _ (F.out 14 _ rfl))
  have x15 := mb.has.cell _ _ (mb.sub.at_ _ _ (F.out 15 _ rfl))
  have x16 := mb.has.cell _ _ (mb.sub.at_ _ _ (F.out 16 _ rfl))
  have x17 := mb.has.cell _ _ (mb.sub.at_ _ _ (F.out 17 _ rfl))
  have x18 := mb.has.cell _ _ (mb.sub.at_ _ _ (F.out 18 _ rfl))
  have x19 := mb.has.cell _ _ (mb.sub.at_ _ _ (F.out 19 _ rfl))
  have x20 := mb.has.cell _ _ (mb.sub.at_ _ _ (F.out 20 _ rfl))
  have x21 := mb.has.cell _ _ (mb.sub.at_ _ _ (F.out 21 _ rfl))
  have x22 := mb.has.cell _ _ (mb.sub.at_ _ _ (F.out 22 _ rfl))
  have x23 := mb.has.cell _ _ (mb.sub.at_ _ _ (F.out 23 _ rfl))
  have x24 := mb.has.cell _ _ (mb.sub.at_ _ _ (F.out 24 _ rfl))
  have x25 := mb.has.cell _ _ (mb.sub.at_ _ _ (F.out 25 _ rfl))
  have xl := mb.has.lt (mb.sub.at_ _ _ (F.out 0 _ rfl))
  have uu0 := mb.has.cell _ _ (F1.out 0 _ rfl)
  have uu1 := mb.has.cell _ _ (F1.out 1 _ rfl)
  have uu2 := mb.has.cell _ _ (F1.out 2 _ rfl)
  refine rgs 35 (fun V => Below W5.heap.size W5 V) [] rfl ((Below.refl _ _).drew) (fun hS => ?_)
  refine rgnf 0 48 (.pointer (some ⟨w.heap.size, 0, none⟩)) rfl rfl (by kernel_rfl) (fun _ _ _ h => h) (by kernel_rfl) hS (fun V hV => by go_simp) ?_
  refine rgnf 1 49 (.agg #[.slice At p.types.length kt, .slice Ac p.consts.length kc, .slice Z2 n2 z2, .slice Z3 n3 z3, .slice Z4 n4 z4]) rfl rfl (by kernel_rfl) (fun _ _ _ h => h) (by kernel_rfl) hS (fun V hV => by have q0 := cell_below x0 hV; have q1 := cell_below x1 hV; have q2 := cell_below x2 hV; have q3 := cell_below x3 hV; have q4 := cell_below x4 hV; go_simp) ?_
  refine rgnf 2 50 (.agg #[.slice A0 s.vars.length k0, .slice A1 s.pars.length k1, .slice AB (s.bound.length + 1) cB]) rfl rfl (by kernel_rfl) (fun _ _ _ h => h) (by kernel_rfl) hS (fun V hV => by have q0 := cell_below uu0 hV; have q1 := cell_below uu1 hV; have q2 := cell_below uu2 hV; go_simp) ?_
  refine rgnf 3 51 (.pointer (some ⟨w.heap.size, 18, none⟩)) rfl rfl (by kernel_rfl) (fun _ _ _ h => h) (by kernel_rfl) hS (fun V hV => by go_simp) ?_
  refine rgnf 4 52 (.agg #[.string Sy.nm, .slice ASy Sy.ar.length cSy]) rfl rfl (by kernel_rfl) (fun _ _ _ h => h) (by kernel_rfl) hS (fun V hV => by have q0 := cell_below x18 hV; have q1 := cell_below x19 hV; go_simp) ?_
  refine rgnf 6 54 (.pointer (some ⟨w.heap.size, 8, none⟩)) rfl rfl (by kernel_rfl) (fun _ _ _ h => h) (by kernel_rfl) hS (fun V hV => by go_simp) ?_
  refine rgnf 7 55 (.agg #[.int .i64 T.k, .int .i64 T.n, .string T.nm, .slice AT T.ar.length cT]) rfl rfl (by kernel_rfl) (fun _ _ _ h => h) (by kernel_rfl) hS (fun V hV => by have q0 := cell_below x8 hV; have q1 := cell_below x9 hV; have q2 := cell_below x10 hV; have q3 := cell_below x11 hV; go_simp) ?_
  refine rgnf 8 56 (.pointer (some ⟨w.heap.size, 12, none⟩)) rfl rfl (by kernel_rfl) (fun _ _ _ h => h) (by kernel_rfl) hS (fun V hV => by go_simp) ?_
  refine rgnf 9 57 (.agg #[.string ty.nm, .slice Aty ty.ar.length cty]) rfl rfl (by kernel_rfl) (fun _ _ _ h => h) (by kernel_rfl) hS (fun V hV => by have q0 := cell_below x12 hV; have q1 := cell_below x13 hV; go_simp) ?_
  simp only [Act.put, List.setIfInBounds_toArray, List.set_cons_zero, List.set_cons_succ]
  have hbl := Lib.hid (show (s.bound ++ [Uy]).length = s.bound.length + 1 by simp)
  refine rg1 5 rfl (by kernel_rfl) (by decide) (by kernel_rfl) (fun K hK => ?_)
  have hS0 := hS
  go_simp
  refine (below_callsN (s.bound.length + 1) ⟨s.vars, s.pars, s.bound ++ [Uy]⟩ hbl.out Sy A0 A1 AB _ _ k0 k1 cB rfl rfl _ _ h1 (mb.has.below hS0) rB.out (rSy0.out.sub mb.sub) (by have := hsum.out; rw [hbl.out]; omega)).mono ?_
  rintro e W7 ⟨AC, cC, hc, rfl, rC, m7, k7⟩
  have hsz0 := hS0.size
  simp only []
  have kx := k7
  refine hK.out _ _ (below_then hS0 kx hS0.size) (fun hS => ?_)
  have mb1 : Mk w h W7 hc := mb.trans (m7.from_ (w0 := W5) (Nat.le_refl _)) kb.size
  have m7s := m7.sub
  have rO2 : Hid (ScR hc ⟨s.vars, s.pars, s.bound ++ [Uy] ++ [Sy]⟩ [.slice A0 s.vars.length k0, .slice A1 s.pars.length k1, .slice AC (s.bound.length + 1 + 1) cC]) := Lib.hid ⟨_, _, _, rfl, (rO.out.sub m7s).three.1, (rO.out.sub m7s).three.2.1, rC⟩
  replace mb := mb1
  clear mb1 m7 rC k7 kx hS0 hsz0
  refine rg1 10 rfl (by kernel_rfl) (by decide) (by kernel_rfl) (fun K hK => ?_)
  have hS0 := hS
  go_simp
  refine (Typed_calls p ⟨s.vars, s.pars, s.bound ++ [Uy] ++ [Sy]⟩ T ty _ _ _ _ _ hc mb.has (rp0.out.sub mb.sub) rO2.out (rT0.out.sub mb.sub) (rty0.out.sub mb.sub) (by have := hsum.out; simp; omega)).mono ?_
  rintro e W7 ⟨rfl, k7⟩
  rw [he1.out]
  replace mb := mb.world (mb.has.below k7)
  simp only []
  have kx := k7
  refine hK.out _ _ (below_then hS0 kx hS0.size) (fun hS => ?_)
  cases q1 : e1 != 0
  rotate_left
  · refine rgnf 11 59 (.bool true) rfl rfl (by kernel_rfl) (fun _ _ _ h => h) (by kernel_rfl) hS (fun V hV => by go_simp) ?_
    refine rgnf 12 60 (.bool true) rfl rfl (by kernel_rfl) (fun _ _ _ h => h) (by kernel_rfl) hS (fun V hV => by go_simp) ?_
    refine rgof 13 61 rfl rfl (by kernel_rfl) (fun _ _ _ h => h) (by kernel_rfl) hS ?_
    refine rgof 14 62 rfl rfl (by kernel_rfl) (fun _ _ _ h => h) (by kernel_rfl) hS ?_
    refine rgof 15 63 rfl rfl (by kernel_rfl) (fun _ _ _ h => h) (by kernel_rfl) hS ?_
    refine rgof 16 64 rfl rfl (by kernel_rfl) (fun _ _ _ h => h) (by kernel_rfl) hS ?_
    refine rgof 17 65 rfl rfl (by kernel_rfl) (fun _ _ _ h => h) (by kernel_rfl) hS ?_
    refine rgof 18 66 rfl rfl (by kernel_rfl) (fun _ _ _ h => h) (by kernel_rfl) hS ?_
    refine rgof 19 67 rfl rfl (by kernel_rfl) (fun _ _ _ h => h) (by kernel_rfl) hS ?_
    refine rgof 20 68 rfl rfl (by kernel_rfl) (fun _ _ _ h => h) (by kernel_rfl) hS ?_
    refine rgof 21 69 rfl rfl (by kernel_rfl) (fun _ _ _ h => h) (by kernel_rfl) hS ?_
    simp only [Act.put, List.setIfInBounds_toArray, List.set_cons_zero, List.set_cons_succ]
    refine rgnf 22 70 (.bool true) rfl rfl (by kernel_rfl) (fun _ _ _ h => h) (by kernel_rfl) hS (fun V hV => by go_simp) ?_
    refine rgnf 23 71 (.bool true) rfl rfl (by kernel_rfl) (fun _ _ _ h => h) (by kernel_rfl) hS (fun V hV => by go_simp) ?_
    refine rgof 24 72 rfl rfl (by kernel_rfl) (fun _ _ _ h => h) (by kernel_rfl) hS ?_
    refine rgof 25 73 rfl rfl (by kernel_rfl) (fun _ _ _ h => h) (by kernel_rfl) hS ?_
    refine rgof 26 74 rfl rfl (by kernel_rfl) (fun _ _ _ h => h) (by kernel_rfl) hS ?_
    refine rgof 27 75 rfl rfl (by kernel_rfl) (fun _ _ _ h => h) (by kernel_rfl) hS ?_
    refine rgof 28 76 rfl rfl (by kernel_rfl) (fun _ _ _ h => h) (by kernel_rfl) hS ?_
    refine rgof 29 77 rfl rfl (by kernel_rfl) (fun _ _ _ h => h) (by kernel_rfl) hS ?_
    refine rgof 30 78 rfl rfl (by kernel_rfl) (fun _ _ _ h => h) (by kernel_rfl) hS ?_
    refine rgof 31 79 rfl rfl (by kernel_rfl) (fun _ _ _ h => h) (by kernel_rfl) hS ?_
    refine rgof 32 80 rfl rfl (by kernel_rfl) (fun _ _ _ h => h) (by kernel_rfl) hS ?_
    refine rgof 33 81 rfl rfl (by kernel_rfl) (fun _ _ _ h => h) (by kernel_rfl) hS ?_
    simp only [Act.put, List.setIfInBounds_toArray, List.set_cons_zero, List.set_cons_succ]
    refine rgnf 34 82 (.bool true) rfl rfl (by kernel_rfl) (fun _ _ _ h => h) (by kernel_rfl) hS (fun V hV => by go_simp) ?_
    refine rgd (by kernel_rfl) ?_
    simp only [Act.put, List.setIfInBounds_toArray, List.set_cons_zero, List.set_cons_succ]
    have kE := below_then kb hS kb.size
    go_wp2_with fail
    go_ret
    exact ⟨rfl, kE⟩
  have e1z := Lib.hid (show e1 = 0 by simpa using q1)
  refine rgnf 11 59 (.bool false) rfl rfl (by kernel_rfl) (fun _ _ _ h => h) (by kernel_rfl) hS (fun V hV => by go_simp) ?_
  refine rgnf 12 60 (.bool false) rfl rfl (by kernel_rfl) (fun _ _ _ h => h) (by kernel_rfl) hS (fun V hV => by go_simp) ?_
  refine rgnf 13 61 (.pointer (some ⟨w.heap.size, 0, none⟩)) rfl rfl (by kernel_rfl) (fun _ _ _ h => h) (by kernel_rfl) hS (fun V hV => by go_simp) ?_
  refine rgnf 14 62 (.agg #[.slice At p.types.length kt, .slice Ac p.consts.length kc, .slice Z2 n2 z2, .slice Z3 n3 z3, .slice Z4 n4 z4]) rfl rfl (by kernel_rfl) (fun _ _ _ h => h) (by kernel_rfl) hS (fun V hV => by have q0 := cell_below x0 hV; have q1 := cell_below x1 hV; have q2 := cell_below x2 hV; have q3 := cell_below x3 hV; have q4 := cell_below x4 hV; go_simp) ?_
  refine rgnf 15 63 (.agg #[.slice A0 s.vars.length k0, .slice A1 s.pars.length k1, .slice AB (s.bound.length + 1) cB]) rfl rfl (by kernel_rfl) (fun _ _ _ h => h) (by kernel_rfl) hS (fun V hV => by have q0 := cell_below uu0 hV; have q1 := cell_below uu1 hV; have q2 := cell_below uu2 hV; go_simp) ?_
  refine rgnf 16 64 (.pointer (some ⟨w.heap.size, 14, none⟩)) rfl rfl (by kernel_rfl) (fun _ _ _ h => h) (by kernel_rfl) hS (fun V hV => by go_simp) ?_
  refine rgnf 17 65 (.agg #[.int .i64 S.k, .int .i64 S.n, .string S.nm, .slice AS S.ar.length cS]) rfl rfl (by kernel_rfl) (fun _ _ _ h => h) (by kernel_rfl) hS (fun V hV => by have q0 := cell_below x14 hV; have q1 := cell_below x15 hV; have q2 := cell_below x16 hV; have q3 := cell_below x17 hV; go_simp) ?_
  refine rgnf 18 66 (.pointer (some ⟨w.heap.size, 18, none⟩)) rfl rfl (by kernel_rfl) (fun _ _ _ h => h) (by kernel_rfl) hS (fun V hV => by go_simp) ?_
  refine rgnf 19 67 (.agg #[.string Sy.nm, .slice ASy Sy.ar.length cSy]) rfl rfl (by kernel_rfl) (fun _ _ _ h => h) (by kernel_rfl) hS (fun V hV => by have q0 := cell_below x18 hV; have q1 := cell_below x19 hV; go_simp) ?_
  simp only [Act.put, List.setIfInBounds_toArray, List.set_cons_zero, List.set_cons_succ]
  refine rg1 20 rfl (by kernel_rfl) (by decide) (by kernel_rfl) (fun K hK => ?_)
  have hS0 := hS
  go_simp
  refine (Typed_calls p ⟨s.vars, s.pars, s.bound ++ [Uy]⟩ S Sy _ _ _ _ _ hc mb.has (rp0.out.sub mb.sub) (rO.out.sub m7s) (rS0.out.sub mb.sub) (rSy0.out.sub mb.sub) (by have := hsum.out; simp; omega)).mono ?_
  rintro e W7 ⟨rfl, k7⟩
  rw [he2.out]
  replace mb := mb.world (mb.has.below k7)
  simp only []
  have kx := k7
  refine hK.out _ _ (below_then hS0 kx hS0.size) (fun hS => ?_)
  cases q2 : e2 != 0
  rotate_left
  · refine rgnf 21 69 (.bool true) rfl rfl (by kernel_rfl) (fun _ _ _ h => h) (by kernel_rfl) hS (fun V hV => by go_simp) ?_
    refine rgnf 22 70 (.bool true) rfl rfl (by kernel_rfl) (fun _ _ _ h => h) (by kernel_rfl) hS (fun V hV => by go_simp) ?_
    refine rgnf 23 71 (.bool true) rfl rfl (by kernel_rfl) (fun _ _ _ h => h) (by kernel_rfl) hS (fun V hV => by go_simp) ?_
    refine rgof 24 72 rfl rfl (by kernel_rfl) (fun _ _ _ h => h) (by kernel_rfl) hS ?_
    refine rgof 25 73 rfl rfl (by kernel_rfl) (fun _ _ _ h => h) (by kernel_rfl) hS ?_
    refine rgof 26 74 rfl rfl (by kernel_rfl) (fun _ _ _ h => h) (by kernel_rfl) hS ?_
    refine rgof 27 75 rfl rfl (by kernel_rfl) (fun _ _ _ h => h) (by kernel_rfl) hS ?_
    refine rgof 28 76 rfl rfl (by kernel_rfl) (fun _ _ _ h => h) (by kernel_rfl) hS ?_
    refine rgof 29 77 rfl rfl (by kernel_rfl) (fun _ _ _ h => h) (by kernel_rfl) hS ?_
    refine rgof 30 78 rfl rfl (by kernel_rfl) (fun _ _ _ h => h) (by kernel_rfl) hS ?_
    refine rgof 31 79 rfl rfl (by kernel_rfl) (fun _ _ _ h => h) (by kernel_rfl) hS ?_
    refine rgof 32 80 rfl rfl (by kernel_rfl) (fun _ _ _ h => h) (by kernel_rfl) hS ?_
    refine rgof 33 81 rfl rfl (by kernel_rfl) (fun _ _ _ h => h) (by kernel_rfl) hS ?_
    simp only [Act.put, List.setIfInBounds_toArray, List.set_cons_zero, List.set_cons_succ]
    refine rgnf 34 82 (.bool true) rfl rfl (by kernel_rfl) (fun _ _ _ h => h) (by kernel_rfl) hS (fun V hV => by go_simp) ?_
    refine rgd (by kernel_rfl) ?_
    simp only [Act.put, List.setIfInBounds_toArray, List.set_cons_zero, List.set_cons_succ]
    have kE := below_then kb hS kb.size
    go_wp2_with fail
    go_ret
    exact ⟨rfl, kE⟩
  have e2z := Lib.hid (show e2 = 0 by simpa using q2)
  refine rgnf 21 69 (.bool false) rfl rfl (by kernel_rfl) (fun _ _ _ h => h) (by kernel_rfl) hS (fun V hV => by go_simp) ?_
  refine rgnf 22 70 (.bool false) rfl rfl (by kernel_rfl) (fun _ _ _ h => h) (by kernel_rfl) hS (fun V hV => by go_simp) ?_
  refine rgnf 23 71 (.bool false) rfl rfl (by kernel_rfl) (fun _ _ _ h => h) (by kernel_rfl) hS (fun V hV => by go_simp) ?_
  refine rgnf 24 72 (.pointer (some ⟨w.heap.size, 0, none⟩)) rfl rfl (by kernel_rfl) (fun _ _ _ h => h) (by kernel_rfl) hS (fun V hV => by go_simp) ?_
  refine rgnf 25 73 (.agg #[.slice At p.types.length kt, .slice Ac p.consts.length kc, .slice Z2 n2 z2, .slice Z3 n3 z3, .slice Z4 n4 z4]) rfl rfl (by kernel_rfl) (fun _ _ _ h => h) (by kernel_rfl) hS (fun V hV => by have q0 := cell_below x0 hV; have q1 := cell_below x1 hV; have q2 := cell_below x2 hV; have q3 := cell_below x3 hV; have q4 := cell_below x4 hV; go_simp) ?_
  refine rgnf 26 74 (.pointer (some ⟨w.heap.size, 5, none⟩)) rfl rfl (by kernel_rfl) (fun _ _ _ h => h) (by kernel_rfl) hS (fun V hV => by go_simp) ?_
  refine rgnf 27 75 (.agg #[.slice A0 s.vars.length k0, .slice A1 s.pars.length k1, .slice A2 s.bound.length k2]) rfl rfl (by kernel_rfl) (fun _ _ _ h => h) (by kernel_rfl) hS (fun V hV => by have q0 := cell_below x5 hV; have q1 := cell_below x6 hV; have q2 := cell_below x7 hV; go_simp) ?_
  refine rgnf 28 76 (.pointer (some ⟨w.heap.size, 20, none⟩)) rfl rfl (by kernel_rfl) (fun _ _ _ h => h) (by kernel_rfl) hS (fun V hV => by go_simp) ?_
  refine rgnf 29 77 (.agg #[.int .i64 U.k, .int .i64 U.n, .string U.nm, .slice AU U.ar.length cU]) rfl rfl (by kernel_rfl) (fun _ _ _ h => h) (by kernel_rfl) hS (fun V hV => by have q0 := cell_below x20 hV; have q1 := cell_below x21 hV; have q2 := cell_below x22 hV; have q3 := cell_below x23 hV; go_simp) ?_
  refine rgnf 30 78 (.pointer (some ⟨w.heap.size, 24, none⟩)) rfl rfl (by kernel_rfl) (fun _ _ _ h => h) (by kernel_rfl) hS (fun V hV => by go_simp) ?_
  refine rgnf 31 79 (.agg #[.string Uy.nm, .slice AUy Uy.ar.length cUy]) rfl rfl (by kernel_rfl) (fun _ _ _ h => h) (by kernel_rfl) hS (fun V hV => by have q0 := cell_below x24 hV; have q1 := cell_below x25 hV; go_simp) ?_
  simp only [Act.put, List.setIfInBounds_toArray, List.set_cons_zero, List.set_cons_succ]
  refine rg1 32 rfl (by kernel_rfl) (by decide) (by kernel_rfl) (fun K hK => ?_)
  have hS0 := hS
  go_simp
  refine (Typed_calls p s U Uy _ _ _ _ _ hc mb.has (rp0.out.sub mb.sub) (rs0.out.sub mb.sub) (rU0.out.sub mb.sub) (rUy0.out.sub mb.sub) (by have := hsum.out; omega)).mono ?_
  rintro e W7 ⟨rfl, k7⟩
  rw [he3.out]
  replace mb := mb.world (mb.has.below k7)
  simp only []
  have kx := k7
  refine hK.out _ _ (below_then hS0 kx hS0.size) (fun hS => ?_)
  cases q3 : e3 != 0
  rotate_left
  · refine rgnf 33 81 (.bool true) rfl rfl (by kernel_rfl) (fun _ _ _ h => h) (by kernel_rfl) hS (fun V hV => by go_simp) ?_
    refine rgnf 34 82 (.bool true) rfl rfl (by kernel_rfl) (fun _ _ _ h => h) (by kernel_rfl) hS (fun V hV => by go_simp) ?_
    refine rgd (by kernel_rfl) ?_
    simp only [Act.put, List.setIfInBounds_toArray, List.set_cons_zero, List.set_cons_succ]
    have kE := below_then kb hS kb.size
    go_wp2_with fail
    go_ret
    exact ⟨rfl, kE⟩
  have e3z := Lib.hid (show e3 = 0 by simpa using q3)
  refine rgnf 33 81 (.bool false) rfl rfl (by kernel_rfl) (fun _ _ _ h => h) (by kernel_rfl) hS (fun V hV => by go_simp) ?_
  refine rgnf 34 82 (.bool false) rfl rfl (by kernel_rfl) (fun _ _ _ h => h) (by kernel_rfl) hS (fun V hV => by go_simp) ?_
  refine rgd (by kernel_rfl) ?_
  simp only [Act.put, List.setIfInBounds_toArray, List.set_cons_zero, List.set_cons_succ]
  replace kb := below_then kb hS kb.size
  obtain ⟨o1, o2, o3, o4, i1, i2, i3, i4, hfin⟩ := hlaw.out e1z.out e2z.out e3z.out
  have rTz := Lib.hid (typedP_ok2 (he1.out.trans e1z.out)).1
  obtain ⟨XA, dXA⟩ : ∃ X, tmS o1 = X := ⟨_, rfl⟩
  obtain ⟨eA, heA⟩ : ∃ X, codeS o1 = X := ⟨_, rfl⟩
  obtain ⟨XB, dXB⟩ : ∃ X, tmS o2 = X := ⟨_, rfl⟩
  obtain ⟨eB, heB⟩ : ∃ X, codeS o2 = X := ⟨_, rfl⟩
  obtain ⟨XC, dXC⟩ : ∃ X, tmS o3 = X := ⟨_, rfl⟩
  obtain ⟨eC, heC⟩ : ∃ X, codeS o3 = X := ⟨_, rfl⟩
  obtain ⟨XD, dXD⟩ : ∃ X, tmS o4 = X := ⟨_, rfl⟩
  obtain ⟨eD, heD⟩ : ∃ X, codeS o4 = X := ⟨_, rfl⟩
  rw [dXA] at i2
  rw [dXB, dXC, dXD, heA, heB, heC, heD] at hfin
  replace dXA := Lib.hid dXA
  replace heA := Lib.hid heA
  replace dXB := Lib.hid dXB
  replace heB := Lib.hid heB
  replace dXC := Lib.hid dXC
  replace heC := Lib.hid heC
  replace dXD := Lib.hid dXD
  replace heD := Lib.hid heD
  replace i1 := Lib.hid i1
  replace i2 := Lib.hid i2
  replace i3 := Lib.hid i3
  replace i4 := Lib.hid i4
  replace hfin := Lib.hid hfin
  clear hlaw he1 he2 he3 e1z e2z e3z q1 q2 q3 hS kx k7 hbl rO rO2 rB m7s F1 uu0 uu1 uu2
  clear x0 x1 x2 x3 x4 x5 x6 x7 x8 x9 x10 x11 x12 x13 x14 x15 x16 x17 x18 x19 x20 x21 x22 x23 x24 x25 xl
  have x8 := mb.has.cell _ _ (mb.sub.at_ _ _ (F.out 8 _ rfl))
  have x9 := mb.has.cell _ _ (mb.sub.at_ _ _ (F.out 9 _ rfl))
  have x10 := mb.has.cell _ _ (mb.sub.at_ _ _ (F.out 10 _ rfl))
  have x11 := mb.has.cell _ _ (mb.sub.at_ _ _ (F.out 11 _ rfl))
  have x14 := mb.has.cell _ _ (mb.sub.at_ _ _ (F.out 14 _ rfl))
  have x15 := mb.has.cell _ _ (mb.sub.at_ _ _ (F.out 15 _ rfl))
  have x16 := mb.has.cell _ _ (mb.sub.at_ _ _ (F.out 16 _ rfl))
  have x17 := mb.has.cell _ _ (mb.sub.at_ _ _ (F.out 17 _ rfl))
  have xl := mb.has.lt (mb.sub.at_ _ _ (F.out 8 _ rfl))
  go_wp2_with fail
  refine (Subst_calls T S o1 _ _ _ _ mb.has (rT0.out.sub mb.sub) (rS0.out.sub mb.sub) i1.out).mono ?_
  rintro e wA ⟨kk, cs1, hh, rfl, r1, m1⟩
  rw [dXA.out] at r1
  rw [heA.out]
  obtain ⟨PA, qA, rfl, -, -, -, -, -⟩ := r1.open_
  have mm := mb.trans m1 kb.size
  replace kb := below_then kb kk kb.size
  have sm := m1.sub
  clear m1 kk
  clear x8 x9 x10 x11 x14 x15 x16 x17 xl
  clear sm
  have x20 := mm.has.cell _ _ (mm.sub.at_ _ _ (F.out 20 _ rfl))
  have x21 := mm.has.cell _ _ (mm.sub.at_ _ _ (F.out 21 _ rfl))
  have x22 := mm.has.cell _ _ (mm.sub.at_ _ _ (F.out 22 _ rfl))
  have x23 := mm.has.cell _ _ (mm.sub.at_ _ _ (F.out 23 _ rfl))
  have xl := mm.has.lt (mm.sub.at_ _ _ (F.out 20 _ rfl))
  go_wp2_with fail
  clear x20 x21 x22 x23 xl
  have bx := blk_new wA (.cells #[.int .i64 XA.k, .int .i64 XA.n, .string XA.nm, .slice PA XA.ar.length qA] 34)
  have kx := (alloc1 wA (.cells #[.int .i64 XA.k, .int .i64 XA.n, .string XA.nm, .slice PA XA.ar.length qA] 34)).2
  obtain ⟨hn, BA, mn⟩ := BoxM.mk_ (w0 := w) (mm.has.below kx) bx r1 kb.size
  obtain ⟨WN, hWN⟩ : ∃ WN, wA.alloc (.cells #[.int .i64 XA.k, .int .i64 XA.n, .string XA.nm, .slice PA XA.ar.length qA] 34) = WN := ⟨_, rfl⟩
  rw [hWN] at kx mn ⊢
  replace kb := below_then kb kx kb.size
  have sn := mn.sub
  have mb : Mk w h WN hn := mm.then_ mn
  clear hWN bx kx mn
  replace r1 := r1.sub sn
  clear sn
  clear mm
  refine (Subst_calls XA U o2 _ _ _ _ mb.has r1 (rU0.out.sub mb.sub) i2.out).mono ?_
  rintro e wB ⟨kk, cs1, hh, rfl, r2, m1⟩
  rw [dXB.out] at r2
  rw [heB.out]
  obtain ⟨PB, qB, rfl, -, -, -, -, -⟩ := r2.open_
  have mm := mb.trans m1 kb.size
  replace kb := below_then kb kk kb.size
  have sm := m1.sub
  clear m1 kk
  replace BA := BA.sub sm
  clear sm
  clear r1
  go_wp2_with fail
  have bx := blk_new wB (.cells #[.int .i64 XB.k, .int .i64 XB.n, .string XB.nm, .slice PB XB.ar.length qB] 34)
  have kx := (alloc1 wB (.cells #[.int .i64 XB.k, .int .i64 XB.n, .string XB.nm, .slice PB XB.ar.length qB] 34)).2
  obtain ⟨hn, BB, mn⟩ := BoxM.mk_ (w0 := w) (mm.has.below kx) bx r2 kb.size
  obtain ⟨WN, hWN⟩ : ∃ WN, wB.alloc (.cells #[.int .i64 XB.k, .int .i64 XB.n, .string XB.nm, .slice PB XB.ar.length qB] 34) = WN := ⟨_, rfl⟩
  rw [hWN] at kx mn ⊢
  replace kb := below_then kb kx kb.size
  have sn := mn.sub
  have mb : Mk w h WN hn := mm.then_ mn
  clear hWN bx kx mn
  replace BA := BA.sub sn
  clear sn
  clear mm r2
  have hTk := Lib.hid (show T.k ≠ 0 from fun e => by
    have h1 := (raw_parts rTz.out).2.1
    obtain ⟨k, n, nm, ar⟩ := T
    rw [shp, Bool.and_eq_true] at h1
    have h2 := (shp_k h1.1).2.2.1
    simp only [Tm.k] at e
    omega)
  have x8 := mb.has.cell _ _ (mb.sub.at_ _ _ (F.out 8 _ rfl))
  have x9 := mb.has.cell _ _ (mb.sub.at_ _ _ (F.out 9 _ rfl))
  have x10 := mb.has.cell _ _ (mb.sub.at_ _ _ (F.out 10 _ rfl))
  have x11 := mb.has.cell _ _ (mb.sub.at_ _ _ (F.out 11 _ rfl))
  have x20 := mb.has.cell _ _ (mb.sub.at_ _ _ (F.out 20 _ rfl))
  have x21 := mb.has.cell _ _ (mb.sub.at_ _ _ (F.out 21 _ rfl))
  have x22 := mb.has.cell _ _ (mb.sub.at_ _ _ (F.out 22 _ rfl))
  have x23 := mb.has.cell _ _ (mb.sub.at_ _ _ (F.out 23 _ rfl))
  have xl := mb.has.lt (mb.sub.at_ _ _ (F.out 8 _ rfl))
  refine rgs 12 (fun V => Below WN.heap.size WN V) [10] rfl ((Below.refl _ _).drew) (fun hS => ?_)
  refine rgt 0 (.pointer (some ⟨w.heap.size, 8, none⟩)) rfl (by kernel_rfl) (fun _ _ _ h => h) (by kernel_rfl) hS (fun V hV => by go_simp) ?_
  refine rgt 1 (.agg #[.int .i64 T.k, .int .i64 T.n, .string T.nm, .slice AT T.ar.length cT]) rfl (by kernel_rfl) (fun _ _ _ h => h) (by kernel_rfl) hS (fun V hV => by have q0 := cell_below x8 hV; have q1 := cell_below x9 hV; have q2 := cell_below x10 hV; have q3 := cell_below x11 hV; go_simp) ?_
  refine rgt 3 (.pointer (some ⟨w.heap.size, 20, none⟩)) rfl (by kernel_rfl) (fun _ _ _ h => h) (by kernel_rfl) hS (fun V hV => by go_simp) ?_
  refine rgt 4 (.agg #[.int .i64 U.k, .int .i64 U.n, .string U.nm, .slice AU U.ar.length cU]) rfl (by kernel_rfl) (fun _ _ _ h => h) (by kernel_rfl) hS (fun V hV => by have q0 := cell_below x20 hV; have q1 := cell_below x21 hV; have q2 := cell_below x22 hV; have q3 := cell_below x23 hV; go_simp) ?_
  refine join_ (σ := Nat × Option Addr × Nat × Snap × Nat × Unit) 2 #[true, true, true, true, true, true, true, true, true, true, false, false] (fun s => [(101, .agg #[.int .i64 5, .int .i64 0, .string ⟨#[]⟩, .slice (some ⟨s.1, 0, none⟩) 1 1]), (104, .tuple #[.agg #[.int .i64 XC.k, .int .i64 XC.n, .string XC.nm, .slice s.2.1 XC.ar.length s.2.2.1], .int .i64 eC]), (98, .tuple #[.agg #[.int .i64 XC.k, .int .i64 XC.n, .string XC.nm, .slice s.2.1 XC.ar.length s.2.2.1], .int .i64 eC]), (105, .agg #[.int .i64 XC.k, .int .i64 XC.n, .string XC.nm, .slice s.2.1 XC.ar.length s.2.2.1]), (106, .int .i64 eC), (9, .pointer (some ⟨s.2.2.2.2.1, 0, none⟩))]) (fun s W => Below WN.heap.size WN W ∧ (W.heap[s.1]? = some (.cells #[.int .i64 T.k, .int .i64 T.n, .string T.nm, .slice AT T.ar.length cT] 34) ∧ WN.heap.size ≤ s.1) ∧ (TmR s.2.2.2.1 XC [.int .i64 XC.k, .int .i64 XC.n, .string XC.nm, .slice s.2.1 XC.ar.length s.2.2.1] ∧ Mk w hn W s.2.2.2.1) ∧ (W.heap[s.2.2.2.2.1]? = some (.cells #[.int .i64 0, .int .i64 0, .string ⟨#[]⟩, .slice none 0 0] 34) ∧ WN.heap.size ≤ s.2.2.2.2.1) ∧ (Off s.2.2.2.1 (fun q => q = s.2.2.2.2.1)) ∧ True) ?_ (fun stc_2_5_9 => ?_)
  rotate_left
  · refine join_ (σ := Nat × Option Addr × Nat × Snap × Unit) 3 #[true, true, true, true, true, true, true, true, true, false, false, false] (fun s => [(101, .agg #[.int .i64 5, .int .i64 0, .string ⟨#[]⟩, .slice (some ⟨s.1, 0, none⟩) 1 1]), (104, .tuple #[.agg #[.int .i64 XC.k, .int .i64 XC.n, .string XC.nm, .slice s.2.1 XC.ar.length s.2.2.1], .int .i64 eC]), (98, .tuple #[.agg #[.int .i64 XC.k, .int .i64 XC.n, .string XC.nm, .slice s.2.1 XC.ar.length s.2.2.1], .int .i64 eC]), (105, .agg #[.int .i64 XC.k, .int .i64 XC.n, .string XC.nm, .slice s.2.1 XC.ar.length s.2.2.1]), (106, .int .i64 eC)]) (fun s W => Below WN.heap.size WN W ∧ (W.heap[s.1]? = some (.cells #[.int .i64 T.k, .int .i64 T.n, .string T.nm, .slice AT T.ar.length cT] 34) ∧ WN.heap.size ≤ s.1) ∧ (TmR s.2.2.2.1 XC [.int .i64 XC.k, .int .i64 XC.n, .string XC.nm, .slice s.2.1 XC.ar.length s.2.2.1] ∧ Mk w hn W s.2.2.2.1) ∧ True) ?_ (fun stc_2_5 => ?_)
    · rintro ⟨gl, AXC, cXC, hXC, ⟨⟩⟩ W ⟨hS, f2, f5, -⟩
      dsimp only [putAll]
      refine rg1 9 rfl (by kernel_rfl) (by decide) (by kernel_rfl) (fun K hK => ?_)
      have hS0 := hS
      go_simp
      have kx := (alloc1 W (.cells #[.int .i64 0, .int .i64 0, .string ⟨#[]⟩, .slice none 0 0] 34)).2
      have kn := blk_new W (.cells #[.int .i64 0, .int .i64 0, .string ⟨#[]⟩, .slice none 0 0] 34)
      have kz : WN.heap.size ≤ W.heap.size := hS.size
      refine hK.out _ _ (below_then hS kx hS.size) (fun hS => ?_)
      exact norm_ (by kernel_rfl) (stc_2_5_9 (gl, AXC, cXC, hXC, W.heap.size, ()) _ ⟨hS, ⟨box_below f2.1 kx, f2.2⟩, ⟨f5.1, f5.2.world (f5.2.has.below kx)⟩, ⟨kn, kz⟩, f5.2.has.off_new (fun k e => by rw [e]; exact Nat.le_refl _), trivial⟩)
    refine join_ (σ := Nat × Nat × Unit) 6 #[true, true, true, true, true, false, false, false, false, true, false, false] (fun s => [(101, .agg #[.int .i64 5, .int .i64 0, .string ⟨#[]⟩, .slice (some ⟨s.1, 0, none⟩) 1 1]), (9, .pointer (some ⟨s.2.1, 0, none⟩))]) (fun s W => Below WN.heap.size WN W ∧ (W.heap[s.1]? = some (.cells #[.int .i64 T.k, .int .i64 T.n, .string T.nm, .slice AT T.ar.length cT] 34) ∧ WN.heap.size ≤ s.1) ∧ (W.heap[s.2.1]? = some (.cells #[.int .i64 0, .int .i64 0, .string ⟨#[]⟩, .slice none 0 0] 34) ∧ WN.heap.size ≤ s.2.1) ∧ True) ?_ (fun stc_2_9 => ?_)
    · rintro ⟨gl, g9, ⟨⟩⟩ W ⟨hS, f2, f9, -⟩
      dsimp only [putAll]
      refine rg1 5 rfl (by kernel_rfl) (by decide) (by kernel_rfl) (fun K hK => ?_)
      have hS0 := hS
      go_simp
      have hS_size := hS.size
      obtain ⟨hz, tz, mz, vz⟩ := one_TmS2 (w0 := w) (u := T) (mb.has.below hS) f2.1 (rT0.out.sub mb.sub) (Nat.le_trans kb.size f2.2)
      refine (Subst_calls (.mk 5 0 ⟨#[]⟩ [T]) U o3 _ _ W hz mz.has (lmT_R tz) ((rU0.out.sub mb.sub).sub mz.sub) i3.out).mono ?_
      rintro e W7 ⟨k7, cs7, hXC, rfl, r7, m7⟩
      rw [dXC.out] at r7
      obtain ⟨AXC, cXC, rfl, _⟩ := r7.open_
      rw [heC.out]
      simp only []
      have kx := k7
      refine hK.out _ _ (below_then hS kx hS.size) (fun hS => ?_)
      refine rgt 6 (.tuple #[.agg #[.int .i64 XC.k, .int .i64 XC.n, .string XC.nm, .slice AXC XC.ar.length cXC], .int .i64 eC]) rfl (by kernel_rfl) (fun _ _ _ h => h) (by kernel_rfl) hS (fun V hV => by go_simp) ?_
      refine rgt 7 (.agg #[.int .i64 XC.k, .int .i64 XC.n, .string XC.nm, .slice AXC XC.ar.length cXC]) rfl (by kernel_rfl) (fun _ _ _ h => h) (by kernel_rfl) hS (fun V hV => by go_simp) ?_
      refine rgp 8 (.int .i64 eC) rfl (by kernel_rfl) (fun _ _ _ h => h) (by kernel_rfl) (fun V => by go_simp) ?_
      exact norm_ (by kernel_rfl) (stc_2_5_9 (gl, AXC, cXC, hXC, g9, ()) _ ⟨hS, ⟨box_below f2.1 kx, f2.2⟩, ⟨r7, mz.trans m7 (Nat.le_trans kb.size hS_size)⟩, ⟨box_below f9.1 kx, f9.2⟩, off_made m7 vz (mb.has.off_new (S := fun q => q = g9) (fun k e => by rw [e]; exact f9.2)) (blk_ne f2.1 f9.1 (fun e => by simp at e; have := hTk.out; omega)) (blk_lt f9.1), trivial⟩)
    refine join_ (σ := Nat × Unit) 7 #[true, true, true, true, true, false, false, false, false, false, false, false] (fun s => [(101, .agg #[.int .i64 5, .int .i64 0, .string ⟨#[]⟩, .slice (some ⟨s.1, 0, none⟩) 1 1])]) (fun s W => Below WN.heap.size WN W ∧ (W.heap[s.1]? = some (.cells #[.int .i64 T.k, .int .i64 T.n, .string T.nm, .slice AT T.ar.length cT] 34) ∧ WN.heap.size ≤ s.1) ∧ True) ?_ (fun stc_2 => ?_)
    · rintro ⟨gl, ⟨⟩⟩ W ⟨hS, f2, -⟩
      dsimp only [putAll]
      refine rg2 5 9 rfl rfl (by kernel_rfl) (by decide) (by decide) (by kernel_rfl) (by kernel_rfl) (fun K hK => ?_) (fun K hK => ?_)
      · have hS0 := hS
        go_simp
        have hS_size := hS.size
        obtain ⟨hz, tz, mz, vz⟩ := one_TmS2 (w0 := w) (u := T) (mb.has.below hS) f2.1 (rT0.out.sub mb.sub) (Nat.le_trans kb.size f2.2)
        refine (Subst_calls (.mk 5 0 ⟨#[]⟩ [T]) U o3 _ _ W hz mz.has (lmT_R tz) ((rU0.out.sub mb.sub).sub mz.sub) i3.out).mono ?_
        rintro e W7 ⟨k7, cs7, hXC, rfl, r7, m7⟩
        rw [dXC.out] at r7
        obtain ⟨AXC, cXC, rfl, _⟩ := r7.open_
        rw [heC.out]
        simp only []
        have kx := k7
        refine hK.out _ _ (below_then hS kx hS.size) (fun hS => ?_)
        refine rgt 6 (.tuple #[.agg #[.int .i64 XC.k, .int .i64 XC.n, .string XC.nm, .slice AXC XC.ar.length cXC], .int .i64 eC]) rfl (by kernel_rfl) (fun _ _ _ h => h) (by kernel_rfl) hS (fun V hV => by go_simp) ?_
        refine rgt 7 (.agg #[.int .i64 XC.k, .int .i64 XC.n, .string XC.nm, .slice AXC XC.ar.length cXC]) rfl (by kernel_rfl) (fun _ _ _ h => h) (by kernel_rfl) hS (fun V hV => by go_simp) ?_
        refine rgp 8 (.int .i64 eC) rfl (by kernel_rfl) (fun _ _ _ h => h) (by kernel_rfl) (fun V => by go_simp) ?_
        exact norm_ (by kernel_rfl) (stc_2_5 (gl, AXC, cXC, hXC, ()) _ ⟨hS, ⟨box_below f2.1 kx, f2.2⟩, ⟨r7, mz.trans m7 (Nat.le_trans kb.size hS_size)⟩, trivial⟩)
      · have hS0 := hS
        go_simp
        have kx := (alloc1 W (.cells #[.int .i64 0, .int .i64 0, .string ⟨#[]⟩, .slice none 0 0] 34)).2
        have kn := blk_new W (.cells #[.int .i64 0, .int .i64 0, .string ⟨#[]⟩, .slice none 0 0] 34)
        have kz : WN.heap.size ≤ W.heap.size := hS.size
        refine hK.out _ _ (below_then hS kx hS.size) (fun hS => ?_)
        exact norm_ (by kernel_rfl) (stc_2_9 (gl, W.heap.size, ()) _ ⟨hS, ⟨box_below f2.1 kx, f2.2⟩, ⟨kn, kz⟩, trivial⟩)
    refine join_ (σ := Nat × Unit) 7 #[true, true, false, true, true, false, false, false, false, true, false, false] (fun s => [(9, .pointer (some ⟨s.1, 0, none⟩))]) (fun s W => Below WN.heap.size WN W ∧ (W.heap[s.1]? = some (.cells #[.int .i64 0, .int .i64 0, .string ⟨#[]⟩, .slice none 0 0] 34) ∧ WN.heap.size ≤ s.1) ∧ True) ?_ (fun stc_9 => ?_)
    · rintro ⟨g9, ⟨⟩⟩ W ⟨hS, f9, -⟩
      dsimp only [putAll]
      refine rg1 2 rfl (by kernel_rfl) (by decide) (by kernel_rfl) (fun K hK => ?_)
      have hS0 := hS
      go_simp
      refine (lam_calls _ _ _ _ _ _ _).mono ?_
      rintro e W7 ⟨gl, rfl, k7, bl, hgl⟩
      simp only []
      have kx := k7
      refine hK.out _ _ (below_then hS kx hS.size) (fun hS => ?_)
      exact norm_ (by kernel_rfl) (stc_2_9 (gl, g9, ()) _ ⟨hS, ⟨bl, Nat.le_trans hS0.size hgl⟩, ⟨box_below f9.1 kx, f9.2⟩, trivial⟩)
    refine rg2 2 9 rfl rfl (by kernel_rfl) (by decide) (by decide) (by kernel_rfl) (by kernel_rfl) (fun K hK => ?_) (fun K hK => ?_)
    · have hS0 := hS
      go_simp
      refine (lam_calls _ _ _ _ _ _ _).mono ?_
      rintro e W7 ⟨gl, rfl, k7, bl, hgl⟩
      simp only []
      have kx := k7
      refine hK.out _ _ (below_then hS kx hS.size) (fun hS => ?_)
      exact norm_ (by kernel_rfl) (stc_2 (gl, ()) _ ⟨hS, ⟨bl, Nat.le_trans hS0.size hgl⟩, trivial⟩)
    · have hS0 := hS
      go_simp
      have kx := (alloc1 WN.drew (.cells #[.int .i64 0, .int .i64 0, .string ⟨#[]⟩, .slice none 0 0] 34)).2
      have kn := blk_new WN.drew (.cells #[.int .i64 0, .int .i64 0, .string ⟨#[]⟩, .slice none 0 0] 34)
      have kz : WN.heap.size ≤ WN.drew.heap.size := hS.size
      refine hK.out _ _ (below_then hS kx hS.size) (fun hS => ?_)
      exact norm_ (by kernel_rfl) (stc_9 (WN.drew.heap.size, ()) _ ⟨hS, ⟨kn, kz⟩, trivial⟩)
  rintro ⟨gl, AXC, cXC, hXC, g9, ⟨⟩⟩ WR ⟨hS, f2, f5, f9, p5_9, -⟩
  dsimp only [putAll]
  try dsimp only at f2
  try dsimp only at f5
  try dsimp only at f9
  try dsimp only at p5_9
  have xg := box4 f9.1
  have zg := blk_frozen f9.1
  have lg := blk_lt f9.1
  refine rgl 10 rfl (by kernel_rfl) (by decide) (by kernel_rfl) (fun K hK => ?_)
  go_simp
  refine hK.out _ _ ?_
  refine rgp 11 (.int .i64 eC) rfl (by kernel_rfl) (fun _ _ _ h => h) (by kernel_rfl) (fun V => by go_simp) ?_
  refine rgd (by kernel_rfl) ?_
  obtain ⟨WG, hWF, bF, kpF⟩ : ∃ WF, ((((WR.setCell ⟨g9, 0, none⟩ (.int .i64 XC.k)).setCell ⟨g9, 1, none⟩ (.int .i64 XC.n)).setCell ⟨g9, 2, none⟩ (.string XC.nm)).setCell ⟨g9, 3, none⟩ (.slice AXC XC.ar.length cXC)) = WF ∧
      WF.heap[g9]? = some (.cells #[.int .i64 XC.k, .int .i64 XC.n, .string XC.nm, .slice AXC XC.ar.length cXC] 34) ∧ Kp (fun q => q = g9) WR WF := ⟨_, rfl, (set4 f9.1 _ _ _ _).1, (set4 f9.1 _ _ _ _).2⟩
  rw [hWF]
  have HF := f5.2.has.kp kpF p5_9
  have kE := below_then kb hS kb.size
  have kF : Below w.heap.size w WG := ((Kp.of_below (fun q => q = g9) kE).trans kpF (fun i hi e => e)).below (fun i hi (e : i = g9) => by have h1 := f9.2; have h2 := kb.size; omega)
  obtain ⟨hg, BC, mc⟩ := BoxM.mk_ (w0 := w) HF bF f5.1 (Nat.le_trans kb.size f9.2)
  have ss := f5.2.sub.trans mc.sub
  replace mc := (mb.then_ (f5.2.world HF)).then_ mc
  replace BA := BA.sub ss
  replace BB := BB.sub ss
  clear hWF xg zg lg HF kE kpF bF ss hS kb mb f5 f9 p5_9
  have kb := kF
  have mb := mc
  clear kF mc
  clear x8 x9 x10 x11 x20 x21 x22 x23 xl
  have x14 := mb.has.cell _ _ (mb.sub.at_ _ _ (F.out 14 _ rfl))
  have x15 := mb.has.cell _ _ (mb.sub.at_ _ _ (F.out 15 _ rfl))
  have x16 := mb.has.cell _ _ (mb.sub.at_ _ _ (F.out 16 _ rfl))
  have x17 := mb.has.cell _ _ (mb.sub.at_ _ _ (F.out 17 _ rfl))
  have x20 := mb.has.cell _ _ (mb.sub.at_ _ _ (F.out 20 _ rfl))
  have x21 := mb.has.cell _ _ (mb.sub.at_ _ _ (F.out 21 _ rfl))
  have x22 := mb.has.cell _ _ (mb.sub.at_ _ _ (F.out 22 _ rfl))
  have x23 := mb.has.cell _ _ (mb.sub.at_ _ _ (F.out 23 _ rfl))
  have xl := mb.has.lt (mb.sub.at_ _ _ (F.out 14 _ rfl))
  go_wp2_with fail
  refine (Subst_calls S U o4 _ _ _ _ mb.has (rS0.out.sub mb.sub) (rU0.out.sub mb.sub) i4.out).mono ?_
  rintro e wD ⟨kk, cs1, hh, rfl, r4, m1⟩
  rw [dXD.out] at r4
  rw [heD.out]
  obtain ⟨PD, qD, rfl, -, -, -, -, -⟩ := r4.open_
  have mm := mb.trans m1 kb.size
  replace kb := below_then kb kk kb.size
  have sm := m1.sub
  clear m1 kk
  clear x14 x15 x16 x17 x20 x21 x22 x23 xl
  replace BA := BA.sub sm
  replace BB := BB.sub sm
  replace BC := BC.sub sm
  clear sm
  cases zA : eA != 0
  rotate_left
  · go_wp2_with fail
    go_ret
    first | exact ⟨rfl, kb⟩ | exact ⟨rfl, kb.alloc kb.size _⟩
  cases zB : eB != 0
  rotate_left
  · go_wp2_with fail
    go_ret
    first | exact ⟨rfl, kb⟩ | exact ⟨rfl, kb.alloc kb.size _⟩
  cases zC : eC != 0
  rotate_left
  · go_wp2_with fail
    go_ret
    first | exact ⟨rfl, kb⟩ | exact ⟨rfl, kb.alloc kb.size _⟩
  cases zD : eD != 0
  rotate_left
  · go_wp2_with fail
    go_ret
    first | exact ⟨rfl, kb⟩ | exact ⟨rfl, kb.alloc kb.size _⟩
  obtain ⟨x, hx, o5, i5, hs5⟩ := hfin.out (by simpa using zA) (by simpa using zB) (by simpa using zC) (by simpa using zD)
  obtain ⟨XY, dXY⟩ : ∃ X, tmS o5 = X := ⟨_, rfl⟩
  obtain ⟨eY, heY⟩ : ∃ X, codeS o5 = X := ⟨_, rfl⟩
  rw [dXY, heY] at hs5
  replace hs5 := Lib.hid hs5
  replace i5 := Lib.hid i5
  replace dXY := Lib.hid dXY
  replace heY := Lib.hid heY
  have gk : (XC.k != 5) = false := by rw [hx]; rfl
  have gl : ((XC.ar.length : Int) != 1) = false := by rw [hx]; rfl
  have gn : ¬ XC.ar = [] := by rw [hx]; simp [Tm.ar]
  have gm : (0 : Int) < (XC.ar.length : Int) := by rw [hx]; simp [Tm.ar]
  have hxa := Lib.hid (show XC.ar = [x] by rw [hx]; rfl)
  clear hx hfin
  obtain ⟨Ac, cc, ce0, ce1, ce2, ce3, rc⟩ := BC.at_
  have cx0 := mm.has.cell _ _ ce0
  have cx1 := mm.has.cell _ _ ce1
  have cx2 := mm.has.cell _ _ ce2
  have cx3 := mm.has.cell _ _ ce3
  have cl := mm.has.lt ce0
  clear ce0 ce1 ce2 ce3
  go_wp2_with fail
  clear cx0 cx1 cx2 cx3  cl rc
  have bx := blk_new wD (.cells #[.int .i64 XD.k, .int .i64 XD.n, .string XD.nm, .slice PD XD.ar.length qD] 34)
  have kx := (alloc1 wD (.cells #[.int .i64 XD.k, .int .i64 XD.n, .string XD.nm, .slice PD XD.ar.length qD] 34)).2
  obtain ⟨hn, BD, mn⟩ := BoxM.mk_ (w0 := w) (mm.has.below kx) bx r4 kb.size
  obtain ⟨WN, hWN⟩ : ∃ WN, wD.alloc (.cells #[.int .i64 XD.k, .int .i64 XD.n, .string XD.nm, .slice PD XD.ar.length qD] 34) = WN := ⟨_, rfl⟩
  rw [hWN] at kx mn ⊢
  replace kb := below_then kb kx kb.size
  have sn := mn.sub
  have mb : Mk w h WN hn := mm.then_ mn
  clear hWN bx kx mn
  replace BB := BB.sub sn
  replace BC := BC.sub sn
  clear sn
  clear mm r4 gk gl BA
  obtain ⟨Ac, cc, ce0, ce1, ce2, ce3, rc⟩ := BC.at_
  have cx0 := mb.has.cell _ _ ce0
  have cx1 := mb.has.cell _ _ ce1
  have cx2 := mb.has.cell _ _ ce2
  have cx3 := mb.has.cell _ _ ce3
  have cl := mb.has.lt ce0
  clear ce0 ce1 ce2 ce3
  obtain ⟨Pe, qe, eqc, -, -, -, -, hL⟩ := rc.open_
  simp only [List.cons.injEq, and_true, true_and] at eqc
  obtain ⟨rfl, rfl⟩ := eqc
  rw [hxa.out] at hL
  obtain ⟨b0, o0, Ax, cx, rfl, f0, f1, f2, f3, rx⟩ := hL.get 0 (by simp)
  simp only [List.getElem_cons_zero, Nat.zero_mul, Nat.add_zero] at f0 f1 f2 f3 rx
  clear hL
  obtain ⟨Ad, cd, de0, de1, de2, de3, rd⟩ := BD.at_
  have dx0 := mb.has.cell _ _ de0
  have dx1 := mb.has.cell _ _ de1
  have dx2 := mb.has.cell _ _ de2
  have dx3 := mb.has.cell _ _ de3
  have dl := mb.has.lt de0
  clear de0 de1 de2 de3
  have y0 := mb.has.cell _ _ f0
  have y1 := mb.has.cell _ _ f1
  have y2 := mb.has.cell _ _ f2
  have y3 := mb.has.cell _ _ f3
  refine rgs 12 (fun V => Below WN.heap.size WN V) [10] rfl ((Below.refl _ _).drew) (fun hS => ?_)
  refine rgt 0 (.pointer (some ⟨g9, 3, none⟩)) rfl (by kernel_rfl) (fun _ _ _ h => h) (by kernel_rfl) hS (fun V hV => by go_simp) ?_
  refine rgt 1 (.slice (some ⟨b0, o0, none⟩) XC.ar.length cc) rfl (by kernel_rfl) (fun _ _ _ h => h) (by kernel_rfl) hS (fun V hV => by have q0 := cell_below cx3 hV; go_simp) ?_
  refine rgt 2 (.pointer (some ⟨b0, o0, none⟩)) rfl (by kernel_rfl) (fun _ _ _ h => h) (by kernel_rfl) hS (fun V hV => by go_simp) ?_
  refine rgt 3 (.agg #[.int .i64 x.k, .int .i64 x.n, .string x.nm, .slice Ax x.ar.length cx]) rfl (by kernel_rfl) (fun _ _ _ h => h) (by kernel_rfl) hS (fun V hV => by have q0 := cell_below y0 hV; have q1 := cell_below y1 hV; have q2 := cell_below y2 hV; have q3 := cell_below y3 hV; go_simp) ?_
  refine rgt 4 (.agg #[.int .i64 XD.k, .int .i64 XD.n, .string XD.nm, .slice Ad XD.ar.length cd]) rfl (by kernel_rfl) (fun _ _ _ h => h) (by kernel_rfl) hS (fun V hV => by have q0 := cell_below dx0 hV; have q1 := cell_below dx1 hV; have q2 := cell_below dx2 hV; have q3 := cell_below dx3 hV; go_simp) ?_
  refine join_ (σ := Option Addr × Nat × Snap × Nat × Unit) 2 #[true, true, true, true, true, true, true, true, true, true, false, false] (fun s => [(144, .tuple #[.agg #[.int .i64 XY.k, .int .i64 XY.n, .string XY.nm, .slice s.1 XY.ar.length s.2.1], .int .i64 eY]), (138, .tuple #[.agg #[.int .i64 XY.k, .int .i64 XY.n, .string XY.nm, .slice s.1 XY.ar.length s.2.1], .int .i64 eY]), (145, .agg #[.int .i64 XY.k, .int .i64 XY.n, .string XY.nm, .slice s.1 XY.ar.length s.2.1]), (146, .int .i64 eY), (13, .pointer (some ⟨s.2.2.2.1, 0, none⟩))]) (fun s W => Below WN.heap.size WN W ∧ (TmR s.2.2.1 XY [.int .i64 XY.k, .int .i64 XY.n, .string XY.nm, .slice s.1 XY.ar.length s.2.1] ∧ Mk w hn W s.2.2.1) ∧ (W.heap[s.2.2.2.1]? = some (.cells #[.int .i64 0, .int .i64 0, .string ⟨#[]⟩, .slice none 0 0] 34) ∧ WN.heap.size ≤ s.2.2.2.1) ∧ (Off s.2.2.1 (fun q => q = s.2.2.2.1)) ∧ True) ?_ (fun ste_5_9 => ?_)
  rotate_left
  · refine join_ (σ := Option Addr × Nat × Snap × Unit) 3 #[true, true, true, true, true, true, true, true, true, false, false, false] (fun s => [(144, .tuple #[.agg #[.int .i64 XY.k, .int .i64 XY.n, .string XY.nm, .slice s.1 XY.ar.length s.2.1], .int .i64 eY]), (138, .tuple #[.agg #[.int .i64 XY.k, .int .i64 XY.n, .string XY.nm, .slice s.1 XY.ar.length s.2.1], .int .i64 eY]), (145, .agg #[.int .i64 XY.k, .int .i64 XY.n, .string XY.nm, .slice s.1 XY.ar.length s.2.1]), (146, .int .i64 eY)]) (fun s W => Below WN.heap.size WN W ∧ (TmR s.2.2.1 XY [.int .i64 XY.k, .int .i64 XY.n, .string XY.nm, .slice s.1 XY.ar.length s.2.1] ∧ Mk w hn W s.2.2.1) ∧ True) ?_ (fun ste_5 => ?_)
    · rintro ⟨AXY, cXY, hXY, ⟨⟩⟩ W ⟨hS, f5, -⟩
      dsimp only [putAll]
      refine rg1 9 rfl (by kernel_rfl) (by decide) (by kernel_rfl) (fun K hK => ?_)
      have hS0 := hS
      go_simp
      have kx := (alloc1 W (.cells #[.int .i64 0, .int .i64 0, .string ⟨#[]⟩, .slice none 0 0] 34)).2
      have kn := blk_new W (.cells #[.int .i64 0, .int .i64 0, .string ⟨#[]⟩, .slice none 0 0] 34)
      have kz : WN.heap.size ≤ W.heap.size := hS.size
      refine hK.out _ _ (below_then hS kx hS.size) (fun hS => ?_)
      exact norm_ (by kernel_rfl) (ste_5_9 (AXY, cXY, hXY, W.heap.size, ()) _ ⟨hS, ⟨f5.1, f5.2.world (f5.2.has.below kx)⟩, ⟨kn, kz⟩, f5.2.has.off_new (fun k e => by rw [e]; exact Nat.le_refl _), trivial⟩)
    refine join_ (σ := Nat × Unit) 6 #[true, true, true, true, true, false, false, false, false, true, false, false] (fun s => [(13, .pointer (some ⟨s.1, 0, none⟩))]) (fun s W => Below WN.heap.size WN W ∧ (W.heap[s.1]? = some (.cells #[.int .i64 0, .int .i64 0, .string ⟨#[]⟩, .slice none 0 0] 34) ∧ WN.heap.size ≤ s.1) ∧ True) ?_ (fun ste_9 => ?_)
    · rintro ⟨g13, ⟨⟩⟩ W ⟨hS, f9, -⟩
      dsimp only [putAll]
      refine rg1 5 rfl (by kernel_rfl) (by decide) (by kernel_rfl) (fun K hK => ?_)
      have hS0 := hS
      go_simp
      have hS_size := hS.size
      refine (Subst_calls x XD o5 _ _ W _ (mb.has.below hS) rx rd i5.out).mono ?_
      rintro e W7 ⟨k7, cs7, hXY, rfl, r7, m7⟩
      rw [dXY.out] at r7
      obtain ⟨AXY, cXY, rfl, _⟩ := r7.open_
      rw [heY.out]
      simp only []
      have kx := k7
      refine hK.out _ _ (below_then hS kx hS.size) (fun hS => ?_)
      refine rgt 6 (.tuple #[.agg #[.int .i64 XY.k, .int .i64 XY.n, .string XY.nm, .slice AXY XY.ar.length cXY], .int .i64 eY]) rfl (by kernel_rfl) (fun _ _ _ h => h) (by kernel_rfl) hS (fun V hV => by go_simp) ?_
      refine rgt 7 (.agg #[.int .i64 XY.k, .int .i64 XY.n, .string XY.nm, .slice AXY XY.ar.length cXY]) rfl (by kernel_rfl) (fun _ _ _ h => h) (by kernel_rfl) hS (fun V hV => by go_simp) ?_
      refine rgp 8 (.int .i64 eY) rfl (by kernel_rfl) (fun _ _ _ h => h) (by kernel_rfl) (fun V => by go_simp) ?_
      exact norm_ (by kernel_rfl) (ste_5_9 (AXY, cXY, hXY, g13, ()) _ ⟨hS, ⟨r7, m7.from_ (Nat.le_trans kb.size hS_size)⟩, ⟨box_below f9.1 kx, f9.2⟩, m7.off (mb.has.off_new (S := fun q => q = g13) (fun k e => by rw [e]; exact f9.2)) (fun k e => by rw [e]; exact blk_lt f9.1), trivial⟩)
    refine rg2 5 9 rfl rfl (by kernel_rfl) (by decide) (by decide) (by kernel_rfl) (by kernel_rfl) (fun K hK => ?_) (fun K hK => ?_)
    · have hS0 := hS
      go_simp
      have hS_size := hS.size
      refine (Subst_calls x XD o5 _ _ WN.drew _ (mb.has.below hS) rx rd i5.out).mono ?_
      rintro e W7 ⟨k7, cs7, hXY, rfl, r7, m7⟩
      rw [dXY.out] at r7
      obtain ⟨AXY, cXY, rfl, _⟩ := r7.open_
      rw [heY.out]
      simp only []
      have kx := k7
      refine hK.out _ _ (below_then hS kx hS.size) (fun hS => ?_)
      refine rgt 6 (.tuple #[.agg #[.int .i64 XY.k, .int .i64 XY.n, .string XY.nm, .slice AXY XY.ar.length cXY], .int .i64 eY]) rfl (by kernel_rfl) (fun _ _ _ h => h) (by kernel_rfl) hS (fun V hV => by go_simp) ?_
      refine rgt 7 (.agg #[.int .i64 XY.k, .int .i64 XY.n, .string XY.nm, .slice AXY XY.ar.length cXY]) rfl (by kernel_rfl) (fun _ _ _ h => h) (by kernel_rfl) hS (fun V hV => by go_simp) ?_
      refine rgp 8 (.int .i64 eY) rfl (by kernel_rfl) (fun _ _ _ h => h) (by kernel_rfl) (fun V => by go_simp) ?_
      exact norm_ (by kernel_rfl) (ste_5 (AXY, cXY, hXY, ()) _ ⟨hS, ⟨r7, m7.from_ (Nat.le_trans kb.size hS_size)⟩, trivial⟩)
    · have hS0 := hS
      go_simp
      have kx := (alloc1 WN.drew (.cells #[.int .i64 0, .int .i64 0, .string ⟨#[]⟩, .slice none 0 0] 34)).2
      have kn := blk_new WN.drew (.cells #[.int .i64 0, .int .i64 0, .string ⟨#[]⟩, .slice none 0 0] 34)
      have kz : WN.heap.size ≤ WN.drew.heap.size := hS.size
      refine hK.out _ _ (below_then hS kx hS.size) (fun hS => ?_)
      exact norm_ (by kernel_rfl) (ste_9 (WN.drew.heap.size, ()) _ ⟨hS, ⟨kn, kz⟩, trivial⟩)
  rintro ⟨AXY, cXY, hXY, g13, ⟨⟩⟩ WS ⟨hS, f5, f9, p5_9, -⟩
  dsimp only [putAll]
  try dsimp only at f5
  try dsimp only at f9
  try dsimp only at p5_9
  have xg := box4 f9.1
  have zg := blk_frozen f9.1
  have lg := blk_lt f9.1
  refine rgl 10 rfl (by kernel_rfl) (by decide) (by kernel_rfl) (fun K hK => ?_)
  go_simp
  refine hK.out _ _ ?_
  refine rgp 11 (.int .i64 eY) rfl (by kernel_rfl) (fun _ _ _ h => h) (by kernel_rfl) (fun V => by go_simp) ?_
  refine rgd (by kernel_rfl) ?_
  obtain ⟨WT, hWF, bF, kpF⟩ : ∃ WF, ((((WS.setCell ⟨g13, 0, none⟩ (.int .i64 XY.k)).setCell ⟨g13, 1, none⟩ (.int .i64 XY.n)).setCell ⟨g13, 2, none⟩ (.string XY.nm)).setCell ⟨g13, 3, none⟩ (.slice AXY XY.ar.length cXY)) = WF ∧
      WF.heap[g13]? = some (.cells #[.int .i64 XY.k, .int .i64 XY.n, .string XY.nm, .slice AXY XY.ar.length cXY] 34) ∧ Kp (fun q => q = g13) WS WF := ⟨_, rfl, (set4 f9.1 _ _ _ _).1, (set4 f9.1 _ _ _ _).2⟩
  rw [hWF]
  have HF := f5.2.has.kp kpF p5_9
  have kE := below_then kb hS kb.size
  have kF : Below w.heap.size w WT := ((Kp.of_below (fun q => q = g13) kE).trans kpF (fun i hi e => e)).below (fun i hi (e : i = g13) => by have h1 := f9.2; have h2 := kb.size; omega)
  obtain ⟨hy, BY, mc⟩ := BoxM.mk_ (w0 := w) HF bF f5.1 (Nat.le_trans kb.size f9.2)
  have ss := f5.2.sub.trans mc.sub
  replace mc := (mb.then_ (f5.2.world HF)).then_ mc
  replace BB := BB.sub ss
  clear hWF xg zg lg HF kE kpF bF ss hS kb mb f5 f9 p5_9
  have kb := kF
  have mb := mc
  clear kF mc
  clear cx0 cx1 cx2 cx3  cl rc
  clear dx0 dx1 dx2 dx3  dl rd
  clear y0 y1 y2 y3 f0 f1 f2 f3 rx BC BD gn gm hxa
  cases zY : eY != 0
  rotate_left
  · go_wp2_with fail
    go_ret
    exact ⟨rfl, kb⟩
  have hs6 := Lib.hid (hs5.out (by simpa using zY))
  obtain ⟨Ay, cy, ye0, ye1, ye2, ye3, ry⟩ := BY.at_
  have yx0 := mb.has.cell _ _ ye0
  have yx1 := mb.has.cell _ _ ye1
  have yx2 := mb.has.cell _ _ ye2
  have yx3 := mb.has.cell _ _ ye3
  have yl := mb.has.lt ye0
  clear ye0 ye1 ye2 ye3
  obtain ⟨Ae, ce, ee0, ee1, ee2, ee3, re⟩ := BB.at_
  have ex0 := mb.has.cell _ _ ee0
  have ex1 := mb.has.cell _ _ ee1
  have ex2 := mb.has.cell _ _ ee2
  have ex3 := mb.has.cell _ _ ee3
  have el := mb.has.lt ee0
  clear ee0 ee1 ee2 ee3
  go_wp2_with fail
  refine (Same_calls XY XB _ _ _ _ mb.has ry re).mono ?_
  rintro e wF ⟨rfl, kF⟩
  rw [hs6.out]
  replace kb := below_then kb kF kb.size
  go_wp2_with fail
  go_ret
  exact ⟨rfl, kb⟩
end Go.Proofs.YtpgbeapojjinmaaGreatDoor
