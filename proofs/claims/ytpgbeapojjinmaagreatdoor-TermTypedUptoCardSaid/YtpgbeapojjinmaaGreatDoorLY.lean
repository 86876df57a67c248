/- The statement TermTyped: its walk. -/
import Derived.Test.YtpgbeapojjinmaaGreatDoorSN
import Derived.Test.YtpgbeapojjinmaaGreatDoorTD
set_option linter.unusedVariables false
set_option linter.unusedSimpArgs false
namespace Go.Proofs.YtpgbeapojjinmaaGreatDoor
open Go.RowKit Go.Shelf Go.Proofs.YtpgbeapojjinmaaGreatDoorW.PrintLast
set_option maxRecDepth 100000 in
set_option maxHeartbeats 16000000 in
theorem TermTyped_calls (p : Pg) (s : Sc) (t : Tm) (ty : Ty) (ps ss ct cy : List Value) (w : World) (h : Snap) (H : Has w h) (rp : PgR h p ps) (rs : ScR h s ss) (rt : TmR h t ct) (ry : TyR h ty cy) :
    Calls Tryz.prog 3 #[.agg (ps ++ ss ++ ct ++ cy).toArray] w fun e w' => e = .returned (.bool true) ∧ Below w.heap.size w w' := by
  have rp0 := Lib.hid rp
  have rs0 := Lib.hid rs
  have rt0 := Lib.hid rt
  have ry0 := Lib.hid ry
  obtain ⟨A, cap, rfl, hl, hlm, hk1, hn1, hr⟩ := rt.open_
  obtain ⟨Ay, cy, rfl, hyl, hym, hry⟩ := ry.open_
  obtain ⟨v0, v1, Z2, n2, z2, Z3, n3, z3, Z4, n4, z4, rfl, rpt, rc⟩ := rp
  obtain ⟨At, kt, rfl, _⟩ := id rpt
  obtain ⟨Ac, kc, rfl, _⟩ := id rc
  obtain ⟨s0, s1, s2, rfl, q0, q1, q2⟩ := rs
  obtain ⟨A0, k0, rfl, _⟩ := id q0
  obtain ⟨A1, k1, rfl, _⟩ := id q1
  obtain ⟨A2, k2, rfl, _⟩ := id q2
  have q1s := Lib.hid q1
  have q2s := Lib.hid q2
  have hu28 := Tryz.underlying28
  have hu31 := Tryz.underlying31
  have hu34 := Tryz.underlying34
  have hu36 := Tryz.underlying36
  have hu38 := Tryz.underlying38
  clear rpt rc q0 q1 q2 rt ry hl hlm hk1 hn1 hr hyl hym hry
  simp only [List.cons_append, List.nil_append]
  obtain ⟨a1, ab⟩ := alloc1 w (.cells #[.slice At p.types.length kt, .slice Ac p.consts.length kc, .slice Z2 n2 z2, .slice Z3 n3 z3, .slice Z4 n4 z4, .slice A0 s.vars.length k0, .slice A1 s.pars.length k1, .slice A2 s.bound.length k2, .int .i64 t.k, .int .i64 t.n, .string t.nm, .slice A t.ar.length cap, .string ty.nm, .slice Ay ty.ar.length cy] 38)
  go_enter Tryz.func3, Tryz.ntmps3
  go_wp2_with fail
  refine (sane_calls _ h (H.below ab)).mono ?_
  rintro e w0 ⟨rfl, k0'⟩
  have b1 := box_below a1 k0'
  have kb := below_then ab k0' ab.size
  clear a1 ab k0'
  have x0 : w0.cell? ⟨w.heap.size, 0, none⟩ = some (.slice At p.types.length kt) := blk_cell b1 0
  have x1 : w0.cell? ⟨w.heap.size, 1, none⟩ = some (.slice Ac p.consts.length kc) := blk_cell b1 1
  have x2 : w0.cell? ⟨w.heap.size, 2, none⟩ = some (.slice Z2 n2 z2) := blk_cell b1 2
  have x3 : w0.cell? ⟨w.heap.size, 3, none⟩ = some (.slice Z3 n3 z3) := blk_cell b1 3
  have x4 : w0.cell? ⟨w.heap.size, 4, none⟩ = some (.slice Z4 n4 z4) := blk_cell b1 4
  have x5 : w0.cell? ⟨w.heap.size, 5, none⟩ = some (.slice A0 s.vars.length k0) := blk_cell b1 5
  have x6 : w0.cell? ⟨w.heap.size, 6, none⟩ = some (.slice A1 s.pars.length k1) := blk_cell b1 6
  have x7 : w0.cell? ⟨w.heap.size, 7, none⟩ = some (.slice A2 s.bound.length k2) := blk_cell b1 7
  have x8 : w0.cell? ⟨w.heap.size, 8, none⟩ = some (.int .i64 t.k) := blk_cell b1 8
  have x9 : w0.cell? ⟨w.heap.size, 9, none⟩ = some (.int .i64 t.n) := blk_cell b1 9
  have x10 : w0.cell? ⟨w.heap.size, 10, none⟩ = some (.string t.nm) := blk_cell b1 10
  have x11 : w0.cell? ⟨w.heap.size, 11, none⟩ = some (.slice A t.ar.length cap) := blk_cell b1 11
  have x12 : w0.cell? ⟨w.heap.size, 12, none⟩ = some (.string ty.nm) := blk_cell b1 12
  have x13 : w0.cell? ⟨w.heap.size, 13, none⟩ = some (.slice Ay ty.ar.length cy) := blk_cell b1 13
  have Hw0 := H.below kb
  go_wp2_with fail
  refine (Few_calls p s _ _ w0 h Hw0 rp0.out rs0.out).mono ?_
  rintro e w1 ⟨bf, rfl, hsum, k1'⟩
  replace b1 := box_below b1 k1'
  replace kb := below_then kb k1' kb.size
  clear x0 x1 x2 x3 x4 x5 x6 x7 x8 x9 x10 x11 x12 x13 Hw0 k1'
  have x0 : w1.cell? ⟨w.heap.size, 0, none⟩ = some (.slice At p.types.length kt) := blk_cell b1 0
  have x1 : w1.cell? ⟨w.heap.size, 1, none⟩ = some (.slice Ac p.consts.length kc) := blk_cell b1 1
  have x2 : w1.cell? ⟨w.heap.size, 2, none⟩ = some (.slice Z2 n2 z2) := blk_cell b1 2
  have x3 : w1.cell? ⟨w.heap.size, 3, none⟩ = some (.slice Z3 n3 z3) := blk_cell b1 3
  have x4 : w1.cell? ⟨w.heap.size, 4, none⟩ = some (.slice Z4 n4 z4) := blk_cell b1 4
  have x5 : w1.cell? ⟨w.heap.size, 5, none⟩ = some (.slice A0 s.vars.length k0) := blk_cell b1 5
  have x6 : w1.cell? ⟨w.heap.size, 6, none⟩ = some (.slice A1 s.pars.length k1) := blk_cell b1 6
  have x7 : w1.cell? ⟨w.heap.size, 7, none⟩ = some (.slice A2 s.bound.length k2) := blk_cell b1 7
  have x8 : w1.cell? ⟨w.heap.size, 8, none⟩ = some (.int .i64 t.k) := blk_cell b1 8
  have x9 : w1.cell? ⟨w.heap.size, 9, none⟩ = some (.int .i64 t.n) := blk_cell b1 9
  have x10 : w1.cell? ⟨w.heap.size, 10, none⟩ = some (.string t.nm) := blk_cell b1 10
  have x11 : w1.cell? ⟨w.heap.size, 11, none⟩ = some (.slice A t.ar.length cap) := blk_cell b1 11
  have x12 : w1.cell? ⟨w.heap.size, 12, none⟩ = some (.string ty.nm) := blk_cell b1 12
  have x13 : w1.cell? ⟨w.heap.size, 13, none⟩ = some (.slice Ay ty.ar.length cy) := blk_cell b1 13
  have Hw1 := H.below kb
  have lb := blk_lt b1
  cases bf
  · go_wp2_with fail
    go_ret
    exact ⟨rfl, kb⟩
  replace hsum := Lib.hid (hsum rfl)
  go_wp2_with fail
  obtain ⟨c1, d1⟩ := alloc1 w1 (.cells #[.int .i64 t.k, .int .i64 t.n, .string t.nm, .slice A t.ar.length cap] 34)
  obtain ⟨h2, r2, m2, _⟩ := one_TmS2 (w0 := w1) (u := t) (Hw1.below d1) c1 rt0.out (Nat.le_refl _)
  refine (Brief_calls [t] _ _ h2 m2.has r2).mono ?_
  rintro e w2 ⟨bg, rfl, k2'⟩
  replace k2' := below_then d1 k2' d1.size
  clear c1 d1 r2 m2
  replace b1 := box_below b1 k2'
  replace kb := below_then kb k2' kb.size
  clear x0 x1 x2 x3 x4 x5 x6 x7 x8 x9 x10 x11 x12 x13 Hw1 k2' lb
  have x0 : w2.cell? ⟨w.heap.size, 0, none⟩ = some (.slice At p.types.length kt) := blk_cell b1 0
  have x1 : w2.cell? ⟨w.heap.size, 1, none⟩ = some (.slice Ac p.consts.length kc) := blk_cell b1 1
  have x2 : w2.cell? ⟨w.heap.size, 2, none⟩ = some (.slice Z2 n2 z2) := blk_cell b1 2
  have x3 : w2.cell? ⟨w.heap.size, 3, none⟩ = some (.slice Z3 n3 z3) := blk_cell b1 3
  have x4 : w2.cell? ⟨w.heap.size, 4, none⟩ = some (.slice Z4 n4 z4) := blk_cell b1 4
  have x5 : w2.cell? ⟨w.heap.size, 5, none⟩ = some (.slice A0 s.vars.length k0) := blk_cell b1 5
  have x6 : w2.cell? ⟨w.heap.size, 6, none⟩ = some (.slice A1 s.pars.length k1) := blk_cell b1 6
  have x7 : w2.cell? ⟨w.heap.size, 7, none⟩ = some (.slice A2 s.bound.length k2) := blk_cell b1 7
  have x8 : w2.cell? ⟨w.heap.size, 8, none⟩ = some (.int .i64 t.k) := blk_cell b1 8
  have x9 : w2.cell? ⟨w.heap.size, 9, none⟩ = some (.int .i64 t.n) := blk_cell b1 9
  have x10 : w2.cell? ⟨w.heap.size, 10, none⟩ = some (.string t.nm) := blk_cell b1 10
  have x11 : w2.cell? ⟨w.heap.size, 11, none⟩ = some (.slice A t.ar.length cap) := blk_cell b1 11
  have x12 : w2.cell? ⟨w.heap.size, 12, none⟩ = some (.string ty.nm) := blk_cell b1 12
  have x13 : w2.cell? ⟨w.heap.size, 13, none⟩ = some (.slice Ay ty.ar.length cy) := blk_cell b1 13
  have lb := blk_lt b1
  cases bg
  · go_wp2_with fail
    go_ret
    exact ⟨rfl, kb⟩
  go_wp2_with fail
  obtain ⟨c1, d1⟩ := alloc1 w2 (.cells #[.slice none 0 0, .slice A1 s.pars.length k1, .slice A2 s.bound.length k2] 31)
  obtain ⟨W5, hW5⟩ : ∃ W5, w2.alloc (.cells #[.slice none 0 0, .slice A1 s.pars.length k1, .slice A2 s.bound.length k2] 31) = W5 := ⟨_, rfl⟩
  rw [hW5] at c1 d1 ⊢
  clear hW5
  replace b1 := box_below b1 d1
  replace kb := below_then kb d1 kb.size
  clear x0 x1 x2 x3 x4 x5 x6 x7 x8 x9 x10 x11 x12 x13 lb d1
  have H5 := H.below kb
  obtain ⟨yy0, yy1, yy2⟩ := bx3f c1
  have x0 : W5.cell? ⟨w.heap.size, 0, none⟩ = some (.slice At p.types.length kt) := blk_cell b1 0
  have x1 : W5.cell? ⟨w.heap.size, 1, none⟩ = some (.slice Ac p.consts.length kc) := blk_cell b1 1
  have x2 : W5.cell? ⟨w.heap.size, 2, none⟩ = some (.slice Z2 n2 z2) := blk_cell b1 2
  have x3 : W5.cell? ⟨w.heap.size, 3, none⟩ = some (.slice Z3 n3 z3) := blk_cell b1 3
  have x4 : W5.cell? ⟨w.heap.size, 4, none⟩ = some (.slice Z4 n4 z4) := blk_cell b1 4
  have x5 : W5.cell? ⟨w.heap.size, 5, none⟩ = some (.slice A0 s.vars.length k0) := blk_cell b1 5
  have x6 : W5.cell? ⟨w.heap.size, 6, none⟩ = some (.slice A1 s.pars.length k1) := blk_cell b1 6
  have x7 : W5.cell? ⟨w.heap.size, 7, none⟩ = some (.slice A2 s.bound.length k2) := blk_cell b1 7
  have x8 : W5.cell? ⟨w.heap.size, 8, none⟩ = some (.int .i64 t.k) := blk_cell b1 8
  have x9 : W5.cell? ⟨w.heap.size, 9, none⟩ = some (.int .i64 t.n) := blk_cell b1 9
  have x10 : W5.cell? ⟨w.heap.size, 10, none⟩ = some (.string t.nm) := blk_cell b1 10
  have x11 : W5.cell? ⟨w.heap.size, 11, none⟩ = some (.slice A t.ar.length cap) := blk_cell b1 11
  have x12 : W5.cell? ⟨w.heap.size, 12, none⟩ = some (.string ty.nm) := blk_cell b1 12
  have x13 : W5.cell? ⟨w.heap.size, 13, none⟩ = some (.slice Ay ty.ar.length cy) := blk_cell b1 13
  refine rgs 56 (fun V => Below W5.heap.size W5 V) [] rfl ((Below.refl _ _).drew) (fun hS => ?_)
  refine rgnf 0 27 (.bool true) rfl rfl (by kernel_rfl) (fun _ _ _ h => h) (by kernel_rfl) hS (fun V hV => by go_simp) ?_
  refine rgnf 1 28 (.bool true) rfl rfl (by kernel_rfl) (fun _ _ _ h => h) (by kernel_rfl) hS (fun V hV => by go_simp) ?_
  refine rgnf 2 29 (.pointer (some ⟨w.heap.size, 8, none⟩)) rfl rfl (by kernel_rfl) (fun _ _ _ h => h) (by kernel_rfl) hS (fun V hV => by go_simp) ?_
  refine rgnf 3 30 (.agg #[.int .i64 t.k, .int .i64 t.n, .string t.nm, .slice A t.ar.length cap]) rfl rfl (by kernel_rfl) (fun _ _ _ h => h) (by kernel_rfl) hS (fun V hV => by have q8 := cell_below x8 hV; have q9 := cell_below x9 hV; have q10 := cell_below x10 hV; have q11 := cell_below x11 hV; go_simp) ?_
  refine rgnf 5 32 (.pointer (some ⟨w.heap.size, 8, none⟩)) rfl rfl (by kernel_rfl) (fun _ _ _ h => h) (by kernel_rfl) hS (fun V hV => by go_simp) ?_
  refine rgnf 6 33 (.agg #[.int .i64 t.k, .int .i64 t.n, .string t.nm, .slice A t.ar.length cap]) rfl rfl (by kernel_rfl) (fun _ _ _ h => h) (by kernel_rfl) hS (fun V hV => by have q8 := cell_below x8 hV; have q9 := cell_below x9 hV; have q10 := cell_below x10 hV; have q11 := cell_below x11 hV; go_simp) ?_
  simp only [Act.put, List.setIfInBounds_toArray, List.set_cons_zero, List.set_cons_succ]
  refine join_ (σ := Unit) 0 #[true, true, true, true, true, true, true, true, true, true, true, true, true, true, true, true, true, true, true, true, true, true, true, true, true, true, true, true, true, true, true, true, true, true, true, true, true, true, true, true, true, true, true, true, true, true, true, true, true, true, true, true, true, true, true, true] (fun zz => [(27, .bool true), (28, .bool true), (29, .pointer (some ⟨w.heap.size, 8, none⟩)), (30, .agg #[.int .i64 t.k, .int .i64 t.n, .string t.nm, .slice A t.ar.length cap]), (31, .int .i64 (rawP t)), (32, .pointer (some ⟨w.heap.size, 8, none⟩)), (33, .agg #[.int .i64 t.k, .int .i64 t.n, .string t.nm, .slice A t.ar.length cap]), (34, .int .i64 (rawP t)), (35, .bool true), (36, .bool true), (37, .bool true), (38, .pointer (some ⟨w.heap.size, 0, none⟩)), (39, .agg #[.slice At p.types.length kt, .slice Ac p.consts.length kc, .slice Z2 n2 z2, .slice Z3 n3 z3, .slice Z4 n4 z4]), (40, .pointer (some ⟨w.heap.size, 5, none⟩)), (41, .agg #[.slice A0 s.vars.length k0, .slice A1 s.pars.length k1, .slice A2 s.bound.length k2]), (42, .pointer (some ⟨w.heap.size, 8, none⟩)), (43, .agg #[.int .i64 t.k, .int .i64 t.n, .string t.nm, .slice A t.ar.length cap]), (44, .pointer (some ⟨w.heap.size, 12, none⟩)), (45, .agg #[.string ty.nm, .slice Ay ty.ar.length cy]), (46, .int .i64 (typedP p s t ty)), (47, .pointer (some ⟨w.heap.size, 0, none⟩)), (48, .agg #[.slice At p.types.length kt, .slice Ac p.consts.length kc, .slice Z2 n2 z2, .slice Z3 n3 z3, .slice Z4 n4 z4]), (49, .pointer (some ⟨w.heap.size, 5, none⟩)), (50, .agg #[.slice A0 s.vars.length k0, .slice A1 s.pars.length k1, .slice A2 s.bound.length k2]), (51, .pointer (some ⟨w.heap.size, 8, none⟩)), (52, .agg #[.int .i64 t.k, .int .i64 t.n, .string t.nm, .slice A t.ar.length cap]), (53, .pointer (some ⟨w.heap.size, 12, none⟩)), (54, .agg #[.string ty.nm, .slice Ay ty.ar.length cy]), (55, .int .i64 (typedP p s t ty)), (56, .bool true), (57, .bool true), (58, .bool true), (59, .pointer (some ⟨w.heap.size, 0, none⟩)), (60, .agg #[.slice At p.types.length kt, .slice Ac p.consts.length kc, .slice Z2 n2 z2, .slice Z3 n3 z3, .slice Z4 n4 z4]), (61, .pointer (some ⟨w.heap.size, 5, none⟩)), (62, .pointer (some ⟨w.heap.size, 6, none⟩)), (63, .slice A1 s.pars.length k1), (64, .pointer (some ⟨w.heap.size, 5, none⟩)), (65, .pointer (some ⟨w.heap.size, 7, none⟩)), (66, .slice A2 s.bound.length k2), (67, .pointer (some ⟨w.heap.size, 8, none⟩)), (68, .agg #[.int .i64 t.k, .int .i64 t.n, .string t.nm, .slice A t.ar.length cap]), (69, .pointer (some ⟨w.heap.size, 12, none⟩)), (70, .agg #[.string ty.nm, .slice Ay ty.ar.length cy]), (71, .int .i64 (typedP p ⟨[], s.pars, s.bound⟩ t ty)), (72, .pointer (some ⟨w.heap.size, 0, none⟩)), (73, .agg #[.slice At p.types.length kt, .slice Ac p.consts.length kc, .slice Z2 n2 z2, .slice Z3 n3 z3, .slice Z4 n4 z4]), (74, .agg #[.slice none 0 0, .slice A1 s.pars.length k1, .slice A2 s.bound.length k2]), (75, .pointer (some ⟨w.heap.size, 8, none⟩)), (76, .agg #[.int .i64 t.k, .int .i64 t.n, .string t.nm, .slice A t.ar.length cap]), (77, .pointer (some ⟨w.heap.size, 12, none⟩)), (78, .agg #[.string ty.nm, .slice Ay ty.ar.length cy]), (79, .int .i64 (typedP p ⟨[], s.pars, s.bound⟩ t ty)), (80, .bool true), (81, .bool true), (2, .bool true)]) (fun zz W => Below W5.heap.size W5 W ∧ True) ?_ (fun sta_4_7_19_28_44_52 => ?_)
  rotate_left
  · refine join_ (σ := Unit) 4 #[true, true, true, true, true, true, true, true, true, true, true, true, true, true, true, true, true, true, true, true, true, true, true, true, true, true, true, true, true, true, true, true, true, true, true, true, true, true, true, true, true, true, true, true, true, true, true, true, true, true, true, true, false, false, false, false] (fun zz => [(27, .bool true), (28, .bool true), (29, .pointer (some ⟨w.heap.size, 8, none⟩)), (30, .agg #[.int .i64 t.k, .int .i64 t.n, .string t.nm, .slice A t.ar.length cap]), (31, .int .i64 (rawP t)), (32, .pointer (some ⟨w.heap.size, 8, none⟩)), (33, .agg #[.int .i64 t.k, .int .i64 t.n, .string t.nm, .slice A t.ar.length cap]), (34, .int .i64 (rawP t)), (35, .bool true), (36, .bool true), (37, .bool true), (38, .pointer (some ⟨w.heap.size, 0, none⟩)), (39, .agg #[.slice At p.types.length kt, .slice Ac p.consts.length kc, .slice Z2 n2 z2, .slice Z3 n3 z3, .slice Z4 n4 z4]), (40, .pointer (some ⟨w.heap.size, 5, none⟩)), (41, .agg #[.slice A0 s.vars.length k0, .slice A1 s.pars.length k1, .slice A2 s.bound.length k2]), (42, .pointer (some ⟨w.heap.size, 8, none⟩)), (43, .agg #[.int .i64 t.k, .int .i64 t.n, .string t.nm, .slice A t.ar.length cap]), (44, .pointer (some ⟨w.heap.size, 12, none⟩)), (45, .agg #[.string ty.nm, .slice Ay ty.ar.length cy]), (46, .int .i64 (typedP p s t ty)), (47, .pointer (some ⟨w.heap.size, 0, none⟩)), (48, .agg #[.slice At p.types.length kt, .slice Ac p.consts.length kc, .slice Z2 n2 z2, .slice Z3 n3 z3, .slice Z4 n4 z4]), (49, .pointer (some ⟨w.heap.size, 5, none⟩)), (50, .agg #[.slice A0 s.vars.length k0, .slice A1 s.pars.length k1, .slice A2 s.bound.length k2]), (51, .pointer (some ⟨w.heap.size, 8, none⟩)), (52, .agg #[.int .i64 t.k, .int .i64 t.n, .string t.nm, .slice A t.ar.length cap]), (53, .pointer (some ⟨w.heap.size, 12, none⟩)), (54, .agg #[.string ty.nm, .slice Ay ty.ar.length cy]), (55, .int .i64 (typedP p s t ty)), (56, .bool true), (57, .bool true), (58, .bool true), (59, .pointer (some ⟨w.heap.size, 0, none⟩)), (60, .agg #[.slice At p.types.length kt, .slice Ac p.consts.length kc, .slice Z2 n2 z2, .slice Z3 n3 z3, .slice Z4 n4 z4]), (61, .pointer (some ⟨w.heap.size, 5, none⟩)), (62, .pointer (some ⟨w.heap.size, 6, none⟩)), (63, .slice A1 s.pars.length k1), (64, .pointer (some ⟨w.heap.size, 5, none⟩)), (65, .pointer (some ⟨w.heap.size, 7, none⟩)), (66, .slice A2 s.bound.length k2), (67, .pointer (some ⟨w.heap.size, 8, none⟩)), (68, .agg #[.int .i64 t.k, .int .i64 t.n, .string t.nm, .slice A t.ar.length cap]), (69, .pointer (some ⟨w.heap.size, 12, none⟩)), (70, .agg #[.string ty.nm, .slice Ay ty.ar.length cy]), (71, .int .i64 (typedP p ⟨[], s.pars, s.bound⟩ t ty)), (72, .pointer (some ⟨w.heap.size, 0, none⟩)), (73, .agg #[.slice At p.types.length kt, .slice Ac p.consts.length kc, .slice Z2 n2 z2, .slice Z3 n3 z3, .slice Z4 n4 z4]), (74, .agg #[.slice none 0 0, .slice A1 s.pars.length k1, .slice A2 s.bound.length k2]), (75, .pointer (some ⟨w.heap.size, 8, none⟩)), (76, .agg #[.int .i64 t.k, .int .i64 t.n, .string t.nm, .slice A t.ar.length cap]), (77, .pointer (some ⟨w.heap.size, 12, none⟩)), (78, .agg #[.string ty.nm, .slice Ay ty.ar.length cy])]) (fun zz W => Below W5.heap.size W5 W ∧ True) ?_ (fun sta_4_7_19_28_44 => ?_)
    · rintro ⟨⟩ W ⟨hS, -⟩
      refine norm_ (a' := ?_) ?_ ?_
      rotate_left
      · simp only [putAll, Act.put, List.setIfInBounds_toArray, List.set_cons_zero, List.set_cons_succ]
        rfl
      refine rg1 52 rfl (by kernel_rfl) (by decide) (by kernel_rfl) (fun K hK => ?_)
      have hS0 := hS
      go_simp
      refine (RTyped_calls p ⟨[], s.pars, s.bound⟩ t ty _ _ _ _ _ _ (H5.below hS) rp0.out ⟨_, _, _, rfl, TyS_nil _, q1s.out, q2s.out⟩ rt0.out ry0.out (by have := hsum.out; simp; omega)).mono ?_
      rintro e W7 ⟨rfl, k7⟩
      simp only []
      have kx := k7
      refine hK.out _ _ (below_then hS kx hS.size) (fun hS => ?_)
      refine rgnf 53 80 (.bool true) rfl rfl (by kernel_rfl) (fun _ _ _ h => h) (by kernel_rfl) hS (fun V hV => by go_simp) ?_
      refine rgnf 54 81 (.bool true) rfl rfl (by kernel_rfl) (fun _ _ _ h => h) (by kernel_rfl) hS (fun V hV => by go_simp) ?_
      refine rgnf 55 2 (.bool true) rfl rfl (by kernel_rfl) (fun _ _ _ h => h) (by kernel_rfl) hS (fun V hV => by go_simp) ?_
      simp only [Act.put, List.setIfInBounds_toArray, List.set_cons_zero, List.set_cons_succ]
      exact norm_ (by kernel_rfl) (sta_4_7_19_28_44_52 () _ ⟨hS, trivial⟩)
    refine join_ (σ := Unit) 5 #[true, true, true, true, true, true, true, true, true, true, true, true, true, true, true, true, true, true, true, true, true, true, true, true, true, true, true, true, true, true, true, true, true, true, true, true, true, true, true, true, true, true, true, true, false, true, true, true, true, true, true, true, false, false, false, false] (fun zz => [(27, .bool true), (28, .bool true), (29, .pointer (some ⟨w.heap.size, 8, none⟩)), (30, .agg #[.int .i64 t.k, .int .i64 t.n, .string t.nm, .slice A t.ar.length cap]), (31, .int .i64 (rawP t)), (32, .pointer (some ⟨w.heap.size, 8, none⟩)), (33, .agg #[.int .i64 t.k, .int .i64 t.n, .string t.nm, .slice A t.ar.length cap]), (34, .int .i64 (rawP t)), (35, .bool true), (36, .bool true), (37, .bool true), (38, .pointer (some ⟨w.heap.size, 0, none⟩)), (39, .agg #[.slice At p.types.length kt, .slice Ac p.consts.length kc, .slice Z2 n2 z2, .slice Z3 n3 z3, .slice Z4 n4 z4]), (40, .pointer (some ⟨w.heap.size, 5, none⟩)), (41, .agg #[.slice A0 s.vars.length k0, .slice A1 s.pars.length k1, .slice A2 s.bound.length k2]), (42, .pointer (some ⟨w.heap.size, 8, none⟩)), (43, .agg #[.int .i64 t.k, .int .i64 t.n, .string t.nm, .slice A t.ar.length cap]), (44, .pointer (some ⟨w.heap.size, 12, none⟩)), (45, .agg #[.string ty.nm, .slice Ay ty.ar.length cy]), (46, .int .i64 (typedP p s t ty)), (47, .pointer (some ⟨w.heap.size, 0, none⟩)), (48, .agg #[.slice At p.types.length kt, .slice Ac p.consts.length kc, .slice Z2 n2 z2, .slice Z3 n3 z3, .slice Z4 n4 z4]), (49, .pointer (some ⟨w.heap.size, 5, none⟩)), (50, .agg #[.slice A0 s.vars.length k0, .slice A1 s.pars.length k1, .slice A2 s.bound.length k2]), (51, .pointer (some ⟨w.heap.size, 8, none⟩)), (52, .agg #[.int .i64 t.k, .int .i64 t.n, .string t.nm, .slice A t.ar.length cap]), (53, .pointer (some ⟨w.heap.size, 12, none⟩)), (54, .agg #[.string ty.nm, .slice Ay ty.ar.length cy]), (55, .int .i64 (typedP p s t ty)), (56, .bool true), (57, .bool true), (58, .bool true), (59, .pointer (some ⟨w.heap.size, 0, none⟩)), (60, .agg #[.slice At p.types.length kt, .slice Ac p.consts.length kc, .slice Z2 n2 z2, .slice Z3 n3 z3, .slice Z4 n4 z4]), (61, .pointer (some ⟨w.heap.size, 5, none⟩)), (62, .pointer (some ⟨w.heap.size, 6, none⟩)), (63, .slice A1 s.pars.length k1), (64, .pointer (some ⟨w.heap.size, 5, none⟩)), (65, .pointer (some ⟨w.heap.size, 7, none⟩)), (66, .slice A2 s.bound.length k2), (67, .pointer (some ⟨w.heap.size, 8, none⟩)), (68, .agg #[.int .i64 t.k, .int .i64 t.n, .string t.nm, .slice A t.ar.length cap]), (69, .pointer (some ⟨w.heap.size, 12, none⟩)), (70, .agg #[.string ty.nm, .slice Ay ty.ar.length cy]), (72, .pointer (some ⟨w.heap.size, 0, none⟩)), (73, .agg #[.slice At p.types.length kt, .slice Ac p.consts.length kc, .slice Z2 n2 z2, .slice Z3 n3 z3, .slice Z4 n4 z4]), (74, .agg #[.slice none 0 0, .slice A1 s.pars.length k1, .slice A2 s.bound.length k2]), (75, .pointer (some ⟨w.heap.size, 8, none⟩)), (76, .agg #[.int .i64 t.k, .int .i64 t.n, .string t.nm, .slice A t.ar.length cap]), (77, .pointer (some ⟨w.heap.size, 12, none⟩)), (78, .agg #[.string ty.nm, .slice Ay ty.ar.length cy])]) (fun zz W => Below W5.heap.size W5 W ∧ True) ?_ (fun sta_4_7_19_28 => ?_)
    · rintro ⟨⟩ W ⟨hS, -⟩
      refine norm_ (a' := ?_) ?_ ?_
      rotate_left
      · simp only [putAll, Act.put, List.setIfInBounds_toArray, List.set_cons_zero, List.set_cons_succ]
        rfl
      refine rg1 44 rfl (by kernel_rfl) (by decide) (by kernel_rfl) (fun K hK => ?_)
      have hS0 := hS
      go_simp
      refine (Check_calls p s.pars s.bound t ty _ _ _ _ _ _ _ (H5.below hS) rp0.out q1s.out q2s.out rt0.out ry0.out (by have := hsum.out; omega)).mono ?_
      rintro e W7 ⟨rfl, k7⟩
      simp only []
      have kx := k7
      refine hK.out _ _ (below_then hS kx hS.size) (fun hS => ?_)
      exact norm_ (by kernel_rfl) (sta_4_7_19_28_44 () _ ⟨hS, trivial⟩)
    refine join_ (σ := Unit) 28 #[true, true, true, true, true, true, true, true, true, true, true, true, true, true, true, true, true, true, true, true, true, true, true, true, true, true, true, true, false, false, false, false, false, false, false, false, false, false, false, false, false, false, false, false, false, false, false, false, false, false, false, false, false, false, false, false] (fun zz => [(27, .bool true), (28, .bool true), (29, .pointer (some ⟨w.heap.size, 8, none⟩)), (30, .agg #[.int .i64 t.k, .int .i64 t.n, .string t.nm, .slice A t.ar.length cap]), (31, .int .i64 (rawP t)), (32, .pointer (some ⟨w.heap.size, 8, none⟩)), (33, .agg #[.int .i64 t.k, .int .i64 t.n, .string t.nm, .slice A t.ar.length cap]), (34, .int .i64 (rawP t)), (35, .bool true), (36, .bool true), (37, .bool true), (38, .pointer (some ⟨w.heap.size, 0, none⟩)), (39, .agg #[.slice At p.types.length kt, .slice Ac p.consts.length kc, .slice Z2 n2 z2, .slice Z3 n3 z3, .slice Z4 n4 z4]), (40, .pointer (some ⟨w.heap.size, 5, none⟩)), (41, .agg #[.slice A0 s.vars.length k0, .slice A1 s.pars.length k1, .slice A2 s.bound.length k2]), (42, .pointer (some ⟨w.heap.size, 8, none⟩)), (43, .agg #[.int .i64 t.k, .int .i64 t.n, .string t.nm, .slice A t.ar.length cap]), (44, .pointer (some ⟨w.heap.size, 12, none⟩)), (45, .agg #[.string ty.nm, .slice Ay ty.ar.length cy]), (46, .int .i64 (typedP p s t ty)), (47, .pointer (some ⟨w.heap.size, 0, none⟩)), (48, .agg #[.slice At p.types.length kt, .slice Ac p.consts.length kc, .slice Z2 n2 z2, .slice Z3 n3 z3, .slice Z4 n4 z4]), (49, .pointer (some ⟨w.heap.size, 5, none⟩)), (50, .agg #[.slice A0 s.vars.length k0, .slice A1 s.pars.length k1, .slice A2 s.bound.length k2]), (51, .pointer (some ⟨w.heap.size, 8, none⟩)), (52, .agg #[.int .i64 t.k, .int .i64 t.n, .string t.nm, .slice A t.ar.length cap]), (53, .pointer (some ⟨w.heap.size, 12, none⟩)), (54, .agg #[.string ty.nm, .slice Ay ty.ar.length cy])]) (fun zz W => Below W5.heap.size W5 W ∧ True) ?_ (fun sta_4_7_19 => ?_)
    · rintro ⟨⟩ W ⟨hS, -⟩
      refine norm_ (a' := ?_) ?_ ?_
      rotate_left
      · simp only [putAll, Act.put, List.setIfInBounds_toArray, List.set_cons_zero, List.set_cons_succ]
        rfl
      refine rg1 28 rfl (by kernel_rfl) (by decide) (by kernel_rfl) (fun K hK => ?_)
      have hS0 := hS
      go_simp
      refine (RTyped_calls p s t ty _ _ _ _ _ _ (H5.below hS) rp0.out rs0.out rt0.out ry0.out (by have := hsum.out; omega)).mono ?_
      rintro e W7 ⟨rfl, k7⟩
      simp only []
      have kx := k7
      refine hK.out _ _ (below_then hS kx hS.size) (fun hS => ?_)
      refine rgnf 29 56 (.bool true) rfl rfl (by kernel_rfl) (fun _ _ _ h => h) (by kernel_rfl) hS (fun V hV => by go_simp) ?_
      refine rgnf 30 57 (.bool true) rfl rfl (by kernel_rfl) (fun _ _ _ h => h) (by kernel_rfl) hS (fun V hV => by go_simp) ?_
      refine rgnf 31 58 (.bool true) rfl rfl (by kernel_rfl) (fun _ _ _ h => h) (by kernel_rfl) hS (fun V hV => by go_simp) ?_
      refine rgnf 32 59 (.pointer (some ⟨w.heap.size, 0, none⟩)) rfl rfl (by kernel_rfl) (fun _ _ _ h => h) (by kernel_rfl) hS (fun V hV => by go_simp) ?_
      refine rgnf 33 60 (.agg #[.slice At p.types.length kt, .slice Ac p.consts.length kc, .slice Z2 n2 z2, .slice Z3 n3 z3, .slice Z4 n4 z4]) rfl rfl (by kernel_rfl) (fun _ _ _ h => h) (by kernel_rfl) hS (fun V hV => by have q0 := cell_below x0 hV; have q1 := cell_below x1 hV; have q2 := cell_below x2 hV; have q3 := cell_below x3 hV; have q4 := cell_below x4 hV; go_simp) ?_
      refine rgnf 34 61 (.pointer (some ⟨w.heap.size, 5, none⟩)) rfl rfl (by kernel_rfl) (fun _ _ _ h => h) (by kernel_rfl) hS (fun V hV => by go_simp) ?_
      refine rgnf 35 62 (.pointer (some ⟨w.heap.size, 6, none⟩)) rfl rfl (by kernel_rfl) (fun _ _ _ h => h) (by kernel_rfl) hS (fun V hV => by go_simp) ?_
      refine rgnf 36 63 (.slice A1 s.pars.length k1) rfl rfl (by kernel_rfl) (fun _ _ _ h => h) (by kernel_rfl) hS (fun V hV => by have q6 := cell_below x6 hV; go_simp) ?_
      refine rgnf 37 64 (.pointer (some ⟨w.heap.size, 5, none⟩)) rfl rfl (by kernel_rfl) (fun _ _ _ h => h) (by kernel_rfl) hS (fun V hV => by go_simp) ?_
      refine rgnf 38 65 (.pointer (some ⟨w.heap.size, 7, none⟩)) rfl rfl (by kernel_rfl) (fun _ _ _ h => h) (by kernel_rfl) hS (fun V hV => by go_simp) ?_
      refine rgnf 39 66 (.slice A2 s.bound.length k2) rfl rfl (by kernel_rfl) (fun _ _ _ h => h) (by kernel_rfl) hS (fun V hV => by have q7 := cell_below x7 hV; go_simp) ?_
      refine rgnf 40 67 (.pointer (some ⟨w.heap.size, 8, none⟩)) rfl rfl (by kernel_rfl) (fun _ _ _ h => h) (by kernel_rfl) hS (fun V hV => by go_simp) ?_
      refine rgnf 41 68 (.agg #[.int .i64 t.k, .int .i64 t.n, .string t.nm, .slice A t.ar.length cap]) rfl rfl (by kernel_rfl) (fun _ _ _ h => h) (by kernel_rfl) hS (fun V hV => by have q8 := cell_below x8 hV; have q9 := cell_below x9 hV; have q10 := cell_below x10 hV; have q11 := cell_below x11 hV; go_simp) ?_
      refine rgnf 42 69 (.pointer (some ⟨w.heap.size, 12, none⟩)) rfl rfl (by kernel_rfl) (fun _ _ _ h => h) (by kernel_rfl) hS (fun V hV => by go_simp) ?_
      refine rgnf 43 70 (.agg #[.string ty.nm, .slice Ay ty.ar.length cy]) rfl rfl (by kernel_rfl) (fun _ _ _ h => h) (by kernel_rfl) hS (fun V hV => by have q12 := cell_below x12 hV; have q13 := cell_below x13 hV; go_simp) ?_
      refine rgnf 45 72 (.pointer (some ⟨w.heap.size, 0, none⟩)) rfl rfl (by kernel_rfl) (fun _ _ _ h => h) (by kernel_rfl) hS (fun V hV => by go_simp) ?_
      refine rgnf 46 73 (.agg #[.slice At p.types.length kt, .slice Ac p.consts.length kc, .slice Z2 n2 z2, .slice Z3 n3 z3, .slice Z4 n4 z4]) rfl rfl (by kernel_rfl) (fun _ _ _ h => h) (by kernel_rfl) hS (fun V hV => by have q0 := cell_below x0 hV; have q1 := cell_below x1 hV; have q2 := cell_below x2 hV; have q3 := cell_below x3 hV; have q4 := cell_below x4 hV; go_simp) ?_
      refine rgnf 47 74 (.agg #[.slice none 0 0, .slice A1 s.pars.length k1, .slice A2 s.bound.length k2]) rfl rfl (by kernel_rfl) (fun _ _ _ h => h) (by kernel_rfl) hS (fun V hV => by have q5 := cell_below yy0 hV; have q6 := cell_below yy1 hV; have q7 := cell_below yy2 hV; go_simp) ?_
      refine rgnf 48 75 (.pointer (some ⟨w.heap.size, 8, none⟩)) rfl rfl (by kernel_rfl) (fun _ _ _ h => h) (by kernel_rfl) hS (fun V hV => by go_simp) ?_
      refine rgnf 49 76 (.agg #[.int .i64 t.k, .int .i64 t.n, .string t.nm, .slice A t.ar.length cap]) rfl rfl (by kernel_rfl) (fun _ _ _ h => h) (by kernel_rfl) hS (fun V hV => by have q8 := cell_below x8 hV; have q9 := cell_below x9 hV; have q10 := cell_below x10 hV; have q11 := cell_below x11 hV; go_simp) ?_
      refine rgnf 50 77 (.pointer (some ⟨w.heap.size, 12, none⟩)) rfl rfl (by kernel_rfl) (fun _ _ _ h => h) (by kernel_rfl) hS (fun V hV => by go_simp) ?_
      refine rgnf 51 78 (.agg #[.string ty.nm, .slice Ay ty.ar.length cy]) rfl rfl (by kernel_rfl) (fun _ _ _ h => h) (by kernel_rfl) hS (fun V hV => by have q12 := cell_below x12 hV; have q13 := cell_below x13 hV; go_simp) ?_
      simp only [Act.put, List.setIfInBounds_toArray, List.set_cons_zero, List.set_cons_succ]
      exact norm_ (by kernel_rfl) (sta_4_7_19_28 () _ ⟨hS, trivial⟩)
    refine join_ (σ := Unit) 29 #[true, true, true, true, true, true, true, true, true, true, true, true, true, true, true, true, true, true, true, false, true, true, true, true, true, true, true, true, false, false, false, false, false, false, false, false, false, false, false, false, false, false, false, false, false, false, false, false, false, false, false, false, false, false, false, false] (fun zz => [(27, .bool true), (28, .bool true), (29, .pointer (some ⟨w.heap.size, 8, none⟩)), (30, .agg #[.int .i64 t.k, .int .i64 t.n, .string t.nm, .slice A t.ar.length cap]), (31, .int .i64 (rawP t)), (32, .pointer (some ⟨w.heap.size, 8, none⟩)), (33, .agg #[.int .i64 t.k, .int .i64 t.n, .string t.nm, .slice A t.ar.length cap]), (34, .int .i64 (rawP t)), (35, .bool true), (36, .bool true), (37, .bool true), (38, .pointer (some ⟨w.heap.size, 0, none⟩)), (39, .agg #[.slice At p.types.length kt, .slice Ac p.consts.length kc, .slice Z2 n2 z2, .slice Z3 n3 z3, .slice Z4 n4 z4]), (40, .pointer (some ⟨w.heap.size, 5, none⟩)), (41, .agg #[.slice A0 s.vars.length k0, .slice A1 s.pars.length k1, .slice A2 s.bound.length k2]), (42, .pointer (some ⟨w.heap.size, 8, none⟩)), (43, .agg #[.int .i64 t.k, .int .i64 t.n, .string t.nm, .slice A t.ar.length cap]), (44, .pointer (some ⟨w.heap.size, 12, none⟩)), (45, .agg #[.string ty.nm, .slice Ay ty.ar.length cy]), (47, .pointer (some ⟨w.heap.size, 0, none⟩)), (48, .agg #[.slice At p.types.length kt, .slice Ac p.consts.length kc, .slice Z2 n2 z2, .slice Z3 n3 z3, .slice Z4 n4 z4]), (49, .pointer (some ⟨w.heap.size, 5, none⟩)), (50, .agg #[.slice A0 s.vars.length k0, .slice A1 s.pars.length k1, .slice A2 s.bound.length k2]), (51, .pointer (some ⟨w.heap.size, 8, none⟩)), (52, .agg #[.int .i64 t.k, .int .i64 t.n, .string t.nm, .slice A t.ar.length cap]), (53, .pointer (some ⟨w.heap.size, 12, none⟩)), (54, .agg #[.string ty.nm, .slice Ay ty.ar.length cy])]) (fun zz W => Below W5.heap.size W5 W ∧ True) ?_ (fun sta_4_7 => ?_)
    · rintro ⟨⟩ W ⟨hS, -⟩
      refine norm_ (a' := ?_) ?_ ?_
      rotate_left
      · simp only [putAll, Act.put, List.setIfInBounds_toArray, List.set_cons_zero, List.set_cons_succ]
        rfl
      refine rg1 19 rfl (by kernel_rfl) (by decide) (by kernel_rfl) (fun K hK => ?_)
      have hS0 := hS
      go_simp
      refine (Typed_calls p s t ty _ _ _ _ _ _ (H5.below hS) rp0.out rs0.out rt0.out ry0.out (by have := hsum.out; omega)).mono ?_
      rintro e W7 ⟨rfl, k7⟩
      simp only []
      have kx := k7
      refine hK.out _ _ (below_then hS kx hS.size) (fun hS => ?_)
      exact norm_ (by kernel_rfl) (sta_4_7_19 () _ ⟨hS, trivial⟩)
    refine join_ (σ := Unit) 49 #[true, true, true, true, true, true, true, false, false, false, false, false, false, false, false, false, false, false, false, false, false, false, false, false, false, false, false, false, false, false, false, false, false, false, false, false, false, false, false, false, false, false, false, false, false, false, false, false, false, false, false, false, false, false, false, false] (fun zz => [(27, .bool true), (28, .bool true), (29, .pointer (some ⟨w.heap.size, 8, none⟩)), (30, .agg #[.int .i64 t.k, .int .i64 t.n, .string t.nm, .slice A t.ar.length cap]), (31, .int .i64 (rawP t)), (32, .pointer (some ⟨w.heap.size, 8, none⟩)), (33, .agg #[.int .i64 t.k, .int .i64 t.n, .string t.nm, .slice A t.ar.length cap])]) (fun zz W => Below W5.heap.size W5 W ∧ True) ?_ (fun sta_4 => ?_)
    · rintro ⟨⟩ W ⟨hS, -⟩
      refine norm_ (a' := ?_) ?_ ?_
      rotate_left
      · simp only [putAll, Act.put, List.setIfInBounds_toArray, List.set_cons_zero, List.set_cons_succ]
        rfl
      refine rg1 7 rfl (by kernel_rfl) (by decide) (by kernel_rfl) (fun K hK => ?_)
      have hS0 := hS
      go_simp
      refine (RRaw_calls t _ _ _ (H5.below hS) rt0.out).mono ?_
      rintro e W7 ⟨rfl, k7⟩
      simp only []
      have kx := k7
      refine hK.out _ _ (below_then hS kx hS.size) (fun hS => ?_)
      refine rgnf 8 35 (.bool true) rfl rfl (by kernel_rfl) (fun _ _ _ h => h) (by kernel_rfl) hS (fun V hV => by go_simp) ?_
      refine rgnf 9 36 (.bool true) rfl rfl (by kernel_rfl) (fun _ _ _ h => h) (by kernel_rfl) hS (fun V hV => by go_simp) ?_
      refine rgnf 10 37 (.bool true) rfl rfl (by kernel_rfl) (fun _ _ _ h => h) (by kernel_rfl) hS (fun V hV => by go_simp) ?_
      refine rgnf 11 38 (.pointer (some ⟨w.heap.size, 0, none⟩)) rfl rfl (by kernel_rfl) (fun _ _ _ h => h) (by kernel_rfl) hS (fun V hV => by go_simp) ?_
      refine rgnf 12 39 (.agg #[.slice At p.types.length kt, .slice Ac p.consts.length kc, .slice Z2 n2 z2, .slice Z3 n3 z3, .slice Z4 n4 z4]) rfl rfl (by kernel_rfl) (fun _ _ _ h => h) (by kernel_rfl) hS (fun V hV => by have q0 := cell_below x0 hV; have q1 := cell_below x1 hV; have q2 := cell_below x2 hV; have q3 := cell_below x3 hV; have q4 := cell_below x4 hV; go_simp) ?_
      refine rgnf 13 40 (.pointer (some ⟨w.heap.size, 5, none⟩)) rfl rfl (by kernel_rfl) (fun _ _ _ h => h) (by kernel_rfl) hS (fun V hV => by go_simp) ?_
      refine rgnf 14 41 (.agg #[.slice A0 s.vars.length k0, .slice A1 s.pars.length k1, .slice A2 s.bound.length k2]) rfl rfl (by kernel_rfl) (fun _ _ _ h => h) (by kernel_rfl) hS (fun V hV => by have q5 := cell_below x5 hV; have q6 := cell_below x6 hV; have q7 := cell_below x7 hV; go_simp) ?_
      refine rgnf 15 42 (.pointer (some ⟨w.heap.size, 8, none⟩)) rfl rfl (by kernel_rfl) (fun _ _ _ h => h) (by kernel_rfl) hS (fun V hV => by go_simp) ?_
      refine rgnf 16 43 (.agg #[.int .i64 t.k, .int .i64 t.n, .string t.nm, .slice A t.ar.length cap]) rfl rfl (by kernel_rfl) (fun _ _ _ h => h) (by kernel_rfl) hS (fun V hV => by have q8 := cell_below x8 hV; have q9 := cell_below x9 hV; have q10 := cell_below x10 hV; have q11 := cell_below x11 hV; go_simp) ?_
      refine rgnf 17 44 (.pointer (some ⟨w.heap.size, 12, none⟩)) rfl rfl (by kernel_rfl) (fun _ _ _ h => h) (by kernel_rfl) hS (fun V hV => by go_simp) ?_
      refine rgnf 18 45 (.agg #[.string ty.nm, .slice Ay ty.ar.length cy]) rfl rfl (by kernel_rfl) (fun _ _ _ h => h) (by kernel_rfl) hS (fun V hV => by have q12 := cell_below x12 hV; have q13 := cell_below x13 hV; go_simp) ?_
      refine rgnf 20 47 (.pointer (some ⟨w.heap.size, 0, none⟩)) rfl rfl (by kernel_rfl) (fun _ _ _ h => h) (by kernel_rfl) hS (fun V hV => by go_simp) ?_
      refine rgnf 21 48 (.agg #[.slice At p.types.length kt, .slice Ac p.consts.length kc, .slice Z2 n2 z2, .slice Z3 n3 z3, .slice Z4 n4 z4]) rfl rfl (by kernel_rfl) (fun _ _ _ h => h) (by kernel_rfl) hS (fun V hV => by have q0 := cell_below x0 hV; have q1 := cell_below x1 hV; have q2 := cell_below x2 hV; have q3 := cell_below x3 hV; have q4 := cell_below x4 hV; go_simp) ?_
      refine rgnf 22 49 (.pointer (some ⟨w.heap.size, 5, none⟩)) rfl rfl (by kernel_rfl) (fun _ _ _ h => h) (by kernel_rfl) hS (fun V hV => by go_simp) ?_
      refine rgnf 23 50 (.agg #[.slice A0 s.vars.length k0, .slice A1 s.pars.length k1, .slice A2 s.bound.length k2]) rfl rfl (by kernel_rfl) (fun _ _ _ h => h) (by kernel_rfl) hS (fun V hV => by have q5 := cell_below x5 hV; have q6 := cell_below x6 hV; have q7 := cell_below x7 hV; go_simp) ?_
      refine rgnf 24 51 (.pointer (some ⟨w.heap.size, 8, none⟩)) rfl rfl (by kernel_rfl) (fun _ _ _ h => h) (by kernel_rfl) hS (fun V hV => by go_simp) ?_
      refine rgnf 25 52 (.agg #[.int .i64 t.k, .int .i64 t.n, .string t.nm, .slice A t.ar.length cap]) rfl rfl (by kernel_rfl) (fun _ _ _ h => h) (by kernel_rfl) hS (fun V hV => by have q8 := cell_below x8 hV; have q9 := cell_below x9 hV; have q10 := cell_below x10 hV; have q11 := cell_below x11 hV; go_simp) ?_
      refine rgnf 26 53 (.pointer (some ⟨w.heap.size, 12, none⟩)) rfl rfl (by kernel_rfl) (fun _ _ _ h => h) (by kernel_rfl) hS (fun V hV => by go_simp) ?_
      refine rgnf 27 54 (.agg #[.string ty.nm, .slice Ay ty.ar.length cy]) rfl rfl (by kernel_rfl) (fun _ _ _ h => h) (by kernel_rfl) hS (fun V hV => by have q12 := cell_below x12 hV; have q13 := cell_below x13 hV; go_simp) ?_
      simp only [Act.put, List.setIfInBounds_toArray, List.set_cons_zero, List.set_cons_succ]
      exact norm_ (by kernel_rfl) (sta_4_7 () _ ⟨hS, trivial⟩)
    refine rg1 4 rfl (by kernel_rfl) (by decide) (by kernel_rfl) (fun K hK => ?_)
    have hS0 := hS
    go_simp
    refine (Raw_calls t _ _ _ (H5.below hS) rt0.out).mono ?_
    rintro e W7 ⟨rfl, k7⟩
    simp only []
    have kx := k7
    refine hK.out _ _ (below_then hS kx hS.size) (fun hS => ?_)
    exact norm_ (by kernel_rfl) (sta_4 () _ ⟨hS, trivial⟩)
  rintro ⟨⟩ W6 ⟨hS, -⟩
  refine norm_ (a' := ?_) ?_ ?_
  rotate_left
  · simp only [putAll, Act.put, List.setIfInBounds_toArray, List.set_cons_zero, List.set_cons_succ]
    rfl
  refine rgd (by kernel_rfl) ?_
  have kE := below_then kb hS kb.size
  go_wp2_with fail
  go_ret
  exact ⟨rfl, kE⟩
end Go.Proofs.YtpgbeapojjinmaaGreatDoor
