/- The statement TermOne: its walk. -/
import Derived.Test.YtpgbeapojjinmaaGreatDoorSN
import Derived.Test.YtpgbeapojjinmaaGreatDoorAP
import Derived.Test.YtpgbeapojjinmaaGreatDoorWQ
set_option linter.unusedVariables false
set_option linter.unusedSimpArgs false
namespace Go.Proofs.YtpgbeapojjinmaaGreatDoor
open Go.RowKit Go.Shelf Go.Proofs.YtpgbeapojjinmaaGreatDoorW.PrintLast
/-! ### The plain law -/
theorem typedP_zero {p : Pg} {s : Sc} {t : Tm} {ty : Ty} : typedP p s t ty = 0 ↔ rawP t = 0 ∧ chkLL p.types [s.vars, s.pars, s.bound, [ty]] = 0 ∧ canP p s.vars s.pars t.sz s.bound t ty = true := by
  unfold typedP
  by_cases h1 : rawP t = 0
  · by_cases h2 : chkLL p.types [s.vars, s.pars, s.bound, [ty]] = 0
    · cases h3 : canP p s.vars s.pars t.sz s.bound t ty <;> simp [h1, h2]
    · simp [h1, h2]
  · simp [h1]
theorem raw_shape {t : Tm} (h : rawP t = 0) : shp t = true ∧ small 100000 t = true := by
  have := ((rawP_zero t).1 h).2
  rw [raw_shp, Bool.and_eq_true] at this
  exact this
theorem typedP_ok {p : Pg} {s : Sc} {t : Tm} {ty : Ty} (h : typedP p s t ty = 0) : rawP t = 0 ∧ (chkL p.types s.vars = 0 ∧ chkL p.types s.pars = 0 ∧ chkL p.types s.bound = 0 ∧ checkP p.types ty = 0) ∧ okT p s.vars s.pars s.bound.reverse t ty = true := by
  obtain ⟨h1, h2, h3⟩ := typedP_zero.1 h
  rw [can_ok p s.vars s.pars t.sz t s.bound ty (Nat.le_refl _) (raw_shape h1).1] at h3
  refine ⟨h1, ?_, h3⟩
  simp only [chkLL, chkL] at h2
  by_cases q1 : chkL p.types s.vars = 0
  · by_cases q2 : chkL p.types s.pars = 0
    · by_cases q3 : chkL p.types s.bound = 0
      · by_cases q4 : checkP p.types ty = 0
        · exact ⟨q1, q2, q3, q4⟩
        · simp [q1, q2, q3, q4] at h2
      · simp [q1, q2, q3] at h2
    · simp [q1, q2] at h2
  · simp [q1] at h2
theorem typedP_mk {p : Pg} {s : Sc} {t : Tm} {ty : Ty} (h1 : rawP t = 0) (q1 : chkL p.types s.vars = 0) (q2 : chkL p.types s.pars = 0) (q3 : chkL p.types s.bound = 0) (q4 : checkP p.types ty = 0) (h : okT p s.vars s.pars s.bound.reverse t ty = true) : typedP p s t ty = 0 := by
  refine typedP_zero.2 ⟨h1, by simp [chkLL, chkL, q1, q2, q3, q4], ?_⟩
  rw [can_ok p s.vars s.pars t.sz t s.bound ty (Nat.le_refl _) (raw_shape h1).1]
  exact h
theorem one_type {p : Pg} {s : Sc} {t : Tm} {a b : Ty} (hk : t.k ≠ 5) (ha : typedP p s t a = 0) (hb : typedP p s t b = 0) : sameP a b = true := by
  obtain ⟨_, ⟨_, _, _, ca⟩, oa⟩ := typedP_ok ha
  obtain ⟨_, ⟨_, _, _, cb⟩, ob⟩ := typedP_ok hb
  obtain ⟨l1, l2, hn⟩ := ok_leaf hk oa ob
  have fa := check_form ca
  have fb := check_form cb
  unfold sameP
  rw [formP_eq, formP_eq, fa, fb]
  have ea : a = .mk a.nm [] := by
    rcases formTy_leaf fa with ⟨_, x, y, h, _⟩ | ⟨h, _⟩
    · rw [h] at l1; exact absurd rfl l1
    · obtain ⟨nm, l⟩ := a
      have := ((formTy_zero _).1 fa).2
      unfold formedT at this
      simp only [Ty.nm] at h
      rw [h] at this
      simp at this
      rw [this]; rfl
  have eb : b = .mk b.nm [] := by
    rcases formTy_leaf fb with ⟨_, x, y, h, _⟩ | ⟨h, _⟩
    · rw [h] at l2; exact absurd rfl l2
    · obtain ⟨nm, l⟩ := b
      have := ((formTy_zero _).1 fb).2
      unfold formedT at this
      simp only [Ty.nm] at h
      rw [h] at this
      simp at this
      rw [this]; rfl
  rw [ea, eb]
  simp [sameT, sameTL, hn]
theorem one_more {p : Pg} {s : Sc} {t : Tm} {ty : Ty} {m : List Ty} (h : typedP p s t ty = 0) (hm : chkL p.types m = 0) : typedP p ⟨s.vars ++ m, s.pars ++ m, m ++ s.bound⟩ t ty = 0 := by
  obtain ⟨h1, ⟨q1, q2, q3, q4⟩, h3⟩ := typedP_ok h
  refine typedP_mk h1 ?_ ?_ ?_ q4 ?_
  · show chkL p.types (s.vars ++ m) = 0
    rw [chkL_append, if_pos q1, hm]
  · show chkL p.types (s.pars ++ m) = 0
    rw [chkL_append, if_pos q2, hm]
  · show chkL p.types (m ++ s.bound) = 0
    rw [chkL_append, if_pos hm, q3]
  · show okT p (s.vars ++ m) (s.pars ++ m) (m ++ s.bound).reverse t ty = true
    rw [List.reverse_append]
    exact ok_app t _ ty h3
theorem set3f {w : World} {b : Nat} {x0 x1 x2 : Value} {T : TypeId} (hb : w.heap[b]? = some (.cells #[x0, x1, x2] T)) (y0 y1 y2 : Value) :
    (((w.setCell ⟨b, 0, none⟩ y0).setCell ⟨b, 1, none⟩ y1).setCell ⟨b, 2, none⟩ y2).heap[b]? = some (.cells #[y0, y1, y2] T) ∧ Kp (fun q => q = b) w (((w.setCell ⟨b, 0, none⟩ y0).setCell ⟨b, 1, none⟩ y1).setCell ⟨b, 2, none⟩ y2) :=
  ⟨by have := blk_set (blk_set (blk_set hb 0 y0) 1 y1) 2 y2; simpa using this, (((Kp.refl (fun q => q = b) w).set (p := ⟨b, 0, none⟩) (.inl rfl) y0).set (p := ⟨b, 1, none⟩) (.inl rfl) y1).set (p := ⟨b, 2, none⟩) (.inl rfl) y2⟩
set_option maxRecDepth 100000 in
set_option maxHeartbeats 4000000 in
theorem wide_calls (s : Sc) (ss : List Value) (w : World) (h : Snap) (H : Has w h) (rs : ScR h s ss) :
    Calls Tryz.prog 49 #[.agg ss.toArray] w fun e w' => e = .returned (.bool (decide (60 < s.vars.length + s.pars.length + s.bound.length))) ∧ Below w.heap.size w w' := by
  obtain ⟨s0, s1, s2, rfl, q0, q1, q2⟩ := rs
  obtain ⟨A0, k0, rfl, _, m0, _⟩ := q0
  obtain ⟨A1, k1, rfl, _, m1, _⟩ := q1
  obtain ⟨A2, k2, rfl, _, m2, _⟩ := q2
  have hu31 := Tryz.underlying31
  unfold lim at m0 m1 m2
  obtain ⟨a1, ab⟩ := alloc1 w (.cells #[.slice A0 s.vars.length k0, .slice A1 s.pars.length k1, .slice A2 s.bound.length k2] 31)
  obtain ⟨x0, x1, x2⟩ := bx3f a1
  by_cases c : 60 < s.vars.length + s.pars.length + s.bound.length
  · have c' : (60 : Int) < (s.vars.length : Int) + s.pars.length + s.bound.length := by omega
    rw [decide_eq_true c]
    clear c
    go_enter Tryz.func49, Tryz.ntmps49
    go_wp2_with fail
    go_ret
    exact ⟨rfl, ab⟩
  · have c' : ¬ (60 : Int) < (s.vars.length : Int) + s.pars.length + s.bound.length := by omega
    rw [decide_eq_false c]
    clear c
    go_enter Tryz.func49, Tryz.ntmps49
    go_wp2_with fail
    go_ret
    exact ⟨rfl, ab⟩
set_option maxRecDepth 100000 in
set_option maxHeartbeats 16000000 in
theorem TermOne_calls (p : Pg) (s : Sc) (t : Tm) (ty : Ty) (m : List Ty) (u : Ty) (ps ss ct cy : List Value) (mv : Value) (cu : List Value) (w : World) (h : Snap) (H : Has w h) (rp : PgR h p ps) (rs : ScR h s ss) (rt : TmR h t ct) (ry : TyR h ty cy) (rm : TyS h m mv) (ru : TyR h u cu) :
    Calls Tryz.prog 8 #[.agg (ps ++ ss ++ ct ++ cy).toArray, mv, .agg cu.toArray] w fun e w' => e = .returned (.bool true) ∧ Below w.heap.size w w' := by
  have rp0 := Lib.hid rp
  have rs0 := Lib.hid rs
  have rt0s := Lib.hid rt
  have ry0 := Lib.hid ry
  have ru0 := Lib.hid ru
  have rm0 := Lib.hid rm
  obtain ⟨A, cap, rfl, hl, hlm, hk1, hn1, hr⟩ := rt.open_
  obtain ⟨Ay, cy, rfl, hyl, hym, hry⟩ := ry.open_
  obtain ⟨Au, cu, rfl, hul, hum, hru⟩ := ru.open_
  obtain ⟨Am, cm, rfl, hml, hmm, hrm⟩ := id rm
  obtain ⟨v0, v1, Z2, n2, z2, Z3, n3, z3, Z4, n4, z4, rfl, rpt, rc⟩ := rp
  obtain ⟨At, kt, rfl, _⟩ := id rpt
  obtain ⟨Ac, kc, rfl, _⟩ := id rc
  obtain ⟨s0, s1, s2, rfl, q0, q1, q2⟩ := rs
  obtain ⟨A0, k0, rfl, _⟩ := id q0
  obtain ⟨A1, k1, rfl, _⟩ := id q1
  obtain ⟨A2, k2, rfl, _⟩ := id q2
  have q0s := Lib.hid q0
  have q1s := Lib.hid q1
  have q2s := Lib.hid q2
  have hu28 := Tryz.underlying28
  have hu31 := Tryz.underlying31
  have hu34 := Tryz.underlying34
  have hu36 := Tryz.underlying36
  have hu38 := Tryz.underlying38
  have hu29 := Tryz.underlying29
  unfold lim at hmm
  have hrm' := Lib.hid hrm
  clear rpt rc q0 q1 q2 rt ry ru rm hl hlm hk1 hn1 hr hyl hym hry hul hum hru hml hrm
  simp only [List.cons_append, List.nil_append]
  obtain ⟨b1, b2, ab⟩ := alloc2 w (.cells #[.slice At p.types.length kt, .slice Ac p.consts.length kc, .slice Z2 n2 z2, .slice Z3 n3 z3, .slice Z4 n4 z4, .slice A0 s.vars.length k0, .slice A1 s.pars.length k1, .slice A2 s.bound.length k2, .int .i64 t.k, .int .i64 t.n, .string t.nm, .slice A t.ar.length cap, .string ty.nm, .slice Ay ty.ar.length cy] 38) (.cells #[.string u.nm, .slice Au u.ar.length cu] 36)
  have hone := Lib.hid (@one_type p s t ty u)
  have hmore := Lib.hid (@one_more p s t ty m)
  go_enter Tryz.func8, Tryz.ntmps8
  go_wp2_with fail
  refine (sane_calls _ h (H.below ab)).mono ?_
  rintro e w0 ⟨rfl, kk⟩
  have kb := ab
  clear ab
  replace b1 := box_below b1 kk
  replace b2 := box_below b2 kk
  replace kb := below_then kb kk kb.size
  clear kk
  have x0 : w0.cell? ⟨w.heap.size, 0, none⟩ = some (.slice At p.types.length kt) := blk_cell b1 0
  have x1 : w0.cell? ⟨w.heap.size, 1, none⟩ = some (.slice Ac p.consts.length kc) := blk_cell b1 1
  have x2 : w0.cell? ⟨w.heap.size, 2, none⟩ = some (.slice Z2 n2 z2) := blk_cell b1 2
  have x3 : w0.cell? ⟨w.heap.size, 3, none⟩ = some (.slice Z3 n3 z3) := blk_cell b1 3
  have x4 : w0.cell? ⟨w.heap.size, 4, none⟩ = some (.slice Z4 n4 z4) := blk_cell b1 4
  have x5 : w0.cell? ⟨w.heap.size, 5, none⟩ = some (.slice A0 s.vars.length k0) := blk_cell b1 5
  have x6 : w0.cell? ⟨w.heap.size, 6, none⟩ = some (.slice A1 s.pars.length k1) := blk_cell b1 6
  have x7 : w0.cell? ⟨w.heap.size, 7, none⟩ = some (.slice A2 s.bound.length k2) := blk_cell b1 7
  have x8 : w0.cell? ⟨w.heap.size, 8, none⟩ = some (.int .i64 t.k) := blk_cell b1 8
  have x9 : w0.cell? ⟨w.heap.size, 9, none⟩ = some (.int .i64 t.n) := blk_cell b1 9
  have x10 : w0.cell? ⟨w.heap.size, 10, none⟩ = some (.string t.nm) := blk_cell b1 10
  have x11 : w0.cell? ⟨w.heap.size, 11, none⟩ = some (.slice A t.ar.length cap) := blk_cell b1 11
  have x12 : w0.cell? ⟨w.heap.size, 12, none⟩ = some (.string ty.nm) := blk_cell b1 12
  have x13 : w0.cell? ⟨w.heap.size, 13, none⟩ = some (.slice Ay ty.ar.length cy) := blk_cell b1 13
  have y0 : w0.cell? ⟨w.heap.size + 1, 0, none⟩ = some (.string u.nm) := blk_cell b2 0
  have y1 : w0.cell? ⟨w.heap.size + 1, 1, none⟩ = some (.slice Au u.ar.length cu) := blk_cell b2 1
  have HW := H.below kb
  go_wp2_with fail
  refine (wide_calls s _ _ h HW rs0.out).mono ?_
  rintro e w1 ⟨rfl, kk⟩
  clear x0 x1 x2 x3 x4 x5 x6 x7 x8 x9 x10 x11 x12 x13 y0 y1
  replace b1 := box_below b1 kk
  replace b2 := box_below b2 kk
  replace kb := below_then kb kk kb.size
  clear kk
  have x0 : w1.cell? ⟨w.heap.size, 0, none⟩ = some (.slice At p.types.length kt) := blk_cell b1 0
  have x1 : w1.cell? ⟨w.heap.size, 1, none⟩ = some (.slice Ac p.consts.length kc) := blk_cell b1 1
  have x2 : w1.cell? ⟨w.heap.size, 2, none⟩ = some (.slice Z2 n2 z2) := blk_cell b1 2
  have x3 : w1.cell? ⟨w.heap.size, 3, none⟩ = some (.slice Z3 n3 z3) := blk_cell b1 3
  have x4 : w1.cell? ⟨w.heap.size, 4, none⟩ = some (.slice Z4 n4 z4) := blk_cell b1 4
  have x5 : w1.cell? ⟨w.heap.size, 5, none⟩ = some (.slice A0 s.vars.length k0) := blk_cell b1 5
  have x6 : w1.cell? ⟨w.heap.size, 6, none⟩ = some (.slice A1 s.pars.length k1) := blk_cell b1 6
  have x7 : w1.cell? ⟨w.heap.size, 7, none⟩ = some (.slice A2 s.bound.length k2) := blk_cell b1 7
  have x8 : w1.cell? ⟨w.heap.size, 8, none⟩ = some (.int .i64 t.k) := blk_cell b1 8
  have x9 : w1.cell? ⟨w.heap.size, 9, none⟩ = some (.int .i64 t.n) := blk_cell b1 9
  have x10 : w1.cell? ⟨w.heap.size, 10, none⟩ = some (.string t.nm) := blk_cell b1 10
  have x11 : w1.cell? ⟨w.heap.size, 11, none⟩ = some (.slice A t.ar.length cap) := blk_cell b1 11
  have x12 : w1.cell? ⟨w.heap.size, 12, none⟩ = some (.string ty.nm) := blk_cell b1 12
  have x13 : w1.cell? ⟨w.heap.size, 13, none⟩ = some (.slice Ay ty.ar.length cy) := blk_cell b1 13
  have y0 : w1.cell? ⟨w.heap.size + 1, 0, none⟩ = some (.string u.nm) := blk_cell b2 0
  have y1 : w1.cell? ⟨w.heap.size + 1, 1, none⟩ = some (.slice Au u.ar.length cu) := blk_cell b2 1
  replace HW := H.below kb
  by_cases c1 : 60 < s.vars.length + s.pars.length + s.bound.length
  · rw [decide_eq_true c1]
    clear c1
    go_wp2_with fail
    go_ret
    exact ⟨rfl, kb⟩
  rw [decide_eq_false c1]
  have hsum := Lib.hid c1
  clear c1
  by_cases c2 : (20 : Int) < (m.length : Int)
  · go_wp2_with fail
    go_ret
    exact ⟨rfl, kb⟩
  go_wp2_with fail
  refine (Few_calls p s _ _ _ h HW rp0.out rs0.out).mono ?_
  rintro e w2 ⟨bf, rfl, -, kk⟩
  clear x0 x1 x2 x3 x4 x5 x6 x7 x8 x9 x10 x11 x12 x13 y0 y1
  replace b1 := box_below b1 kk
  replace b2 := box_below b2 kk
  replace kb := below_then kb kk kb.size
  clear kk
  have x0 : w2.cell? ⟨w.heap.size, 0, none⟩ = some (.slice At p.types.length kt) := blk_cell b1 0
  have x1 : w2.cell? ⟨w.heap.size, 1, none⟩ = some (.slice Ac p.consts.length kc) := blk_cell b1 1
  have x2 : w2.cell? ⟨w.heap.size, 2, none⟩ = some (.slice Z2 n2 z2) := blk_cell b1 2
  have x3 : w2.cell? ⟨w.heap.size, 3, none⟩ = some (.slice Z3 n3 z3) := blk_cell b1 3
  have x4 : w2.cell? ⟨w.heap.size, 4, none⟩ = some (.slice Z4 n4 z4) := blk_cell b1 4
  have x5 : w2.cell? ⟨w.heap.size, 5, none⟩ = some (.slice A0 s.vars.length k0) := blk_cell b1 5
  have x6 : w2.cell? ⟨w.heap.size, 6, none⟩ = some (.slice A1 s.pars.length k1) := blk_cell b1 6
  have x7 : w2.cell? ⟨w.heap.size, 7, none⟩ = some (.slice A2 s.bound.length k2) := blk_cell b1 7
  have x8 : w2.cell? ⟨w.heap.size, 8, none⟩ = some (.int .i64 t.k) := blk_cell b1 8
  have x9 : w2.cell? ⟨w.heap.size, 9, none⟩ = some (.int .i64 t.n) := blk_cell b1 9
  have x10 : w2.cell? ⟨w.heap.size, 10, none⟩ = some (.string t.nm) := blk_cell b1 10
  have x11 : w2.cell? ⟨w.heap.size, 11, none⟩ = some (.slice A t.ar.length cap) := blk_cell b1 11
  have x12 : w2.cell? ⟨w.heap.size, 12, none⟩ = some (.string ty.nm) := blk_cell b1 12
  have x13 : w2.cell? ⟨w.heap.size, 13, none⟩ = some (.slice Ay ty.ar.length cy) := blk_cell b1 13
  have y0 : w2.cell? ⟨w.heap.size + 1, 0, none⟩ = some (.string u.nm) := blk_cell b2 0
  have y1 : w2.cell? ⟨w.heap.size + 1, 1, none⟩ = some (.slice Au u.ar.length cu) := blk_cell b2 1
  replace HW := H.below kb
  cases bf
  · go_wp2_with fail
    go_ret
    exact ⟨rfl, kb⟩
  go_wp2_with fail
  obtain ⟨c1, d1⟩ := alloc1 w2 (.cells #[.int .i64 t.k, .int .i64 t.n, .string t.nm, .slice A t.ar.length cap] 34)
  obtain ⟨h2, r2, m2, _⟩ := one_TmS2 (w0 := w2) (u := t) (HW.below d1) c1 rt0s.out (Nat.le_refl _)
  refine (Brief_calls [t] _ _ h2 m2.has r2).mono ?_
  rintro e w3 ⟨bg, rfl, kk⟩
  replace kk := below_then d1 kk d1.size
  clear c1 d1 r2 m2
  clear x0 x1 x2 x3 x4 x5 x6 x7 x8 x9 x10 x11 x12 x13 y0 y1
  replace b1 := box_below b1 kk
  replace b2 := box_below b2 kk
  replace kb := below_then kb kk kb.size
  clear kk
  have x0 : w3.cell? ⟨w.heap.size, 0, none⟩ = some (.slice At p.types.length kt) := blk_cell b1 0
  have x1 : w3.cell? ⟨w.heap.size, 1, none⟩ = some (.slice Ac p.consts.length kc) := blk_cell b1 1
  have x2 : w3.cell? ⟨w.heap.size, 2, none⟩ = some (.slice Z2 n2 z2) := blk_cell b1 2
  have x3 : w3.cell? ⟨w.heap.size, 3, none⟩ = some (.slice Z3 n3 z3) := blk_cell b1 3
  have x4 : w3.cell? ⟨w.heap.size, 4, none⟩ = some (.slice Z4 n4 z4) := blk_cell b1 4
  have x5 : w3.cell? ⟨w.heap.size, 5, none⟩ = some (.slice A0 s.vars.length k0) := blk_cell b1 5
  have x6 : w3.cell? ⟨w.heap.size, 6, none⟩ = some (.slice A1 s.pars.length k1) := blk_cell b1 6
  have x7 : w3.cell? ⟨w.heap.size, 7, none⟩ = some (.slice A2 s.bound.length k2) := blk_cell b1 7
  have x8 : w3.cell? ⟨w.heap.size, 8, none⟩ = some (.int .i64 t.k) := blk_cell b1 8
  have x9 : w3.cell? ⟨w.heap.size, 9, none⟩ = some (.int .i64 t.n) := blk_cell b1 9
  have x10 : w3.cell? ⟨w.heap.size, 10, none⟩ = some (.string t.nm) := blk_cell b1 10
  have x11 : w3.cell? ⟨w.heap.size, 11, none⟩ = some (.slice A t.ar.length cap) := blk_cell b1 11
  have x12 : w3.cell? ⟨w.heap.size, 12, none⟩ = some (.string ty.nm) := blk_cell b1 12
  have x13 : w3.cell? ⟨w.heap.size, 13, none⟩ = some (.slice Ay ty.ar.length cy) := blk_cell b1 13
  have y0 : w3.cell? ⟨w.heap.size + 1, 0, none⟩ = some (.string u.nm) := blk_cell b2 0
  have y1 : w3.cell? ⟨w.heap.size + 1, 1, none⟩ = some (.slice Au u.ar.length cu) := blk_cell b2 1
  replace HW := H.below kb
  cases bg
  · go_wp2_with fail
    go_ret
    exact ⟨rfl, kb⟩
  go_wp2_with fail
  refine (Typed_calls p s t ty _ _ _ _ _ h HW rp0.out rs0.out rt0s.out ry0.out (by have := hsum.out; omega)).mono ?_
  rintro e w4 ⟨rfl, kk⟩
  clear x0 x1 x2 x3 x4 x5 x6 x7 x8 x9 x10 x11 x12 x13 y0 y1
  replace b1 := box_below b1 kk
  replace b2 := box_below b2 kk
  replace kb := below_then kb kk kb.size
  clear kk
  have x0 : w4.cell? ⟨w.heap.size, 0, none⟩ = some (.slice At p.types.length kt) := blk_cell b1 0
  have x1 : w4.cell? ⟨w.heap.size, 1, none⟩ = some (.slice Ac p.consts.length kc) := blk_cell b1 1
  have x2 : w4.cell? ⟨w.heap.size, 2, none⟩ = some (.slice Z2 n2 z2) := blk_cell b1 2
  have x3 : w4.cell? ⟨w.heap.size, 3, none⟩ = some (.slice Z3 n3 z3) := blk_cell b1 3
  have x4 : w4.cell? ⟨w.heap.size, 4, none⟩ = some (.slice Z4 n4 z4) := blk_cell b1 4
  have x5 : w4.cell? ⟨w.heap.size, 5, none⟩ = some (.slice A0 s.vars.length k0) := blk_cell b1 5
  have x6 : w4.cell? ⟨w.heap.size, 6, none⟩ = some (.slice A1 s.pars.length k1) := blk_cell b1 6
  have x7 : w4.cell? ⟨w.heap.size, 7, none⟩ = some (.slice A2 s.bound.length k2) := blk_cell b1 7
  have x8 : w4.cell? ⟨w.heap.size, 8, none⟩ = some (.int .i64 t.k) := blk_cell b1 8
  have x9 : w4.cell? ⟨w.heap.size, 9, none⟩ = some (.int .i64 t.n) := blk_cell b1 9
  have x10 : w4.cell? ⟨w.heap.size, 10, none⟩ = some (.string t.nm) := blk_cell b1 10
  have x11 : w4.cell? ⟨w.heap.size, 11, none⟩ = some (.slice A t.ar.length cap) := blk_cell b1 11
  have x12 : w4.cell? ⟨w.heap.size, 12, none⟩ = some (.string ty.nm) := blk_cell b1 12
  have x13 : w4.cell? ⟨w.heap.size, 13, none⟩ = some (.slice Ay ty.ar.length cy) := blk_cell b1 13
  have y0 : w4.cell? ⟨w.heap.size + 1, 0, none⟩ = some (.string u.nm) := blk_cell b2 0
  have y1 : w4.cell? ⟨w.heap.size + 1, 1, none⟩ = some (.slice Au u.ar.length cu) := blk_cell b2 1
  replace HW := H.below kb
  obtain ⟨e1, he1⟩ : ∃ e1, typedP p s t ty = e1 := ⟨_, rfl⟩
  rw [he1]
  cases c3 : e1 != 0
  rotate_left
  · clear he1
    go_wp2_with fail
    go_ret
    exact ⟨rfl, kb⟩
  have hT := Lib.hid (show typedP p s t ty = 0 by rw [he1]; simpa using c3)
  obtain rfl : e1 = 0 := by simpa using c3
  clear he1 c3
  have hk5' := Lib.hid (show t.k ≠ 5 → typedP p s t u = 0 → sameP ty u = true from fun h1 h2 => hone.out h1 hT.out h2)
  clear hone
  by_cases k5 : t.k = 5
  · have k5' : (t.k != 5) = false := by simp [k5]
    clear k5
    go_wp2_with fail
    go_loopw [8] (fun i wr => ∃ k : Nat, k ≤ m.length ∧ i = .int .i64 k ∧ Below w4.heap.size w4 wr ∧ Hid (chkL p.types (m.drop k) = chkL p.types m)) (fun i _ => m.length - (intOf i).toNat)
    case atStart => exact ⟨0, by omega, rfl, Below.refl _ _, by show _ = _; simp⟩
    case round =>
      obtain ⟨k, hk, rfl, hbx, hJ⟩ := hrel
      replace b1 := box_below b1 hbx
      replace b2 := box_below b2 hbx
      replace kb := below_then kb hbx kb.size
      clear x0 x1 x2 x3 x4 x5 x6 x7 x8 x9 x10 x11 x12 x13 y0 y1
      have x0 : wr.cell? ⟨w.heap.size, 0, none⟩ = some (.slice At p.types.length kt) := blk_cell b1 0
      have x1 : wr.cell? ⟨w.heap.size, 1, none⟩ = some (.slice Ac p.consts.length kc) := blk_cell b1 1
      have x2 : wr.cell? ⟨w.heap.size, 2, none⟩ = some (.slice Z2 n2 z2) := blk_cell b1 2
      have x3 : wr.cell? ⟨w.heap.size, 3, none⟩ = some (.slice Z3 n3 z3) := blk_cell b1 3
      have x4 : wr.cell? ⟨w.heap.size, 4, none⟩ = some (.slice Z4 n4 z4) := blk_cell b1 4
      have x5 : wr.cell? ⟨w.heap.size, 5, none⟩ = some (.slice A0 s.vars.length k0) := blk_cell b1 5
      have x6 : wr.cell? ⟨w.heap.size, 6, none⟩ = some (.slice A1 s.pars.length k1) := blk_cell b1 6
      have x7 : wr.cell? ⟨w.heap.size, 7, none⟩ = some (.slice A2 s.bound.length k2) := blk_cell b1 7
      have x8 : wr.cell? ⟨w.heap.size, 8, none⟩ = some (.int .i64 t.k) := blk_cell b1 8
      have x9 : wr.cell? ⟨w.heap.size, 9, none⟩ = some (.int .i64 t.n) := blk_cell b1 9
      have x10 : wr.cell? ⟨w.heap.size, 10, none⟩ = some (.string t.nm) := blk_cell b1 10
      have x11 : wr.cell? ⟨w.heap.size, 11, none⟩ = some (.slice A t.ar.length cap) := blk_cell b1 11
      have x12 : wr.cell? ⟨w.heap.size, 12, none⟩ = some (.string ty.nm) := blk_cell b1 12
      have x13 : wr.cell? ⟨w.heap.size, 13, none⟩ = some (.slice Ay ty.ar.length cy) := blk_cell b1 13
      have y0 : wr.cell? ⟨w.heap.size + 1, 0, none⟩ = some (.string u.nm) := blk_cell b2 0
      have y1 : wr.cell? ⟨w.heap.size + 1, 1, none⟩ = some (.slice Au u.ar.length cu) := blk_cell b2 1
      replace HW := H.below kb
      by_cases hlk : k < m.length
      · obtain ⟨b', o', A', c', rfl, f0, f1, rx⟩ := hrm'.out.get k hlk
        have hc0 := HW.cell _ _ f0
        have hc1 := HW.cell _ _ f1
        have hJ2 : Hid ((if checkP p.types m[k] = 0 then chkL p.types (m.drop (k + 1)) else checkP p.types m[k]) = chkL p.types m) := Lib.hid (by have := hJ.out; rw [List.drop_eq_getElem_cons hlk, chkL] at this; exact this)
        clear hJ f0 f1
        have hir : (k : Int) < (m.length : Int) := by omega
        generalize m[k] = X at *
        go_wp2_with fail
        refine rgs 8 (fun V => Below wr.heap.size wr V) [] rfl ((Below.refl _ _).drew) (fun hS => ?_)
        refine rgt 0 (.pointer (some ⟨w.heap.size, 0, none⟩)) rfl (by kernel_rfl) (fun _ _ _ h => h) (by kernel_rfl) hS (fun V hV => by go_simp) ?_
        refine rgt 1 (.agg #[.slice At p.types.length kt, .slice Ac p.consts.length kc, .slice Z2 n2 z2, .slice Z3 n3 z3, .slice Z4 n4 z4]) rfl (by kernel_rfl) (fun _ _ _ h => h) (by kernel_rfl) hS (fun V hV => by have q0 := cell_below x0 hV; have q1 := cell_below x1 hV; have q2 := cell_below x2 hV; have q3 := cell_below x3 hV; have q4 := cell_below x4 hV; go_simp) ?_
        refine rgt 2 (.slice (some ⟨b', o', none⟩) m.length cm) rfl (by kernel_rfl) (fun _ _ _ h => h) (by kernel_rfl) hS (fun V hV => by go_simp) ?_
        refine rgt 3 (.int .i64 k) rfl (by kernel_rfl) (fun _ _ _ h => h) (by kernel_rfl) hS (fun V hV => by go_simp) ?_
        refine rgt 4 (.pointer (some ⟨b', o' + k * 2, none⟩)) rfl (by kernel_rfl) (fun _ _ _ h => h) (by kernel_rfl) hS (fun V hV => by go_simp) ?_
        refine rgt 5 (.agg #[.string X.nm, .slice A' X.ar.length c']) rfl (by kernel_rfl) (fun _ _ _ h => h) (by kernel_rfl) hS (fun V hV => by have q0 := cell_below hc0 hV; have q1 := cell_below hc1 hV; go_simp) ?_
        refine rg1 6 rfl (by kernel_rfl) (by decide) (by kernel_rfl) (fun K hK => ?_)
        have hS0 := hS
        go_simp
        refine (RCheckType_calls p X _ _ _ h HW.drew rp0.out rx).mono ?_
        rintro e w5 ⟨rfl, k5⟩
        rw [← checkP_eq]
        simp only []
        refine hK.out _ _ (below_then hS0 k5 hS0.size) (fun hS => ?_)
        have hb5 := below_then hbx hS hbx.size
        have kb5 := below_then kb hS kb.size
        by_cases qc : checkP p.types X = 0
        · have qc' : (checkP p.types X != 0) = false := by simp [qc]
          have hJ3 : Hid (chkL p.types (m.drop (k + 1)) = chkL p.types m) := Lib.hid (by have := hJ2.out; rw [if_pos qc] at this; exact this)
          refine rgt 7 (.bool false) rfl (by kernel_rfl) (fun _ _ _ h => h) (by kernel_rfl) hS (fun V hV => by go_simp) ?_
          refine rgd (by kernel_rfl) ?_
          clear qc hJ2
          go_wp2_with fail
          exact ⟨⟨k + 1, by omega, by simp, hb5, hJ3⟩, by simp [intOf]; omega⟩
        · have qc' : (checkP p.types X != 0) = true := by simp [qc]
          refine rgt 7 (.bool true) rfl (by kernel_rfl) (fun _ _ _ h => h) (by kernel_rfl) hS (fun V hV => by go_simp) ?_
          refine rgd (by kernel_rfl) ?_
          clear qc hJ2
          go_wp2_with fail
          go_ret
          exact ⟨rfl, kb5⟩
      · have hke : k = m.length := by omega
        have hm0 : Hid (chkL p.types m = 0) := Lib.hid (by
          have := hJ.out
          rw [hke, List.drop_length] at this
          exact this.symm)
        have hfin := Lib.hid (hmore.out hT.out hm0.out)
        clear hJ hke
        have c2' : m.length ≤ 20 := by omega
        obtain ⟨c20, hc20⟩ : ∃ c, c = m.length := ⟨_, rfl⟩
        clear hc20 c20
        go_wp2_with fail
        have hh0 := HW
        have hs60 := hsum.out
        refine rgs 24 (fun V => Below wr.heap.size wr V) [23] rfl ((Below.refl _ _).drew) (fun hS => ?_)
        refine rgnf 0 90 (.slice none 0 0) rfl rfl (by kernel_rfl) (fun _ _ _ h => h) (by kernel_rfl) hS (fun V hV => by go_simp) ?_
        refine rgnf 1 91 (.pointer (some ⟨w.heap.size, 5, none⟩)) rfl rfl (by kernel_rfl) (fun _ _ _ h => h) (by kernel_rfl) hS (fun V hV => by go_simp) ?_
        refine rgnf 2 92 (.pointer (some ⟨w.heap.size, 5, none⟩)) rfl rfl (by kernel_rfl) (fun _ _ _ h => h) (by kernel_rfl) hS (fun V hV => by go_simp) ?_
        refine rgnf 3 93 (.slice A0 s.vars.length k0) rfl rfl (by kernel_rfl) (fun _ _ _ h => h) (by kernel_rfl) hS (fun V hV => by have q0 := cell_below x5 hV; go_simp) ?_
        refine rgnf 5 95 (.slice Am m.length cm) rfl rfl (by kernel_rfl) (fun _ _ _ h => h) (by kernel_rfl) hS (fun V hV => by go_simp) ?_
        refine rgnf 7 97 (.slice none 0 0) rfl rfl (by kernel_rfl) (fun _ _ _ h => h) (by kernel_rfl) hS (fun V hV => by go_simp) ?_
        refine rgnf 8 98 (.pointer (some ⟨w.heap.size, 5, none⟩)) rfl rfl (by kernel_rfl) (fun _ _ _ h => h) (by kernel_rfl) hS (fun V hV => by go_simp) ?_
        refine rgnf 9 99 (.pointer (some ⟨w.heap.size, 6, none⟩)) rfl rfl (by kernel_rfl) (fun _ _ _ h => h) (by kernel_rfl) hS (fun V hV => by go_simp) ?_
        refine rgnf 10 100 (.slice A1 s.pars.length k1) rfl rfl (by kernel_rfl) (fun _ _ _ h => h) (by kernel_rfl) hS (fun V hV => by have q0 := cell_below x6 hV; go_simp) ?_
        refine rgnf 12 102 (.slice Am m.length cm) rfl rfl (by kernel_rfl) (fun _ _ _ h => h) (by kernel_rfl) hS (fun V hV => by go_simp) ?_
        refine rgnf 14 104 (.slice none 0 0) rfl rfl (by kernel_rfl) (fun _ _ _ h => h) (by kernel_rfl) hS (fun V hV => by go_simp) ?_
        refine rgnf 15 105 (.slice Am m.length cm) rfl rfl (by kernel_rfl) (fun _ _ _ h => h) (by kernel_rfl) hS (fun V hV => by go_simp) ?_
        refine rgnf 17 107 (.pointer (some ⟨w.heap.size, 5, none⟩)) rfl rfl (by kernel_rfl) (fun _ _ _ h => h) (by kernel_rfl) hS (fun V hV => by go_simp) ?_
        refine rgnf 18 108 (.pointer (some ⟨w.heap.size, 7, none⟩)) rfl rfl (by kernel_rfl) (fun _ _ _ h => h) (by kernel_rfl) hS (fun V hV => by go_simp) ?_
        refine rgnf 19 109 (.slice A2 s.bound.length k2) rfl rfl (by kernel_rfl) (fun _ _ _ h => h) (by kernel_rfl) hS (fun V hV => by have q0 := cell_below x7 hV; go_simp) ?_
        simp only [Act.put, List.setIfInBounds_toArray, List.set_cons_zero, List.set_cons_succ]
        refine join_ (σ := Value × Value × Value × Value × Value × Value × Snap × Nat × Unit) 1 #[true, true, true, true, true, true, true, true, true, true, true, true, true, true, true, true, true, true, true, true, true, true, true, false] (fun zz => [(94, zz.1), (96, zz.2.1), (101, zz.2.2.1), (103, zz.2.2.2.1), (106, zz.2.2.2.2.1), (110, zz.2.2.2.2.2.1), (111, .agg #[(zz.2.1), (zz.2.2.2.1), (zz.2.2.2.2.2.1)]), (12, .pointer (some ⟨zz.2.2.2.2.2.2.2.1, 0, none⟩))]) (fun zz W => Below wr.heap.size wr W ∧ Mk wr h W (zz.2.2.2.2.2.2.1) ∧ TyS (zz.2.2.2.2.2.2.1) (s.vars ++ m) (zz.2.1) ∧ TyS (zz.2.2.2.2.2.2.1) (s.pars ++ m) (zz.2.2.2.1) ∧ TyS (zz.2.2.2.2.2.2.1) (m ++ s.bound) (zz.2.2.2.2.2.1) ∧ W.heap[zz.2.2.2.2.2.2.2.1]? = some (.cells #[.slice none 0 0, .slice none 0 0, .slice none 0 0] 31) ∧ wr.heap.size ≤ (zz.2.2.2.2.2.2.2.1) ∧ Off (zz.2.2.2.2.2.2.1) (fun q => q = (zz.2.2.2.2.2.2.2.1)) ∧ True) ?_ (fun stz61 => ?_)
        · rintro ⟨v1, v2, v3, v4, v5, v6, hh, g, ⟨⟩⟩ W ⟨hS, mM, rt0, rt1, rt2, hg, hge, hog, -⟩
          dsimp only at mM rt0 rt1 rt2 hg hge hog
          refine norm_ (a' := ?_) ?_ ?_
          rotate_left
          · simp only [putAll, Act.put, List.setIfInBounds_toArray, List.set_cons_zero, List.set_cons_succ]
            rfl
          obtain ⟨B0, d0, rfl, -, -, -⟩ := id rt0
          obtain ⟨B1, d1, rfl, -, -, -⟩ := id rt1
          obtain ⟨B2, d2, rfl, -, -, -⟩ := id rt2
          rw [List.length_append] at rt0 rt1 rt2
          obtain ⟨xg0, xg1, xg2⟩ := bx3f hg
          have zg := blk_frozen hg
          have lg := blk_lt hg
          refine rgl 23 rfl (by kernel_rfl) (by decide) (by kernel_rfl) (fun K hK => ?_)
          go_simp
          refine hK.out _ _ ?_
          refine rgd (by kernel_rfl) ?_
          obtain ⟨WF, hWF, bF, kpF⟩ : ∃ WF, (((W.setCell ⟨g, 0, none⟩ (.slice B0 (s.vars.length + m.length) d0)).setCell ⟨g, 1, none⟩ (.slice B1 (s.pars.length + m.length) d1)).setCell ⟨g, 2, none⟩ (.slice B2 (m.length + s.bound.length) d2)) = WF ∧ WF.heap[g]? = some (.cells #[.slice B0 (s.vars.length + m.length) d0, .slice B1 (s.pars.length + m.length) d1, .slice B2 (m.length + s.bound.length) d2] 31) ∧ Kp (fun q => q = g) W WF := ⟨_, rfl, (set3f hg _ _ _).1, (set3f hg _ _ _).2⟩
          rw [hWF]
          have HF := mM.has.kp kpF hog
          have hsb := mM.sub
          have kF : Below w.heap.size w WF := ((Kp.of_below (fun q => q = g) (below_then kb hS kb.size)).trans kpF (fun i hi e => e)).below (fun i hi (e : i = g) => by have h1 := hge; have h2 := kb.size; omega)
          have b3 := blk_kp (box_below b1 hS) kpF (fun (e : w.heap.size = g) => by have h1 := hge; have h2 := blk_lt b1; omega)
          have b4 := blk_kp (box_below b2 hS) kpF (fun (e : w.heap.size + 1 = g) => by have h1 := hge; have h2 := blk_lt b2; omega)
          clear hWF xg0 xg1 xg2 zg lg hK hS kpF hog hg hge mM b1 b2
          have b1 := b3
          have b2 := b4
          clear b3 b4 x0 x1 x2 x3 x4 x5 x6 x7 x8 x9 x10 x11 x12 x13 y0 y1
          have x0 : WF.cell? ⟨w.heap.size, 0, none⟩ = some (.slice At p.types.length kt) := blk_cell b1 0
          have x1 : WF.cell? ⟨w.heap.size, 1, none⟩ = some (.slice Ac p.consts.length kc) := blk_cell b1 1
          have x2 : WF.cell? ⟨w.heap.size, 2, none⟩ = some (.slice Z2 n2 z2) := blk_cell b1 2
          have x3 : WF.cell? ⟨w.heap.size, 3, none⟩ = some (.slice Z3 n3 z3) := blk_cell b1 3
          have x4 : WF.cell? ⟨w.heap.size, 4, none⟩ = some (.slice Z4 n4 z4) := blk_cell b1 4
          have x5 : WF.cell? ⟨w.heap.size, 5, none⟩ = some (.slice A0 s.vars.length k0) := blk_cell b1 5
          have x6 : WF.cell? ⟨w.heap.size, 6, none⟩ = some (.slice A1 s.pars.length k1) := blk_cell b1 6
          have x7 : WF.cell? ⟨w.heap.size, 7, none⟩ = some (.slice A2 s.bound.length k2) := blk_cell b1 7
          have x8 : WF.cell? ⟨w.heap.size, 8, none⟩ = some (.int .i64 t.k) := blk_cell b1 8
          have x9 : WF.cell? ⟨w.heap.size, 9, none⟩ = some (.int .i64 t.n) := blk_cell b1 9
          have x10 : WF.cell? ⟨w.heap.size, 10, none⟩ = some (.string t.nm) := blk_cell b1 10
          have x11 : WF.cell? ⟨w.heap.size, 11, none⟩ = some (.slice A t.ar.length cap) := blk_cell b1 11
          have x12 : WF.cell? ⟨w.heap.size, 12, none⟩ = some (.string ty.nm) := blk_cell b1 12
          have x13 : WF.cell? ⟨w.heap.size, 13, none⟩ = some (.slice Ay ty.ar.length cy) := blk_cell b1 13
          have y0 : WF.cell? ⟨w.heap.size + 1, 0, none⟩ = some (.string u.nm) := blk_cell b2 0
          have y1 : WF.cell? ⟨w.heap.size + 1, 1, none⟩ = some (.slice Au u.ar.length cu) := blk_cell b2 1
          obtain ⟨xg0, xg1, xg2⟩ := bx3f bF
          go_wp2_with fail
          refine (Typed_calls p ⟨s.vars ++ m, s.pars ++ m, m ++ s.bound⟩ t ty _ _ _ _ _ hh HF (rp0.out.sub hsb) ⟨_, _, _, rfl, rt0, rt1, rt2⟩ (rt0s.out.sub hsb) (ry0.out.sub hsb) (by have := hsum.out; simp; omega)).mono ?_
          rintro e wE ⟨rfl, kE⟩
          rw [hfin.out]
          go_wp2_with fail
          go_ret
          exact ⟨rfl, below_then kF kE kF.size⟩
        refine join_ (σ := Value × Value × Value × Value × Value × Value × Snap × Unit) 2 #[true, true, true, true, true, true, true, true, true, true, true, true, true, true, true, true, true, true, true, true, true, true, false, false] (fun zz => [(94, zz.1), (96, zz.2.1), (101, zz.2.2.1), (103, zz.2.2.2.1), (106, zz.2.2.2.2.1), (110, zz.2.2.2.2.2.1), (111, .agg #[(zz.2.1), (zz.2.2.2.1), (zz.2.2.2.2.2.1)])]) (fun zz W => Below wr.heap.size wr W ∧ Mk wr h W (zz.2.2.2.2.2.2.1) ∧ TyS (zz.2.2.2.2.2.2.1) (s.vars ++ m) (zz.2.1) ∧ TyS (zz.2.2.2.2.2.2.1) (s.pars ++ m) (zz.2.2.2.1) ∧ TyS (zz.2.2.2.2.2.2.1) (m ++ s.bound) (zz.2.2.2.2.2.1) ∧ True) ?_ (fun stz60 => ?_)
        · rintro ⟨v1, v2, v3, v4, v5, v6, hh, ⟨⟩⟩ W ⟨hS, mM, rt0, rt1, rt2, -⟩
          dsimp only at mM rt0 rt1 rt2
          refine norm_ (a' := ?_) ?_ ?_
          rotate_left
          · simp only [putAll, Act.put, List.setIfInBounds_toArray, List.set_cons_zero, List.set_cons_succ]
            rfl
          refine rg1 22 rfl (by kernel_rfl) (by decide) (by kernel_rfl) (fun K hK => ?_)
          go_simp
          refine hK.out _ _ (hS.alloc hS.size _) (fun hS2 => ?_)
          exact norm_ (by kernel_rfl) (stz61 (v1, v2, v3, v4, v5, v6, hh, (W).heap.size, ()) _ ⟨hS2, mM.world (mM.has.alloc _), rt0, rt1, rt2, blk_new _ _, hS.size, mM.has.off_new (fun k e => by rw [e]; exact Nat.le_refl _), trivial⟩)
        refine join_ (σ := Value × Value × Value × Value × Value × Snap × Nat × List Value × Nat × Unit) 3 #[true, true, true, true, true, true, true, true, true, true, true, true, true, true, true, true, true, true, true, true, false, false, true, false] (fun zz => [(94, zz.1), (96, zz.2.1), (101, zz.2.2.1), (103, zz.2.2.2.1), (106, zz.2.2.2.2.1), (12, .pointer (some ⟨zz.2.2.2.2.2.2.2.2.1, 0, none⟩))]) (fun zz W => Below wr.heap.size wr W ∧ Mk wr h W (zz.2.2.2.2.2.1) ∧ TyS (zz.2.2.2.2.2.1) (s.vars ++ m) (zz.2.1) ∧ TyS (zz.2.2.2.2.2.1) (s.pars ++ m) (zz.2.2.2.1) ∧ W.ownsRow (zz.2.2.2.2.2.2.1) 36 2 (zz.2.2.2.2.1) m.length (zz.2.2.2.2.2.2.2.1) ∧ Chunks (TyR (zz.2.2.2.2.2.1)) 2 m (zz.2.2.2.2.2.2.2.1) ∧ (∀ a u, (zz.2.2.2.2.2.1) a = some u → a.block < (zz.2.2.2.2.2.2.1)) ∧ wr.heap.size ≤ (zz.2.2.2.2.2.2.1) ∧ (zz.2.2.2.2.2.2.1) ≤ W.heap.size ∧ W.heap[zz.2.2.2.2.2.2.2.2.1]? = some (.cells #[.slice none 0 0, .slice none 0 0, .slice none 0 0] 31) ∧ wr.heap.size ≤ (zz.2.2.2.2.2.2.2.2.1) ∧ Off (zz.2.2.2.2.2.1) (fun q => q = (zz.2.2.2.2.2.2.2.2.1)) ∧ (zz.2.2.2.2.1).ownBlock ≠ some (zz.2.2.2.2.2.2.2.2.1) ∧ True) ?_ (fun stz51 => ?_)
        · rintro ⟨v1, v2, v3, v4, v5, hh, N, ys, g, ⟨⟩⟩ W ⟨hS, mM, rt0, rt1, hown, hch, hlt, hNW, hNle, hg, hge, hog, hne, -⟩
          dsimp only at mM rt0 rt1 hown hch hlt hNW hNle hg hge hog hne
          refine norm_ (a' := ?_) ?_ ?_
          rotate_left
          · simp only [putAll, Act.put, List.setIfInBounds_toArray, List.set_cons_zero, List.set_cons_succ]
            rfl
          refine rg1 20 rfl (by kernel_rfl) (by decide) (by kernel_rfl) (fun K hK => ?_)
          refine app36S (sv := v5) (xv := .slice A2 s.bound.length k2) (us := s.bound) (h := hh) _ _ rfl (by go_simp) hown (by go_simp) mM.has (q2s.out.sub mM.sub) (by unfold lim; omega) hNle ?_
          intro vn W1 ys1 hown1 hch1 hgr hat
          have kp : Kp (fun q => (v5).ownBlock = some q) (W) W1 := (Kp.refl (fun q => (v5).ownBlock = some q) (W)).grown hgr (fun q e => .inl e)
          have kb1 : Below wr.heap.size wr W1 := ((Kp.of_below (fun q => wr.heap.size ≤ q) hS).trans kp (fun q hq e => by have := (hown.lt _ e).1; omega)).below (fun i hi hq => by omega)
          have has1 : Has W1 hh := mM.has.kp kp ⟨fun a u e hq => by have := hlt a u e; have := (hown.lt _ hq).1; omega⟩
          obtain ⟨h3, r3, m3, z3⟩ := own_TyS (w0 := wr) has1 hNW hown1 (hch.append hch1) (by unfold lim; simp; omega)
          obtain ⟨An, cn, rfl⟩ := own_form hown1
          refine hK.out _ _ kb1 (fun hS2 => ?_)
          have hog3 : Off h3 (fun q => q = g) := ⟨fun a u e hq => by
            have hq' : a.block = g := hq
            rcases z3 a u e with e1 | e1
            · exact hog.at_ a u e1 hq
            · rcases hat _ e1 with e2 | e2
              · rw [hq'] at e2; exact hne e2
              · have e1 : (W).heap.size ≤ a.block := e2
                have := blk_lt hg
                omega⟩
          obtain ⟨Aq0, cq0, rfl, -, -, -⟩ := id rt0
          obtain ⟨Aq1, cq1, rfl, -, -, -⟩ := id rt1
          refine norm_ (a' := Act.put _ (some 110) _) rfl ?_
          simp only [Act.put, List.setIfInBounds_toArray, List.set_cons_zero, List.set_cons_succ]
          refine rgnf 21 111 (.agg #[(.slice Aq0 (s.vars ++ m).length cq0), (.slice Aq1 (s.pars ++ m).length cq1), (.slice An (m.length + s.bound.length) cn)]) rfl rfl (by kernel_rfl) (fun _ _ _ h => h) (by kernel_rfl) hS2 (fun V hV => by go_simp) ?_
          exact norm_ (by kernel_rfl) (stz61 (v1, .slice Aq0 (s.vars ++ m).length cq0, v3, .slice Aq1 (s.pars ++ m).length cq1, v5, .slice An (m.length + s.bound.length) cn, h3, g, ()) _ ⟨hS2, mM.then_ m3, rt0.sub m3.sub, rt1.sub m3.sub, r3, blk_kp hg kp hne, hge, hog3, trivial⟩)
        refine join_ (σ := Value × Value × Value × Value × Value × Snap × Nat × List Value × Unit) 4 #[true, true, true, true, true, true, true, true, true, true, true, true, true, true, true, true, true, true, true, true, false, false, false, false] (fun zz => [(94, zz.1), (96, zz.2.1), (101, zz.2.2.1), (103, zz.2.2.2.1), (106, zz.2.2.2.2.1)]) (fun zz W => Below wr.heap.size wr W ∧ Mk wr h W (zz.2.2.2.2.2.1) ∧ TyS (zz.2.2.2.2.2.1) (s.vars ++ m) (zz.2.1) ∧ TyS (zz.2.2.2.2.2.1) (s.pars ++ m) (zz.2.2.2.1) ∧ W.ownsRow (zz.2.2.2.2.2.2.1) 36 2 (zz.2.2.2.2.1) m.length (zz.2.2.2.2.2.2.2.1) ∧ Chunks (TyR (zz.2.2.2.2.2.1)) 2 m (zz.2.2.2.2.2.2.2.1) ∧ (∀ a u, (zz.2.2.2.2.2.1) a = some u → a.block < (zz.2.2.2.2.2.2.1)) ∧ wr.heap.size ≤ (zz.2.2.2.2.2.2.1) ∧ (zz.2.2.2.2.2.2.1) ≤ W.heap.size ∧ True) ?_ (fun stz50 => ?_)
        · rintro ⟨v1, v2, v3, v4, v5, hh, N, ys, ⟨⟩⟩ W ⟨hS, mM, rt0, rt1, hown, hch, hlt, hNW, hNle, -⟩
          dsimp only at mM rt0 rt1 hown hch hlt hNW hNle
          refine norm_ (a' := ?_) ?_ ?_
          rotate_left
          · simp only [putAll, Act.put, List.setIfInBounds_toArray, List.set_cons_zero, List.set_cons_succ]
            rfl
          refine rg2 20 22 rfl rfl (by kernel_rfl) (by decide) (by decide) (by kernel_rfl) (by kernel_rfl) (fun K hK => ?_) (fun K hK => ?_)
          · refine app36S (sv := v5) (xv := .slice A2 s.bound.length k2) (us := s.bound) (h := hh) _ _ rfl (by go_simp) hown (by go_simp) mM.has (q2s.out.sub mM.sub) (by unfold lim; omega) hNle ?_
            intro vn W1 ys1 hown1 hch1 hgr hat
            have kp : Kp (fun q => (v5).ownBlock = some q) (W) W1 := (Kp.refl (fun q => (v5).ownBlock = some q) (W)).grown hgr (fun q e => .inl e)
            have kb1 : Below wr.heap.size wr W1 := ((Kp.of_below (fun q => wr.heap.size ≤ q) hS).trans kp (fun q hq e => by have := (hown.lt _ e).1; omega)).below (fun i hi hq => by omega)
            have has1 : Has W1 hh := mM.has.kp kp ⟨fun a u e hq => by have := hlt a u e; have := (hown.lt _ hq).1; omega⟩
            obtain ⟨h3, r3, m3, z3⟩ := own_TyS (w0 := wr) has1 hNW hown1 (hch.append hch1) (by unfold lim; simp; omega)
            obtain ⟨An, cn, rfl⟩ := own_form hown1
            refine hK.out _ _ kb1 (fun hS2 => ?_)
            obtain ⟨Aq0, cq0, rfl, -, -, -⟩ := id rt0
            obtain ⟨Aq1, cq1, rfl, -, -, -⟩ := id rt1
            refine norm_ (a' := Act.put _ (some 110) _) rfl ?_
            simp only [Act.put, List.setIfInBounds_toArray, List.set_cons_zero, List.set_cons_succ]
            refine rgnf 21 111 (.agg #[(.slice Aq0 (s.vars ++ m).length cq0), (.slice Aq1 (s.pars ++ m).length cq1), (.slice An (m.length + s.bound.length) cn)]) rfl rfl (by kernel_rfl) (fun _ _ _ h => h) (by kernel_rfl) hS2 (fun V hV => by go_simp) ?_
            exact norm_ (by kernel_rfl) (stz60 (v1, .slice Aq0 (s.vars ++ m).length cq0, v3, .slice Aq1 (s.pars ++ m).length cq1, v5, .slice An (m.length + s.bound.length) cn, h3, ()) _ ⟨hS2, mM.then_ m3, rt0.sub m3.sub, rt1.sub m3.sub, r3, trivial⟩)
          · go_simp
            refine hK.out _ _ (hS.alloc hS.size _) (fun hS2 => ?_)
            exact norm_ (by kernel_rfl) (stz51 (v1, v2, v3, v4, v5, hh, N, ys, (W).heap.size, ()) _ ⟨hS2, mM.world (mM.has.alloc _), rt0, rt1, own_kp hown ((Kp.refl (fun _ => False) (W)).alloc _) (fun _ hf => hf.elim), hch, hlt, hNW, Nat.le_trans hNle (by simp), blk_new _ _, hS.size, mM.has.off_new (fun k e => by rw [e]; exact Nat.le_refl _), own_new hown (Nat.le_refl _), trivial⟩)
        refine join_ (σ := Value × Value × Value × Value × Snap × Nat × Unit) 4 #[true, true, true, true, true, true, true, true, true, true, true, true, true, true, true, true, false, true, true, true, false, false, true, false] (fun zz => [(94, zz.1), (96, zz.2.1), (101, zz.2.2.1), (103, zz.2.2.2.1), (12, .pointer (some ⟨zz.2.2.2.2.2.1, 0, none⟩))]) (fun zz W => Below wr.heap.size wr W ∧ Mk wr h W (zz.2.2.2.2.1) ∧ TyS (zz.2.2.2.2.1) (s.vars ++ m) (zz.2.1) ∧ TyS (zz.2.2.2.2.1) (s.pars ++ m) (zz.2.2.2.1) ∧ W.heap[zz.2.2.2.2.2.1]? = some (.cells #[.slice none 0 0, .slice none 0 0, .slice none 0 0] 31) ∧ wr.heap.size ≤ (zz.2.2.2.2.2.1) ∧ Off (zz.2.2.2.2.1) (fun q => q = (zz.2.2.2.2.2.1)) ∧ True) ?_ (fun stz41 => ?_)
        · rintro ⟨v1, v2, v3, v4, hh, g, ⟨⟩⟩ W ⟨hS, mM, rt0, rt1, hg, hge, hog, -⟩
          dsimp only at mM rt0 rt1 hg hge hog
          refine norm_ (a' := ?_) ?_ ?_
          rotate_left
          · simp only [putAll, Act.put, List.setIfInBounds_toArray, List.set_cons_zero, List.set_cons_succ]
            rfl
          refine rg1 16 rfl (by kernel_rfl) (by decide) (by kernel_rfl) (fun K hK => ?_)
          refine app36S (sv := Value.slice none 0 0) (xv := .slice Am m.length cm) (us := m) (h := hh) _ _ rfl (by go_simp) (World.ownsRow_nil (W) (W).heap.size 36 2) (by go_simp) mM.has (rm0.out.sub mM.sub) (by unfold lim; omega) (Nat.le_refl _) ?_
          intro vn W1 ys1 hown1 hch1 hgr hat
          rw [Nat.zero_add, List.nil_append] at hown1
          have kp : Kp (fun _ => False) (W) W1 := (Kp.refl (fun _ => False) (W)).grown hgr (fun q e => by cases e)
          have kb1 : Below wr.heap.size wr W1 := ((Kp.of_below (fun q => wr.heap.size ≤ q) hS).trans kp (fun q hq hf => hf.elim)).below (fun i hi hq => by omega)
          have has1 : Has W1 hh := mM.has.kp kp (Off.none _)
          have hlt1 : ∀ a u, hh a = some u → a.block < (W).heap.size := fun a u e => mM.has.lt e
          obtain ⟨An, cn, rfl⟩ := own_form hown1
          refine hK.out _ _ kb1 (fun hS2 => ?_)
          exact norm_ (by kernel_rfl) (stz51 (v1, v2, v3, v4, .slice An m.length cn, hh, (W).heap.size, ys1, g, ()) _ ⟨hS2, mM.world has1, rt0, rt1, hown1, hch1, hlt1, hS.size, kp.size, blk_kp hg kp (fun hf => hf), hge, hog, fun e => by
              rcases hat _ e with e | e
              · cases e
              · have e1 : (W).heap.size ≤ g := e
                have := blk_lt hg
                omega, trivial⟩)
        refine join_ (σ := Value × Value × Value × Value × Snap × Unit) 5 #[true, true, true, true, true, true, true, true, true, true, true, true, true, true, true, true, false, true, true, true, false, false, false, false] (fun zz => [(94, zz.1), (96, zz.2.1), (101, zz.2.2.1), (103, zz.2.2.2.1)]) (fun zz W => Below wr.heap.size wr W ∧ Mk wr h W (zz.2.2.2.2.1) ∧ TyS (zz.2.2.2.2.1) (s.vars ++ m) (zz.2.1) ∧ TyS (zz.2.2.2.2.1) (s.pars ++ m) (zz.2.2.2.1) ∧ True) ?_ (fun stz40 => ?_)
        · rintro ⟨v1, v2, v3, v4, hh, ⟨⟩⟩ W ⟨hS, mM, rt0, rt1, -⟩
          dsimp only at mM rt0 rt1
          refine norm_ (a' := ?_) ?_ ?_
          rotate_left
          · simp only [putAll, Act.put, List.setIfInBounds_toArray, List.set_cons_zero, List.set_cons_succ]
            rfl
          refine rg2 16 22 rfl rfl (by kernel_rfl) (by decide) (by decide) (by kernel_rfl) (by kernel_rfl) (fun K hK => ?_) (fun K hK => ?_)
          · refine app36S (sv := Value.slice none 0 0) (xv := .slice Am m.length cm) (us := m) (h := hh) _ _ rfl (by go_simp) (World.ownsRow_nil (W) (W).heap.size 36 2) (by go_simp) mM.has (rm0.out.sub mM.sub) (by unfold lim; omega) (Nat.le_refl _) ?_
            intro vn W1 ys1 hown1 hch1 hgr hat
            rw [Nat.zero_add, List.nil_append] at hown1
            have kp : Kp (fun _ => False) (W) W1 := (Kp.refl (fun _ => False) (W)).grown hgr (fun q e => by cases e)
            have kb1 : Below wr.heap.size wr W1 := ((Kp.of_below (fun q => wr.heap.size ≤ q) hS).trans kp (fun q hq hf => hf.elim)).below (fun i hi hq => by omega)
            have has1 : Has W1 hh := mM.has.kp kp (Off.none _)
            have hlt1 : ∀ a u, hh a = some u → a.block < (W).heap.size := fun a u e => mM.has.lt e
            obtain ⟨An, cn, rfl⟩ := own_form hown1
            refine hK.out _ _ kb1 (fun hS2 => ?_)
            exact norm_ (by kernel_rfl) (stz50 (v1, v2, v3, v4, .slice An m.length cn, hh, (W).heap.size, ys1, ()) _ ⟨hS2, mM.world has1, rt0, rt1, hown1, hch1, hlt1, hS.size, kp.size, trivial⟩)
          · go_simp
            refine hK.out _ _ (hS.alloc hS.size _) (fun hS2 => ?_)
            exact norm_ (by kernel_rfl) (stz41 (v1, v2, v3, v4, hh, (W).heap.size, ()) _ ⟨hS2, mM.world (mM.has.alloc _), rt0, rt1, blk_new _ _, hS.size, mM.has.off_new (fun k e => by rw [e]; exact Nat.le_refl _), trivial⟩)
        refine join_ (σ := Value × Value × Value × Snap × Nat × List Value × Nat × Unit) 5 #[true, true, true, true, true, true, true, true, true, true, true, true, true, false, true, true, false, true, true, true, false, false, true, false] (fun zz => [(94, zz.1), (96, zz.2.1), (101, zz.2.2.1), (12, .pointer (some ⟨zz.2.2.2.2.2.2.1, 0, none⟩))]) (fun zz W => Below wr.heap.size wr W ∧ Mk wr h W (zz.2.2.2.1) ∧ TyS (zz.2.2.2.1) (s.vars ++ m) (zz.2.1) ∧ W.ownsRow (zz.2.2.2.2.1) 36 2 (zz.2.2.1) s.pars.length (zz.2.2.2.2.2.1) ∧ Chunks (TyR (zz.2.2.2.1)) 2 s.pars (zz.2.2.2.2.2.1) ∧ (∀ a u, (zz.2.2.2.1) a = some u → a.block < (zz.2.2.2.2.1)) ∧ wr.heap.size ≤ (zz.2.2.2.2.1) ∧ (zz.2.2.2.2.1) ≤ W.heap.size ∧ W.heap[zz.2.2.2.2.2.2.1]? = some (.cells #[.slice none 0 0, .slice none 0 0, .slice none 0 0] 31) ∧ wr.heap.size ≤ (zz.2.2.2.2.2.2.1) ∧ Off (zz.2.2.2.1) (fun q => q = (zz.2.2.2.2.2.2.1)) ∧ (zz.2.2.1).ownBlock ≠ some (zz.2.2.2.2.2.2.1) ∧ True) ?_ (fun stz31 => ?_)
        · rintro ⟨v1, v2, v3, hh, N, ys, g, ⟨⟩⟩ W ⟨hS, mM, rt0, hown, hch, hlt, hNW, hNle, hg, hge, hog, hne, -⟩
          dsimp only at mM rt0 hown hch hlt hNW hNle hg hge hog hne
          refine norm_ (a' := ?_) ?_ ?_
          rotate_left
          · simp only [putAll, Act.put, List.setIfInBounds_toArray, List.set_cons_zero, List.set_cons_succ]
            rfl
          refine rg1 13 rfl (by kernel_rfl) (by decide) (by kernel_rfl) (fun K hK => ?_)
          refine app36S (sv := v3) (xv := .slice Am m.length cm) (us := m) (h := hh) _ _ rfl (by go_simp) hown (by go_simp) mM.has (rm0.out.sub mM.sub) (by unfold lim; omega) hNle ?_
          intro vn W1 ys1 hown1 hch1 hgr hat
          have kp : Kp (fun q => (v3).ownBlock = some q) (W) W1 := (Kp.refl (fun q => (v3).ownBlock = some q) (W)).grown hgr (fun q e => .inl e)
          have kb1 : Below wr.heap.size wr W1 := ((Kp.of_below (fun q => wr.heap.size ≤ q) hS).trans kp (fun q hq e => by have := (hown.lt _ e).1; omega)).below (fun i hi hq => by omega)
          have has1 : Has W1 hh := mM.has.kp kp ⟨fun a u e hq => by have := hlt a u e; have := (hown.lt _ hq).1; omega⟩
          obtain ⟨h3, r3, m3, z3⟩ := own_TyS (w0 := wr) has1 hNW hown1 (hch.append hch1) (by unfold lim; simp; omega)
          obtain ⟨An, cn, rfl⟩ := own_form hown1
          refine hK.out _ _ kb1 (fun hS2 => ?_)
          have hog3 : Off h3 (fun q => q = g) := ⟨fun a u e hq => by
            have hq' : a.block = g := hq
            rcases z3 a u e with e1 | e1
            · exact hog.at_ a u e1 hq
            · rcases hat _ e1 with e2 | e2
              · rw [hq'] at e2; exact hne e2
              · have e1 : (W).heap.size ≤ a.block := e2
                have := blk_lt hg
                omega⟩
          exact norm_ (by kernel_rfl) (stz41 (v1, v2, v3, .slice An (s.pars.length + m.length) cn, h3, g, ()) _ ⟨hS2, mM.then_ m3, rt0.sub m3.sub, r3, blk_kp hg kp hne, hge, hog3, trivial⟩)
        refine join_ (σ := Value × Value × Value × Snap × Nat × List Value × Unit) 6 #[true, true, true, true, true, true, true, true, true, true, true, true, true, false, true, true, false, true, true, true, false, false, false, false] (fun zz => [(94, zz.1), (96, zz.2.1), (101, zz.2.2.1)]) (fun zz W => Below wr.heap.size wr W ∧ Mk wr h W (zz.2.2.2.1) ∧ TyS (zz.2.2.2.1) (s.vars ++ m) (zz.2.1) ∧ W.ownsRow (zz.2.2.2.2.1) 36 2 (zz.2.2.1) s.pars.length (zz.2.2.2.2.2.1) ∧ Chunks (TyR (zz.2.2.2.1)) 2 s.pars (zz.2.2.2.2.2.1) ∧ (∀ a u, (zz.2.2.2.1) a = some u → a.block < (zz.2.2.2.2.1)) ∧ wr.heap.size ≤ (zz.2.2.2.2.1) ∧ (zz.2.2.2.2.1) ≤ W.heap.size ∧ True) ?_ (fun stz30 => ?_)
        · rintro ⟨v1, v2, v3, hh, N, ys, ⟨⟩⟩ W ⟨hS, mM, rt0, hown, hch, hlt, hNW, hNle, -⟩
          dsimp only at mM rt0 hown hch hlt hNW hNle
          refine norm_ (a' := ?_) ?_ ?_
          rotate_left
          · simp only [putAll, Act.put, List.setIfInBounds_toArray, List.set_cons_zero, List.set_cons_succ]
            rfl
          refine rg2 13 22 rfl rfl (by kernel_rfl) (by decide) (by decide) (by kernel_rfl) (by kernel_rfl) (fun K hK => ?_) (fun K hK => ?_)
          · refine app36S (sv := v3) (xv := .slice Am m.length cm) (us := m) (h := hh) _ _ rfl (by go_simp) hown (by go_simp) mM.has (rm0.out.sub mM.sub) (by unfold lim; omega) hNle ?_
            intro vn W1 ys1 hown1 hch1 hgr hat
            have kp : Kp (fun q => (v3).ownBlock = some q) (W) W1 := (Kp.refl (fun q => (v3).ownBlock = some q) (W)).grown hgr (fun q e => .inl e)
            have kb1 : Below wr.heap.size wr W1 := ((Kp.of_below (fun q => wr.heap.size ≤ q) hS).trans kp (fun q hq e => by have := (hown.lt _ e).1; omega)).below (fun i hi hq => by omega)
            have has1 : Has W1 hh := mM.has.kp kp ⟨fun a u e hq => by have := hlt a u e; have := (hown.lt _ hq).1; omega⟩
            obtain ⟨h3, r3, m3, z3⟩ := own_TyS (w0 := wr) has1 hNW hown1 (hch.append hch1) (by unfold lim; simp; omega)
            obtain ⟨An, cn, rfl⟩ := own_form hown1
            refine hK.out _ _ kb1 (fun hS2 => ?_)
            exact norm_ (by kernel_rfl) (stz40 (v1, v2, v3, .slice An (s.pars.length + m.length) cn, h3, ()) _ ⟨hS2, mM.then_ m3, rt0.sub m3.sub, r3, trivial⟩)
          · go_simp
            refine hK.out _ _ (hS.alloc hS.size _) (fun hS2 => ?_)
            exact norm_ (by kernel_rfl) (stz31 (v1, v2, v3, hh, N, ys, (W).heap.size, ()) _ ⟨hS2, mM.world (mM.has.alloc _), rt0, own_kp hown ((Kp.refl (fun _ => False) (W)).alloc _) (fun _ hf => hf.elim), hch, hlt, hNW, Nat.le_trans hNle (by simp), blk_new _ _, hS.size, mM.has.off_new (fun k e => by rw [e]; exact Nat.le_refl _), own_new hown (Nat.le_refl _), trivial⟩)
        refine join_ (σ := Value × Value × Snap × Nat × Unit) 6 #[true, true, true, true, true, true, true, true, true, true, true, false, true, false, true, true, false, true, true, true, false, false, true, false] (fun zz => [(94, zz.1), (96, zz.2.1), (12, .pointer (some ⟨zz.2.2.2.1, 0, none⟩))]) (fun zz W => Below wr.heap.size wr W ∧ Mk wr h W (zz.2.2.1) ∧ TyS (zz.2.2.1) (s.vars ++ m) (zz.2.1) ∧ W.heap[zz.2.2.2.1]? = some (.cells #[.slice none 0 0, .slice none 0 0, .slice none 0 0] 31) ∧ wr.heap.size ≤ (zz.2.2.2.1) ∧ Off (zz.2.2.1) (fun q => q = (zz.2.2.2.1)) ∧ True) ?_ (fun stz21 => ?_)
        · rintro ⟨v1, v2, hh, g, ⟨⟩⟩ W ⟨hS, mM, rt0, hg, hge, hog, -⟩
          dsimp only at mM rt0 hg hge hog
          refine norm_ (a' := ?_) ?_ ?_
          rotate_left
          · simp only [putAll, Act.put, List.setIfInBounds_toArray, List.set_cons_zero, List.set_cons_succ]
            rfl
          refine rg1 11 rfl (by kernel_rfl) (by decide) (by kernel_rfl) (fun K hK => ?_)
          refine app36S (sv := Value.slice none 0 0) (xv := .slice A1 s.pars.length k1) (us := s.pars) (h := hh) _ _ rfl (by go_simp) (World.ownsRow_nil (W) (W).heap.size 36 2) (by go_simp) mM.has (q1s.out.sub mM.sub) (by unfold lim; omega) (Nat.le_refl _) ?_
          intro vn W1 ys1 hown1 hch1 hgr hat
          rw [Nat.zero_add, List.nil_append] at hown1
          have kp : Kp (fun _ => False) (W) W1 := (Kp.refl (fun _ => False) (W)).grown hgr (fun q e => by cases e)
          have kb1 : Below wr.heap.size wr W1 := ((Kp.of_below (fun q => wr.heap.size ≤ q) hS).trans kp (fun q hq hf => hf.elim)).below (fun i hi hq => by omega)
          have has1 : Has W1 hh := mM.has.kp kp (Off.none _)
          have hlt1 : ∀ a u, hh a = some u → a.block < (W).heap.size := fun a u e => mM.has.lt e
          obtain ⟨An, cn, rfl⟩ := own_form hown1
          refine hK.out _ _ kb1 (fun hS2 => ?_)
          exact norm_ (by kernel_rfl) (stz31 (v1, v2, .slice An s.pars.length cn, hh, (W).heap.size, ys1, g, ()) _ ⟨hS2, mM.world has1, rt0, hown1, hch1, hlt1, hS.size, kp.size, blk_kp hg kp (fun hf => hf), hge, hog, fun e => by
              rcases hat _ e with e | e
              · cases e
              · have e1 : (W).heap.size ≤ g := e
                have := blk_lt hg
                omega, trivial⟩)
        refine join_ (σ := Value × Value × Snap × Unit) 7 #[true, true, true, true, true, true, true, true, true, true, true, false, true, false, true, true, false, true, true, true, false, false, false, false] (fun zz => [(94, zz.1), (96, zz.2.1)]) (fun zz W => Below wr.heap.size wr W ∧ Mk wr h W (zz.2.2.1) ∧ TyS (zz.2.2.1) (s.vars ++ m) (zz.2.1) ∧ True) ?_ (fun stz20 => ?_)
        · rintro ⟨v1, v2, hh, ⟨⟩⟩ W ⟨hS, mM, rt0, -⟩
          dsimp only at mM rt0
          refine norm_ (a' := ?_) ?_ ?_
          rotate_left
          · simp only [putAll, Act.put, List.setIfInBounds_toArray, List.set_cons_zero, List.set_cons_succ]
            rfl
          refine rg2 11 22 rfl rfl (by kernel_rfl) (by decide) (by decide) (by kernel_rfl) (by kernel_rfl) (fun K hK => ?_) (fun K hK => ?_)
          · refine app36S (sv := Value.slice none 0 0) (xv := .slice A1 s.pars.length k1) (us := s.pars) (h := hh) _ _ rfl (by go_simp) (World.ownsRow_nil (W) (W).heap.size 36 2) (by go_simp) mM.has (q1s.out.sub mM.sub) (by unfold lim; omega) (Nat.le_refl _) ?_
            intro vn W1 ys1 hown1 hch1 hgr hat
            rw [Nat.zero_add, List.nil_append] at hown1
            have kp : Kp (fun _ => False) (W) W1 := (Kp.refl (fun _ => False) (W)).grown hgr (fun q e => by cases e)
            have kb1 : Below wr.heap.size wr W1 := ((Kp.of_below (fun q => wr.heap.size ≤ q) hS).trans kp (fun q hq hf => hf.elim)).below (fun i hi hq => by omega)
            have has1 : Has W1 hh := mM.has.kp kp (Off.none _)
            have hlt1 : ∀ a u, hh a = some u → a.block < (W).heap.size := fun a u e => mM.has.lt e
            obtain ⟨An, cn, rfl⟩ := own_form hown1
            refine hK.out _ _ kb1 (fun hS2 => ?_)
            exact norm_ (by kernel_rfl) (stz30 (v1, v2, .slice An s.pars.length cn, hh, (W).heap.size, ys1, ()) _ ⟨hS2, mM.world has1, rt0, hown1, hch1, hlt1, hS.size, kp.size, trivial⟩)
          · go_simp
            refine hK.out _ _ (hS.alloc hS.size _) (fun hS2 => ?_)
            exact norm_ (by kernel_rfl) (stz21 (v1, v2, hh, (W).heap.size, ()) _ ⟨hS2, mM.world (mM.has.alloc _), rt0, blk_new _ _, hS.size, mM.has.off_new (fun k e => by rw [e]; exact Nat.le_refl _), trivial⟩)
        refine join_ (σ := Value × Snap × Nat × List Value × Nat × Unit) 7 #[true, true, true, true, true, true, false, true, true, true, true, false, true, false, true, true, false, true, true, true, false, false, true, false] (fun zz => [(94, zz.1), (12, .pointer (some ⟨zz.2.2.2.2.1, 0, none⟩))]) (fun zz W => Below wr.heap.size wr W ∧ Mk wr h W (zz.2.1) ∧ W.ownsRow (zz.2.2.1) 36 2 (zz.1) s.vars.length (zz.2.2.2.1) ∧ Chunks (TyR (zz.2.1)) 2 s.vars (zz.2.2.2.1) ∧ (∀ a u, (zz.2.1) a = some u → a.block < (zz.2.2.1)) ∧ wr.heap.size ≤ (zz.2.2.1) ∧ (zz.2.2.1) ≤ W.heap.size ∧ W.heap[zz.2.2.2.2.1]? = some (.cells #[.slice none 0 0, .slice none 0 0, .slice none 0 0] 31) ∧ wr.heap.size ≤ (zz.2.2.2.2.1) ∧ Off (zz.2.1) (fun q => q = (zz.2.2.2.2.1)) ∧ (zz.1).ownBlock ≠ some (zz.2.2.2.2.1) ∧ True) ?_ (fun stz11 => ?_)
        · rintro ⟨v1, hh, N, ys, g, ⟨⟩⟩ W ⟨hS, mM, hown, hch, hlt, hNW, hNle, hg, hge, hog, hne, -⟩
          dsimp only at mM hown hch hlt hNW hNle hg hge hog hne
          refine norm_ (a' := ?_) ?_ ?_
          rotate_left
          · simp only [putAll, Act.put, List.setIfInBounds_toArray, List.set_cons_zero, List.set_cons_succ]
            rfl
          refine rg1 6 rfl (by kernel_rfl) (by decide) (by kernel_rfl) (fun K hK => ?_)
          refine app36S (sv := v1) (xv := .slice Am m.length cm) (us := m) (h := hh) _ _ rfl (by go_simp) hown (by go_simp) mM.has (rm0.out.sub mM.sub) (by unfold lim; omega) hNle ?_
          intro vn W1 ys1 hown1 hch1 hgr hat
          have kp : Kp (fun q => (v1).ownBlock = some q) (W) W1 := (Kp.refl (fun q => (v1).ownBlock = some q) (W)).grown hgr (fun q e => .inl e)
          have kb1 : Below wr.heap.size wr W1 := ((Kp.of_below (fun q => wr.heap.size ≤ q) hS).trans kp (fun q hq e => by have := (hown.lt _ e).1; omega)).below (fun i hi hq => by omega)
          have has1 : Has W1 hh := mM.has.kp kp ⟨fun a u e hq => by have := hlt a u e; have := (hown.lt _ hq).1; omega⟩
          obtain ⟨h3, r3, m3, z3⟩ := own_TyS (w0 := wr) has1 hNW hown1 (hch.append hch1) (by unfold lim; simp; omega)
          obtain ⟨An, cn, rfl⟩ := own_form hown1
          refine hK.out _ _ kb1 (fun hS2 => ?_)
          have hog3 : Off h3 (fun q => q = g) := ⟨fun a u e hq => by
            have hq' : a.block = g := hq
            rcases z3 a u e with e1 | e1
            · exact hog.at_ a u e1 hq
            · rcases hat _ e1 with e2 | e2
              · rw [hq'] at e2; exact hne e2
              · have e1 : (W).heap.size ≤ a.block := e2
                have := blk_lt hg
                omega⟩
          exact norm_ (by kernel_rfl) (stz21 (v1, .slice An (s.vars.length + m.length) cn, h3, g, ()) _ ⟨hS2, mM.then_ m3, r3, blk_kp hg kp hne, hge, hog3, trivial⟩)
        refine join_ (σ := Value × Snap × Nat × List Value × Unit) 8 #[true, true, true, true, true, true, false, true, true, true, true, false, true, false, true, true, false, true, true, true, false, false, false, false] (fun zz => [(94, zz.1)]) (fun zz W => Below wr.heap.size wr W ∧ Mk wr h W (zz.2.1) ∧ W.ownsRow (zz.2.2.1) 36 2 (zz.1) s.vars.length (zz.2.2.2.1) ∧ Chunks (TyR (zz.2.1)) 2 s.vars (zz.2.2.2.1) ∧ (∀ a u, (zz.2.1) a = some u → a.block < (zz.2.2.1)) ∧ wr.heap.size ≤ (zz.2.2.1) ∧ (zz.2.2.1) ≤ W.heap.size ∧ True) ?_ (fun stz10 => ?_)
        · rintro ⟨v1, hh, N, ys, ⟨⟩⟩ W ⟨hS, mM, hown, hch, hlt, hNW, hNle, -⟩
          dsimp only at mM hown hch hlt hNW hNle
          refine norm_ (a' := ?_) ?_ ?_
          rotate_left
          · simp only [putAll, Act.put, List.setIfInBounds_toArray, List.set_cons_zero, List.set_cons_succ]
            rfl
          refine rg2 6 22 rfl rfl (by kernel_rfl) (by decide) (by decide) (by kernel_rfl) (by kernel_rfl) (fun K hK => ?_) (fun K hK => ?_)
          · refine app36S (sv := v1) (xv := .slice Am m.length cm) (us := m) (h := hh) _ _ rfl (by go_simp) hown (by go_simp) mM.has (rm0.out.sub mM.sub) (by unfold lim; omega) hNle ?_
            intro vn W1 ys1 hown1 hch1 hgr hat
            have kp : Kp (fun q => (v1).ownBlock = some q) (W) W1 := (Kp.refl (fun q => (v1).ownBlock = some q) (W)).grown hgr (fun q e => .inl e)
            have kb1 : Below wr.heap.size wr W1 := ((Kp.of_below (fun q => wr.heap.size ≤ q) hS).trans kp (fun q hq e => by have := (hown.lt _ e).1; omega)).below (fun i hi hq => by omega)
            have has1 : Has W1 hh := mM.has.kp kp ⟨fun a u e hq => by have := hlt a u e; have := (hown.lt _ hq).1; omega⟩
            obtain ⟨h3, r3, m3, z3⟩ := own_TyS (w0 := wr) has1 hNW hown1 (hch.append hch1) (by unfold lim; simp; omega)
            obtain ⟨An, cn, rfl⟩ := own_form hown1
            refine hK.out _ _ kb1 (fun hS2 => ?_)
            exact norm_ (by kernel_rfl) (stz20 (v1, .slice An (s.vars.length + m.length) cn, h3, ()) _ ⟨hS2, mM.then_ m3, r3, trivial⟩)
          · go_simp
            refine hK.out _ _ (hS.alloc hS.size _) (fun hS2 => ?_)
            exact norm_ (by kernel_rfl) (stz11 (v1, hh, N, ys, (W).heap.size, ()) _ ⟨hS2, mM.world (mM.has.alloc _), own_kp hown ((Kp.refl (fun _ => False) (W)).alloc _) (fun _ hf => hf.elim), hch, hlt, hNW, Nat.le_trans hNle (by simp), blk_new _ _, hS.size, mM.has.off_new (fun k e => by rw [e]; exact Nat.le_refl _), own_new hown (Nat.le_refl _), trivial⟩)
        refine join_ (σ := Snap × Nat × Unit) 8 #[true, true, true, true, false, true, false, true, true, true, true, false, true, false, true, true, false, true, true, true, false, false, true, false] (fun zz => [(12, .pointer (some ⟨zz.2.1, 0, none⟩))]) (fun zz W => Below wr.heap.size wr W ∧ Mk wr h W (zz.1) ∧ W.heap[zz.2.1]? = some (.cells #[.slice none 0 0, .slice none 0 0, .slice none 0 0] 31) ∧ wr.heap.size ≤ (zz.2.1) ∧ Off (zz.1) (fun q => q = (zz.2.1)) ∧ True) ?_ (fun stz01 => ?_)
        · rintro ⟨hh, g, ⟨⟩⟩ W ⟨hS, mM, hg, hge, hog, -⟩
          dsimp only at mM hg hge hog
          refine norm_ (a' := ?_) ?_ ?_
          rotate_left
          · simp only [putAll, Act.put, List.setIfInBounds_toArray, List.set_cons_zero, List.set_cons_succ]
            rfl
          refine rg1 4 rfl (by kernel_rfl) (by decide) (by kernel_rfl) (fun K hK => ?_)
          refine app36S (sv := Value.slice none 0 0) (xv := .slice A0 s.vars.length k0) (us := s.vars) (h := hh) _ _ rfl (by go_simp) (World.ownsRow_nil (W) (W).heap.size 36 2) (by go_simp) mM.has (q0s.out.sub mM.sub) (by unfold lim; omega) (Nat.le_refl _) ?_
          intro vn W1 ys1 hown1 hch1 hgr hat
          rw [Nat.zero_add, List.nil_append] at hown1
          have kp : Kp (fun _ => False) (W) W1 := (Kp.refl (fun _ => False) (W)).grown hgr (fun q e => by cases e)
          have kb1 : Below wr.heap.size wr W1 := ((Kp.of_below (fun q => wr.heap.size ≤ q) hS).trans kp (fun q hq hf => hf.elim)).below (fun i hi hq => by omega)
          have has1 : Has W1 hh := mM.has.kp kp (Off.none _)
          have hlt1 : ∀ a u, hh a = some u → a.block < (W).heap.size := fun a u e => mM.has.lt e
          obtain ⟨An, cn, rfl⟩ := own_form hown1
          refine hK.out _ _ kb1 (fun hS2 => ?_)
          exact norm_ (by kernel_rfl) (stz11 (.slice An s.vars.length cn, hh, (W).heap.size, ys1, g, ()) _ ⟨hS2, mM.world has1, hown1, hch1, hlt1, hS.size, kp.size, blk_kp hg kp (fun hf => hf), hge, hog, fun e => by
              rcases hat _ e with e | e
              · cases e
              · have e1 : (W).heap.size ≤ g := e
                have := blk_lt hg
                omega, trivial⟩)
        have mM : Mk wr h wr.drew h := Mk.refl hh0.drew
        refine rg2 4 22 rfl rfl (by kernel_rfl) (by decide) (by decide) (by kernel_rfl) (by kernel_rfl) (fun K hK => ?_) (fun K hK => ?_)
        · refine app36S (sv := Value.slice none 0 0) (xv := .slice A0 s.vars.length k0) (us := s.vars) (h := h) _ _ rfl (by go_simp) (World.ownsRow_nil (wr.drew) (wr.drew).heap.size 36 2) (by go_simp) mM.has (q0s.out.sub mM.sub) (by unfold lim; omega) (Nat.le_refl _) ?_
          intro vn W1 ys1 hown1 hch1 hgr hat
          rw [Nat.zero_add, List.nil_append] at hown1
          have kp : Kp (fun _ => False) (wr.drew) W1 := (Kp.refl (fun _ => False) (wr.drew)).grown hgr (fun q e => by cases e)
          have kb1 : Below wr.heap.size wr W1 := ((Kp.of_below (fun q => wr.heap.size ≤ q) hS).trans kp (fun q hq hf => hf.elim)).below (fun i hi hq => by omega)
          have has1 : Has W1 h := mM.has.kp kp (Off.none _)
          have hlt1 : ∀ a u, h a = some u → a.block < (wr.drew).heap.size := fun a u e => mM.has.lt e
          obtain ⟨An, cn, rfl⟩ := own_form hown1
          refine hK.out _ _ kb1 (fun hS2 => ?_)
          exact norm_ (by kernel_rfl) (stz10 (.slice An s.vars.length cn, h, (wr.drew).heap.size, ys1, ()) _ ⟨hS2, mM.world has1, hown1, hch1, hlt1, hS.size, kp.size, trivial⟩)
        · go_simp
          refine hK.out _ _ (hS.alloc hS.size _) (fun hS2 => ?_)
          exact norm_ (by kernel_rfl) (stz01 (h, (wr.drew).heap.size, ()) _ ⟨hS2, mM.world (mM.has.alloc _), blk_new _ _, hS.size, mM.has.off_new (fun k e => by rw [e]; exact Nat.le_refl _), trivial⟩)
  · have k5' : (t.k != 5) = true := by simp [k5]
    replace hk5' := Lib.hid (hk5'.out k5)
    clear k5
    go_wp2_with fail
    refine (Typed_calls p s t u _ _ _ _ _ h HW rp0.out rs0.out rt0s.out ru0.out (by have := hsum.out; omega)).mono ?_
    rintro e w5 ⟨rfl, kk⟩
    clear x0 x1 x2 x3 x4 x5 x6 x7 x8 x9 x10 x11 x12 x13 y0 y1
    replace b1 := box_below b1 kk
    replace b2 := box_below b2 kk
    replace kb := below_then kb kk kb.size
    clear kk
    have x0 : w5.cell? ⟨w.heap.size, 0, none⟩ = some (.slice At p.types.length kt) := blk_cell b1 0
    have x1 : w5.cell? ⟨w.heap.size, 1, none⟩ = some (.slice Ac p.consts.length kc) := blk_cell b1 1
    have x2 : w5.cell? ⟨w.heap.size, 2, none⟩ = some (.slice Z2 n2 z2) := blk_cell b1 2
    have x3 : w5.cell? ⟨w.heap.size, 3, none⟩ = some (.slice Z3 n3 z3) := blk_cell b1 3
    have x4 : w5.cell? ⟨w.heap.size, 4, none⟩ = some (.slice Z4 n4 z4) := blk_cell b1 4
    have x5 : w5.cell? ⟨w.heap.size, 5, none⟩ = some (.slice A0 s.vars.length k0) := blk_cell b1 5
    have x6 : w5.cell? ⟨w.heap.size, 6, none⟩ = some (.slice A1 s.pars.length k1) := blk_cell b1 6
    have x7 : w5.cell? ⟨w.heap.size, 7, none⟩ = some (.slice A2 s.bound.length k2) := blk_cell b1 7
    have x8 : w5.cell? ⟨w.heap.size, 8, none⟩ = some (.int .i64 t.k) := blk_cell b1 8
    have x9 : w5.cell? ⟨w.heap.size, 9, none⟩ = some (.int .i64 t.n) := blk_cell b1 9
    have x10 : w5.cell? ⟨w.heap.size, 10, none⟩ = some (.string t.nm) := blk_cell b1 10
    have x11 : w5.cell? ⟨w.heap.size, 11, none⟩ = some (.slice A t.ar.length cap) := blk_cell b1 11
    have x12 : w5.cell? ⟨w.heap.size, 12, none⟩ = some (.string ty.nm) := blk_cell b1 12
    have x13 : w5.cell? ⟨w.heap.size, 13, none⟩ = some (.slice Ay ty.ar.length cy) := blk_cell b1 13
    have y0 : w5.cell? ⟨w.heap.size + 1, 0, none⟩ = some (.string u.nm) := blk_cell b2 0
    have y1 : w5.cell? ⟨w.heap.size + 1, 1, none⟩ = some (.slice Au u.ar.length cu) := blk_cell b2 1
    replace HW := H.below kb
    obtain ⟨e2, he2⟩ : ∃ e2, typedP p s t u = e2 := ⟨_, rfl⟩
    rw [he2] at hk5' ⊢
    clear he2
    cases c4 : e2 == 0
    · clear hk5'
      go_wp2_with fail
      go_loopw [8] (fun i wr => ∃ k : Nat, k ≤ m.length ∧ i = .int .i64 k ∧ Below w5.heap.size w5 wr ∧ Hid (chkL p.types (m.drop k) = chkL p.types m)) (fun i _ => m.length - (intOf i).toNat)
      case atStart => exact ⟨0, by omega, rfl, Below.refl _ _, by show _ = _; simp⟩
      case round =>
        obtain ⟨k, hk, rfl, hbx, hJ⟩ := hrel
        replace b1 := box_below b1 hbx
        replace b2 := box_below b2 hbx
        replace kb := below_then kb hbx kb.size
        clear x0 x1 x2 x3 x4 x5 x6 x7 x8 x9 x10 x11 x12 x13 y0 y1
        have x0 : wr.cell? ⟨w.heap.size, 0, none⟩ = some (.slice At p.types.length kt) := blk_cell b1 0
        have x1 : wr.cell? ⟨w.heap.size, 1, none⟩ = some (.slice Ac p.consts.length kc) := blk_cell b1 1
        have x2 : wr.cell? ⟨w.heap.size, 2, none⟩ = some (.slice Z2 n2 z2) := blk_cell b1 2
        have x3 : wr.cell? ⟨w.heap.size, 3, none⟩ = some (.slice Z3 n3 z3) := blk_cell b1 3
        have x4 : wr.cell? ⟨w.heap.size, 4, none⟩ = some (.slice Z4 n4 z4) := blk_cell b1 4
        have x5 : wr.cell? ⟨w.heap.size, 5, none⟩ = some (.slice A0 s.vars.length k0) := blk_cell b1 5
        have x6 : wr.cell? ⟨w.heap.size, 6, none⟩ = some (.slice A1 s.pars.length k1) := blk_cell b1 6
        have x7 : wr.cell? ⟨w.heap.size, 7, none⟩ = some (.slice A2 s.bound.length k2) := blk_cell b1 7
        have x8 : wr.cell? ⟨w.heap.size, 8, none⟩ = some (.int .i64 t.k) := blk_cell b1 8
        have x9 : wr.cell? ⟨w.heap.size, 9, none⟩ = some (.int .i64 t.n) := blk_cell b1 9
        have x10 : wr.cell? ⟨w.heap.size, 10, none⟩ = some (.string t.nm) := blk_cell b1 10
        have x11 : wr.cell? ⟨w.heap.size, 11, none⟩ = some (.slice A t.ar.length cap) := blk_cell b1 11
        have x12 : wr.cell? ⟨w.heap.size, 12, none⟩ = some (.string ty.nm) := blk_cell b1 12
        have x13 : wr.cell? ⟨w.heap.size, 13, none⟩ = some (.slice Ay ty.ar.length cy) := blk_cell b1 13
        have y0 : wr.cell? ⟨w.heap.size + 1, 0, none⟩ = some (.string u.nm) := blk_cell b2 0
        have y1 : wr.cell? ⟨w.heap.size + 1, 1, none⟩ = some (.slice Au u.ar.length cu) := blk_cell b2 1
        replace HW := H.below kb
        by_cases hlk : k < m.length
        · obtain ⟨b', o', A', c', rfl, f0, f1, rx⟩ := hrm'.out.get k hlk
          have hc0 := HW.cell _ _ f0
          have hc1 := HW.cell _ _ f1
          have hJ2 : Hid ((if checkP p.types m[k] = 0 then chkL p.types (m.drop (k + 1)) else checkP p.types m[k]) = chkL p.types m) := Lib.hid (by have := hJ.out; rw [List.drop_eq_getElem_cons hlk, chkL] at this; exact this)
          clear hJ f0 f1
          have hir : (k : Int) < (m.length : Int) := by omega
          generalize m[k] = X at *
          go_wp2_with fail
          refine rgs 8 (fun V => Below wr.heap.size wr V) [] rfl ((Below.refl _ _).drew) (fun hS => ?_)
          refine rgt 0 (.pointer (some ⟨w.heap.size, 0, none⟩)) rfl (by kernel_rfl) (fun _ _ _ h => h) (by kernel_rfl) hS (fun V hV => by go_simp) ?_
          refine rgt 1 (.agg #[.slice At p.types.length kt, .slice Ac p.consts.length kc, .slice Z2 n2 z2, .slice Z3 n3 z3, .slice Z4 n4 z4]) rfl (by kernel_rfl) (fun _ _ _ h => h) (by kernel_rfl) hS (fun V hV => by have q0 := cell_below x0 hV; have q1 := cell_below x1 hV; have q2 := cell_below x2 hV; have q3 := cell_below x3 hV; have q4 := cell_below x4 hV; go_simp) ?_
          refine rgt 2 (.slice (some ⟨b', o', none⟩) m.length cm) rfl (by kernel_rfl) (fun _ _ _ h => h) (by kernel_rfl) hS (fun V hV => by go_simp) ?_
          refine rgt 3 (.int .i64 k) rfl (by kernel_rfl) (fun _ _ _ h => h) (by kernel_rfl) hS (fun V hV => by go_simp) ?_
          refine rgt 4 (.pointer (some ⟨b', o' + k * 2, none⟩)) rfl (by kernel_rfl) (fun _ _ _ h => h) (by kernel_rfl) hS (fun V hV => by go_simp) ?_
          refine rgt 5 (.agg #[.string X.nm, .slice A' X.ar.length c']) rfl (by kernel_rfl) (fun _ _ _ h => h) (by kernel_rfl) hS (fun V hV => by have q0 := cell_below hc0 hV; have q1 := cell_below hc1 hV; go_simp) ?_
          refine rg1 6 rfl (by kernel_rfl) (by decide) (by kernel_rfl) (fun K hK => ?_)
          have hS0 := hS
          go_simp
          refine (RCheckType_calls p X _ _ _ h HW.drew rp0.out rx).mono ?_
          rintro e w5 ⟨rfl, k5⟩
          rw [← checkP_eq]
          simp only []
          refine hK.out _ _ (below_then hS0 k5 hS0.size) (fun hS => ?_)
          have hb5 := below_then hbx hS hbx.size
          have kb5 := below_then kb hS kb.size
          by_cases qc : checkP p.types X = 0
          · have qc' : (checkP p.types X != 0) = false := by simp [qc]
            have hJ3 : Hid (chkL p.types (m.drop (k + 1)) = chkL p.types m) := Lib.hid (by have := hJ2.out; rw [if_pos qc] at this; exact this)
            refine rgt 7 (.bool false) rfl (by kernel_rfl) (fun _ _ _ h => h) (by kernel_rfl) hS (fun V hV => by go_simp) ?_
            refine rgd (by kernel_rfl) ?_
            clear qc hJ2
            go_wp2_with fail
            exact ⟨⟨k + 1, by omega, by simp, hb5, hJ3⟩, by simp [intOf]; omega⟩
          · have qc' : (checkP p.types X != 0) = true := by simp [qc]
            refine rgt 7 (.bool true) rfl (by kernel_rfl) (fun _ _ _ h => h) (by kernel_rfl) hS (fun V hV => by go_simp) ?_
            refine rgd (by kernel_rfl) ?_
            clear qc hJ2
            go_wp2_with fail
            go_ret
            exact ⟨rfl, kb5⟩
        · have hke : k = m.length := by omega
          have hm0 : Hid (chkL p.types m = 0) := Lib.hid (by
            have := hJ.out
            rw [hke, List.drop_length] at this
            exact this.symm)
          have hfin := Lib.hid (hmore.out hT.out hm0.out)
          clear hJ hke
          have c2' : m.length ≤ 20 := by omega
          obtain ⟨c20, hc20⟩ : ∃ c, c = m.length := ⟨_, rfl⟩
          clear hc20 c20
          go_wp2_with fail
          have hh0 := HW
          have hs60 := hsum.out
          refine rgs 24 (fun V => Below wr.heap.size wr V) [23] rfl ((Below.refl _ _).drew) (fun hS => ?_)
          refine rgnf 0 90 (.slice none 0 0) rfl rfl (by kernel_rfl) (fun _ _ _ h => h) (by kernel_rfl) hS (fun V hV => by go_simp) ?_
          refine rgnf 1 91 (.pointer (some ⟨w.heap.size, 5, none⟩)) rfl rfl (by kernel_rfl) (fun _ _ _ h => h) (by kernel_rfl) hS (fun V hV => by go_simp) ?_
          refine rgnf 2 92 (.pointer (some ⟨w.heap.size, 5, none⟩)) rfl rfl (by kernel_rfl) (fun _ _ _ h => h) (by kernel_rfl) hS (fun V hV => by go_simp) ?_
          refine rgnf 3 93 (.slice A0 s.vars.length k0) rfl rfl (by kernel_rfl) (fun _ _ _ h => h) (by kernel_rfl) hS (fun V hV => by have q0 := cell_below x5 hV; go_simp) ?_
          refine rgnf 5 95 (.slice Am m.length cm) rfl rfl (by kernel_rfl) (fun _ _ _ h => h) (by kernel_rfl) hS (fun V hV => by go_simp) ?_
          refine rgnf 7 97 (.slice none 0 0) rfl rfl (by kernel_rfl) (fun _ _ _ h => h) (by kernel_rfl) hS (fun V hV => by go_simp) ?_
          refine rgnf 8 98 (.pointer (some ⟨w.heap.size, 5, none⟩)) rfl rfl (by kernel_rfl) (fun _ _ _ h => h) (by kernel_rfl) hS (fun V hV => by go_simp) ?_
          refine rgnf 9 99 (.pointer (some ⟨w.heap.size, 6, none⟩)) rfl rfl (by kernel_rfl) (fun _ _ _ h => h) (by kernel_rfl) hS (fun V hV => by go_simp) ?_
          refine rgnf 10 100 (.slice A1 s.pars.length k1) rfl rfl (by kernel_rfl) (fun _ _ _ h => h) (by kernel_rfl) hS (fun V hV => by have q0 := cell_below x6 hV; go_simp) ?_
          refine rgnf 12 102 (.slice Am m.length cm) rfl rfl (by kernel_rfl) (fun _ _ _ h => h) (by kernel_rfl) hS (fun V hV => by go_simp) ?_
          refine rgnf 14 104 (.slice none 0 0) rfl rfl (by kernel_rfl) (fun _ _ _ h => h) (by kernel_rfl) hS (fun V hV => by go_simp) ?_
          refine rgnf 15 105 (.slice Am m.length cm) rfl rfl (by kernel_rfl) (fun _ _ _ h => h) (by kernel_rfl) hS (fun V hV => by go_simp) ?_
          refine rgnf 17 107 (.pointer (some ⟨w.heap.size, 5, none⟩)) rfl rfl (by kernel_rfl) (fun _ _ _ h => h) (by kernel_rfl) hS (fun V hV => by go_simp) ?_
          refine rgnf 18 108 (.pointer (some ⟨w.heap.size, 7, none⟩)) rfl rfl (by kernel_rfl) (fun _ _ _ h => h) (by kernel_rfl) hS (fun V hV => by go_simp) ?_
          refine rgnf 19 109 (.slice A2 s.bound.length k2) rfl rfl (by kernel_rfl) (fun _ _ _ h => h) (by kernel_rfl) hS (fun V hV => by have q0 := cell_below x7 hV; go_simp) ?_
          simp only [Act.put, List.setIfInBounds_toArray, List.set_cons_zero, List.set_cons_succ]
          refine join_ (σ := Value × Value × Value × Value × Value × Value × Snap × Nat × Unit) 1 #[true, true, true, true, true, true, true, true, true, true, true, true, true, true, true, true, true, true, true, true, true, true, true, false] (fun zz => [(94, zz.1), (96, zz.2.1), (101, zz.2.2.1), (103, zz.2.2.2.1), (106, zz.2.2.2.2.1), (110, zz.2.2.2.2.2.1), (111, .agg #[(zz.2.1), (zz.2.2.2.1), (zz.2.2.2.2.2.1)]), (12, .pointer (some ⟨zz.2.2.2.2.2.2.2.1, 0, none⟩))]) (fun zz W => Below wr.heap.size wr W ∧ Mk wr h W (zz.2.2.2.2.2.2.1) ∧ TyS (zz.2.2.2.2.2.2.1) (s.vars ++ m) (zz.2.1) ∧ TyS (zz.2.2.2.2.2.2.1) (s.pars ++ m) (zz.2.2.2.1) ∧ TyS (zz.2.2.2.2.2.2.1) (m ++ s.bound) (zz.2.2.2.2.2.1) ∧ W.heap[zz.2.2.2.2.2.2.2.1]? = some (.cells #[.slice none 0 0, .slice none 0 0, .slice none 0 0] 31) ∧ wr.heap.size ≤ (zz.2.2.2.2.2.2.2.1) ∧ Off (zz.2.2.2.2.2.2.1) (fun q => q = (zz.2.2.2.2.2.2.2.1)) ∧ True) ?_ (fun stz61 => ?_)
          · rintro ⟨v1, v2, v3, v4, v5, v6, hh, g, ⟨⟩⟩ W ⟨hS, mM, rt0, rt1, rt2, hg, hge, hog, -⟩
            dsimp only at mM rt0 rt1 rt2 hg hge hog
            refine norm_ (a' := ?_) ?_ ?_
            rotate_left
            · simp only [putAll, Act.put, List.setIfInBounds_toArray, List.set_cons_zero, List.set_cons_succ]
              rfl
            obtain ⟨B0, d0, rfl, -, -, -⟩ := id rt0
            obtain ⟨B1, d1, rfl, -, -, -⟩ := id rt1
            obtain ⟨B2, d2, rfl, -, -, -⟩ := id rt2
            rw [List.length_append] at rt0 rt1 rt2
            obtain ⟨xg0, xg1, xg2⟩ := bx3f hg
            have zg := blk_frozen hg
            have lg := blk_lt hg
            refine rgl 23 rfl (by kernel_rfl) (by decide) (by kernel_rfl) (fun K hK => ?_)
            go_simp
            refine hK.out _ _ ?_
            refine rgd (by kernel_rfl) ?_
            obtain ⟨WF, hWF, bF, kpF⟩ : ∃ WF, (((W.setCell ⟨g, 0, none⟩ (.slice B0 (s.vars.length + m.length) d0)).setCell ⟨g, 1, none⟩ (.slice B1 (s.pars.length + m.length) d1)).setCell ⟨g, 2, none⟩ (.slice B2 (m.length + s.bound.length) d2)) = WF ∧ WF.heap[g]? = some (.cells #[.slice B0 (s.vars.length + m.length) d0, .slice B1 (s.pars.length + m.length) d1, .slice B2 (m.length + s.bound.length) d2] 31) ∧ Kp (fun q => q = g) W WF := ⟨_, rfl, (set3f hg _ _ _).1, (set3f hg _ _ _).2⟩
            rw [hWF]
            have HF := mM.has.kp kpF hog
            have hsb := mM.sub
            have kF : Below w.heap.size w WF := ((Kp.of_below (fun q => q = g) (below_then kb hS kb.size)).trans kpF (fun i hi e => e)).below (fun i hi (e : i = g) => by have h1 := hge; have h2 := kb.size; omega)
            have b3 := blk_kp (box_below b1 hS) kpF (fun (e : w.heap.size = g) => by have h1 := hge; have h2 := blk_lt b1; omega)
            have b4 := blk_kp (box_below b2 hS) kpF (fun (e : w.heap.size + 1 = g) => by have h1 := hge; have h2 := blk_lt b2; omega)
            clear hWF xg0 xg1 xg2 zg lg hK hS kpF hog hg hge mM b1 b2
            have b1 := b3
            have b2 := b4
            clear b3 b4 x0 x1 x2 x3 x4 x5 x6 x7 x8 x9 x10 x11 x12 x13 y0 y1
            have x0 : WF.cell? ⟨w.heap.size, 0, none⟩ = some (.slice At p.types.length kt) := blk_cell b1 0
            have x1 : WF.cell? ⟨w.heap.size, 1, none⟩ = some (.slice Ac p.consts.length kc) := blk_cell b1 1
            have x2 : WF.cell? ⟨w.heap.size, 2, none⟩ = some (.slice Z2 n2 z2) := blk_cell b1 2
            have x3 : WF.cell? ⟨w.heap.size, 3, none⟩ = some (.slice Z3 n3 z3) := blk_cell b1 3
            have x4 : WF.cell? ⟨w.heap.size, 4, none⟩ = some (.slice Z4 n4 z4) := blk_cell b1 4
            have x5 : WF.cell? ⟨w.heap.size, 5, none⟩ = some (.slice A0 s.vars.length k0) := blk_cell b1 5
            have x6 : WF.cell? ⟨w.heap.size, 6, none⟩ = some (.slice A1 s.pars.length k1) := blk_cell b1 6
            have x7 : WF.cell? ⟨w.heap.size, 7, none⟩ = some (.slice A2 s.bound.length k2) := blk_cell b1 7
            have x8 : WF.cell? ⟨w.heap.size, 8, none⟩ = some (.int .i64 t.k) := blk_cell b1 8
            have x9 : WF.cell? ⟨w.heap.size, 9, none⟩ = some (.int .i64 t.n) := blk_cell b1 9
            have x10 : WF.cell? ⟨w.heap.size, 10, none⟩ = some (.string t.nm) := blk_cell b1 10
            have x11 : WF.cell? ⟨w.heap.size, 11, none⟩ = some (.slice A t.ar.length cap) := blk_cell b1 11
            have x12 : WF.cell? ⟨w.heap.size, 12, none⟩ = some (.string ty.nm) := blk_cell b1 12
            have x13 : WF.cell? ⟨w.heap.size, 13, none⟩ = some (.slice Ay ty.ar.length cy) := blk_cell b1 13
            have y0 : WF.cell? ⟨w.heap.size + 1, 0, none⟩ = some (.string u.nm) := blk_cell b2 0
            have y1 : WF.cell? ⟨w.heap.size + 1, 1, none⟩ = some (.slice Au u.ar.length cu) := blk_cell b2 1
            obtain ⟨xg0, xg1, xg2⟩ := bx3f bF
            go_wp2_with fail
            refine (Typed_calls p ⟨s.vars ++ m, s.pars ++ m, m ++ s.bound⟩ t ty _ _ _ _ _ hh HF (rp0.out.sub hsb) ⟨_, _, _, rfl, rt0, rt1, rt2⟩ (rt0s.out.sub hsb) (ry0.out.sub hsb) (by have := hsum.out; simp; omega)).mono ?_
            rintro e wE ⟨rfl, kE⟩
            rw [hfin.out]
            go_wp2_with fail
            go_ret
            exact ⟨rfl, below_then kF kE kF.size⟩
          refine join_ (σ := Value × Value × Value × Value × Value × Value × Snap × Unit) 2 #[true, true, true, true, true, true, true, true, true, true, true, true, true, true, true, true, true, true, true, true, true, true, false, false] (fun zz => [(94, zz.1), (96, zz.2.1), (101, zz.2.2.1), (103, zz.2.2.2.1), (106, zz.2.2.2.2.1), (110, zz.2.2.2.2.2.1), (111, .agg #[(zz.2.1), (zz.2.2.2.1), (zz.2.2.2.2.2.1)])]) (fun zz W => Below wr.heap.size wr W ∧ Mk wr h W (zz.2.2.2.2.2.2.1) ∧ TyS (zz.2.2.2.2.2.2.1) (s.vars ++ m) (zz.2.1) ∧ TyS (zz.2.2.2.2.2.2.1) (s.pars ++ m) (zz.2.2.2.1) ∧ TyS (zz.2.2.2.2.2.2.1) (m ++ s.bound) (zz.2.2.2.2.2.1) ∧ True) ?_ (fun stz60 => ?_)
          · rintro ⟨v1, v2, v3, v4, v5, v6, hh, ⟨⟩⟩ W ⟨hS, mM, rt0, rt1, rt2, -⟩
            dsimp only at mM rt0 rt1 rt2
            refine norm_ (a' := ?_) ?_ ?_
            rotate_left
            · simp only [putAll, Act.put, List.setIfInBounds_toArray, List.set_cons_zero, List.set_cons_succ]
              rfl
            refine rg1 22 rfl (by kernel_rfl) (by decide) (by kernel_rfl) (fun K hK => ?_)
            go_simp
            refine hK.out _ _ (hS.alloc hS.size _) (fun hS2 => ?_)
            exact norm_ (by kernel_rfl) (stz61 (v1, v2, v3, v4, v5, v6, hh, (W).heap.size, ()) _ ⟨hS2, mM.world (mM.has.alloc _), rt0, rt1, rt2, blk_new _ _, hS.size, mM.has.off_new (fun k e => by rw [e]; exact Nat.le_refl _), trivial⟩)
          refine join_ (σ := Value × Value × Value × Value × Value × Snap × Nat × List Value × Nat × Unit) 3 #[true, true, true, true, true, true, true, true, true, true, true, true, true, true, true, true, true, true, true, true, false, false, true, false] (fun zz => [(94, zz.1), (96, zz.2.1), (101, zz.2.2.1), (103, zz.2.2.2.1), (106, zz.2.2.2.2.1), (12, .pointer (some ⟨zz.2.2.2.2.2.2.2.2.1, 0, none⟩))]) (fun zz W => Below wr.heap.size wr W ∧ Mk wr h W (zz.2.2.2.2.2.1) ∧ TyS (zz.2.2.2.2.2.1) (s.vars ++ m) (zz.2.1) ∧ TyS (zz.2.2.2.2.2.1) (s.pars ++ m) (zz.2.2.2.1) ∧ W.ownsRow (zz.2.2.2.2.2.2.1) 36 2 (zz.2.2.2.2.1) m.length (zz.2.2.2.2.2.2.2.1) ∧ Chunks (TyR (zz.2.2.2.2.2.1)) 2 m (zz.2.2.2.2.2.2.2.1) ∧ (∀ a u, (zz.2.2.2.2.2.1) a = some u → a.block < (zz.2.2.2.2.2.2.1)) ∧ wr.heap.size ≤ (zz.2.2.2.2.2.2.1) ∧ (zz.2.2.2.2.2.2.1) ≤ W.heap.size ∧ W.heap[zz.2.2.2.2.2.2.2.2.1]? = some (.cells #[.slice none 0 0, .slice none 0 0, .slice none 0 0] 31) ∧ wr.heap.size ≤ (zz.2.2.2.2.2.2.2.2.1) ∧ Off (zz.2.2.2.2.2.1) (fun q => q = (zz.2.2.2.2.2.2.2.2.1)) ∧ (zz.2.2.2.2.1).ownBlock ≠ some (zz.2.2.2.2.2.2.2.2.1) ∧ True) ?_ (fun stz51 => ?_)
          · rintro ⟨v1, v2, v3, v4, v5, hh, N, ys, g, ⟨⟩⟩ W ⟨hS, mM, rt0, rt1, hown, hch, hlt, hNW, hNle, hg, hge, hog, hne, -⟩
            dsimp only at mM rt0 rt1 hown hch hlt hNW hNle hg hge hog hne
            refine norm_ (a' := ?_) ?_ ?_
            rotate_left
            · simp only [putAll, Act.put, List.setIfInBounds_toArray, List.set_cons_zero, List.set_cons_succ]
              rfl
            refine rg1 20 rfl (by kernel_rfl) (by decide) (by kernel_rfl) (fun K hK => ?_)
            refine app36S (sv := v5) (xv := .slice A2 s.bound.length k2) (us := s.bound) (h := hh) _ _ rfl (by go_simp) hown (by go_simp) mM.has (q2s.out.sub mM.sub) (by unfold lim; omega) hNle ?_
            intro vn W1 ys1 hown1 hch1 hgr hat
            have kp : Kp (fun q => (v5).ownBlock = some q) (W) W1 := (Kp.refl (fun q => (v5).ownBlock = some q) (W)).grown hgr (fun q e => .inl e)
            have kb1 : Below wr.heap.size wr W1 := ((Kp.of_below (fun q => wr.heap.size ≤ q) hS).trans kp (fun q hq e => by have := (hown.lt _ e).1; omega)).below (fun i hi hq => by omega)
            have has1 : Has W1 hh := mM.has.kp kp ⟨fun a u e hq => by have := hlt a u e; have := (hown.lt _ hq).1; omega⟩
            obtain ⟨h3, r3, m3, z3⟩ := own_TyS (w0 := wr) has1 hNW hown1 (hch.append hch1) (by unfold lim; simp; omega)
            obtain ⟨An, cn, rfl⟩ := own_form hown1
            refine hK.out _ _ kb1 (fun hS2 => ?_)
            have hog3 : Off h3 (fun q => q = g) := ⟨fun a u e hq => by
              have hq' : a.block = g := hq
              rcases z3 a u e with e1 | e1
              · exact hog.at_ a u e1 hq
              · rcases hat _ e1 with e2 | e2
                · rw [hq'] at e2; exact hne e2
                · have e1 : (W).heap.size ≤ a.block := e2
                  have := blk_lt hg
                  omega⟩
            obtain ⟨Aq0, cq0, rfl, -, -, -⟩ := id rt0
            obtain ⟨Aq1, cq1, rfl, -, -, -⟩ := id rt1
            refine norm_ (a' := Act.put _ (some 110) _) rfl ?_
            simp only [Act.put, List.setIfInBounds_toArray, List.set_cons_zero, List.set_cons_succ]
            refine rgnf 21 111 (.agg #[(.slice Aq0 (s.vars ++ m).length cq0), (.slice Aq1 (s.pars ++ m).length cq1), (.slice An (m.length + s.bound.length) cn)]) rfl rfl (by kernel_rfl) (fun _ _ _ h => h) (by kernel_rfl) hS2 (fun V hV => by go_simp) ?_
            exact norm_ (by kernel_rfl) (stz61 (v1, .slice Aq0 (s.vars ++ m).length cq0, v3, .slice Aq1 (s.pars ++ m).length cq1, v5, .slice An (m.length + s.bound.length) cn, h3, g, ()) _ ⟨hS2, mM.then_ m3, rt0.sub m3.sub, rt1.sub m3.sub, r3, blk_kp hg kp hne, hge, hog3, trivial⟩)
          refine join_ (σ := Value × Value × Value × Value × Value × Snap × Nat × List Value × Unit) 4 #[true, true, true, true, true, true, true, true, true, true, true, true, true, true, true, true, true, true, true, true, false, false, false, false] (fun zz => [(94, zz.1), (96, zz.2.1), (101, zz.2.2.1), (103, zz.2.2.2.1), (106, zz.2.2.2.2.1)]) (fun zz W => Below wr.heap.size wr W ∧ Mk wr h W (zz.2.2.2.2.2.1) ∧ TyS (zz.2.2.2.2.2.1) (s.vars ++ m) (zz.2.1) ∧ TyS (zz.2.2.2.2.2.1) (s.pars ++ m) (zz.2.2.2.1) ∧ W.ownsRow (zz.2.2.2.2.2.2.1) 36 2 (zz.2.2.2.2.1) m.length (zz.2.2.2.2.2.2.2.1) ∧ Chunks (TyR (zz.2.2.2.2.2.1)) 2 m (zz.2.2.2.2.2.2.2.1) ∧ (∀ a u, (zz.2.2.2.2.2.1) a = some u → a.block < (zz.2.2.2.2.2.2.1)) ∧ wr.heap.size ≤ (zz.2.2.2.2.2.2.1) ∧ (zz.2.2.2.2.2.2.1) ≤ W.heap.size ∧ True) ?_ (fun stz50 => ?_)
          · rintro ⟨v1, v2, v3, v4, v5, hh, N, ys, ⟨⟩⟩ W ⟨hS, mM, rt0, rt1, hown, hch, hlt, hNW, hNle, -⟩
            dsimp only at mM rt0 rt1 hown hch hlt hNW hNle
            refine norm_ (a' := ?_) ?_ ?_
            rotate_left
            · simp only [putAll, Act.put, List.setIfInBounds_toArray, List.set_cons_zero, List.set_cons_succ]
              rfl
            refine rg2 20 22 rfl rfl (by kernel_rfl) (by decide) (by decide) (by kernel_rfl) (by kernel_rfl) (fun K hK => ?_) (fun K hK => ?_)
            · refine app36S (sv := v5) (xv := .slice A2 s.bound.length k2) (us := s.bound) (h := hh) _ _ rfl (by go_simp) hown (by go_simp) mM.has (q2s.out.sub mM.sub) (by unfold lim; omega) hNle ?_
              intro vn W1 ys1 hown1 hch1 hgr hat
              have kp : Kp (fun q => (v5).ownBlock = some q) (W) W1 := (Kp.refl (fun q => (v5).ownBlock = some q) (W)).grown hgr (fun q e => .inl e)
              have kb1 : Below wr.heap.size wr W1 := ((Kp.of_below (fun q => wr.heap.size ≤ q) hS).trans kp (fun q hq e => by have := (hown.lt _ e).1; omega)).below (fun i hi hq => by omega)
              have has1 : Has W1 hh := mM.has.kp kp ⟨fun a u e hq => by have := hlt a u e; have := (hown.lt _ hq).1; omega⟩
              obtain ⟨h3, r3, m3, z3⟩ := own_TyS (w0 := wr) has1 hNW hown1 (hch.append hch1) (by unfold lim; simp; omega)
              obtain ⟨An, cn, rfl⟩ := own_form hown1
              refine hK.out _ _ kb1 (fun hS2 => ?_)
              obtain ⟨Aq0, cq0, rfl, -, -, -⟩ := id rt0
              obtain ⟨Aq1, cq1, rfl, -, -, -⟩ := id rt1
              refine norm_ (a' := Act.put _ (some 110) _) rfl ?_
              simp only [Act.put, List.setIfInBounds_toArray, List.set_cons_zero, List.set_cons_succ]
              refine rgnf 21 111 (.agg #[(.slice Aq0 (s.vars ++ m).length cq0), (.slice Aq1 (s.pars ++ m).length cq1), (.slice An (m.length + s.bound.length) cn)]) rfl rfl (by kernel_rfl) (fun _ _ _ h => h) (by kernel_rfl) hS2 (fun V hV => by go_simp) ?_
              exact norm_ (by kernel_rfl) (stz60 (v1, .slice Aq0 (s.vars ++ m).length cq0, v3, .slice Aq1 (s.pars ++ m).length cq1, v5, .slice An (m.length + s.bound.length) cn, h3, ()) _ ⟨hS2, mM.then_ m3, rt0.sub m3.sub, rt1.sub m3.sub, r3, trivial⟩)
            · go_simp
              refine hK.out _ _ (hS.alloc hS.size _) (fun hS2 => ?_)
              exact norm_ (by kernel_rfl) (stz51 (v1, v2, v3, v4, v5, hh, N, ys, (W).heap.size, ()) _ ⟨hS2, mM.world (mM.has.alloc _), rt0, rt1, own_kp hown ((Kp.refl (fun _ => False) (W)).alloc _) (fun _ hf => hf.elim), hch, hlt, hNW, Nat.le_trans hNle (by simp), blk_new _ _, hS.size, mM.has.off_new (fun k e => by rw [e]; exact Nat.le_refl _), own_new hown (Nat.le_refl _), trivial⟩)
          refine join_ (σ := Value × Value × Value × Value × Snap × Nat × Unit) 4 #[true, true, true, true, true, true, true, true, true, true, true, true, true, true, true, true, false, true, true, true, false, false, true, false] (fun zz => [(94, zz.1), (96, zz.2.1), (101, zz.2.2.1), (103, zz.2.2.2.1), (12, .pointer (some ⟨zz.2.2.2.2.2.1, 0, none⟩))]) (fun zz W => Below wr.heap.size wr W ∧ Mk wr h W (zz.2.2.2.2.1) ∧ TyS (zz.2.2.2.2.1) (s.vars ++ m) (zz.2.1) ∧ TyS (zz.2.2.2.2.1) (s.pars ++ m) (zz.2.2.2.1) ∧ W.heap[zz.2.2.2.2.2.1]? = some (.cells #[.slice none 0 0, .slice none 0 0, .slice none 0 0] 31) ∧ wr.heap.size ≤ (zz.2.2.2.2.2.1) ∧ Off (zz.2.2.2.2.1) (fun q => q = (zz.2.2.2.2.2.1)) ∧ True) ?_ (fun stz41 => ?_)
          · rintro ⟨v1, v2, v3, v4, hh, g, ⟨⟩⟩ W ⟨hS, mM, rt0, rt1, hg, hge, hog, -⟩
            dsimp only at mM rt0 rt1 hg hge hog
            refine norm_ (a' := ?_) ?_ ?_
            rotate_left
            · simp only [putAll, Act.put, List.setIfInBounds_toArray, List.set_cons_zero, List.set_cons_succ]
              rfl
            refine rg1 16 rfl (by kernel_rfl) (by decide) (by kernel_rfl) (fun K hK => ?_)
            refine app36S (sv := Value.slice none 0 0) (xv := .slice Am m.length cm) (us := m) (h := hh) _ _ rfl (by go_simp) (World.ownsRow_nil (W) (W).heap.size 36 2) (by go_simp) mM.has (rm0.out.sub mM.sub) (by unfold lim; omega) (Nat.le_refl _) ?_
            intro vn W1 ys1 hown1 hch1 hgr hat
            rw [Nat.zero_add, List.nil_append] at hown1
            have kp : Kp (fun _ => False) (W) W1 := (Kp.refl (fun _ => False) (W)).grown hgr (fun q e => by cases e)
            have kb1 : Below wr.heap.size wr W1 := ((Kp.of_below (fun q => wr.heap.size ≤ q) hS).trans kp (fun q hq hf => hf.elim)).below (fun i hi hq => by omega)
            have has1 : Has W1 hh := mM.has.kp kp (Off.none _)
            have hlt1 : ∀ a u, hh a = some u → a.block < (W).heap.size := fun a u e => mM.has.lt e
            obtain ⟨An, cn, rfl⟩ := own_form hown1
            refine hK.out _ _ kb1 (fun hS2 => ?_)
            exact norm_ (by kernel_rfl) (stz51 (v1, v2, v3, v4, .slice An m.length cn, hh, (W).heap.size, ys1, g, ()) _ ⟨hS2, mM.world has1, rt0, rt1, hown1, hch1, hlt1, hS.size, kp.size, blk_kp hg kp (fun hf => hf), hge, hog, fun e => by
                rcases hat _ e with e | e
                · cases e
                · have e1 : (W).heap.size ≤ g := e
                  have := blk_lt hg
                  omega, trivial⟩)
          refine join_ (σ := Value × Value × Value × Value × Snap × Unit) 5 #[true, true, true, true, true, true, true, true, true, true, true, true, true, true, true, true, false, true, true, true, false, false, false, false] (fun zz => [(94, zz.1), (96, zz.2.1), (101, zz.2.2.1), (103, zz.2.2.2.1)]) (fun zz W => Below wr.heap.size wr W ∧ Mk wr h W (zz.2.2.2.2.1) ∧ TyS (zz.2.2.2.2.1) (s.vars ++ m) (zz.2.1) ∧ TyS (zz.2.2.2.2.1) (s.pars ++ m) (zz.2.2.2.1) ∧ True) ?_ (fun stz40 => ?_)
          · rintro ⟨v1, v2, v3, v4, hh, ⟨⟩⟩ W ⟨hS, mM, rt0, rt1, -⟩
            dsimp only at mM rt0 rt1
            refine norm_ (a' := ?_) ?_ ?_
            rotate_left
            · simp only [putAll, Act.put, List.setIfInBounds_toArray, List.set_cons_zero, List.set_cons_succ]
              rfl
            refine rg2 16 22 rfl rfl (by kernel_rfl) (by decide) (by decide) (by kernel_rfl) (by kernel_rfl) (fun K hK => ?_) (fun K hK => ?_)
            · refine app36S (sv := Value.slice none 0 0) (xv := .slice Am m.length cm) (us := m) (h := hh) _ _ rfl (by go_simp) (World.ownsRow_nil (W) (W).heap.size 36 2) (by go_simp) mM.has (rm0.out.sub mM.sub) (by unfold lim; omega) (Nat.le_refl _) ?_
              intro vn W1 ys1 hown1 hch1 hgr hat
              rw [Nat.zero_add, List.nil_append] at hown1
              have kp : Kp (fun _ => False) (W) W1 := (Kp.refl (fun _ => False) (W)).grown hgr (fun q e => by cases e)
              have kb1 : Below wr.heap.size wr W1 := ((Kp.of_below (fun q => wr.heap.size ≤ q) hS).trans kp (fun q hq hf => hf.elim)).below (fun i hi hq => by omega)
              have has1 : Has W1 hh := mM.has.kp kp (Off.none _)
              have hlt1 : ∀ a u, hh a = some u → a.block < (W).heap.size := fun a u e => mM.has.lt e
              obtain ⟨An, cn, rfl⟩ := own_form hown1
              refine hK.out _ _ kb1 (fun hS2 => ?_)
              exact norm_ (by kernel_rfl) (stz50 (v1, v2, v3, v4, .slice An m.length cn, hh, (W).heap.size, ys1, ()) _ ⟨hS2, mM.world has1, rt0, rt1, hown1, hch1, hlt1, hS.size, kp.size, trivial⟩)
            · go_simp
              refine hK.out _ _ (hS.alloc hS.size _) (fun hS2 => ?_)
              exact norm_ (by kernel_rfl) (stz41 (v1, v2, v3, v4, hh, (W).heap.size, ()) _ ⟨hS2, mM.world (mM.has.alloc _), rt0, rt1, blk_new _ _, hS.size, mM.has.off_new (fun k e => by rw [e]; exact Nat.le_refl _), trivial⟩)
          refine join_ (σ := Value × Value × Value × Snap × Nat × List Value × Nat × Unit) 5 #[true, true, true, true, true, true, true, true, true, true, true, true, true, false, true, true, false, true, true, true, false, false, true, false] (fun zz => [(94, zz.1), (96, zz.2.1), (101, zz.2.2.1), (12, .pointer (some ⟨zz.2.2.2.2.2.2.1, 0, none⟩))]) (fun zz W => Below wr.heap.size wr W ∧ Mk wr h W (zz.2.2.2.1) ∧ TyS (zz.2.2.2.1) (s.vars ++ m) (zz.2.1) ∧ W.ownsRow (zz.2.2.2.2.1) 36 2 (zz.2.2.1) s.pars.length (zz.2.2.2.2.2.1) ∧ Chunks (TyR (zz.2.2.2.1)) 2 s.pars (zz.2.2.2.2.2.1) ∧ (∀ a u, (zz.2.2.2.1) a = some u → a.block < (zz.2.2.2.2.1)) ∧ wr.heap.size ≤ (zz.2.2.2.2.1) ∧ (zz.2.2.2.2.1) ≤ W.heap.size ∧ W.heap[zz.2.2.2.2.2.2.1]? = some (.cells #[.slice none 0 0, .slice none 0 0, .slice none 0 0] 31) ∧ wr.heap.size ≤ (zz.2.2.2.2.2.2.1) ∧ Off (zz.2.2.2.1) (fun q => q = (zz.2.2.2.2.2.2.1)) ∧ (zz.2.2.1).ownBlock ≠ some (zz.2.2.2.2.2.2.1) ∧ True) ?_ (fun stz31 => ?_)
          · rintro ⟨v1, v2, v3, hh, N, ys, g, ⟨⟩⟩ W ⟨hS, mM, rt0, hown, hch, hlt, hNW, hNle, hg, hge, hog, hne, -⟩
            dsimp only at mM rt0 hown hch hlt hNW hNle hg hge hog hne
            refine norm_ (a' := ?_) ?_ ?_
            rotate_left
            · simp only [putAll, Act.put, List.setIfInBounds_toArray, List.set_cons_zero, List.set_cons_succ]
              rfl
            refine rg1 13 rfl (by kernel_rfl) (by decide) (by kernel_rfl) (fun K hK => ?_)
            refine app36S (sv := v3) (xv := .slice Am m.length cm) (us := m) (h := hh) _ _ rfl (by go_simp) hown (by go_simp) mM.has (rm0.out.sub mM.sub) (by unfold lim; omega) hNle ?_
            intro vn W1 ys1 hown1 hch1 hgr hat
            have kp : Kp (fun q => (v3).ownBlock = some q) (W) W1 := (Kp.refl (fun q => (v3).ownBlock = some q) (W)).grown hgr (fun q e => .inl e)
            have kb1 : Below wr.heap.size wr W1 := ((Kp.of_below (fun q => wr.heap.size ≤ q) hS).trans kp (fun q hq e => by have := (hown.lt _ e).1; omega)).below (fun i hi hq => by omega)
            have has1 : Has W1 hh := mM.has.kp kp ⟨fun a u e hq => by have := hlt a u e; have := (hown.lt _ hq).1; omega⟩
            obtain ⟨h3, r3, m3, z3⟩ := own_TyS (w0 := wr) has1 hNW hown1 (hch.append hch1) (by unfold lim; simp; omega)
            obtain ⟨An, cn, rfl⟩ := own_form hown1
            refine hK.out _ _ kb1 (fun hS2 => ?_)
            have hog3 : Off h3 (fun q => q = g) := ⟨fun a u e hq => by
              have hq' : a.block = g := hq
              rcases z3 a u e with e1 | e1
              · exact hog.at_ a u e1 hq
              · rcases hat _ e1 with e2 | e2
                · rw [hq'] at e2; exact hne e2
                · have e1 : (W).heap.size ≤ a.block := e2
                  have := blk_lt hg
                  omega⟩
            exact norm_ (by kernel_rfl) (stz41 (v1, v2, v3, .slice An (s.pars.length + m.length) cn, h3, g, ()) _ ⟨hS2, mM.then_ m3, rt0.sub m3.sub, r3, blk_kp hg kp hne, hge, hog3, trivial⟩)
          refine join_ (σ := Value × Value × Value × Snap × Nat × List Value × Unit) 6 #[true, true, true, true, true, true, true, true, true, true, true, true, true, false, true, true, false, true, true, true, false, false, false, false] (fun zz => [(94, zz.1), (96, zz.2.1), (101, zz.2.2.1)]) (fun zz W => Below wr.heap.size wr W ∧ Mk wr h W (zz.2.2.2.1) ∧ TyS (zz.2.2.2.1) (s.vars ++ m) (zz.2.1) ∧ W.ownsRow (zz.2.2.2.2.1) 36 2 (zz.2.2.1) s.pars.length (zz.2.2.2.2.2.1) ∧ Chunks (TyR (zz.2.2.2.1)) 2 s.pars (zz.2.2.2.2.2.1) ∧ (∀ a u, (zz.2.2.2.1) a = some u → a.block < (zz.2.2.2.2.1)) ∧ wr.heap.size ≤ (zz.2.2.2.2.1) ∧ (zz.2.2.2.2.1) ≤ W.heap.size ∧ True) ?_ (fun stz30 => ?_)
          · rintro ⟨v1, v2, v3, hh, N, ys, ⟨⟩⟩ W ⟨hS, mM, rt0, hown, hch, hlt, hNW, hNle, -⟩
            dsimp only at mM rt0 hown hch hlt hNW hNle
            refine norm_ (a' := ?_) ?_ ?_
            rotate_left
            · simp only [putAll, Act.put, List.setIfInBounds_toArray, List.set_cons_zero, List.set_cons_succ]
              rfl
            refine rg2 13 22 rfl rfl (by kernel_rfl) (by decide) (by decide) (by kernel_rfl) (by kernel_rfl) (fun K hK => ?_) (fun K hK => ?_)
            · refine app36S (sv := v3) (xv := .slice Am m.length cm) (us := m) (h := hh) _ _ rfl (by go_simp) hown (by go_simp) mM.has (rm0.out.sub mM.sub) (by unfold lim; omega) hNle ?_
              intro vn W1 ys1 hown1 hch1 hgr hat
              have kp : Kp (fun q => (v3).ownBlock = some q) (W) W1 := (Kp.refl (fun q => (v3).ownBlock = some q) (W)).grown hgr (fun q e => .inl e)
              have kb1 : Below wr.heap.size wr W1 := ((Kp.of_below (fun q => wr.heap.size ≤ q) hS).trans kp (fun q hq e => by have := (hown.lt _ e).1; omega)).below (fun i hi hq => by omega)
              have has1 : Has W1 hh := mM.has.kp kp ⟨fun a u e hq => by have := hlt a u e; have := (hown.lt _ hq).1; omega⟩
              obtain ⟨h3, r3, m3, z3⟩ := own_TyS (w0 := wr) has1 hNW hown1 (hch.append hch1) (by unfold lim; simp; omega)
              obtain ⟨An, cn, rfl⟩ := own_form hown1
              refine hK.out _ _ kb1 (fun hS2 => ?_)
              exact norm_ (by kernel_rfl) (stz40 (v1, v2, v3, .slice An (s.pars.length + m.length) cn, h3, ()) _ ⟨hS2, mM.then_ m3, rt0.sub m3.sub, r3, trivial⟩)
            · go_simp
              refine hK.out _ _ (hS.alloc hS.size _) (fun hS2 => ?_)
              exact norm_ (by kernel_rfl) (stz31 (v1, v2, v3, hh, N, ys, (W).heap.size, ()) _ ⟨hS2, mM.world (mM.has.alloc _), rt0, own_kp hown ((Kp.refl (fun _ => False) (W)).alloc _) (fun _ hf => hf.elim), hch, hlt, hNW, Nat.le_trans hNle (by simp), blk_new _ _, hS.size, mM.has.off_new (fun k e => by rw [e]; exact Nat.le_refl _), own_new hown (Nat.le_refl _), trivial⟩)
          refine join_ (σ := Value × Value × Snap × Nat × Unit) 6 #[true, true, true, true, true, true, true, true, true, true, true, false, true, false, true, true, false, true, true, true, false, false, true, false] (fun zz => [(94, zz.1), (96, zz.2.1), (12, .pointer (some ⟨zz.2.2.2.1, 0, none⟩))]) (fun zz W => Below wr.heap.size wr W ∧ Mk wr h W (zz.2.2.1) ∧ TyS (zz.2.2.1) (s.vars ++ m) (zz.2.1) ∧ W.heap[zz.2.2.2.1]? = some (.cells #[.slice none 0 0, .slice none 0 0, .slice none 0 0] 31) ∧ wr.heap.size ≤ (zz.2.2.2.1) ∧ Off (zz.2.2.1) (fun q => q = (zz.2.2.2.1)) ∧ True) ?_ (fun stz21 => ?_)
          · rintro ⟨v1, v2, hh, g, ⟨⟩⟩ W ⟨hS, mM, rt0, hg, hge, hog, -⟩
            dsimp only at mM rt0 hg hge hog
            refine norm_ (a' := ?_) ?_ ?_
            rotate_left
            · simp only [putAll, Act.put, List.setIfInBounds_toArray, List.set_cons_zero, List.set_cons_succ]
              rfl
            refine rg1 11 rfl (by kernel_rfl) (by decide) (by kernel_rfl) (fun K hK => ?_)
            refine app36S (sv := Value.slice none 0 0) (xv := .slice A1 s.pars.length k1) (us := s.pars) (h := hh) _ _ rfl (by go_simp) (World.ownsRow_nil (W) (W).heap.size 36 2) (by go_simp) mM.has (q1s.out.sub mM.sub) (by unfold lim; omega) (Nat.le_refl _) ?_
            intro vn W1 ys1 hown1 hch1 hgr hat
            rw [Nat.zero_add, List.nil_append] at hown1
            have kp : Kp (fun _ => False) (W) W1 := (Kp.refl (fun _ => False) (W)).grown hgr (fun q e => by cases e)
            have kb1 : Below wr.heap.size wr W1 := ((Kp.of_below (fun q => wr.heap.size ≤ q) hS).trans kp (fun q hq hf => hf.elim)).below (fun i hi hq => by omega)
            have has1 : Has W1 hh := mM.has.kp kp (Off.none _)
            have hlt1 : ∀ a u, hh a = some u → a.block < (W).heap.size := fun a u e => mM.has.lt e
            obtain ⟨An, cn, rfl⟩ := own_form hown1
            refine hK.out _ _ kb1 (fun hS2 => ?_)
            exact norm_ (by kernel_rfl) (stz31 (v1, v2, .slice An s.pars.length cn, hh, (W).heap.size, ys1, g, ()) _ ⟨hS2, mM.world has1, rt0, hown1, hch1, hlt1, hS.size, kp.size, blk_kp hg kp (fun hf => hf), hge, hog, fun e => by
                rcases hat _ e with e | e
                · cases e
                · have e1 : (W).heap.size ≤ g := e
                  have := blk_lt hg
                  omega, trivial⟩)
          refine join_ (σ := Value × Value × Snap × Unit) 7 #[true, true, true, true, true, true, true, true, true, true, true, false, true, false, true, true, false, true, true, true, false, false, false, false] (fun zz => [(94, zz.1), (96, zz.2.1)]) (fun zz W => Below wr.heap.size wr W ∧ Mk wr h W (zz.2.2.1) ∧ TyS (zz.2.2.1) (s.vars ++ m) (zz.2.1) ∧ True) ?_ (fun stz20 => ?_)
          · rintro ⟨v1, v2, hh, ⟨⟩⟩ W ⟨hS, mM, rt0, -⟩
            dsimp only at mM rt0
            refine norm_ (a' := ?_) ?_ ?_
            rotate_left
            · simp only [putAll, Act.put, List.setIfInBounds_toArray, List.set_cons_zero, List.set_cons_succ]
              rfl
            refine rg2 11 22 rfl rfl (by kernel_rfl) (by decide) (by decide) (by kernel_rfl) (by kernel_rfl) (fun K hK => ?_) (fun K hK => ?_)
            · refine app36S (sv := Value.slice none 0 0) (xv := .slice A1 s.pars.length k1) (us := s.pars) (h := hh) _ _ rfl (by go_simp) (World.ownsRow_nil (W) (W).heap.size 36 2) (by go_simp) mM.has (q1s.out.sub mM.sub) (by unfold lim; omega) (Nat.le_refl _) ?_
              intro vn W1 ys1 hown1 hch1 hgr hat
              rw [Nat.zero_add, List.nil_append] at hown1
              have kp : Kp (fun _ => False) (W) W1 := (Kp.refl (fun _ => False) (W)).grown hgr (fun q e => by cases e)
              have kb1 : Below wr.heap.size wr W1 := ((Kp.of_below (fun q => wr.heap.size ≤ q) hS).trans kp (fun q hq hf => hf.elim)).below (fun i hi hq => by omega)
              have has1 : Has W1 hh := mM.has.kp kp (Off.none _)
              have hlt1 : ∀ a u, hh a = some u → a.block < (W).heap.size := fun a u e => mM.has.lt e
              obtain ⟨An, cn, rfl⟩ := own_form hown1
              refine hK.out _ _ kb1 (fun hS2 => ?_)
              exact norm_ (by kernel_rfl) (stz30 (v1, v2, .slice An s.pars.length cn, hh, (W).heap.size, ys1, ()) _ ⟨hS2, mM.world has1, rt0, hown1, hch1, hlt1, hS.size, kp.size, trivial⟩)
            · go_simp
              refine hK.out _ _ (hS.alloc hS.size _) (fun hS2 => ?_)
              exact norm_ (by kernel_rfl) (stz21 (v1, v2, hh, (W).heap.size, ()) _ ⟨hS2, mM.world (mM.has.alloc _), rt0, blk_new _ _, hS.size, mM.has.off_new (fun k e => by rw [e]; exact Nat.le_refl _), trivial⟩)
          refine join_ (σ := Value × Snap × Nat × List Value × Nat × Unit) 7 #[true, true, true, true, true, true, false, true, true, true, true, false, true, false, true, true, false, true, true, true, false, false, true, false] (fun zz => [(94, zz.1), (12, .pointer (some ⟨zz.2.2.2.2.1, 0, none⟩))]) (fun zz W => Below wr.heap.size wr W ∧ Mk wr h W (zz.2.1) ∧ W.ownsRow (zz.2.2.1) 36 2 (zz.1) s.vars.length (zz.2.2.2.1) ∧ Chunks (TyR (zz.2.1)) 2 s.vars (zz.2.2.2.1) ∧ (∀ a u, (zz.2.1) a = some u → a.block < (zz.2.2.1)) ∧ wr.heap.size ≤ (zz.2.2.1) ∧ (zz.2.2.1) ≤ W.heap.size ∧ W.heap[zz.2.2.2.2.1]? = some (.cells #[.slice none 0 0, .slice none 0 0, .slice none 0 0] 31) ∧ wr.heap.size ≤ (zz.2.2.2.2.1) ∧ Off (zz.2.1) (fun q => q = (zz.2.2.2.2.1)) ∧ (zz.1).ownBlock ≠ some (zz.2.2.2.2.1) ∧ True) ?_ (fun stz11 => ?_)
          · rintro ⟨v1, hh, N, ys, g, ⟨⟩⟩ W ⟨hS, mM, hown, hch, hlt, hNW, hNle, hg, hge, hog, hne, -⟩
            dsimp only at mM hown hch hlt hNW hNle hg hge hog hne
            refine norm_ (a' := ?_) ?_ ?_
            rotate_left
            · simp only [putAll, Act.put, List.setIfInBounds_toArray, List.set_cons_zero, List.set_cons_succ]
              rfl
            refine rg1 6 rfl (by kernel_rfl) (by decide) (by kernel_rfl) (fun K hK => ?_)
            refine app36S (sv := v1) (xv := .slice Am m.length cm) (us := m) (h := hh) _ _ rfl (by go_simp) hown (by go_simp) mM.has (rm0.out.sub mM.sub) (by unfold lim; omega) hNle ?_
            intro vn W1 ys1 hown1 hch1 hgr hat
            have kp : Kp (fun q => (v1).ownBlock = some q) (W) W1 := (Kp.refl (fun q => (v1).ownBlock = some q) (W)).grown hgr (fun q e => .inl e)
            have kb1 : Below wr.heap.size wr W1 := ((Kp.of_below (fun q => wr.heap.size ≤ q) hS).trans kp (fun q hq e => by have := (hown.lt _ e).1; omega)).below (fun i hi hq => by omega)
            have has1 : Has W1 hh := mM.has.kp kp ⟨fun a u e hq => by have := hlt a u e; have := (hown.lt _ hq).1; omega⟩
            obtain ⟨h3, r3, m3, z3⟩ := own_TyS (w0 := wr) has1 hNW hown1 (hch.append hch1) (by unfold lim; simp; omega)
            obtain ⟨An, cn, rfl⟩ := own_form hown1
            refine hK.out _ _ kb1 (fun hS2 => ?_)
            have hog3 : Off h3 (fun q => q = g) := ⟨fun a u e hq => by
              have hq' : a.block = g := hq
              rcases z3 a u e with e1 | e1
              · exact hog.at_ a u e1 hq
              · rcases hat _ e1 with e2 | e2
                · rw [hq'] at e2; exact hne e2
                · have e1 : (W).heap.size ≤ a.block := e2
                  have := blk_lt hg
                  omega⟩
            exact norm_ (by kernel_rfl) (stz21 (v1, .slice An (s.vars.length + m.length) cn, h3, g, ()) _ ⟨hS2, mM.then_ m3, r3, blk_kp hg kp hne, hge, hog3, trivial⟩)
          refine join_ (σ := Value × Snap × Nat × List Value × Unit) 8 #[true, true, true, true, true, true, false, true, true, true, true, false, true, false, true, true, false, true, true, true, false, false, false, false] (fun zz => [(94, zz.1)]) (fun zz W => Below wr.heap.size wr W ∧ Mk wr h W (zz.2.1) ∧ W.ownsRow (zz.2.2.1) 36 2 (zz.1) s.vars.length (zz.2.2.2.1) ∧ Chunks (TyR (zz.2.1)) 2 s.vars (zz.2.2.2.1) ∧ (∀ a u, (zz.2.1) a = some u → a.block < (zz.2.2.1)) ∧ wr.heap.size ≤ (zz.2.2.1) ∧ (zz.2.2.1) ≤ W.heap.size ∧ True) ?_ (fun stz10 => ?_)
          · rintro ⟨v1, hh, N, ys, ⟨⟩⟩ W ⟨hS, mM, hown, hch, hlt, hNW, hNle, -⟩
            dsimp only at mM hown hch hlt hNW hNle
            refine norm_ (a' := ?_) ?_ ?_
            rotate_left
            · simp only [putAll, Act.put, List.setIfInBounds_toArray, List.set_cons_zero, List.set_cons_succ]
              rfl
            refine rg2 6 22 rfl rfl (by kernel_rfl) (by decide) (by decide) (by kernel_rfl) (by kernel_rfl) (fun K hK => ?_) (fun K hK => ?_)
            · refine app36S (sv := v1) (xv := .slice Am m.length cm) (us := m) (h := hh) _ _ rfl (by go_simp) hown (by go_simp) mM.has (rm0.out.sub mM.sub) (by unfold lim; omega) hNle ?_
              intro vn W1 ys1 hown1 hch1 hgr hat
              have kp : Kp (fun q => (v1).ownBlock = some q) (W) W1 := (Kp.refl (fun q => (v1).ownBlock = some q) (W)).grown hgr (fun q e => .inl e)
              have kb1 : Below wr.heap.size wr W1 := ((Kp.of_below (fun q => wr.heap.size ≤ q) hS).trans kp (fun q hq e => by have := (hown.lt _ e).1; omega)).below (fun i hi hq => by omega)
              have has1 : Has W1 hh := mM.has.kp kp ⟨fun a u e hq => by have := hlt a u e; have := (hown.lt _ hq).1; omega⟩
              obtain ⟨h3, r3, m3, z3⟩ := own_TyS (w0 := wr) has1 hNW hown1 (hch.append hch1) (by unfold lim; simp; omega)
              obtain ⟨An, cn, rfl⟩ := own_form hown1
              refine hK.out _ _ kb1 (fun hS2 => ?_)
              exact norm_ (by kernel_rfl) (stz20 (v1, .slice An (s.vars.length + m.length) cn, h3, ()) _ ⟨hS2, mM.then_ m3, r3, trivial⟩)
            · go_simp
              refine hK.out _ _ (hS.alloc hS.size _) (fun hS2 => ?_)
              exact norm_ (by kernel_rfl) (stz11 (v1, hh, N, ys, (W).heap.size, ()) _ ⟨hS2, mM.world (mM.has.alloc _), own_kp hown ((Kp.refl (fun _ => False) (W)).alloc _) (fun _ hf => hf.elim), hch, hlt, hNW, Nat.le_trans hNle (by simp), blk_new _ _, hS.size, mM.has.off_new (fun k e => by rw [e]; exact Nat.le_refl _), own_new hown (Nat.le_refl _), trivial⟩)
          refine join_ (σ := Snap × Nat × Unit) 8 #[true, true, true, true, false, true, false, true, true, true, true, false, true, false, true, true, false, true, true, true, false, false, true, false] (fun zz => [(12, .pointer (some ⟨zz.2.1, 0, none⟩))]) (fun zz W => Below wr.heap.size wr W ∧ Mk wr h W (zz.1) ∧ W.heap[zz.2.1]? = some (.cells #[.slice none 0 0, .slice none 0 0, .slice none 0 0] 31) ∧ wr.heap.size ≤ (zz.2.1) ∧ Off (zz.1) (fun q => q = (zz.2.1)) ∧ True) ?_ (fun stz01 => ?_)
          · rintro ⟨hh, g, ⟨⟩⟩ W ⟨hS, mM, hg, hge, hog, -⟩
            dsimp only at mM hg hge hog
            refine norm_ (a' := ?_) ?_ ?_
            rotate_left
            · simp only [putAll, Act.put, List.setIfInBounds_toArray, List.set_cons_zero, List.set_cons_succ]
              rfl
            refine rg1 4 rfl (by kernel_rfl) (by decide) (by kernel_rfl) (fun K hK => ?_)
            refine app36S (sv := Value.slice none 0 0) (xv := .slice A0 s.vars.length k0) (us := s.vars) (h := hh) _ _ rfl (by go_simp) (World.ownsRow_nil (W) (W).heap.size 36 2) (by go_simp) mM.has (q0s.out.sub mM.sub) (by unfold lim; omega) (Nat.le_refl _) ?_
            intro vn W1 ys1 hown1 hch1 hgr hat
            rw [Nat.zero_add, List.nil_append] at hown1
            have kp : Kp (fun _ => False) (W) W1 := (Kp.refl (fun _ => False) (W)).grown hgr (fun q e => by cases e)
            have kb1 : Below wr.heap.size wr W1 := ((Kp.of_below (fun q => wr.heap.size ≤ q) hS).trans kp (fun q hq hf => hf.elim)).below (fun i hi hq => by omega)
            have has1 : Has W1 hh := mM.has.kp kp (Off.none _)
            have hlt1 : ∀ a u, hh a = some u → a.block < (W).heap.size := fun a u e => mM.has.lt e
            obtain ⟨An, cn, rfl⟩ := own_form hown1
            refine hK.out _ _ kb1 (fun hS2 => ?_)
            exact norm_ (by kernel_rfl) (stz11 (.slice An s.vars.length cn, hh, (W).heap.size, ys1, g, ()) _ ⟨hS2, mM.world has1, hown1, hch1, hlt1, hS.size, kp.size, blk_kp hg kp (fun hf => hf), hge, hog, fun e => by
                rcases hat _ e with e | e
                · cases e
                · have e1 : (W).heap.size ≤ g := e
                  have := blk_lt hg
                  omega, trivial⟩)
          have mM : Mk wr h wr.drew h := Mk.refl hh0.drew
          refine rg2 4 22 rfl rfl (by kernel_rfl) (by decide) (by decide) (by kernel_rfl) (by kernel_rfl) (fun K hK => ?_) (fun K hK => ?_)
          · refine app36S (sv := Value.slice none 0 0) (xv := .slice A0 s.vars.length k0) (us := s.vars) (h := h) _ _ rfl (by go_simp) (World.ownsRow_nil (wr.drew) (wr.drew).heap.size 36 2) (by go_simp) mM.has (q0s.out.sub mM.sub) (by unfold lim; omega) (Nat.le_refl _) ?_
            intro vn W1 ys1 hown1 hch1 hgr hat
            rw [Nat.zero_add, List.nil_append] at hown1
            have kp : Kp (fun _ => False) (wr.drew) W1 := (Kp.refl (fun _ => False) (wr.drew)).grown hgr (fun q e => by cases e)
            have kb1 : Below wr.heap.size wr W1 := ((Kp.of_below (fun q => wr.heap.size ≤ q) hS).trans kp (fun q hq hf => hf.elim)).below (fun i hi hq => by omega)
            have has1 : Has W1 h := mM.has.kp kp (Off.none _)
            have hlt1 : ∀ a u, h a = some u → a.block < (wr.drew).heap.size := fun a u e => mM.has.lt e
            obtain ⟨An, cn, rfl⟩ := own_form hown1
            refine hK.out _ _ kb1 (fun hS2 => ?_)
            exact norm_ (by kernel_rfl) (stz10 (.slice An s.vars.length cn, h, (wr.drew).heap.size, ys1, ()) _ ⟨hS2, mM.world has1, hown1, hch1, hlt1, hS.size, kp.size, trivial⟩)
          · go_simp
            refine hK.out _ _ (hS.alloc hS.size _) (fun hS2 => ?_)
            exact norm_ (by kernel_rfl) (stz01 (h, (wr.drew).heap.size, ()) _ ⟨hS2, mM.world (mM.has.alloc _), blk_new _ _, hS.size, mM.has.off_new (fun k e => by rw [e]; exact Nat.le_refl _), trivial⟩)
    · have hS1 := Lib.hid (hk5'.out (by simpa using c4))
      clear hk5'
      go_wp2_with fail
      refine (SameTypeP_calls ty u _ _ _ h HW ry0.out ru0.out).mono ?_
      rintro e w6 ⟨rfl, kk⟩
      rw [hS1.out]
      clear x0 x1 x2 x3 x4 x5 x6 x7 x8 x9 x10 x11 x12 x13 y0 y1
      replace b1 := box_below b1 kk
      replace b2 := box_below b2 kk
      replace kb := below_then kb kk kb.size
      clear kk
      have x0 : w6.cell? ⟨w.heap.size, 0, none⟩ = some (.slice At p.types.length kt) := blk_cell b1 0
      have x1 : w6.cell? ⟨w.heap.size, 1, none⟩ = some (.slice Ac p.consts.length kc) := blk_cell b1 1
      have x2 : w6.cell? ⟨w.heap.size, 2, none⟩ = some (.slice Z2 n2 z2) := blk_cell b1 2
      have x3 : w6.cell? ⟨w.heap.size, 3, none⟩ = some (.slice Z3 n3 z3) := blk_cell b1 3
      have x4 : w6.cell? ⟨w.heap.size, 4, none⟩ = some (.slice Z4 n4 z4) := blk_cell b1 4
      have x5 : w6.cell? ⟨w.heap.size, 5, none⟩ = some (.slice A0 s.vars.length k0) := blk_cell b1 5
      have x6 : w6.cell? ⟨w.heap.size, 6, none⟩ = some (.slice A1 s.pars.length k1) := blk_cell b1 6
      have x7 : w6.cell? ⟨w.heap.size, 7, none⟩ = some (.slice A2 s.bound.length k2) := blk_cell b1 7
      have x8 : w6.cell? ⟨w.heap.size, 8, none⟩ = some (.int .i64 t.k) := blk_cell b1 8
      have x9 : w6.cell? ⟨w.heap.size, 9, none⟩ = some (.int .i64 t.n) := blk_cell b1 9
      have x10 : w6.cell? ⟨w.heap.size, 10, none⟩ = some (.string t.nm) := blk_cell b1 10
      have x11 : w6.cell? ⟨w.heap.size, 11, none⟩ = some (.slice A t.ar.length cap) := blk_cell b1 11
      have x12 : w6.cell? ⟨w.heap.size, 12, none⟩ = some (.string ty.nm) := blk_cell b1 12
      have x13 : w6.cell? ⟨w.heap.size, 13, none⟩ = some (.slice Ay ty.ar.length cy) := blk_cell b1 13
      have y0 : w6.cell? ⟨w.heap.size + 1, 0, none⟩ = some (.string u.nm) := blk_cell b2 0
      have y1 : w6.cell? ⟨w.heap.size + 1, 1, none⟩ = some (.slice Au u.ar.length cu) := blk_cell b2 1
      replace HW := H.below kb
      go_wp2_with fail
      go_loopw [8] (fun i wr => ∃ k : Nat, k ≤ m.length ∧ i = .int .i64 k ∧ Below w6.heap.size w6 wr ∧ Hid (chkL p.types (m.drop k) = chkL p.types m)) (fun i _ => m.length - (intOf i).toNat)
      case atStart => exact ⟨0, by omega, rfl, Below.refl _ _, by show _ = _; simp⟩
      case round =>
        obtain ⟨k, hk, rfl, hbx, hJ⟩ := hrel
        replace b1 := box_below b1 hbx
        replace b2 := box_below b2 hbx
        replace kb := below_then kb hbx kb.size
        clear x0 x1 x2 x3 x4 x5 x6 x7 x8 x9 x10 x11 x12 x13 y0 y1
        have x0 : wr.cell? ⟨w.heap.size, 0, none⟩ = some (.slice At p.types.length kt) := blk_cell b1 0
        have x1 : wr.cell? ⟨w.heap.size, 1, none⟩ = some (.slice Ac p.consts.length kc) := blk_cell b1 1
        have x2 : wr.cell? ⟨w.heap.size, 2, none⟩ = some (.slice Z2 n2 z2) := blk_cell b1 2
        have x3 : wr.cell? ⟨w.heap.size, 3, none⟩ = some (.slice Z3 n3 z3) := blk_cell b1 3
        have x4 : wr.cell? ⟨w.heap.size, 4, none⟩ = some (.slice Z4 n4 z4) := blk_cell b1 4
        have x5 : wr.cell? ⟨w.heap.size, 5, none⟩ = some (.slice A0 s.vars.length k0) := blk_cell b1 5
        have x6 : wr.cell? ⟨w.heap.size, 6, none⟩ = some (.slice A1 s.pars.length k1) := blk_cell b1 6
        have x7 : wr.cell? ⟨w.heap.size, 7, none⟩ = some (.slice A2 s.bound.length k2) := blk_cell b1 7
        have x8 : wr.cell? ⟨w.heap.size, 8, none⟩ = some (.int .i64 t.k) := blk_cell b1 8
        have x9 : wr.cell? ⟨w.heap.size, 9, none⟩ = some (.int .i64 t.n) := blk_cell b1 9
        have x10 : wr.cell? ⟨w.heap.size, 10, none⟩ = some (.string t.nm) := blk_cell b1 10
        have x11 : wr.cell? ⟨w.heap.size, 11, none⟩ = some (.slice A t.ar.length cap) := blk_cell b1 11
        have x12 : wr.cell? ⟨w.heap.size, 12, none⟩ = some (.string ty.nm) := blk_cell b1 12
        have x13 : wr.cell? ⟨w.heap.size, 13, none⟩ = some (.slice Ay ty.ar.length cy) := blk_cell b1 13
        have y0 : wr.cell? ⟨w.heap.size + 1, 0, none⟩ = some (.string u.nm) := blk_cell b2 0
        have y1 : wr.cell? ⟨w.heap.size + 1, 1, none⟩ = some (.slice Au u.ar.length cu) := blk_cell b2 1
        replace HW := H.below kb
        by_cases hlk : k < m.length
        · obtain ⟨b', o', A', c', rfl, f0, f1, rx⟩ := hrm'.out.get k hlk
          have hc0 := HW.cell _ _ f0
          have hc1 := HW.cell _ _ f1
          have hJ2 : Hid ((if checkP p.types m[k] = 0 then chkL p.types (m.drop (k + 1)) else checkP p.types m[k]) = chkL p.types m) := Lib.hid (by have := hJ.out; rw [List.drop_eq_getElem_cons hlk, chkL] at this; exact this)
          clear hJ f0 f1
          have hir : (k : Int) < (m.length : Int) := by omega
          generalize m[k] = X at *
          go_wp2_with fail
          refine rgs 8 (fun V => Below wr.heap.size wr V) [] rfl ((Below.refl _ _).drew) (fun hS => ?_)
          refine rgt 0 (.pointer (some ⟨w.heap.size, 0, none⟩)) rfl (by kernel_rfl) (fun _ _ _ h => h) (by kernel_rfl) hS (fun V hV => by go_simp) ?_
          refine rgt 1 (.agg #[.slice At p.types.length kt, .slice Ac p.consts.length kc, .slice Z2 n2 z2, .slice Z3 n3 z3, .slice Z4 n4 z4]) rfl (by kernel_rfl) (fun _ _ _ h => h) (by kernel_rfl) hS (fun V hV => by have q0 := cell_below x0 hV; have q1 := cell_below x1 hV; have q2 := cell_below x2 hV; have q3 := cell_below x3 hV; have q4 := cell_below x4 hV; go_simp) ?_
          refine rgt 2 (.slice (some ⟨b', o', none⟩) m.length cm) rfl (by kernel_rfl) (fun _ _ _ h => h) (by kernel_rfl) hS (fun V hV => by go_simp) ?_
          refine rgt 3 (.int .i64 k) rfl (by kernel_rfl) (fun _ _ _ h => h) (by kernel_rfl) hS (fun V hV => by go_simp) ?_
          refine rgt 4 (.pointer (some ⟨b', o' + k * 2, none⟩)) rfl (by kernel_rfl) (fun _ _ _ h => h) (by kernel_rfl) hS (fun V hV => by go_simp) ?_
          refine rgt 5 (.agg #[.string X.nm, .slice A' X.ar.length c']) rfl (by kernel_rfl) (fun _ _ _ h => h) (by kernel_rfl) hS (fun V hV => by have q0 := cell_below hc0 hV; have q1 := cell_below hc1 hV; go_simp) ?_
          refine rg1 6 rfl (by kernel_rfl) (by decide) (by kernel_rfl) (fun K hK => ?_)
          have hS0 := hS
          go_simp
          refine (RCheckType_calls p X _ _ _ h HW.drew rp0.out rx).mono ?_
          rintro e w5 ⟨rfl, k5⟩
          rw [← checkP_eq]
          simp only []
          refine hK.out _ _ (below_then hS0 k5 hS0.size) (fun hS => ?_)
          have hb5 := below_then hbx hS hbx.size
          have kb5 := below_then kb hS kb.size
          by_cases qc : checkP p.types X = 0
          · have qc' : (checkP p.types X != 0) = false := by simp [qc]
            have hJ3 : Hid (chkL p.types (m.drop (k + 1)) = chkL p.types m) := Lib.hid (by have := hJ2.out; rw [if_pos qc] at this; exact this)
            refine rgt 7 (.bool false) rfl (by kernel_rfl) (fun _ _ _ h => h) (by kernel_rfl) hS (fun V hV => by go_simp) ?_
            refine rgd (by kernel_rfl) ?_
            clear qc hJ2
            go_wp2_with fail
            exact ⟨⟨k + 1, by omega, by simp, hb5, hJ3⟩, by simp [intOf]; omega⟩
          · have qc' : (checkP p.types X != 0) = true := by simp [qc]
            refine rgt 7 (.bool true) rfl (by kernel_rfl) (fun _ _ _ h => h) (by kernel_rfl) hS (fun V hV => by go_simp) ?_
            refine rgd (by kernel_rfl) ?_
            clear qc hJ2
            go_wp2_with fail
            go_ret
            exact ⟨rfl, kb5⟩
        · have hke : k = m.length := by omega
          have hm0 : Hid (chkL p.types m = 0) := Lib.hid (by
            have := hJ.out
            rw [hke, List.drop_length] at this
            exact this.symm)
          have hfin := Lib.hid (hmore.out hT.out hm0.out)
          clear hJ hke
          have c2' : m.length ≤ 20 := by omega
          obtain ⟨c20, hc20⟩ : ∃ c, c = m.length := ⟨_, rfl⟩
          clear hc20 c20
          go_wp2_with fail
          have hh0 := HW
          have hs60 := hsum.out
          refine rgs 24 (fun V => Below wr.heap.size wr V) [23] rfl ((Below.refl _ _).drew) (fun hS => ?_)
          refine rgnf 0 90 (.slice none 0 0) rfl rfl (by kernel_rfl) (fun _ _ _ h => h) (by kernel_rfl) hS (fun V hV => by go_simp) ?_
          refine rgnf 1 91 (.pointer (some ⟨w.heap.size, 5, none⟩)) rfl rfl (by kernel_rfl) (fun _ _ _ h => h) (by kernel_rfl) hS (fun V hV => by go_simp) ?_
          refine rgnf 2 92 (.pointer (some ⟨w.heap.size, 5, none⟩)) rfl rfl (by kernel_rfl) (fun _ _ _ h => h) (by kernel_rfl) hS (fun V hV => by go_simp) ?_
          refine rgnf 3 93 (.slice A0 s.vars.length k0) rfl rfl (by kernel_rfl) (fun _ _ _ h => h) (by kernel_rfl) hS (fun V hV => by have q0 := cell_below x5 hV; go_simp) ?_
          refine rgnf 5 95 (.slice Am m.length cm) rfl rfl (by kernel_rfl) (fun _ _ _ h => h) (by kernel_rfl) hS (fun V hV => by go_simp) ?_
          refine rgnf 7 97 (.slice none 0 0) rfl rfl (by kernel_rfl) (fun _ _ _ h => h) (by kernel_rfl) hS (fun V hV => by go_simp) ?_
          refine rgnf 8 98 (.pointer (some ⟨w.heap.size, 5, none⟩)) rfl rfl (by kernel_rfl) (fun _ _ _ h => h) (by kernel_rfl) hS (fun V hV => by go_simp) ?_
          refine rgnf 9 99 (.pointer (some ⟨w.heap.size, 6, none⟩)) rfl rfl (by kernel_rfl) (fun _ _ _ h => h) (by kernel_rfl) hS (fun V hV => by go_simp) ?_
          refine rgnf 10 100 (.slice A1 s.pars.length k1) rfl rfl (by kernel_rfl) (fun _ _ _ h => h) (by kernel_rfl) hS (fun V hV => by have q0 := cell_below x6 hV; go_simp) ?_
          refine rgnf 12 102 (.slice Am m.length cm) rfl rfl (by kernel_rfl) (fun _ _ _ h => h) (by kernel_rfl) hS (fun V hV => by go_simp) ?_
          refine rgnf 14 104 (.slice none 0 0) rfl rfl (by kernel_rfl) (fun _ _ _ h => h) (by kernel_rfl) hS (fun V hV => by go_simp) ?_
          refine rgnf 15 105 (.slice Am m.length cm) rfl rfl (by kernel_rfl) (fun _ _ _ h => h) (by kernel_rfl) hS (fun V hV => by go_simp) ?_
          refine rgnf 17 107 (.pointer (some ⟨w.heap.size, 5, none⟩)) rfl rfl (by kernel_rfl) (fun _ _ _ h => h) (by kernel_rfl) hS (fun V hV => by go_simp) ?_
          refine rgnf 18 108 (.pointer (some ⟨w.heap.size, 7, none⟩)) rfl rfl (by kernel_rfl) (fun _ _ _ h => h) (by kernel_rfl) hS (fun V hV => by go_simp) ?_
          refine rgnf 19 109 (.slice A2 s.bound.length k2) rfl rfl (by kernel_rfl) (fun _ _ _ h => h) (by kernel_rfl) hS (fun V hV => by have q0 := cell_below x7 hV; go_simp) ?_
          simp only [Act.put, List.setIfInBounds_toArray, List.set_cons_zero, List.set_cons_succ]
          refine join_ (σ := Value × Value × Value × Value × Value × Value × Snap × Nat × Unit) 1 #[true, true, true, true, true, true, true, true, true, true, true, true, true, true, true, true, true, true, true, true, true, true, true, false] (fun zz => [(94, zz.1), (96, zz.2.1), (101, zz.2.2.1), (103, zz.2.2.2.1), (106, zz.2.2.2.2.1), (110, zz.2.2.2.2.2.1), (111, .agg #[(zz.2.1), (zz.2.2.2.1), (zz.2.2.2.2.2.1)]), (12, .pointer (some ⟨zz.2.2.2.2.2.2.2.1, 0, none⟩))]) (fun zz W => Below wr.heap.size wr W ∧ Mk wr h W (zz.2.2.2.2.2.2.1) ∧ TyS (zz.2.2.2.2.2.2.1) (s.vars ++ m) (zz.2.1) ∧ TyS (zz.2.2.2.2.2.2.1) (s.pars ++ m) (zz.2.2.2.1) ∧ TyS (zz.2.2.2.2.2.2.1) (m ++ s.bound) (zz.2.2.2.2.2.1) ∧ W.heap[zz.2.2.2.2.2.2.2.1]? = some (.cells #[.slice none 0 0, .slice none 0 0, .slice none 0 0] 31) ∧ wr.heap.size ≤ (zz.2.2.2.2.2.2.2.1) ∧ Off (zz.2.2.2.2.2.2.1) (fun q => q = (zz.2.2.2.2.2.2.2.1)) ∧ True) ?_ (fun stz61 => ?_)
          · rintro ⟨v1, v2, v3, v4, v5, v6, hh, g, ⟨⟩⟩ W ⟨hS, mM, rt0, rt1, rt2, hg, hge, hog, -⟩
            dsimp only at mM rt0 rt1 rt2 hg hge hog
            refine norm_ (a' := ?_) ?_ ?_
            rotate_left
            · simp only [putAll, Act.put, List.setIfInBounds_toArray, List.set_cons_zero, List.set_cons_succ]
              rfl
            obtain ⟨B0, d0, rfl, -, -, -⟩ := id rt0
            obtain ⟨B1, d1, rfl, -, -, -⟩ := id rt1
            obtain ⟨B2, d2, rfl, -, -, -⟩ := id rt2
            rw [List.length_append] at rt0 rt1 rt2
            obtain ⟨xg0, xg1, xg2⟩ := bx3f hg
            have zg := blk_frozen hg
            have lg := blk_lt hg
            refine rgl 23 rfl (by kernel_rfl) (by decide) (by kernel_rfl) (fun K hK => ?_)
            go_simp
            refine hK.out _ _ ?_
            refine rgd (by kernel_rfl) ?_
            obtain ⟨WF, hWF, bF, kpF⟩ : ∃ WF, (((W.setCell ⟨g, 0, none⟩ (.slice B0 (s.vars.length + m.length) d0)).setCell ⟨g, 1, none⟩ (.slice B1 (s.pars.length + m.length) d1)).setCell ⟨g, 2, none⟩ (.slice B2 (m.length + s.bound.length) d2)) = WF ∧ WF.heap[g]? = some (.cells #[.slice B0 (s.vars.length + m.length) d0, .slice B1 (s.pars.length + m.length) d1, .slice B2 (m.length + s.bound.length) d2] 31) ∧ Kp (fun q => q = g) W WF := ⟨_, rfl, (set3f hg _ _ _).1, (set3f hg _ _ _).2⟩
            rw [hWF]
            have HF := mM.has.kp kpF hog
            have hsb := mM.sub
            have kF : Below w.heap.size w WF := ((Kp.of_below (fun q => q = g) (below_then kb hS kb.size)).trans kpF (fun i hi e => e)).below (fun i hi (e : i = g) => by have h1 := hge; have h2 := kb.size; omega)
            have b3 := blk_kp (box_below b1 hS) kpF (fun (e : w.heap.size = g) => by have h1 := hge; have h2 := blk_lt b1; omega)
            have b4 := blk_kp (box_below b2 hS) kpF (fun (e : w.heap.size + 1 = g) => by have h1 := hge; have h2 := blk_lt b2; omega)
            clear hWF xg0 xg1 xg2 zg lg hK hS kpF hog hg hge mM b1 b2
            have b1 := b3
            have b2 := b4
            clear b3 b4 x0 x1 x2 x3 x4 x5 x6 x7 x8 x9 x10 x11 x12 x13 y0 y1
            have x0 : WF.cell? ⟨w.heap.size, 0, none⟩ = some (.slice At p.types.length kt) := blk_cell b1 0
            have x1 : WF.cell? ⟨w.heap.size, 1, none⟩ = some (.slice Ac p.consts.length kc) := blk_cell b1 1
            have x2 : WF.cell? ⟨w.heap.size, 2, none⟩ = some (.slice Z2 n2 z2) := blk_cell b1 2
            have x3 : WF.cell? ⟨w.heap.size, 3, none⟩ = some (.slice Z3 n3 z3) := blk_cell b1 3
            have x4 : WF.cell? ⟨w.heap.size, 4, none⟩ = some (.slice Z4 n4 z4) := blk_cell b1 4
            have x5 : WF.cell? ⟨w.heap.size, 5, none⟩ = some (.slice A0 s.vars.length k0) := blk_cell b1 5
            have x6 : WF.cell? ⟨w.heap.size, 6, none⟩ = some (.slice A1 s.pars.length k1) := blk_cell b1 6
            have x7 : WF.cell? ⟨w.heap.size, 7, none⟩ = some (.slice A2 s.bound.length k2) := blk_cell b1 7
            have x8 : WF.cell? ⟨w.heap.size, 8, none⟩ = some (.int .i64 t.k) := blk_cell b1 8
            have x9 : WF.cell? ⟨w.heap.size, 9, none⟩ = some (.int .i64 t.n) := blk_cell b1 9
            have x10 : WF.cell? ⟨w.heap.size, 10, none⟩ = some (.string t.nm) := blk_cell b1 10
            have x11 : WF.cell? ⟨w.heap.size, 11, none⟩ = some (.slice A t.ar.length cap) := blk_cell b1 11
            have x12 : WF.cell? ⟨w.heap.size, 12, none⟩ = some (.string ty.nm) := blk_cell b1 12
            have x13 : WF.cell? ⟨w.heap.size, 13, none⟩ = some (.slice Ay ty.ar.length cy) := blk_cell b1 13
            have y0 : WF.cell? ⟨w.heap.size + 1, 0, none⟩ = some (.string u.nm) := blk_cell b2 0
            have y1 : WF.cell? ⟨w.heap.size + 1, 1, none⟩ = some (.slice Au u.ar.length cu) := blk_cell b2 1
            obtain ⟨xg0, xg1, xg2⟩ := bx3f bF
            go_wp2_with fail
            refine (Typed_calls p ⟨s.vars ++ m, s.pars ++ m, m ++ s.bound⟩ t ty _ _ _ _ _ hh HF (rp0.out.sub hsb) ⟨_, _, _, rfl, rt0, rt1, rt2⟩ (rt0s.out.sub hsb) (ry0.out.sub hsb) (by have := hsum.out; simp; omega)).mono ?_
            rintro e wE ⟨rfl, kE⟩
            rw [hfin.out]
            go_wp2_with fail
            go_ret
            exact ⟨rfl, below_then kF kE kF.size⟩
          refine join_ (σ := Value × Value × Value × Value × Value × Value × Snap × Unit) 2 #[true, true, true, true, true, true, true, true, true, true, true, true, true, true, true, true, true, true, true, true, true, true, false, false] (fun zz => [(94, zz.1), (96, zz.2.1), (101, zz.2.2.1), (103, zz.2.2.2.1), (106, zz.2.2.2.2.1), (110, zz.2.2.2.2.2.1), (111, .agg #[(zz.2.1), (zz.2.2.2.1), (zz.2.2.2.2.2.1)])]) (fun zz W => Below wr.heap.size wr W ∧ Mk wr h W (zz.2.2.2.2.2.2.1) ∧ TyS (zz.2.2.2.2.2.2.1) (s.vars ++ m) (zz.2.1) ∧ TyS (zz.2.2.2.2.2.2.1) (s.pars ++ m) (zz.2.2.2.1) ∧ TyS (zz.2.2.2.2.2.2.1) (m ++ s.bound) (zz.2.2.2.2.2.1) ∧ True) ?_ (fun stz60 => ?_)
          · rintro ⟨v1, v2, v3, v4, v5, v6, hh, ⟨⟩⟩ W ⟨hS, mM, rt0, rt1, rt2, -⟩
            dsimp only at mM rt0 rt1 rt2
            refine norm_ (a' := ?_) ?_ ?_
            rotate_left
            · simp only [putAll, Act.put, List.setIfInBounds_toArray, List.set_cons_zero, List.set_cons_succ]
              rfl
            refine rg1 22 rfl (by kernel_rfl) (by decide) (by kernel_rfl) (fun K hK => ?_)
            go_simp
            refine hK.out _ _ (hS.alloc hS.size _) (fun hS2 => ?_)
            exact norm_ (by kernel_rfl) (stz61 (v1, v2, v3, v4, v5, v6, hh, (W).heap.size, ()) _ ⟨hS2, mM.world (mM.has.alloc _), rt0, rt1, rt2, blk_new _ _, hS.size, mM.has.off_new (fun k e => by rw [e]; exact Nat.le_refl _), trivial⟩)
          refine join_ (σ := Value × Value × Value × Value × Value × Snap × Nat × List Value × Nat × Unit) 3 #[true, true, true, true, true, true, true, true, true, true, true, true, true, true, true, true, true, true, true, true, false, false, true, false] (fun zz => [(94, zz.1), (96, zz.2.1), (101, zz.2.2.1), (103, zz.2.2.2.1), (106, zz.2.2.2.2.1), (12, .pointer (some ⟨zz.2.2.2.2.2.2.2.2.1, 0, none⟩))]) (fun zz W => Below wr.heap.size wr W ∧ Mk wr h W (zz.2.2.2.2.2.1) ∧ TyS (zz.2.2.2.2.2.1) (s.vars ++ m) (zz.2.1) ∧ TyS (zz.2.2.2.2.2.1) (s.pars ++ m) (zz.2.2.2.1) ∧ W.ownsRow (zz.2.2.2.2.2.2.1) 36 2 (zz.2.2.2.2.1) m.length (zz.2.2.2.2.2.2.2.1) ∧ Chunks (TyR (zz.2.2.2.2.2.1)) 2 m (zz.2.2.2.2.2.2.2.1) ∧ (∀ a u, (zz.2.2.2.2.2.1) a = some u → a.block < (zz.2.2.2.2.2.2.1)) ∧ wr.heap.size ≤ (zz.2.2.2.2.2.2.1) ∧ (zz.2.2.2.2.2.2.1) ≤ W.heap.size ∧ W.heap[zz.2.2.2.2.2.2.2.2.1]? = some (.cells #[.slice none 0 0, .slice none 0 0, .slice none 0 0] 31) ∧ wr.heap.size ≤ (zz.2.2.2.2.2.2.2.2.1) ∧ Off (zz.2.2.2.2.2.1) (fun q => q = (zz.2.2.2.2.2.2.2.2.1)) ∧ (zz.2.2.2.2.1).ownBlock ≠ some (zz.2.2.2.2.2.2.2.2.1) ∧ True) ?_ (fun stz51 => ?_)
          · rintro ⟨v1, v2, v3, v4, v5, hh, N, ys, g, ⟨⟩⟩ W ⟨hS, mM, rt0, rt1, hown, hch, hlt, hNW, hNle, hg, hge, hog, hne, -⟩
            dsimp only at mM rt0 rt1 hown hch hlt hNW hNle hg hge hog hne
            refine norm_ (a' := ?_) ?_ ?_
            rotate_left
            · simp only [putAll, Act.put, List.setIfInBounds_toArray, List.set_cons_zero, List.set_cons_succ]
              rfl
            refine rg1 20 rfl (by kernel_rfl) (by decide) (by kernel_rfl) (fun K hK => ?_)
            refine app36S (sv := v5) (xv := .slice A2 s.bound.length k2) (us := s.bound) (h := hh) _ _ rfl (by go_simp) hown (by go_simp) mM.has (q2s.out.sub mM.sub) (by unfold lim; omega) hNle ?_
            intro vn W1 ys1 hown1 hch1 hgr hat
            have kp : Kp (fun q => (v5).ownBlock = some q) (W) W1 := (Kp.refl (fun q => (v5).ownBlock = some q) (W)).grown hgr (fun q e => .inl e)
            have kb1 : Below wr.heap.size wr W1 := ((Kp.of_below (fun q => wr.heap.size ≤ q) hS).trans kp (fun q hq e => by have := (hown.lt _ e).1; omega)).below (fun i hi hq => by omega)
            have has1 : Has W1 hh := mM.has.kp kp ⟨fun a u e hq => by have := hlt a u e; have := (hown.lt _ hq).1; omega⟩
            obtain ⟨h3, r3, m3, z3⟩ := own_TyS (w0 := wr) has1 hNW hown1 (hch.append hch1) (by unfold lim; simp; omega)
            obtain ⟨An, cn, rfl⟩ := own_form hown1
            refine hK.out _ _ kb1 (fun hS2 => ?_)
            have hog3 : Off h3 (fun q => q = g) := ⟨fun a u e hq => by
              have hq' : a.block = g := hq
              rcases z3 a u e with e1 | e1
              · exact hog.at_ a u e1 hq
              · rcases hat _ e1 with e2 | e2
                · rw [hq'] at e2; exact hne e2
                · have e1 : (W).heap.size ≤ a.block := e2
                  have := blk_lt hg
                  omega⟩
            obtain ⟨Aq0, cq0, rfl, -, -, -⟩ := id rt0
            obtain ⟨Aq1, cq1, rfl, -, -, -⟩ := id rt1
            refine norm_ (a' := Act.put _ (some 110) _) rfl ?_
            simp only [Act.put, List.setIfInBounds_toArray, List.set_cons_zero, List.set_cons_succ]
            refine rgnf 21 111 (.agg #[(.slice Aq0 (s.vars ++ m).length cq0), (.slice Aq1 (s.pars ++ m).length cq1), (.slice An (m.length + s.bound.length) cn)]) rfl rfl (by kernel_rfl) (fun _ _ _ h => h) (by kernel_rfl) hS2 (fun V hV => by go_simp) ?_
            exact norm_ (by kernel_rfl) (stz61 (v1, .slice Aq0 (s.vars ++ m).length cq0, v3, .slice Aq1 (s.pars ++ m).length cq1, v5, .slice An (m.length + s.bound.length) cn, h3, g, ()) _ ⟨hS2, mM.then_ m3, rt0.sub m3.sub, rt1.sub m3.sub, r3, blk_kp hg kp hne, hge, hog3, trivial⟩)
          refine join_ (σ := Value × Value × Value × Value × Value × Snap × Nat × List Value × Unit) 4 #[true, true, true, true, true, true, true, true, true, true, true, true, true, true, true, true, true, true, true, true, false, false, false, false] (fun zz => [(94, zz.1), (96, zz.2.1), (101, zz.2.2.1), (103, zz.2.2.2.1), (106, zz.2.2.2.2.1)]) (fun zz W => Below wr.heap.size wr W ∧ Mk wr h W (zz.2.2.2.2.2.1) ∧ TyS (zz.2.2.2.2.2.1) (s.vars ++ m) (zz.2.1) ∧ TyS (zz.2.2.2.2.2.1) (s.pars ++ m) (zz.2.2.2.1) ∧ W.ownsRow (zz.2.2.2.2.2.2.1) 36 2 (zz.2.2.2.2.1) m.length (zz.2.2.2.2.2.2.2.1) ∧ Chunks (TyR (zz.2.2.2.2.2.1)) 2 m (zz.2.2.2.2.2.2.2.1) ∧ (∀ a u, (zz.2.2.2.2.2.1) a = some u → a.block < (zz.2.2.2.2.2.2.1)) ∧ wr.heap.size ≤ (zz.2.2.2.2.2.2.1) ∧ (zz.2.2.2.2.2.2.1) ≤ W.heap.size ∧ True) ?_ (fun stz50 => ?_)
          · rintro ⟨v1, v2, v3, v4, v5, hh, N, ys, ⟨⟩⟩ W ⟨hS, mM, rt0, rt1, hown, hch, hlt, hNW, hNle, -⟩
            dsimp only at mM rt0 rt1 hown hch hlt hNW hNle
            refine norm_ (a' := ?_) ?_ ?_
            rotate_left
            · simp only [putAll, Act.put, List.setIfInBounds_toArray, List.set_cons_zero, List.set_cons_succ]
              rfl
            refine rg2 20 22 rfl rfl (by kernel_rfl) (by decide) (by decide) (by kernel_rfl) (by kernel_rfl) (fun K hK => ?_) (fun K hK => ?_)
            · refine app36S (sv := v5) (xv := .slice A2 s.bound.length k2) (us := s.bound) (h := hh) _ _ rfl (by go_simp) hown (by go_simp) mM.has (q2s.out.sub mM.sub) (by unfold lim; omega) hNle ?_
              intro vn W1 ys1 hown1 hch1 hgr hat
              have kp : Kp (fun q => (v5).ownBlock = some q) (W) W1 := (Kp.refl (fun q => (v5).ownBlock = some q) (W)).grown hgr (fun q e => .inl e)
              have kb1 : Below wr.heap.size wr W1 := ((Kp.of_below (fun q => wr.heap.size ≤ q) hS).trans kp (fun q hq e => by have := (hown.lt _ e).1; omega)).below (fun i hi hq => by omega)
              have has1 : Has W1 hh := mM.has.kp kp ⟨fun a u e hq => by have := hlt a u e; have := (hown.lt _ hq).1; omega⟩
              obtain ⟨h3, r3, m3, z3⟩ := own_TyS (w0 := wr) has1 hNW hown1 (hch.append hch1) (by unfold lim; simp; omega)
              obtain ⟨An, cn, rfl⟩ := own_form hown1
              refine hK.out _ _ kb1 (fun hS2 => ?_)
              obtain ⟨Aq0, cq0, rfl, -, -, -⟩ := id rt0
              obtain ⟨Aq1, cq1, rfl, -, -, -⟩ := id rt1
              refine norm_ (a' := Act.put _ (some 110) _) rfl ?_
              simp only [Act.put, List.setIfInBounds_toArray, List.set_cons_zero, List.set_cons_succ]
              refine rgnf 21 111 (.agg #[(.slice Aq0 (s.vars ++ m).length cq0), (.slice Aq1 (s.pars ++ m).length cq1), (.slice An (m.length + s.bound.length) cn)]) rfl rfl (by kernel_rfl) (fun _ _ _ h => h) (by kernel_rfl) hS2 (fun V hV => by go_simp) ?_
              exact norm_ (by kernel_rfl) (stz60 (v1, .slice Aq0 (s.vars ++ m).length cq0, v3, .slice Aq1 (s.pars ++ m).length cq1, v5, .slice An (m.length + s.bound.length) cn, h3, ()) _ ⟨hS2, mM.then_ m3, rt0.sub m3.sub, rt1.sub m3.sub, r3, trivial⟩)
            · go_simp
              refine hK.out _ _ (hS.alloc hS.size _) (fun hS2 => ?_)
              exact norm_ (by kernel_rfl) (stz51 (v1, v2, v3, v4, v5, hh, N, ys, (W).heap.size, ()) _ ⟨hS2, mM.world (mM.has.alloc _), rt0, rt1, own_kp hown ((Kp.refl (fun _ => False) (W)).alloc _) (fun _ hf => hf.elim), hch, hlt, hNW, Nat.le_trans hNle (by simp), blk_new _ _, hS.size, mM.has.off_new (fun k e => by rw [e]; exact Nat.le_refl _), own_new hown (Nat.le_refl _), trivial⟩)
          refine join_ (σ := Value × Value × Value × Value × Snap × Nat × Unit) 4 #[true, true, true, true, true, true, true, true, true, true, true, true, true, true, true, true, false, true, true, true, false, false, true, false] (fun zz => [(94, zz.1), (96, zz.2.1), (101, zz.2.2.1), (103, zz.2.2.2.1), (12, .pointer (some ⟨zz.2.2.2.2.2.1, 0, none⟩))]) (fun zz W => Below wr.heap.size wr W ∧ Mk wr h W (zz.2.2.2.2.1) ∧ TyS (zz.2.2.2.2.1) (s.vars ++ m) (zz.2.1) ∧ TyS (zz.2.2.2.2.1) (s.pars ++ m) (zz.2.2.2.1) ∧ W.heap[zz.2.2.2.2.2.1]? = some (.cells #[.slice none 0 0, .slice none 0 0, .slice none 0 0] 31) ∧ wr.heap.size ≤ (zz.2.2.2.2.2.1) ∧ Off (zz.2.2.2.2.1) (fun q => q = (zz.2.2.2.2.2.1)) ∧ True) ?_ (fun stz41 => ?_)
          · rintro ⟨v1, v2, v3, v4, hh, g, ⟨⟩⟩ W ⟨hS, mM, rt0, rt1, hg, hge, hog, -⟩
            dsimp only at mM rt0 rt1 hg hge hog
            refine norm_ (a' := ?_) ?_ ?_
            rotate_left
            · simp only [putAll, Act.put, List.setIfInBounds_toArray, List.set_cons_zero, List.set_cons_succ]
              rfl
            refine rg1 16 rfl (by kernel_rfl) (by decide) (by kernel_rfl) (fun K hK => ?_)
            refine app36S (sv := Value.slice none 0 0) (xv := .slice Am m.length cm) (us := m) (h := hh) _ _ rfl (by go_simp) (World.ownsRow_nil (W) (W).heap.size 36 2) (by go_simp) mM.has (rm0.out.sub mM.sub) (by unfold lim; omega) (Nat.le_refl _) ?_
            intro vn W1 ys1 hown1 hch1 hgr hat
            rw [Nat.zero_add, List.nil_append] at hown1
            have kp : Kp (fun _ => False) (W) W1 := (Kp.refl (fun _ => False) (W)).grown hgr (fun q e => by cases e)
            have kb1 : Below wr.heap.size wr W1 := ((Kp.of_below (fun q => wr.heap.size ≤ q) hS).trans kp (fun q hq hf => hf.elim)).below (fun i hi hq => by omega)
            have has1 : Has W1 hh := mM.has.kp kp (Off.none _)
            have hlt1 : ∀ a u, hh a = some u → a.block < (W).heap.size := fun a u e => mM.has.lt e
            obtain ⟨An, cn, rfl⟩ := own_form hown1
            refine hK.out _ _ kb1 (fun hS2 => ?_)
            exact norm_ (by kernel_rfl) (stz51 (v1, v2, v3, v4, .slice An m.length cn, hh, (W).heap.size, ys1, g, ()) _ ⟨hS2, mM.world has1, rt0, rt1, hown1, hch1, hlt1, hS.size, kp.size, blk_kp hg kp (fun hf => hf), hge, hog, fun e => by
                rcases hat _ e with e | e
                · cases e
                · have e1 : (W).heap.size ≤ g := e
                  have := blk_lt hg
                  omega, trivial⟩)
          refine join_ (σ := Value × Value × Value × Value × Snap × Unit) 5 #[true, true, true, true, true, true, true, true, true, true, true, true, true, true, true, true, false, true, true, true, false, false, false, false] (fun zz => [(94, zz.1), (96, zz.2.1), (101, zz.2.2.1), (103, zz.2.2.2.1)]) (fun zz W => Below wr.heap.size wr W ∧ Mk wr h W (zz.2.2.2.2.1) ∧ TyS (zz.2.2.2.2.1) (s.vars ++ m) (zz.2.1) ∧ TyS (zz.2.2.2.2.1) (s.pars ++ m) (zz.2.2.2.1) ∧ True) ?_ (fun stz40 => ?_)
          · rintro ⟨v1, v2, v3, v4, hh, ⟨⟩⟩ W ⟨hS, mM, rt0, rt1, -⟩
            dsimp only at mM rt0 rt1
            refine norm_ (a' := ?_) ?_ ?_
            rotate_left
            · simp only [putAll, Act.put, List.setIfInBounds_toArray, List.set_cons_zero, List.set_cons_succ]
              rfl
            refine rg2 16 22 rfl rfl (by kernel_rfl) (by decide) (by decide) (by kernel_rfl) (by kernel_rfl) (fun K hK => ?_) (fun K hK => ?_)
            · refine app36S (sv := Value.slice none 0 0) (xv := .slice Am m.length cm) (us := m) (h := hh) _ _ rfl (by go_simp) (World.ownsRow_nil (W) (W).heap.size 36 2) (by go_simp) mM.has (rm0.out.sub mM.sub) (by unfold lim; omega) (Nat.le_refl _) ?_
              intro vn W1 ys1 hown1 hch1 hgr hat
              rw [Nat.zero_add, List.nil_append] at hown1
              have kp : Kp (fun _ => False) (W) W1 := (Kp.refl (fun _ => False) (W)).grown hgr (fun q e => by cases e)
              have kb1 : Below wr.heap.size wr W1 := ((Kp.of_below (fun q => wr.heap.size ≤ q) hS).trans kp (fun q hq hf => hf.elim)).below (fun i hi hq => by omega)
              have has1 : Has W1 hh := mM.has.kp kp (Off.none _)
              have hlt1 : ∀ a u, hh a = some u → a.block < (W).heap.size := fun a u e => mM.has.lt e
              obtain ⟨An, cn, rfl⟩ := own_form hown1
              refine hK.out _ _ kb1 (fun hS2 => ?_)
              exact norm_ (by kernel_rfl) (stz50 (v1, v2, v3, v4, .slice An m.length cn, hh, (W).heap.size, ys1, ()) _ ⟨hS2, mM.world has1, rt0, rt1, hown1, hch1, hlt1, hS.size, kp.size, trivial⟩)
            · go_simp
              refine hK.out _ _ (hS.alloc hS.size _) (fun hS2 => ?_)
              exact norm_ (by kernel_rfl) (stz41 (v1, v2, v3, v4, hh, (W).heap.size, ()) _ ⟨hS2, mM.world (mM.has.alloc _), rt0, rt1, blk_new _ _, hS.size, mM.has.off_new (fun k e => by rw [e]; exact Nat.le_refl _), trivial⟩)
          refine join_ (σ := Value × Value × Value × Snap × Nat × List Value × Nat × Unit) 5 #[true, true, true, true, true, true, true, true, true, true, true, true, true, false, true, true, false, true, true, true, false, false, true, false] (fun zz => [(94, zz.1), (96, zz.2.1), (101, zz.2.2.1), (12, .pointer (some ⟨zz.2.2.2.2.2.2.1, 0, none⟩))]) (fun zz W => Below wr.heap.size wr W ∧ Mk wr h W (zz.2.2.2.1) ∧ TyS (zz.2.2.2.1) (s.vars ++ m) (zz.2.1) ∧ W.ownsRow (zz.2.2.2.2.1) 36 2 (zz.2.2.1) s.pars.length (zz.2.2.2.2.2.1) ∧ Chunks (TyR (zz.2.2.2.1)) 2 s.pars (zz.2.2.2.2.2.1) ∧ (∀ a u, (zz.2.2.2.1) a = some u → a.block < (zz.2.2.2.2.1)) ∧ wr.heap.size ≤ (zz.2.2.2.2.1) ∧ (zz.2.2.2.2.1) ≤ W.heap.size ∧ W.heap[zz.2.2.2.2.2.2.1]? = some (.cells #[.slice none 0 0, .slice none 0 0, .slice none 0 0] 31) ∧ wr.heap.size ≤ (zz.2.2.2.2.2.2.1) ∧ Off (zz.2.2.2.1) (fun q => q = (zz.2.2.2.2.2.2.1)) ∧ (zz.2.2.1).ownBlock ≠ some (zz.2.2.2.2.2.2.1) ∧ True) ?_ (fun stz31 => ?_)
          · rintro ⟨v1, v2, v3, hh, N, ys, g, ⟨⟩⟩ W ⟨hS, mM, rt0, hown, hch, hlt, hNW, hNle, hg, hge, hog, hne, -⟩
            dsimp only at mM rt0 hown hch hlt hNW hNle hg hge hog hne
            refine norm_ (a' := ?_) ?_ ?_
            rotate_left
            · simp only [putAll, Act.put, List.setIfInBounds_toArray, List.set_cons_zero, List.set_cons_succ]
              rfl
            refine rg1 13 rfl (by kernel_rfl) (by decide) (by kernel_rfl) (fun K hK => ?_)
            refine app36S (sv := v3) (xv := .slice Am m.length cm) (us := m) (h := hh) _ _ rfl (by go_simp) hown (by go_simp) mM.has (rm0.out.sub mM.sub) (by unfold lim; omega) hNle ?_
            intro vn W1 ys1 hown1 hch1 hgr hat
            have kp : Kp (fun q => (v3).ownBlock = some q) (W) W1 := (Kp.refl (fun q => (v3).ownBlock = some q) (W)).grown hgr (fun q e => .inl e)
            have kb1 : Below wr.heap.size wr W1 := ((Kp.of_below (fun q => wr.heap.size ≤ q) hS).trans kp (fun q hq e => by have := (hown.lt _ e).1; omega)).below (fun i hi hq => by omega)
            have has1 : Has W1 hh := mM.has.kp kp ⟨fun a u e hq => by have := hlt a u e; have := (hown.lt _ hq).1; omega⟩
            obtain ⟨h3, r3, m3, z3⟩ := own_TyS (w0 := wr) has1 hNW hown1 (hch.append hch1) (by unfold lim; simp; omega)
            obtain ⟨An, cn, rfl⟩ := own_form hown1
            refine hK.out _ _ kb1 (fun hS2 => ?_)
            have hog3 : Off h3 (fun q => q = g) := ⟨fun a u e hq => by
              have hq' : a.block = g := hq
              rcases z3 a u e with e1 | e1
              · exact hog.at_ a u e1 hq
              · rcases hat _ e1 with e2 | e2
                · rw [hq'] at e2; exact hne e2
                · have e1 : (W).heap.size ≤ a.block := e2
                  have := blk_lt hg
                  omega⟩
            exact norm_ (by kernel_rfl) (stz41 (v1, v2, v3, .slice An (s.pars.length + m.length) cn, h3, g, ()) _ ⟨hS2, mM.then_ m3, rt0.sub m3.sub, r3, blk_kp hg kp hne, hge, hog3, trivial⟩)
          refine join_ (σ := Value × Value × Value × Snap × Nat × List Value × Unit) 6 #[true, true, true, true, true, true, true, true, true, true, true, true, true, false, true, true, false, true, true, true, false, false, false, false] (fun zz => [(94, zz.1), (96, zz.2.1), (101, zz.2.2.1)]) (fun zz W => Below wr.heap.size wr W ∧ Mk wr h W (zz.2.2.2.1) ∧ TyS (zz.2.2.2.1) (s.vars ++ m) (zz.2.1) ∧ W.ownsRow (zz.2.2.2.2.1) 36 2 (zz.2.2.1) s.pars.length (zz.2.2.2.2.2.1) ∧ Chunks (TyR (zz.2.2.2.1)) 2 s.pars (zz.2.2.2.2.2.1) ∧ (∀ a u, (zz.2.2.2.1) a = some u → a.block < (zz.2.2.2.2.1)) ∧ wr.heap.size ≤ (zz.2.2.2.2.1) ∧ (zz.2.2.2.2.1) ≤ W.heap.size ∧ True) ?_ (fun stz30 => ?_)
          · rintro ⟨v1, v2, v3, hh, N, ys, ⟨⟩⟩ W ⟨hS, mM, rt0, hown, hch, hlt, hNW, hNle, -⟩
            dsimp only at mM rt0 hown hch hlt hNW hNle
            refine norm_ (a' := ?_) ?_ ?_
            rotate_left
            · simp only [putAll, Act.put, List.setIfInBounds_toArray, List.set_cons_zero, List.set_cons_succ]
              rfl
            refine rg2 13 22 rfl rfl (by kernel_rfl) (by decide) (by decide) (by kernel_rfl) (by kernel_rfl) (fun K hK => ?_) (fun K hK => ?_)
            · refine app36S (sv := v3) (xv := .slice Am m.length cm) (us := m) (h := hh) _ _ rfl (by go_simp) hown (by go_simp) mM.has (rm0.out.sub mM.sub) (by unfold lim; omega) hNle ?_
              intro vn W1 ys1 hown1 hch1 hgr hat
              have kp : Kp (fun q => (v3).ownBlock = some q) (W) W1 := (Kp.refl (fun q => (v3).ownBlock = some q) (W)).grown hgr (fun q e => .inl e)
              have kb1 : Below wr.heap.size wr W1 := ((Kp.of_below (fun q => wr.heap.size ≤ q) hS).trans kp (fun q hq e => by have := (hown.lt _ e).1; omega)).below (fun i hi hq => by omega)
              have has1 : Has W1 hh := mM.has.kp kp ⟨fun a u e hq => by have := hlt a u e; have := (hown.lt _ hq).1; omega⟩
              obtain ⟨h3, r3, m3, z3⟩ := own_TyS (w0 := wr) has1 hNW hown1 (hch.append hch1) (by unfold lim; simp; omega)
              obtain ⟨An, cn, rfl⟩ := own_form hown1
              refine hK.out _ _ kb1 (fun hS2 => ?_)
              exact norm_ (by kernel_rfl) (stz40 (v1, v2, v3, .slice An (s.pars.length + m.length) cn, h3, ()) _ ⟨hS2, mM.then_ m3, rt0.sub m3.sub, r3, trivial⟩)
            · go_simp
              refine hK.out _ _ (hS.alloc hS.size _) (fun hS2 => ?_)
              exact norm_ (by kernel_rfl) (stz31 (v1, v2, v3, hh, N, ys, (W).heap.size, ()) _ ⟨hS2, mM.world (mM.has.alloc _), rt0, own_kp hown ((Kp.refl (fun _ => False) (W)).alloc _) (fun _ hf => hf.elim), hch, hlt, hNW, Nat.le_trans hNle (by simp), blk_new _ _, hS.size, mM.has.off_new (fun k e => by rw [e]; exact Nat.le_refl _), own_new hown (Nat.le_refl _), trivial⟩)
          refine join_ (σ := Value × Value × Snap × Nat × Unit) 6 #[true, true, true, true, true, true, true, true, true, true, true, false, true, false, true, true, false, true, true, true, false, false, true, false] (fun zz => [(94, zz.1), (96, zz.2.1), (12, .pointer (some ⟨zz.2.2.2.1, 0, none⟩))]) (fun zz W => Below wr.heap.size wr W ∧ Mk wr h W (zz.2.2.1) ∧ TyS (zz.2.2.1) (s.vars ++ m) (zz.2.1) ∧ W.heap[zz.2.2.2.1]? = some (.cells #[.slice none 0 0, .slice none 0 0, .slice none 0 0] 31) ∧ wr.heap.size ≤ (zz.2.2.2.1) ∧ Off (zz.2.2.1) (fun q => q = (zz.2.2.2.1)) ∧ True) ?_ (fun stz21 => ?_)
          · rintro ⟨v1, v2, hh, g, ⟨⟩⟩ W ⟨hS, mM, rt0, hg, hge, hog, -⟩
            dsimp only at mM rt0 hg hge hog
            refine norm_ (a' := ?_) ?_ ?_
            rotate_left
            · simp only [putAll, Act.put, List.setIfInBounds_toArray, List.set_cons_zero, List.set_cons_succ]
              rfl
            refine rg1 11 rfl (by kernel_rfl) (by decide) (by kernel_rfl) (fun K hK => ?_)
            refine app36S (sv := Value.slice none 0 0) (xv := .slice A1 s.pars.length k1) (us := s.pars) (h := hh) _ _ rfl (by go_simp) (World.ownsRow_nil (W) (W).heap.size 36 2) (by go_simp) mM.has (q1s.out.sub mM.sub) (by unfold lim; omega) (Nat.le_refl _) ?_
            intro vn W1 ys1 hown1 hch1 hgr hat
            rw [Nat.zero_add, List.nil_append] at hown1
            have kp : Kp (fun _ => False) (W) W1 := (Kp.refl (fun _ => False) (W)).grown hgr (fun q e => by cases e)
            have kb1 : Below wr.heap.size wr W1 := ((Kp.of_below (fun q => wr.heap.size ≤ q) hS).trans kp (fun q hq hf => hf.elim)).below (fun i hi hq => by omega)
            have has1 : Has W1 hh := mM.has.kp kp (Off.none _)
            have hlt1 : ∀ a u, hh a = some u → a.block < (W).heap.size := fun a u e => mM.has.lt e
            obtain ⟨An, cn, rfl⟩ := own_form hown1
            refine hK.out _ _ kb1 (fun hS2 => ?_)
            exact norm_ (by kernel_rfl) (stz31 (v1, v2, .slice An s.pars.length cn, hh, (W).heap.size, ys1, g, ()) _ ⟨hS2, mM.world has1, rt0, hown1, hch1, hlt1, hS.size, kp.size, blk_kp hg kp (fun hf => hf), hge, hog, fun e => by
                rcases hat _ e with e | e
                · cases e
                · have e1 : (W).heap.size ≤ g := e
                  have := blk_lt hg
                  omega, trivial⟩)
          refine join_ (σ := Value × Value × Snap × Unit) 7 #[true, true, true, true, true, true, true, true, true, true, true, false, true, false, true, true, false, true, true, true, false, false, false, false] (fun zz => [(94, zz.1), (96, zz.2.1)]) (fun zz W => Below wr.heap.size wr W ∧ Mk wr h W (zz.2.2.1) ∧ TyS (zz.2.2.1) (s.vars ++ m) (zz.2.1) ∧ True) ?_ (fun stz20 => ?_)
          · rintro ⟨v1, v2, hh, ⟨⟩⟩ W ⟨hS, mM, rt0, -⟩
            dsimp only at mM rt0
            refine norm_ (a' := ?_) ?_ ?_
            rotate_left
            · simp only [putAll, Act.put, List.setIfInBounds_toArray, List.set_cons_zero, List.set_cons_succ]
              rfl
            refine rg2 11 22 rfl rfl (by kernel_rfl) (by decide) (by decide) (by kernel_rfl) (by kernel_rfl) (fun K hK => ?_) (fun K hK => ?_)
            · refine app36S (sv := Value.slice none 0 0) (xv := .slice A1 s.pars.length k1) (us := s.pars) (h := hh) _ _ rfl (by go_simp) (World.ownsRow_nil (W) (W).heap.size 36 2) (by go_simp) mM.has (q1s.out.sub mM.sub) (by unfold lim; omega) (Nat.le_refl _) ?_
              intro vn W1 ys1 hown1 hch1 hgr hat
              rw [Nat.zero_add, List.nil_append] at hown1
              have kp : Kp (fun _ => False) (W) W1 := (Kp.refl (fun _ => False) (W)).grown hgr (fun q e => by cases e)
              have kb1 : Below wr.heap.size wr W1 := ((Kp.of_below (fun q => wr.heap.size ≤ q) hS).trans kp (fun q hq hf => hf.elim)).below (fun i hi hq => by omega)
              have has1 : Has W1 hh := mM.has.kp kp (Off.none _)
              have hlt1 : ∀ a u, hh a = some u → a.block < (W).heap.size := fun a u e => mM.has.lt e
              obtain ⟨An, cn, rfl⟩ := own_form hown1
              refine hK.out _ _ kb1 (fun hS2 => ?_)
              exact norm_ (by kernel_rfl) (stz30 (v1, v2, .slice An s.pars.length cn, hh, (W).heap.size, ys1, ()) _ ⟨hS2, mM.world has1, rt0, hown1, hch1, hlt1, hS.size, kp.size, trivial⟩)
            · go_simp
              refine hK.out _ _ (hS.alloc hS.size _) (fun hS2 => ?_)
              exact norm_ (by kernel_rfl) (stz21 (v1, v2, hh, (W).heap.size, ()) _ ⟨hS2, mM.world (mM.has.alloc _), rt0, blk_new _ _, hS.size, mM.has.off_new (fun k e => by rw [e]; exact Nat.le_refl _), trivial⟩)
          refine join_ (σ := Value × Snap × Nat × List Value × Nat × Unit) 7 #[true, true, true, true, true, true, false, true, true, true, true, false, true, false, true, true, false, true, true, true, false, false, true, false] (fun zz => [(94, zz.1), (12, .pointer (some ⟨zz.2.2.2.2.1, 0, none⟩))]) (fun zz W => Below wr.heap.size wr W ∧ Mk wr h W (zz.2.1) ∧ W.ownsRow (zz.2.2.1) 36 2 (zz.1) s.vars.length (zz.2.2.2.1) ∧ Chunks (TyR (zz.2.1)) 2 s.vars (zz.2.2.2.1) ∧ (∀ a u, (zz.2.1) a = some u → a.block < (zz.2.2.1)) ∧ wr.heap.size ≤ (zz.2.2.1) ∧ (zz.2.2.1) ≤ W.heap.size ∧ W.heap[zz.2.2.2.2.1]? = some (.cells #[.slice none 0 0, .slice none 0 0, .slice none 0 0] 31) ∧ wr.heap.size ≤ (zz.2.2.2.2.1) ∧ Off (zz.2.1) (fun q => q = (zz.2.2.2.2.1)) ∧ (zz.1).ownBlock ≠ some (zz.2.2.2.2.1) ∧ True) ?_ (fun stz11 => ?_)
          · rintro ⟨v1, hh, N, ys, g, ⟨⟩⟩ W ⟨hS, mM, hown, hch, hlt, hNW, hNle, hg, hge, hog, hne, -⟩
            dsimp only at mM hown hch hlt hNW hNle hg hge hog hne
            refine norm_ (a' := ?_) ?_ ?_
            rotate_left
            · simp only [putAll, Act.put, List.setIfInBounds_toArray, List.set_cons_zero, List.set_cons_succ]
              rfl
            refine rg1 6 rfl (by kernel_rfl) (by decide) (by kernel_rfl) (fun K hK => ?_)
            refine app36S (sv := v1) (xv := .slice Am m.length cm) (us := m) (h := hh) _ _ rfl (by go_simp) hown (by go_simp) mM.has (rm0.out.sub mM.sub) (by unfold lim; omega) hNle ?_
            intro vn W1 ys1 hown1 hch1 hgr hat
            have kp : Kp (fun q => (v1).ownBlock = some q) (W) W1 := (Kp.refl (fun q => (v1).ownBlock = some q) (W)).grown hgr (fun q e => .inl e)
            have kb1 : Below wr.heap.size wr W1 := ((Kp.of_below (fun q => wr.heap.size ≤ q) hS).trans kp (fun q hq e => by have := (hown.lt _ e).1; omega)).below (fun i hi hq => by omega)
            have has1 : Has W1 hh := mM.has.kp kp ⟨fun a u e hq => by have := hlt a u e; have := (hown.lt _ hq).1; omega⟩
            obtain ⟨h3, r3, m3, z3⟩ := own_TyS (w0 := wr) has1 hNW hown1 (hch.append hch1) (by unfold lim; simp; omega)
            obtain ⟨An, cn, rfl⟩ := own_form hown1
            refine hK.out _ _ kb1 (fun hS2 => ?_)
            have hog3 : Off h3 (fun q => q = g) := ⟨fun a u e hq => by
              have hq' : a.block = g := hq
              rcases z3 a u e with e1 | e1
              · exact hog.at_ a u e1 hq
              · rcases hat _ e1 with e2 | e2
                · rw [hq'] at e2; exact hne e2
                · have e1 : (W).heap.size ≤ a.block := e2
                  have := blk_lt hg
                  omega⟩
            exact norm_ (by kernel_rfl) (stz21 (v1, .slice An (s.vars.length + m.length) cn, h3, g, ()) _ ⟨hS2, mM.then_ m3, r3, blk_kp hg kp hne, hge, hog3, trivial⟩)
          refine join_ (σ := Value × Snap × Nat × List Value × Unit) 8 #[true, true, true, true, true, true, false, true, true, true, true, false, true, false, true, true, false, true, true, true, false, false, false, false] (fun zz => [(94, zz.1)]) (fun zz W => Below wr.heap.size wr W ∧ Mk wr h W (zz.2.1) ∧ W.ownsRow (zz.2.2.1) 36 2 (zz.1) s.vars.length (zz.2.2.2.1) ∧ Chunks (TyR (zz.2.1)) 2 s.vars (zz.2.2.2.1) ∧ (∀ a u, (zz.2.1) a = some u → a.block < (zz.2.2.1)) ∧ wr.heap.size ≤ (zz.2.2.1) ∧ (zz.2.2.1) ≤ W.heap.size ∧ True) ?_ (fun stz10 => ?_)
          · rintro ⟨v1, hh, N, ys, ⟨⟩⟩ W ⟨hS, mM, hown, hch, hlt, hNW, hNle, -⟩
            dsimp only at mM hown hch hlt hNW hNle
            refine norm_ (a' := ?_) ?_ ?_
            rotate_left
            · simp only [putAll, Act.put, List.setIfInBounds_toArray, List.set_cons_zero, List.set_cons_succ]
              rfl
            refine rg2 6 22 rfl rfl (by kernel_rfl) (by decide) (by decide) (by kernel_rfl) (by kernel_rfl) (fun K hK => ?_) (fun K hK => ?_)
            · refine app36S (sv := v1) (xv := .slice Am m.length cm) (us := m) (h := hh) _ _ rfl (by go_simp) hown (by go_simp) mM.has (rm0.out.sub mM.sub) (by unfold lim; omega) hNle ?_
              intro vn W1 ys1 hown1 hch1 hgr hat
              have kp : Kp (fun q => (v1).ownBlock = some q) (W) W1 := (Kp.refl (fun q => (v1).ownBlock = some q) (W)).grown hgr (fun q e => .inl e)
              have kb1 : Below wr.heap.size wr W1 := ((Kp.of_below (fun q => wr.heap.size ≤ q) hS).trans kp (fun q hq e => by have := (hown.lt _ e).1; omega)).below (fun i hi hq => by omega)
              have has1 : Has W1 hh := mM.has.kp kp ⟨fun a u e hq => by have := hlt a u e; have := (hown.lt _ hq).1; omega⟩
              obtain ⟨h3, r3, m3, z3⟩ := own_TyS (w0 := wr) has1 hNW hown1 (hch.append hch1) (by unfold lim; simp; omega)
              obtain ⟨An, cn, rfl⟩ := own_form hown1
              refine hK.out _ _ kb1 (fun hS2 => ?_)
              exact norm_ (by kernel_rfl) (stz20 (v1, .slice An (s.vars.length + m.length) cn, h3, ()) _ ⟨hS2, mM.then_ m3, r3, trivial⟩)
            · go_simp
              refine hK.out _ _ (hS.alloc hS.size _) (fun hS2 => ?_)
              exact norm_ (by kernel_rfl) (stz11 (v1, hh, N, ys, (W).heap.size, ()) _ ⟨hS2, mM.world (mM.has.alloc _), own_kp hown ((Kp.refl (fun _ => False) (W)).alloc _) (fun _ hf => hf.elim), hch, hlt, hNW, Nat.le_trans hNle (by simp), blk_new _ _, hS.size, mM.has.off_new (fun k e => by rw [e]; exact Nat.le_refl _), own_new hown (Nat.le_refl _), trivial⟩)
          refine join_ (σ := Snap × Nat × Unit) 8 #[true, true, true, true, false, true, false, true, true, true, true, false, true, false, true, true, false, true, true, true, false, false, true, false] (fun zz => [(12, .pointer (some ⟨zz.2.1, 0, none⟩))]) (fun zz W => Below wr.heap.size wr W ∧ Mk wr h W (zz.1) ∧ W.heap[zz.2.1]? = some (.cells #[.slice none 0 0, .slice none 0 0, .slice none 0 0] 31) ∧ wr.heap.size ≤ (zz.2.1) ∧ Off (zz.1) (fun q => q = (zz.2.1)) ∧ True) ?_ (fun stz01 => ?_)
          · rintro ⟨hh, g, ⟨⟩⟩ W ⟨hS, mM, hg, hge, hog, -⟩
            dsimp only at mM hg hge hog
            refine norm_ (a' := ?_) ?_ ?_
            rotate_left
            · simp only [putAll, Act.put, List.setIfInBounds_toArray, List.set_cons_zero, List.set_cons_succ]
              rfl
            refine rg1 4 rfl (by kernel_rfl) (by decide) (by kernel_rfl) (fun K hK => ?_)
            refine app36S (sv := Value.slice none 0 0) (xv := .slice A0 s.vars.length k0) (us := s.vars) (h := hh) _ _ rfl (by go_simp) (World.ownsRow_nil (W) (W).heap.size 36 2) (by go_simp) mM.has (q0s.out.sub mM.sub) (by unfold lim; omega) (Nat.le_refl _) ?_
            intro vn W1 ys1 hown1 hch1 hgr hat
            rw [Nat.zero_add, List.nil_append] at hown1
            have kp : Kp (fun _ => False) (W) W1 := (Kp.refl (fun _ => False) (W)).grown hgr (fun q e => by cases e)
            have kb1 : Below wr.heap.size wr W1 := ((Kp.of_below (fun q => wr.heap.size ≤ q) hS).trans kp (fun q hq hf => hf.elim)).below (fun i hi hq => by omega)
            have has1 : Has W1 hh := mM.has.kp kp (Off.none _)
            have hlt1 : ∀ a u, hh a = some u → a.block < (W).heap.size := fun a u e => mM.has.lt e
            obtain ⟨An, cn, rfl⟩ := own_form hown1
            refine hK.out _ _ kb1 (fun hS2 => ?_)
            exact norm_ (by kernel_rfl) (stz11 (.slice An s.vars.length cn, hh, (W).heap.size, ys1, g, ()) _ ⟨hS2, mM.world has1, hown1, hch1, hlt1, hS.size, kp.size, blk_kp hg kp (fun hf => hf), hge, hog, fun e => by
                rcases hat _ e with e | e
                · cases e
                · have e1 : (W).heap.size ≤ g := e
                  have := blk_lt hg
                  omega, trivial⟩)
          have mM : Mk wr h wr.drew h := Mk.refl hh0.drew
          refine rg2 4 22 rfl rfl (by kernel_rfl) (by decide) (by decide) (by kernel_rfl) (by kernel_rfl) (fun K hK => ?_) (fun K hK => ?_)
          · refine app36S (sv := Value.slice none 0 0) (xv := .slice A0 s.vars.length k0) (us := s.vars) (h := h) _ _ rfl (by go_simp) (World.ownsRow_nil (wr.drew) (wr.drew).heap.size 36 2) (by go_simp) mM.has (q0s.out.sub mM.sub) (by unfold lim; omega) (Nat.le_refl _) ?_
            intro vn W1 ys1 hown1 hch1 hgr hat
            rw [Nat.zero_add, List.nil_append] at hown1
            have kp : Kp (fun _ => False) (wr.drew) W1 := (Kp.refl (fun _ => False) (wr.drew)).grown hgr (fun q e => by cases e)
            have kb1 : Below wr.heap.size wr W1 := ((Kp.of_below (fun q => wr.heap.size ≤ q) hS).trans kp (fun q hq hf => hf.elim)).below (fun i hi hq => by omega)
            have has1 : Has W1 h := mM.has.kp kp (Off.none _)
            have hlt1 : ∀ a u, h a = some u → a.block < (wr.drew).heap.size := fun a u e => mM.has.lt e
            obtain ⟨An, cn, rfl⟩ := own_form hown1
            refine hK.out _ _ kb1 (fun hS2 => ?_)
            exact norm_ (by kernel_rfl) (stz10 (.slice An s.vars.length cn, h, (wr.drew).heap.size, ys1, ()) _ ⟨hS2, mM.world has1, hown1, hch1, hlt1, hS.size, kp.size, trivial⟩)
          · go_simp
            refine hK.out _ _ (hS.alloc hS.size _) (fun hS2 => ?_)
            exact norm_ (by kernel_rfl) (stz01 (h, (wr.drew).heap.size, ()) _ ⟨hS2, mM.world (mM.has.alloc _), blk_new _ _, hS.size, mM.has.off_new (fun k e => by rw [e]; exact Nat.le_refl _), trivial⟩)
end Go.Proofs.YtpgbeapojjinmaaGreatDoor
