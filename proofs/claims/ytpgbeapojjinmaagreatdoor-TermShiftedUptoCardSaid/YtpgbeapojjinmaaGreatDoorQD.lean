/- term.Compare, term.Same. No law is proved here. -/
import Derived.Test.YtpgbeapojjinmaaGreatDoorQC
import Derived.Test.YtpgbeapojjinmaaGreatDoorCC
set_option linter.unusedVariables false
set_option linter.unusedSimpArgs false
namespace Go.Proofs.YtpgbeapojjinmaaGreatDoor
open Go.RowKit Go.Shelf Go.Proofs.YtpgbeapojjinmaaGreatDoorW.PrintLast
/-- What 'Compare' returns. -/
def cmpV (a b : Tm) : Int := cmpP (rawP a == 0) (rawP b == 0) a b
/-- What 'Same' returns. -/
def sameV (a b : Tm) : Bool := rawP a == 0 && (rawP b == 0 && cmpT a b == 0)
set_option maxRecDepth 100000 in
set_option maxHeartbeats 4000000 in
theorem Compare_calls (a b : Tm) (ca cb : List Value) (w : World) (h : Snap) (H : Has w h) (ra : TmR h a ca) (rb : TmR h b cb) :
    Calls Tryz.prog 54 #[.agg ca.toArray, .agg cb.toArray] w fun e w' => e = .returned (.int .i64 (cmpV a b)) ∧ Below w.heap.size w w' := by
  have ra0 := Lib.hid ra
  have rb0 := Lib.hid rb
  obtain ⟨A, cap, rfl, hl, hm, hk1, hn1, hr⟩ := ra.open_
  obtain ⟨B, dap, rfl, gl, gm, gk1, gn1, gr⟩ := rb.open_
  have hu34 := Tryz.underlying34
  have hu42 := Tryz.underlying42
  obtain ⟨p1, p2, hb⟩ := alloc2 w (.cells #[.int .i64 a.k, .int .i64 a.n, .string a.nm, .slice A a.ar.length cap] 34) (.cells #[.int .i64 b.k, .int .i64 b.n, .string b.nm, .slice B b.ar.length dap] 34)
  have G := Lib.hid (show cmpV a b = cmpP (rawP a == 0) (rawP b == 0) a b from rfl)
  unfold lim at hm gm
  clear ra rb hr gr hk1 hn1 gk1 gn1 hl gl
  go_enter Tryz.func54, Tryz.ntmps54
  go_wp2_with fail
  obtain ⟨W2, hW2⟩ : ∃ W2, (w.alloc (.cells #[.int .i64 a.k, .int .i64 a.n, .string a.nm, .slice A a.ar.length cap] 34)).alloc (.cells #[.int .i64 b.k, .int .i64 b.n, .string b.nm, .slice B b.ar.length dap] 34) = W2 := ⟨_, rfl⟩
  rw [hW2] at p1 p2 hb ⊢
  clear hW2
  have x0 := (box4 p1).1
  have x1 := (box4 p1).2.1
  have x2 := (box4 p1).2.2.1
  have x3 := (box4 p1).2.2.2
  have y0 := (box4 p2).1
  have y1 := (box4 p2).2.1
  have y2 := (box4 p2).2.2.1
  have y3 := (box4 p2).2.2.2
  have H2 := H.below hb
  obtain ⟨ea, hea⟩ : ∃ e, rawP a = e := ⟨_, rfl⟩
  obtain ⟨eb, heb⟩ : ∃ e, rawP b = e := ⟨_, rfl⟩
  rw [hea, heb] at G
  have hea' := Lib.hid hea
  have heb' := Lib.hid heb
  clear hea heb
  refine rgs 8 (fun V => Below W2.heap.size W2 V) [] rfl ((Below.refl _ _).drew) (fun hS => ?_)
  refine rgt 0 (.agg #[.int .i64 a.k, .int .i64 a.n, .string a.nm, .slice A a.ar.length cap]) rfl (by kernel_rfl) (fun _ _ _ h => h) (by kernel_rfl) hS (fun V hV => by have q0 := cell_below x0 hV; have q1 := cell_below x1 hV; have q2 := cell_below x2 hV; have q3 := cell_below x3 hV; go_simp) ?_
  refine rgt 3 (.agg #[.int .i64 b.k, .int .i64 b.n, .string b.nm, .slice B b.ar.length dap]) rfl (by kernel_rfl) (fun _ _ _ h => h) (by kernel_rfl) hS (fun V hV => by have q0 := cell_below y0 hV; have q1 := cell_below y1 hV; have q2 := cell_below y2 hV; have q3 := cell_below y3 hV; go_simp) ?_
  refine rg1 1 rfl (by kernel_rfl) (by decide) (by kernel_rfl) (fun K hK => ?_)
  have hS0 := hS
  go_simp
  refine (Raw_calls a _ _ h (H2.below hS0) ra0.out).mono ?_
  rintro e WN ⟨rfl, kN⟩
  rw [hea'.out]
  simp only []
  refine hK.out _ _ (below_then hS0 kN hS0.size) (fun hS => ?_)
  refine rgt 2 (.bool (ea == 0)) rfl (by kernel_rfl) (fun _ _ _ h => h) (by kernel_rfl) hS (fun V hV => by go_simp) ?_
  refine rg1 4 rfl (by kernel_rfl) (by decide) (by kernel_rfl) (fun K hK => ?_)
  have hS0 := hS
  go_simp
  refine (Raw_calls b _ _ h (H2.below hS0) rb0.out).mono ?_
  rintro e WN ⟨rfl, kN⟩
  rw [heb'.out]
  simp only []
  refine hK.out _ _ (below_then hS0 kN hS0.size) (fun hS => ?_)
  refine rgp 5 (.bool (eb == 0)) rfl (by kernel_rfl) (fun _ _ _ h => h) (by kernel_rfl) (fun V => by go_simp) ?_
  refine rgt 6 (.bool (ea == 0)) rfl (by kernel_rfl) (fun _ _ _ h => h) (by kernel_rfl) hS (fun V hV => by go_simp) ?_
  refine rgt 7 (.bool (eb == 0)) rfl (by kernel_rfl) (fun _ _ _ h => h) (by kernel_rfl) hS (fun V hV => by go_simp) ?_
  refine rgd (by kernel_rfl) ?_
  have kE := below_then hb hS hb.size
  have z0 := cell_below x0 hS
  have z1 := cell_below x1 hS
  have z2 := cell_below x2 hS
  have z3 := cell_below x3 hS
  have u0 := cell_below y0 hS
  have u1 := cell_below y1 hS
  have u2 := cell_below y2 hS
  have u3 := cell_below y3 hS
  clear x0 x1 x2 x3 y0 y1 y2 y3 p1 p2 hS0 hea' heb'
  cases qa : ea == 0
  · rw [qa] at G
    cases qb : eb == 0
    · rw [qb] at G
      go_wp2_with fail
      go_ret
      exact ⟨by rw [G.out]; rfl, kE⟩
    · rw [qb] at G
      go_wp2_with fail
      go_ret
      exact ⟨by rw [G.out]; rfl, kE⟩
  · rw [qa] at G
    cases qb : eb == 0
    · rw [qb] at G
      go_wp2_with fail
      go_ret
      exact ⟨by rw [G.out]; rfl, kE⟩
    · rw [qb] at G
      go_wp2_with fail
      refine (compared_calls _ a b (Nat.le_refl _) _ _ _ h (H.below kE) ra0.out rb0.out).mono ?_
      rintro e w7 ⟨rfl, k7⟩
      have kF := below_then kE k7 kE.size
      go_wp2_with fail
      go_ret
      exact ⟨by rw [G.out]; rfl, kF⟩
set_option maxRecDepth 100000 in
set_option maxHeartbeats 4000000 in
theorem Same_calls (a b : Tm) (ca cb : List Value) (w : World) (h : Snap) (H : Has w h) (ra : TmR h a ca) (rb : TmR h b cb) :
    Calls Tryz.prog 52 #[.agg ca.toArray, .agg cb.toArray] w fun e w' => e = .returned (.bool (sameV a b)) ∧ Below w.heap.size w w' := by
  have ra0 := Lib.hid ra
  have rb0 := Lib.hid rb
  obtain ⟨A, cap, rfl, hl, hm, hk1, hn1, hr⟩ := ra.open_
  obtain ⟨B, dap, rfl, gl, gm, gk1, gn1, gr⟩ := rb.open_
  have hu34 := Tryz.underlying34
  have hu42 := Tryz.underlying42
  obtain ⟨p1, p2, hb⟩ := alloc2 w (.cells #[.int .i64 a.k, .int .i64 a.n, .string a.nm, .slice A a.ar.length cap] 34) (.cells #[.int .i64 b.k, .int .i64 b.n, .string b.nm, .slice B b.ar.length dap] 34)
  have G := Lib.hid (show sameV a b = (rawP a == 0 && (rawP b == 0 && cmpT a b == 0)) from rfl)
  unfold lim at hm gm
  clear ra rb hr gr hk1 hn1 gk1 gn1 hl gl
  go_enter Tryz.func52, Tryz.ntmps52
  go_wp2_with fail
  refine (Raw_calls a _ _ h (H.below hb) ra0.out).mono ?_
  rintro e w1 ⟨rfl, k1⟩
  have kk1 := below_then hb k1 hb.size
  obtain ⟨ea, hea⟩ : ∃ e, rawP a = e := ⟨_, rfl⟩
  rw [hea] at G ⊢
  clear hea
  have d1 := box4 (box_below p1 k1)
  have d2 := box4 (box_below p2 k1)
  have l1 := blk_lt (box_below p1 k1)
  have l2 := blk_lt (box_below p2 k1)
  cases qa : ea == 0
  · rw [qa] at G
    go_wp2_with fail
    go_ret
    exact ⟨by rw [G.out]; rfl, kk1⟩
  · rw [qa] at G
    go_wp2_with fail
    refine (Raw_calls b _ _ h (H.below kk1) rb0.out).mono ?_
    rintro e w2 ⟨rfl, k2⟩
    have kk2 := below_then kk1 k2 kk1.size
    obtain ⟨eb, heb⟩ : ∃ e, rawP b = e := ⟨_, rfl⟩
    rw [heb] at G ⊢
    clear heb
    have f1 := box4 (box_below (box_below p1 k1) k2)
    have f2 := box4 (box_below (box_below p2 k1) k2)
    clear d1 d2
    cases qb : eb == 0
    · rw [qb] at G
      go_wp2_with fail
      go_ret
      exact ⟨by rw [G.out]; rfl, kk2⟩
    · rw [qb] at G
      go_wp2_with fail
      refine (compared_calls _ a b (Nat.le_refl _) _ _ _ h (H.below kk2) ra0.out rb0.out).mono ?_
      rintro e w3 ⟨rfl, k3⟩
      have kk3 := below_then kk2 k3 kk2.size
      go_wp2_with fail
      go_ret
      exact ⟨by rw [G.out]; rfl, kk3⟩
end Go.Proofs.YtpgbeapojjinmaaGreatDoor
