/- The statement TermMoves: its walk. -/
import Derived.Test.YtpgbeapojjinmaaGreatDoorSN
import Derived.Test.YtpgbeapojjinmaaGreatDoorRM
import Derived.Test.YtpgbeapojjinmaaGreatDoorPM
set_option linter.unusedVariables false
set_option linter.unusedSimpArgs false
namespace Go.Proofs.YtpgbeapojjinmaaGreatDoor
open Go.RowKit Go.Shelf Go.Proofs.YtpgbeapojjinmaaGreatDoorW.PrintLast
/-- A block that holds a term and an error. -/
structure BoxD (h : Snap) (b : Nat) (t : Tm) (e : Int) : Prop where
  at_ : ∃ A c, h ⟨b, 0, none⟩ = some (.int .i64 t.k) ∧ h ⟨b, 1, none⟩ = some (.int .i64 t.n) ∧ h ⟨b, 2, none⟩ = some (.string t.nm) ∧ h ⟨b, 3, none⟩ = some (.slice A t.ar.length c) ∧ h ⟨b, 4, none⟩ = some (.int .i64 e) ∧ TmR h t [.int .i64 t.k, .int .i64 t.n, .string t.nm, .slice A t.ar.length c]
theorem BoxD.sub {h h' : Snap} {b : Nat} {t : Tm} {e : Int} (x : BoxD h b t e) (s : Sub h h') : BoxD h' b t e := by
  obtain ⟨A, c, e0, e1, e2, e3, e4, r⟩ := x.at_
  exact ⟨A, c, s.at_ _ _ e0, s.at_ _ _ e1, s.at_ _ _ e2, s.at_ _ _ e3, s.at_ _ _ e4, r.sub s⟩
theorem BoxD.mk_ {w0 W : World} {h : Snap} {u : Tm} {e : Int} {A : Option Addr} {c g : Nat} (H : Has W h) (hb : W.heap[g]? = some (.cells #[.int .i64 u.k, .int .i64 u.n, .string u.nm, .slice A u.ar.length c, .int .i64 e] 50)) (r : TmR h u [.int .i64 u.k, .int .i64 u.n, .string u.nm, .slice A u.ar.length c]) (hg : w0.heap.size ≤ g) :
    ∃ h2, BoxD h2 g u e ∧ Mk w0 h W h2 := by
  have hx : ∀ i, W.cell? ⟨g, i, none⟩ = _ := fun i => blk_cell hb i
  exact ⟨withRow h W g 5, ⟨A, c, withRow.at_ H (by omega) (hx 0), withRow.at_ H (by omega) (hx 1), withRow.at_ H (by omega) (hx 2), withRow.at_ H (by omega) (hx 3), withRow.at_ H (by omega) (hx 4), r.sub (withRow.sub ..)⟩, ⟨withRow.sub .., withRow.has H .., fun a v e => (withRow.new e).imp_right (fun k => by omega)⟩⟩
theorem raw_sz {t : Tm} (h : rawP t = 0) : t.sz ≤ 1000000 := by have := ((rawP_zero t).1 h).1.1; omega
set_option maxRecDepth 100000 in
set_option maxHeartbeats 16000000 in
theorem TermMoves_calls (t : Tm) (up from_ : Int) (ct : List Value) (w : World) (h : Snap) (H : Has w h) (rt : TmR h t ct) :
    Calls Tryz.prog 7 #[.agg ct.toArray, .int .i64 up, .int .i64 from_] w fun e w' => e = .returned (.bool true) ∧ Below w.heap.size w w' := by
  obtain ⟨A0, c0, rfl, hl0, hm0, _, _, _⟩ := rt.open_
  have hu34 := Tryz.underlying34
  have hu42 := Tryz.underlying42
  have hu50 := Tryz.underlying50
  have hLS := Lib.hid (shift_law t up from_)
  have hLL := Lib.hid (lift_law t up from_)
  obtain ⟨D1, hD1⟩ : ∃ D, rMove (rsT up from_) t up from_ = D := ⟨_, rfl⟩
  obtain ⟨D2, hD2⟩ : ∃ D, rMove (rlT up from_) t up from_ = D := ⟨_, rfl⟩
  rw [hD1] at hLS
  rw [hD2] at hLL
  have hD1' := Lib.hid hD1
  have hD2' := Lib.hid hD2
  clear hD1 hD2
  obtain ⟨u1, e1⟩ := D1
  obtain ⟨u2, e2⟩ := D2
  obtain ⟨p1, hb⟩ := alloc1 w (.cells #[.int .i64 t.k, .int .i64 t.n, .string t.nm, .slice A0 t.ar.length c0] 34)
  obtain ⟨hs, Bt, mb⟩ := BoxM.mk_ (w0 := w) (u := t) (H.below hb) p1 rt (Nat.le_refl _)
  clear rt hl0 hm0 p1
  go_enter Tryz.func7, Tryz.ntmps7
  go_wp2_with fail
  refine (sane_calls _ hs mb.has).mono ?_
  rintro e w0 ⟨rfl, k0⟩
  have kb := below_then hb k0 hb.size
  replace mb := mb.world (mb.has.below k0)
  clear hb k0
  obtain ⟨At, ct, te0, te1, te2, te3, rt⟩ := Bt.at_
  have tx0 := mb.has.cell _ _ te0
  have tx1 := mb.has.cell _ _ te1
  have tx2 := mb.has.cell _ _ te2
  have tx3 := mb.has.cell _ _ te3
  have tl := mb.has.lt te0
  clear te0 te1 te2 te3
  go_wp2_with fail
  refine (Shift_calls t up from_ _ _ _ mb.has rt raw_sz).mono ?_
  rintro e w1 ⟨k1, cs1, h1, rfl, r1, m1⟩
  have eT := congrArg Prod.fst hLS.out
  have eC := congrArg Prod.snd hLS.out
  simp only [] at eT eC
  rw [eT] at r1
  rw [eC]
  clear eT eC hLS
  obtain ⟨Au1, cu1, rfl, _⟩ := r1.open_
  have mm := mb.trans m1 kb.size
  replace kb := below_then kb k1 kb.size
  clear tx0 tx1 tx2 tx3  tl rt
  replace Bt := Bt.sub m1.sub
  clear m1 k1 mb
  obtain ⟨At, ct, te0, te1, te2, te3, rt⟩ := Bt.at_
  have tx0 := mm.has.cell _ _ te0
  have tx1 := mm.has.cell _ _ te1
  have tx2 := mm.has.cell _ _ te2
  have tx3 := mm.has.cell _ _ te3
  have tl := mm.has.lt te0
  clear te0 te1 te2 te3
  go_wp2_with fail
  clear tx0 tx1 tx2 tx3  tl 
  have bx := blk_new w1 (.cells #[.int .i64 u1.k, .int .i64 u1.n, .string u1.nm, .slice Au1 u1.ar.length cu1] 34)
  have kx := (alloc1 w1 (.cells #[.int .i64 u1.k, .int .i64 u1.n, .string u1.nm, .slice Au1 u1.ar.length cu1] 34)).2
  obtain ⟨hn, B1, mn⟩ := BoxM.mk_ (w0 := w) (mm.has.below kx) bx r1 kb.size
  obtain ⟨WN, hWN⟩ : ∃ WN, w1.alloc (.cells #[.int .i64 u1.k, .int .i64 u1.n, .string u1.nm, .slice Au1 u1.ar.length cu1] 34) = WN := ⟨_, rfl⟩
  rw [hWN] at kx mn ⊢
  replace kb := below_then kb kx kb.size
  have sn := mn.sub
  have mb : Mk w h WN hn := mm.then_ mn
  clear hWN bx kx mn
  replace Bt := Bt.sub sn
  replace rt := rt.sub sn
  clear sn
  clear mm r1

  refine (Lift_calls t up from_ _ _ _ mb.has rt raw_sz).mono ?_
  rintro e w2 ⟨k1, cs1, h1, rfl, r1, m1⟩
  have eT := congrArg Prod.fst hLL.out
  have eC := congrArg Prod.snd hLL.out
  simp only [] at eT eC
  rw [eT] at r1
  rw [eC]
  clear eT eC hLL
  obtain ⟨Au2, cu2, rfl, _⟩ := r1.open_
  have mm := mb.trans m1 kb.size
  replace kb := below_then kb k1 kb.size
  clear rt
  replace Bt := Bt.sub m1.sub
  replace B1 := B1.sub m1.sub
  clear m1 k1 mb
  obtain ⟨At, ct, te0, te1, te2, te3, rt⟩ := Bt.at_
  have tx0 := mm.has.cell _ _ te0
  have tx1 := mm.has.cell _ _ te1
  have tx2 := mm.has.cell _ _ te2
  have tx3 := mm.has.cell _ _ te3
  have tl := mm.has.lt te0
  clear te0 te1 te2 te3
  go_wp2_with fail
  clear tx0 tx1 tx2 tx3  tl 
  have bx := blk_new w2 (.cells #[.int .i64 u2.k, .int .i64 u2.n, .string u2.nm, .slice Au2 u2.ar.length cu2] 34)
  have kx := (alloc1 w2 (.cells #[.int .i64 u2.k, .int .i64 u2.n, .string u2.nm, .slice Au2 u2.ar.length cu2] 34)).2
  obtain ⟨hn, B2, mn⟩ := BoxM.mk_ (w0 := w) (mm.has.below kx) bx r1 kb.size
  obtain ⟨WN, hWN⟩ : ∃ WN, w2.alloc (.cells #[.int .i64 u2.k, .int .i64 u2.n, .string u2.nm, .slice Au2 u2.ar.length cu2] 34) = WN := ⟨_, rfl⟩
  rw [hWN] at kx mn ⊢
  replace kb := below_then kb kx kb.size
  have sn := mn.sub
  have mb : Mk w h WN hn := mm.then_ mn
  clear hWN bx kx mn
  replace Bt := Bt.sub sn
  replace B1 := B1.sub sn
  replace rt := rt.sub sn
  clear sn
  clear mm r1
  refine (RShift_calls t up from_ _ _ _ mb.has rt).mono ?_
  rintro e w3 ⟨k1, A3, c3, h1, rfl, r1, m1⟩
  rw [hD1'.out] at r1 ⊢
  simp only [] at r1 ⊢
  clear hD1'
  have mm := mb.trans m1 kb.size
  replace kb := below_then kb k1 kb.size
  clear rt
  replace Bt := Bt.sub m1.sub
  replace B1 := B1.sub m1.sub
  replace B2 := B2.sub m1.sub
  clear m1 k1 mb
  obtain ⟨At, ct, te0, te1, te2, te3, rt⟩ := Bt.at_
  have tx0 := mm.has.cell _ _ te0
  have tx1 := mm.has.cell _ _ te1
  have tx2 := mm.has.cell _ _ te2
  have tx3 := mm.has.cell _ _ te3
  have tl := mm.has.lt te0
  clear te0 te1 te2 te3
  go_wp2_with fail
  clear tx0 tx1 tx2 tx3  tl 
  have bx := blk_new w3 (.cells #[.int .i64 u1.k, .int .i64 u1.n, .string u1.nm, .slice A3 u1.ar.length c3, .int .i64 e1] 50)
  have kx := (alloc1 w3 (.cells #[.int .i64 u1.k, .int .i64 u1.n, .string u1.nm, .slice A3 u1.ar.length c3, .int .i64 e1] 50)).2
  obtain ⟨hn, B3, mn⟩ := BoxD.mk_ (w0 := w) (mm.has.below kx) bx r1 kb.size
  obtain ⟨WN, hWN⟩ : ∃ WN, w3.alloc (.cells #[.int .i64 u1.k, .int .i64 u1.n, .string u1.nm, .slice A3 u1.ar.length c3, .int .i64 e1] 50) = WN := ⟨_, rfl⟩
  rw [hWN] at kx mn ⊢
  replace kb := below_then kb kx kb.size
  have sn := mn.sub
  have mb : Mk w h WN hn := mm.then_ mn
  clear hWN bx kx mn
  replace Bt := Bt.sub sn
  replace B1 := B1.sub sn
  replace B2 := B2.sub sn
  replace rt := rt.sub sn
  clear sn
  clear mm r1
  refine (RLift_calls t up from_ _ _ _ mb.has rt).mono ?_
  rintro e w4 ⟨k1, A3, c3, h1, rfl, r1, m1⟩
  rw [hD2'.out] at r1 ⊢
  simp only [] at r1 ⊢
  clear hD2'
  have mm := mb.trans m1 kb.size
  replace kb := below_then kb k1 kb.size
  clear rt
  replace Bt := Bt.sub m1.sub
  replace B1 := B1.sub m1.sub
  replace B2 := B2.sub m1.sub
  replace B3 := B3.sub m1.sub
  clear m1 k1 mb
  have q1 : (e1 == e1) = true := beq_self_eq_true _
  have q2 : (e2 == e2) = true := beq_self_eq_true _
  obtain ⟨Ap, cp, pe0, pe1, pe2, pe3, rp⟩ := B1.at_
  have px0 := mm.has.cell _ _ pe0
  have px1 := mm.has.cell _ _ pe1
  have px2 := mm.has.cell _ _ pe2
  have px3 := mm.has.cell _ _ pe3
  have pl := mm.has.lt pe0
  clear pe0 pe1 pe2 pe3
  obtain ⟨Aq, cq, qe0, qe1, qe2, qe3, rq⟩ := B2.at_
  have qx0 := mm.has.cell _ _ qe0
  have qx1 := mm.has.cell _ _ qe1
  have qx2 := mm.has.cell _ _ qe2
  have qx3 := mm.has.cell _ _ qe3
  have ql := mm.has.lt qe0
  clear qe0 qe1 qe2 qe3
  obtain ⟨As, cs, se0, se1, se2, se3, se4, rs⟩ := B3.at_
  have sx0 := mm.has.cell _ _ se0
  have sx1 := mm.has.cell _ _ se1
  have sx2 := mm.has.cell _ _ se2
  have sx3 := mm.has.cell _ _ se3
  have sx4 := mm.has.cell _ _ se4
  have sl := mm.has.lt se0
  clear se0 se1 se2 se3 se4
  go_wp2_with fail
  clear px0 px1 px2 px3  pl 
  clear qx0 qx1 qx2 qx3  ql rq
  clear sx0 sx1 sx2 sx3 sx4 sl 
  have bx := blk_new w4 (.cells #[.int .i64 u2.k, .int .i64 u2.n, .string u2.nm, .slice A3 u2.ar.length c3, .int .i64 e2] 50)
  have kx := (alloc1 w4 (.cells #[.int .i64 u2.k, .int .i64 u2.n, .string u2.nm, .slice A3 u2.ar.length c3, .int .i64 e2] 50)).2
  obtain ⟨hn, B4, mn⟩ := BoxD.mk_ (w0 := w) (mm.has.below kx) bx r1 kb.size
  obtain ⟨WN, hWN⟩ : ∃ WN, w4.alloc (.cells #[.int .i64 u2.k, .int .i64 u2.n, .string u2.nm, .slice A3 u2.ar.length c3, .int .i64 e2] 50) = WN := ⟨_, rfl⟩
  rw [hWN] at kx mn ⊢
  replace kb := below_then kb kx kb.size
  have sn := mn.sub
  have mb : Mk w h WN hn := mm.then_ mn
  clear hWN bx kx mn
  replace Bt := Bt.sub sn
  replace B1 := B1.sub sn
  replace B2 := B2.sub sn
  replace B3 := B3.sub sn
  replace rp := rp.sub sn
  replace rs := rs.sub sn
  clear sn
  clear mm r1
  refine (Equal_calls u1.sz u1 u1 (Nat.le_refl _) _ _ _ _ mb.has rp rs).mono ?_
  rintro e w5 ⟨rfl, k5⟩
  rw [eqT_self]
  clear rp rs
  replace kb := below_then kb k5 kb.size
  replace mb := mb.world (mb.has.below k5)
  obtain ⟨Aq, cq, qe0, qe1, qe2, qe3, rq⟩ := B2.at_
  have qx0 := mb.has.cell _ _ qe0
  have qx1 := mb.has.cell _ _ qe1
  have qx2 := mb.has.cell _ _ qe2
  have qx3 := mb.has.cell _ _ qe3
  have ql := mb.has.lt qe0
  clear qe0 qe1 qe2 qe3
  obtain ⟨Av, cv, ve0, ve1, ve2, ve3, ve4, rv⟩ := B4.at_
  have vx0 := mb.has.cell _ _ ve0
  have vx1 := mb.has.cell _ _ ve1
  have vx2 := mb.has.cell _ _ ve2
  have vx3 := mb.has.cell _ _ ve3
  have vx4 := mb.has.cell _ _ ve4
  have vl := mb.has.lt ve0
  clear ve0 ve1 ve2 ve3 ve4
  go_wp2_with fail
  refine (Equal_calls u2.sz u2 u2 (Nat.le_refl _) _ _ _ _ mb.has rq rv).mono ?_
  rintro e w6 ⟨rfl, k6⟩
  rw [eqT_self]
  replace kb := below_then kb k6 kb.size
  go_wp2_with fail
  go_ret
  exact ⟨rfl, kb⟩
end Go.Proofs.YtpgbeapojjinmaaGreatDoor
