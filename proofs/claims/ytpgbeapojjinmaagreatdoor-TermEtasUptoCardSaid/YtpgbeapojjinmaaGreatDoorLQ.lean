/- The statement TermEtas: its walk. -/
import Derived.Test.YtpgbeapojjinmaaGreatDoorEW
import Derived.Test.YtpgbeapojjinmaaGreatDoorSN
set_option linter.unusedVariables false
set_option linter.unusedSimpArgs false
namespace Go.Proofs.YtpgbeapojjinmaaGreatDoor
open Go.RowKit Go.Shelf Go.Proofs.YtpgbeapojjinmaaGreatDoorW.PrintLast
/-- A block that holds a term and an error. -/
structure BoxD (h : Snap) (b : Nat) (t : Tm) (e : Int) : Prop where
  at_ : ∃ A c, h ⟨b, 0, none⟩ = some (.int .i64 t.k) ∧ h ⟨b, 1, none⟩ = some (.int .i64 t.n) ∧ h ⟨b, 2, none⟩ = some (.string t.nm) ∧ h ⟨b, 3, none⟩ = some (.slice A t.ar.length c) ∧ h ⟨b, 4, none⟩ = some (.int .i64 e) ∧ TmR h t [.int .i64 t.k, .int .i64 t.n, .string t.nm, .slice A t.ar.length c]
theorem BoxD.sub {h h' : Snap} {b : Nat} {t : Tm} {e : Int} (x : BoxD h b t e) (s : Sub h h') : BoxD h' b t e := by
  obtain ⟨A, c, e0, e1, e2, e3, e4, r⟩ := x.at_
  exact ⟨A, c, s.at_ _ _ e0, s.at_ _ _ e1, s.at_ _ _ e2, s.at_ _ _ e3, s.at_ _ _ e4, r.sub s⟩
theorem BoxD.mk_ {w0 W : World} {h : Snap} {u : Tm} {e : Int} {A : Option Addr} {c g : Nat} (H : Has W h) (hb : W.heap[g]? = some (.cells #[.int .i64 u.k, .int .i64 u.n, .string u.nm, .slice A u.ar.length c, .int .i64 e] 50)) (r : TmR h u [.int .i64 u.k, .int .i64 u.n, .string u.nm, .slice A u.ar.length c]) (hg : w0.heap.size ≤ g) :
    ∃ h2, BoxD h2 g u e ∧ Mk w0 h W h2 := by
  have hx : ∀ i, W.cell? ⟨g, i, none⟩ = _ := fun i => blk_cell hb i
  exact ⟨withRow h W g 5, ⟨A, c, withRow.at_ H (by omega) (hx 0), withRow.at_ H (by omega) (hx 1), withRow.at_ H (by omega) (hx 2), withRow.at_ H (by omega) (hx 3), withRow.at_ H (by omega) (hx 4), r.sub (withRow.sub ..)⟩, ⟨withRow.sub .., withRow.has H .., fun a v e => (withRow.new e).imp_right (fun k => by omega)⟩⟩
theorem raw_sz {t : Tm} (h : rawP t = 0) : t.sz ≤ 1000000 := by have := ((rawP_zero t).1 h).1.1; omega
/-- A snapshot with all cells of a block. -/
theorem row_snap {w0 W : World} {h : Snap} {g : Nat} {cs : Array Value} {T : TypeId} (H : Has W h) (hb : W.heap[g]? = some (.cells cs T)) (hg : w0.heap.size ≤ g) :
    ∃ h2, (∀ (i : Nat) v, cs[i]? = some v → h2 ⟨g, i, none⟩ = some v) ∧ Mk w0 h W h2 :=
  ⟨withRow h W g cs.size, fun i v e => withRow.at_ H (by have := Array.getElem?_eq_some_iff.1 e; exact this.1) ((blk_cell hb i).trans e), ⟨withRow.sub .., withRow.has H .., fun a v e => (withRow.new e).imp_right (fun k => by omega)⟩⟩
set_option maxRecDepth 100000 in
set_option maxHeartbeats 16000000 in
theorem TermEtas_calls (t : Tm) (ty : Ty) (ct cy : List Value) (w : World) (h : Snap) (H : Has w h) (rt : TmR h t ct) (ry : TyR h ty cy) :
    Calls Tryz.prog 4 #[.agg ct.toArray, .agg cy.toArray] w fun e w' => e = .returned (.bool true) ∧ Below w.heap.size w w' := by
  obtain ⟨A0, c0, rfl, hl0, hm0, _, _, _⟩ := rt.open_
  have ry0 := ry
  obtain ⟨A1, c1, rfl, -⟩ := ry.open_
  have hu34 := Tryz.underlying34
  have hu36 := Tryz.underlying36
  have hu42 := Tryz.underlying42
  have hu50 := Tryz.underlying50
  obtain ⟨o, io, ho⟩ := etas_law t ty
  obtain ⟨D1, hD1⟩ : ∃ D, rEtaD t ty = D := ⟨_, rfl⟩
  rw [hD1] at ho
  have eT := congrArg Prod.fst ho
  have eC := congrArg Prod.snd ho
  simp only [] at eT eC
  replace hD1 := Lib.hid hD1
  replace io := Lib.hid io
  obtain ⟨u1, e1⟩ := D1
  simp only [] at eT eC
  replace eT := Lib.hid eT
  replace eC := Lib.hid eC
  clear ho ry
  obtain ⟨p1, p2, hb⟩ := alloc2 w (.cells #[.int .i64 t.k, .int .i64 t.n, .string t.nm, .slice A0 t.ar.length c0] 34) (.cells #[.string ty.nm, .slice A1 ty.ar.length c1] 36)
  obtain ⟨h1, Bt, m1⟩ := BoxM.mk_ (w0 := w) (u := t) (H.below hb) p1 rt (Nat.le_refl _)
  obtain ⟨hs, F, m2⟩ := row_snap (w0 := w) m1.has p2 (by omega)
  have mb := m1.then_ m2
  replace Bt := Bt.sub m2.sub
  replace ry0 := Lib.hid (ry0.sub (m1.sub.trans m2.sub))
  replace F := Lib.hid F
  have ms := Lib.hid (show Sub hs hs from Sub.refl hs)
  clear rt hl0 hm0 p1 p2 m1 m2
  obtain ⟨hz, hhz⟩ : ∃ x, hs = x := ⟨_, rfl⟩
  have sz := Lib.hid (show Sub hs hz from hhz ▸ Sub.refl hs)
  go_enter Tryz.func4, Tryz.ntmps4
  go_wp2_with fail
  refine (sane_calls _ hs mb.has).mono ?_
  rintro e w0 ⟨rfl, k0⟩
  have kb := below_then hb k0 hb.size
  replace mb := mb.world (mb.has.below k0)
  rw [hhz] at mb Bt
  clear hb k0 hhz
  obtain ⟨At, ct, te0, te1, te2, te3, rt⟩ := Bt.at_
  have tx0 := mb.has.cell _ _ te0
  have tx1 := mb.has.cell _ _ te1
  have tx2 := mb.has.cell _ _ te2
  have tx3 := mb.has.cell _ _ te3
  have tl := mb.has.lt te0
  clear te0 te1 te2 te3
  have y0 := mb.has.cell _ _ (sz.out.at_ _ _ (F.out 0 _ rfl))
  have y1 := mb.has.cell _ _ (sz.out.at_ _ _ (F.out 1 _ rfl))
  have yl := mb.has.lt (sz.out.at_ _ _ (F.out 0 _ rfl))
  go_wp2_with fail
  refine (Eta_calls t ty o _ _ _ _ mb.has rt (ry0.out.sub sz.out) io.out).mono ?_
  rintro e w1 ⟨k1, cs1, h2, rfl, r1, m1⟩
  rw [eT.out] at r1
  rw [eC.out]
  obtain ⟨Au1, cu1, rfl, _⟩ := r1.open_
  have mm := mb.trans m1 kb.size
  replace kb := below_then kb k1 kb.size
  clear tx0 tx1 tx2 tx3  tl rt
  clear y0 y1 yl
  replace Bt := Bt.sub m1.sub
  replace sz := Lib.hid (sz.out.trans m1.sub)
  clear m1 k1 mb
  obtain ⟨At, ct, te0, te1, te2, te3, rt⟩ := Bt.at_
  have tx0 := mm.has.cell _ _ te0
  have tx1 := mm.has.cell _ _ te1
  have tx2 := mm.has.cell _ _ te2
  have tx3 := mm.has.cell _ _ te3
  have tl := mm.has.lt te0
  clear te0 te1 te2 te3
  have y0 := mm.has.cell _ _ (sz.out.at_ _ _ (F.out 0 _ rfl))
  have y1 := mm.has.cell _ _ (sz.out.at_ _ _ (F.out 1 _ rfl))
  have yl := mm.has.lt (sz.out.at_ _ _ (F.out 0 _ rfl))
  go_wp2_with fail
  clear tx0 tx1 tx2 tx3  tl 
  clear y0 y1 yl
  have bx := blk_new w1 (.cells #[.int .i64 u1.k, .int .i64 u1.n, .string u1.nm, .slice Au1 u1.ar.length cu1] 34)
  have kx := (alloc1 w1 (.cells #[.int .i64 u1.k, .int .i64 u1.n, .string u1.nm, .slice Au1 u1.ar.length cu1] 34)).2
  obtain ⟨hn, B1, mn⟩ := BoxM.mk_ (w0 := w) (mm.has.below kx) bx r1 kb.size
  obtain ⟨WN, hWN⟩ : ∃ WN, w1.alloc (.cells #[.int .i64 u1.k, .int .i64 u1.n, .string u1.nm, .slice Au1 u1.ar.length cu1] 34) = WN := ⟨_, rfl⟩
  rw [hWN] at kx mn ⊢
  replace kb := below_then kb kx kb.size
  have sn := mn.sub
  have mb : Mk w h WN hn := mm.then_ mn
  clear hWN bx kx mn
  replace Bt := Bt.sub sn
  replace rt := rt.sub sn
  replace sz := Lib.hid (sz.out.trans sn)
  clear sn
  clear mm r1
  refine (REta_calls t ty _ _ _ _ mb.has rt (ry0.out.sub sz.out)).mono ?_
  rintro e w2 ⟨k1, A3, c3, h3, rfl, r1, m1⟩
  rw [hD1.out] at r1 ⊢
  simp only [] at r1 ⊢
  clear hD1
  have mm := mb.trans m1 kb.size
  replace kb := below_then kb k1 kb.size
  clear rt
  replace B1 := B1.sub m1.sub
  clear m1 k1 mb Bt
  have q1 : (e1 == e1) = true := beq_self_eq_true _
  obtain ⟨Ap, cp, pe0, pe1, pe2, pe3, rp⟩ := B1.at_
  have px0 := mm.has.cell _ _ pe0
  have px1 := mm.has.cell _ _ pe1
  have px2 := mm.has.cell _ _ pe2
  have px3 := mm.has.cell _ _ pe3
  have pl := mm.has.lt pe0
  clear pe0 pe1 pe2 pe3
  go_wp2_with fail
  clear px0 px1 px2 px3  pl 
  have bx := blk_new w2 (.cells #[.int .i64 u1.k, .int .i64 u1.n, .string u1.nm, .slice A3 u1.ar.length c3, .int .i64 e1] 50)
  have kx := (alloc1 w2 (.cells #[.int .i64 u1.k, .int .i64 u1.n, .string u1.nm, .slice A3 u1.ar.length c3, .int .i64 e1] 50)).2
  obtain ⟨hn, B3, mn⟩ := BoxD.mk_ (w0 := w) (mm.has.below kx) bx r1 kb.size
  obtain ⟨WN, hWN⟩ : ∃ WN, w2.alloc (.cells #[.int .i64 u1.k, .int .i64 u1.n, .string u1.nm, .slice A3 u1.ar.length c3, .int .i64 e1] 50) = WN := ⟨_, rfl⟩
  rw [hWN] at kx mn ⊢
  replace kb := below_then kb kx kb.size
  have sn := mn.sub
  have mb : Mk w h WN hn := mm.then_ mn
  clear hWN bx kx mn
  replace rp := rp.sub sn
  replace r1 := r1.sub sn
  clear sn
  clear mm
  refine (Equal_calls u1.sz u1 u1 (Nat.le_refl _) _ _ _ _ mb.has rp r1).mono ?_
  rintro e w5 ⟨rfl, k5⟩
  rw [eqT_self]
  replace kb := below_then kb k5 kb.size
  go_wp2_with fail
  go_ret
  exact ⟨rfl, kb⟩
end Go.Proofs.YtpgbeapojjinmaaGreatDoor
