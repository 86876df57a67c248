/- The statement TermShifted: its walk. -/
import Derived.Test.YtpgbeapojjinmaaGreatDoorSN
import Derived.Test.YtpgbeapojjinmaaGreatDoorPS
import Derived.Test.YtpgbeapojjinmaaGreatDoorQD
set_option linter.unusedVariables false
set_option linter.unusedSimpArgs false
namespace Go.Proofs.YtpgbeapojjinmaaGreatDoor
open Go.RowKit Go.Shelf Go.Proofs.YtpgbeapojjinmaaGreatDoorW.PrintLast
theorem same_refl {t : Tm} (h : rawP t = 0) : sameV t t = true := by
  unfold sameV
  rw [h, cmpT_self]
  rfl
theorem back_law {t s : Tm} (h : codeS (shiftS t 1 0) = 0) (hs : rawP s = 0) : codeS (backS t s) = 0 ∧ sameV (tmS (backS t s)) t = true := by
  unfold backS
  rw [if_pos ⟨h, hs⟩]
  exact ⟨rfl, same_refl (asked_in (shiftS_ok h).1).1⟩
theorem twice_law {t : Tm} {p q k : Int} (h1 : codeS (shiftS t p k) = 0) (h2 : codeS (shiftS (tmS (shiftS t p k)) q k) = 0) (hpq : p + q ≤ 100000) :
    codeS (shiftS t (p + q) k) = 0 ∧ sameV (tmS (shiftS (tmS (shiftS t p k)) q k)) (tmS (shiftS t (p + q) k)) = true := by
  obtain ⟨a1, u, e1, e2, e3⟩ := shiftS_ok h1
  rw [e2] at h2 ⊢
  simp only [tmS] at h2 ⊢
  obtain ⟨a2, v, g1, g2, g3⟩ := shiftS_ok h2
  have i1 := asked_in a1
  have i2 := asked_in a2
  have e : shiftS t (p + q) k = .inr v := by
    unfold shiftS
    have : askedP t (p + q) k = 0 := by
      unfold askedP
      rw [if_pos i1.1, if_neg (by omega)]
    rw [if_pos this]
    unfold shT at e1 g1 ⊢
    rw [shT_twice i1.2.1.1 i2.2.1.1 0 t u v e1 g1]
    rfl
  rw [e, g2]
  exact ⟨rfl, same_refl g3⟩
theorem raw_sz {t : Tm} (h : rawP t = 0) : t.sz ≤ 1000000 := by have := ((rawP_zero t).1 h).1.1; omega
/-- A slice of ints, as it is read. -/
def IsS (h : Snap) (l : List Int) (v : Value) : Prop := ∃ A cap, v = .slice A l.length cap ∧ l.length ≤ cap ∧ l.length ≤ lim ∧ ∀ j (hj : j < l.length), (-9223372036854775808 ≤ l[j] ∧ l[j] ≤ 9223372036854775807) ∧ ∃ b o, A = some ⟨b, o, none⟩ ∧ h ⟨b, o + j, none⟩ = some (.int .i64 l[j])
set_option maxRecDepth 100000 in
set_option maxHeartbeats 16000000 in
theorem TermShifted_calls (t s : Tm) (l : List Int) (ct cs : List Value) (sv : Value) (w : World) (h : Snap) (H : Has w h) (rt : TmR h t ct) (rs : TmR h s cs) (rl : IsS h l sv) :
    Calls Tryz.prog 11 #[.agg ct.toArray, .agg cs.toArray, sv] w fun e w' => e = .returned (.bool true) ∧ Below w.heap.size w w' := by
  obtain ⟨A0, c0, rfl, hl0, hm0, _, _, _⟩ := rt.open_
  obtain ⟨A1, c1, rfl, hl1, hm1, _, _, _⟩ := rs.open_
  obtain ⟨Al, cl, rfl, hll, hlm, hli⟩ := id rl
  have hu34 := Tryz.underlying34
  have hu42 := Tryz.underlying42
  obtain ⟨XA, hXA⟩ : ∃ X, tmS (shiftS t 1 0) = X := ⟨_, rfl⟩
  obtain ⟨eA, heA⟩ : ∃ X, codeS (shiftS t 1 0) = X := ⟨_, rfl⟩
  have hB0 := Lib.hid (hXA ▸ back_is t s)
  have hL1 : Hid (eA = 0 → rawP s = 0 → codeS (backS t s) = 0 ∧ sameV (tmS (backS t s)) t = true) := Lib.hid (fun h1 h2 => back_law (by rw [heA, h1]) h2)
  have hXA' := Lib.hid hXA
  have heA' := Lib.hid heA
  clear hXA heA
  obtain ⟨oB, hoB⟩ : ∃ o, backS t s = o := ⟨_, rfl⟩
  rw [hoB] at hB0 hL1
  clear hoB
  obtain ⟨XB, hXB⟩ : ∃ X, tmS oB = X := ⟨_, rfl⟩
  obtain ⟨eB, heB⟩ : ∃ X, codeS oB = X := ⟨_, rfl⟩
  rw [hXB, heB] at hL1
  have hXB' := Lib.hid hXB
  have heB' := Lib.hid heB
  clear hXB heB
  obtain ⟨p1, p2, hb⟩ := alloc2 w (.cells #[.int .i64 t.k, .int .i64 t.n, .string t.nm, .slice A0 t.ar.length c0] 34) (.cells #[.int .i64 s.k, .int .i64 s.n, .string s.nm, .slice A1 s.ar.length c1] 34)
  obtain ⟨ht, Bt, mt⟩ := BoxM.mk_ (w0 := w) (u := t) (H.below hb) p1 rt (Nat.le_refl _)
  obtain ⟨hs, Bs, ms⟩ := BoxM.mk_ (w0 := w) (u := s) mt.has p2 (rs.sub mt.sub) (Nat.le_succ _)
  replace Bt := Bt.sub ms.sub
  have mb := mt.then_ ms
  clear mt ms rt rs rl p1 p2 hl0 hm0 hl1 hm1
  go_enter Tryz.func11, Tryz.ntmps11
  go_wp2_with fail
  refine (sane_calls _ hs mb.has).mono ?_
  rintro e w0 ⟨rfl, k0⟩
  have kb := below_then hb k0 hb.size
  replace mb := mb.world (mb.has.below k0)
  clear hb k0
  obtain ⟨At, ct, te0, te1, te2, te3, rt⟩ := Bt.at_
  have tx0 := mb.has.cell _ _ te0
  have tx1 := mb.has.cell _ _ te1
  have tx2 := mb.has.cell _ _ te2
  have tx3 := mb.has.cell _ _ te3
  have tl := mb.has.lt te0
  clear te0 te1 te2 te3
  go_wp2_with fail
  refine (Shift_calls t 1 0 _ _ _ mb.has rt raw_sz).mono ?_
  rintro e w1 ⟨k1, cs1, h1, rfl, r1, m1⟩
  rw [hXA'.out] at r1
  rw [heA'.out]
  clear hXA' heA'
  obtain ⟨AA, cA, rfl, _⟩ := r1.open_
  have mm := mb.trans m1 kb.size
  replace kb := below_then kb k1 kb.size
  clear tx0 tx1 tx2 tx3  tl rt
  replace Bt := Bt.sub m1.sub
  replace Bs := Bs.sub m1.sub
  clear m1 k1 mb
  obtain ⟨As, cs, se0, se1, se2, se3, rs⟩ := Bs.at_
  have sx0 := mm.has.cell _ _ se0
  have sx1 := mm.has.cell _ _ se1
  have sx2 := mm.has.cell _ _ se2
  have sx3 := mm.has.cell _ _ se3
  have sl := mm.has.lt se0
  clear se0 se1 se2 se3
  go_wp2_with fail
  clear sx0 sx1 sx2 sx3  sl 
  have bx := blk_new w1 (.cells #[.int .i64 XA.k, .int .i64 XA.n, .string XA.nm, .slice AA XA.ar.length cA] 34)
  have kx := (alloc1 w1 (.cells #[.int .i64 XA.k, .int .i64 XA.n, .string XA.nm, .slice AA XA.ar.length cA] 34)).2
  obtain ⟨hn, BA, mn⟩ := BoxM.mk_ (w0 := w) (mm.has.below kx) bx r1 kb.size
  obtain ⟨WN, hWN⟩ : ∃ WN, w1.alloc (.cells #[.int .i64 XA.k, .int .i64 XA.n, .string XA.nm, .slice AA XA.ar.length cA] 34) = WN := ⟨_, rfl⟩
  rw [hWN] at kx mn ⊢
  replace kb := below_then kb kx kb.size
  have sn := mn.sub
  have mb : Mk w h WN hn := mm.then_ mn
  clear hWN bx kx mn
  replace Bt := Bt.sub sn
  replace Bs := Bs.sub sn
  replace rs := rs.sub sn
  replace r1 := r1.sub sn
  clear sn
  refine (Subst_calls XA s oB _ _ _ _ mb.has r1 rs hB0.out).mono ?_
  rintro e w2 ⟨k1, cs2, h2, rfl, r2, m2⟩
  rw [hXB'.out] at r2
  rw [heB'.out]
  clear hXB' heB' r1 rs mm BA
  obtain ⟨AB, cB, rfl, _⟩ := r2.open_
  have mm := mb.trans m2 kb.size
  replace kb := below_then kb k1 kb.size
  replace Bt := Bt.sub m2.sub
  replace Bs := Bs.sub m2.sub
  clear m2 k1 mb
  cases qa : eA == 0
  · have mb := mm
    by_cases hlen : l.length < 3
    · have hlen' : (l.length : Int) < 3 := by omega
      clear hlen
      go_wp2_with fail
      go_ret
      first | exact ⟨rfl, kb⟩ | exact ⟨rfl, kb.alloc kb.size _⟩
    · have hlen' : ¬ (l.length : Int) < 3 := by omega
      obtain ⟨⟨g0, g0'⟩, b, o, rfl, f0⟩ := hli 0 (by omega)
      obtain ⟨⟨g1, g1'⟩, b1, o1, q1, f1⟩ := hli 1 (by omega)
      obtain ⟨⟨g2, g2'⟩, b2, o2, q2, f2⟩ := hli 2 (by omega)
      cases q1
      cases q2
      obtain ⟨i0, hi0⟩ : ∃ i, l[0] = i := ⟨_, rfl⟩
      obtain ⟨i1, hi1⟩ : ∃ i, l[1] = i := ⟨_, rfl⟩
      obtain ⟨i2, hi2⟩ : ∃ i, l[2] = i := ⟨_, rfl⟩
      rw [hi0] at f0 g0 g0'
      rw [Nat.add_zero] at f0
      rw [hi1] at f1 g1 g1'
      rw [hi2] at f2 g2 g2'
      clear hi0 hi1 hi2 hli hlen
      have y0 := mb.has.cell _ _ (mb.sub.at_ _ _ f0)
      have y1 := mb.has.cell _ _ (mb.sub.at_ _ _ f1)
      have y2 := mb.has.cell _ _ (mb.sub.at_ _ _ f2)
      have yl := mb.has.lt (mb.sub.at_ _ _ f0)
      by_cases c0 : i0 < 0
      · go_wp2_with fail
        go_ret
        first | exact ⟨rfl, kb⟩ | exact ⟨rfl, kb.alloc kb.size _⟩
      by_cases c1 : i1 < 0
      · go_wp2_with fail
        go_ret
        first | exact ⟨rfl, kb⟩ | exact ⟨rfl, kb.alloc kb.size _⟩
      by_cases c2 : 100000 < i0
      · go_wp2_with fail
        go_ret
        first | exact ⟨rfl, kb⟩ | exact ⟨rfl, kb.alloc kb.size _⟩
      by_cases c3 : 100000 < i1
      · go_wp2_with fail
        go_ret
        first | exact ⟨rfl, kb⟩ | exact ⟨rfl, kb.alloc kb.size _⟩
      go_wp2_with fail
      clear mb
      have bx := blk_new w2 (.cells #[.int .i64 XB.k, .int .i64 XB.n, .string XB.nm, .slice AB XB.ar.length cB] 34)
      have kx := (alloc1 w2 (.cells #[.int .i64 XB.k, .int .i64 XB.n, .string XB.nm, .slice AB XB.ar.length cB] 34)).2
      obtain ⟨hn, BB, mn⟩ := BoxM.mk_ (w0 := w) (mm.has.below kx) bx r2 kb.size
      obtain ⟨WQ, hWQ⟩ : ∃ WQ, w2.alloc (.cells #[.int .i64 XB.k, .int .i64 XB.n, .string XB.nm, .slice AB XB.ar.length cB] 34) = WQ := ⟨_, rfl⟩
      rw [hWQ] at kx mn ⊢
      replace kb := below_then kb kx kb.size
      have sn := mn.sub
      have mb : Mk w h WQ hn := mm.then_ mn
      clear hWQ bx kx mn
      replace Bt := Bt.sub sn
      replace Bs := Bs.sub sn
      clear sn
      clear r2 mm BB Bs
      clear y0 y1 y2 yl
      obtain ⟨XC, dXC⟩ : ∃ X, tmS (shiftS t i0 i2) = X := ⟨_, rfl⟩
      obtain ⟨eC, deC⟩ : ∃ X, codeS (shiftS t i0 i2) = X := ⟨_, rfl⟩
      obtain ⟨XD, dXD⟩ : ∃ X, tmS (shiftS XC i1 i2) = X := ⟨_, rfl⟩
      obtain ⟨eD, deD⟩ : ∃ X, codeS (shiftS XC i1 i2) = X := ⟨_, rfl⟩
      have hL3 : Hid (eC = 0 → eD = 0 → i0 + i1 ≤ 100000 → codeS (shiftS t (i0 + i1) i2) = 0 ∧ sameV XD (tmS (shiftS t (i0 + i1) i2)) = true) := Lib.hid (by
        rw [← dXD, ← dXC, ← deC, ← deD, ← dXC]
        exact twice_law)
      have dXC' := Lib.hid dXC
      have deC' := Lib.hid deC
      have dXD' := Lib.hid dXD
      have deD' := Lib.hid deD
      clear dXC deC dXD deD
      have hl0 : (0 : Int) < (l.length : Int) := by omega
      have hl1 : (1 : Int) < (l.length : Int) := by omega
      have hl2 : (2 : Int) < (l.length : Int) := by omega
      obtain ⟨At, ct, te0, te1, te2, te3, rt⟩ := Bt.at_
      have tx0 := mb.has.cell _ _ te0
      have tx1 := mb.has.cell _ _ te1
      have tx2 := mb.has.cell _ _ te2
      have tx3 := mb.has.cell _ _ te3
      have tl := mb.has.lt te0
      clear te0 te1 te2 te3
      have y0 := mb.has.cell _ _ (mb.sub.at_ _ _ f0)
      have y2 := mb.has.cell _ _ (mb.sub.at_ _ _ f2)
      have yl := mb.has.lt (mb.sub.at_ _ _ f0)
      refine rgs 14 (fun V => Below WQ.heap.size WQ V) [12] rfl ((Below.refl _ _).drew) (fun hS => ?_)
      refine rgt 0 (.agg #[.int .i64 t.k, .int .i64 t.n, .string t.nm, .slice At t.ar.length ct]) rfl (by kernel_rfl) (fun _ _ _ h => h) (by kernel_rfl) hS (fun V hV => by have q0 := cell_below tx0 hV; have q1 := cell_below tx1 hV; have q2 := cell_below tx2 hV; have q3 := cell_below tx3 hV; go_simp) ?_
      refine rgt 1 (.slice (some ⟨b, o, none⟩) l.length cl) rfl (by kernel_rfl) (fun _ _ _ h => h) (by kernel_rfl) hS (fun V hV => by go_simp) ?_
      refine rgt 2 (.pointer (some ⟨b, o, none⟩)) rfl (by kernel_rfl) (fun _ _ _ h => h) (by kernel_rfl) hS (fun V hV => by go_simp) ?_
      refine rgt 3 (.int .i64 i0) rfl (by kernel_rfl) (fun _ _ _ h => h) (by kernel_rfl) hS (fun V hV => by have q0 := cell_below y0 hV; go_simp) ?_
      refine rgt 4 (.slice (some ⟨b, o, none⟩) l.length cl) rfl (by kernel_rfl) (fun _ _ _ h => h) (by kernel_rfl) hS (fun V hV => by go_simp) ?_
      refine rgt 5 (.pointer (some ⟨b, o + 2, none⟩)) rfl (by kernel_rfl) (fun _ _ _ h => h) (by kernel_rfl) hS (fun V hV => by go_simp) ?_
      refine rgt 6 (.int .i64 i2) rfl (by kernel_rfl) (fun _ _ _ h => h) (by kernel_rfl) hS (fun V hV => by have q0 := cell_below y2 hV; go_simp) ?_
      refine join_ (σ := Option Addr × Nat × Snap × Nat × Unit) 2 #[true, true, true, true, true, true, true, true, true, true, true, true, false, false] (fun s => [(86, .tuple #[.agg #[.int .i64 XC.k, .int .i64 XC.n, .string XC.nm, .slice s.1 XC.ar.length s.2.1], .int .i64 eC]), (78, .tuple #[.agg #[.int .i64 XC.k, .int .i64 XC.n, .string XC.nm, .slice s.1 XC.ar.length s.2.1], .int .i64 eC]), (87, .agg #[.int .i64 XC.k, .int .i64 XC.n, .string XC.nm, .slice s.1 XC.ar.length s.2.1]), (88, .int .i64 eC), (12, .pointer (some ⟨s.2.2.2.1, 0, none⟩))]) (fun s W => Below WQ.heap.size WQ W ∧ (TmR s.2.2.1 XC [.int .i64 XC.k, .int .i64 XC.n, .string XC.nm, .slice s.1 XC.ar.length s.2.1] ∧ Mk w hn W s.2.2.1) ∧ (W.heap[s.2.2.2.1]? = some (.cells #[.int .i64 0, .int .i64 0, .string ⟨#[]⟩, .slice none 0 0] 34) ∧ WQ.heap.size ≤ s.2.2.2.1) ∧ (Off s.2.2.1 (fun q => q = s.2.2.2.1)) ∧ True) ?_ (fun sta_7_11 => ?_)
      rotate_left
      · refine join_ (σ := Option Addr × Nat × Snap × Unit) 3 #[true, true, true, true, true, true, true, true, true, true, true, false, false, false] (fun s => [(86, .tuple #[.agg #[.int .i64 XC.k, .int .i64 XC.n, .string XC.nm, .slice s.1 XC.ar.length s.2.1], .int .i64 eC]), (78, .tuple #[.agg #[.int .i64 XC.k, .int .i64 XC.n, .string XC.nm, .slice s.1 XC.ar.length s.2.1], .int .i64 eC]), (87, .agg #[.int .i64 XC.k, .int .i64 XC.n, .string XC.nm, .slice s.1 XC.ar.length s.2.1]), (88, .int .i64 eC)]) (fun s W => Below WQ.heap.size WQ W ∧ (TmR s.2.2.1 XC [.int .i64 XC.k, .int .i64 XC.n, .string XC.nm, .slice s.1 XC.ar.length s.2.1] ∧ Mk w hn W s.2.2.1) ∧ True) ?_ (fun sta_7 => ?_)
        · rintro ⟨AXC, cXC, hXC, ⟨⟩⟩ W ⟨hS, f7, -⟩
          dsimp only [putAll]
          refine rg1 11 rfl (by kernel_rfl) (by decide) (by kernel_rfl) (fun K hK => ?_)
          have hS0 := hS
          go_simp
          have kx := (alloc1 W (.cells #[.int .i64 0, .int .i64 0, .string ⟨#[]⟩, .slice none 0 0] 34)).2
          have kn := blk_new W (.cells #[.int .i64 0, .int .i64 0, .string ⟨#[]⟩, .slice none 0 0] 34)
          have kz : WQ.heap.size ≤ W.heap.size := hS.size
          refine hK.out _ _ (below_then hS kx hS.size) (fun hS => ?_)
          exact norm_ (by kernel_rfl) (sta_7_11 (AXC, cXC, hXC, W.heap.size, ()) _ ⟨hS, ⟨f7.1, f7.2.world (f7.2.has.below kx)⟩, ⟨kn, kz⟩, f7.2.has.off_new (fun k e => by rw [e]; exact Nat.le_refl _), trivial⟩)
        refine join_ (σ := Nat × Unit) 6 #[true, true, true, true, true, true, true, false, false, false, false, true, false, false] (fun s => [(12, .pointer (some ⟨s.1, 0, none⟩))]) (fun s W => Below WQ.heap.size WQ W ∧ (W.heap[s.1]? = some (.cells #[.int .i64 0, .int .i64 0, .string ⟨#[]⟩, .slice none 0 0] 34) ∧ WQ.heap.size ≤ s.1) ∧ True) ?_ (fun sta_11 => ?_)
        · rintro ⟨g11, ⟨⟩⟩ W ⟨hS, f11, -⟩
          dsimp only [putAll]
          refine rg1 7 rfl (by kernel_rfl) (by decide) (by kernel_rfl) (fun K hK => ?_)
          have hS0 := hS
          go_simp
          have hS_size := hS.size
          refine (Shift_calls t i0 i2 _ W _ (mb.has.below hS) rt raw_sz).mono ?_
          rintro e W7 ⟨k7, cs7, hXC, rfl, r7, m7⟩
          rw [dXC'.out] at r7
          obtain ⟨AXC, cXC, rfl, _⟩ := r7.open_
          rw [deC'.out]
          simp only []
          have kx := k7
          refine hK.out _ _ (below_then hS kx hS.size) (fun hS => ?_)
          refine rgt 8 (.tuple #[.agg #[.int .i64 XC.k, .int .i64 XC.n, .string XC.nm, .slice AXC XC.ar.length cXC], .int .i64 eC]) rfl (by kernel_rfl) (fun _ _ _ h => h) (by kernel_rfl) hS (fun V hV => by go_simp) ?_
          refine rgt 9 (.agg #[.int .i64 XC.k, .int .i64 XC.n, .string XC.nm, .slice AXC XC.ar.length cXC]) rfl (by kernel_rfl) (fun _ _ _ h => h) (by kernel_rfl) hS (fun V hV => by go_simp) ?_
          refine rgp 10 (.int .i64 eC) rfl (by kernel_rfl) (fun _ _ _ h => h) (by kernel_rfl) (fun V => by go_simp) ?_
          exact norm_ (by kernel_rfl) (sta_7_11 (AXC, cXC, hXC, g11, ()) _ ⟨hS, ⟨r7, m7.from_ (Nat.le_trans kb.size hS_size)⟩, ⟨box_below f11.1 kx, f11.2⟩, m7.off (mb.has.off_new (S := fun q => q = g11) (fun k e => by rw [e]; exact f11.2)) (fun k e => by rw [e]; exact blk_lt f11.1), trivial⟩)
        refine rg2 7 11 rfl rfl (by kernel_rfl) (by decide) (by decide) (by kernel_rfl) (by kernel_rfl) (fun K hK => ?_) (fun K hK => ?_)
        · have hS0 := hS
          go_simp
          have hS_size := hS.size
          refine (Shift_calls t i0 i2 _ WQ.drew _ (mb.has.below hS) rt raw_sz).mono ?_
          rintro e W7 ⟨k7, cs7, hXC, rfl, r7, m7⟩
          rw [dXC'.out] at r7
          obtain ⟨AXC, cXC, rfl, _⟩ := r7.open_
          rw [deC'.out]
          simp only []
          have kx := k7
          refine hK.out _ _ (below_then hS kx hS.size) (fun hS => ?_)
          refine rgt 8 (.tuple #[.agg #[.int .i64 XC.k, .int .i64 XC.n, .string XC.nm, .slice AXC XC.ar.length cXC], .int .i64 eC]) rfl (by kernel_rfl) (fun _ _ _ h => h) (by kernel_rfl) hS (fun V hV => by go_simp) ?_
          refine rgt 9 (.agg #[.int .i64 XC.k, .int .i64 XC.n, .string XC.nm, .slice AXC XC.ar.length cXC]) rfl (by kernel_rfl) (fun _ _ _ h => h) (by kernel_rfl) hS (fun V hV => by go_simp) ?_
          refine rgp 10 (.int .i64 eC) rfl (by kernel_rfl) (fun _ _ _ h => h) (by kernel_rfl) (fun V => by go_simp) ?_
          exact norm_ (by kernel_rfl) (sta_7 (AXC, cXC, hXC, ()) _ ⟨hS, ⟨r7, m7.from_ (Nat.le_trans kb.size hS_size)⟩, trivial⟩)
        · have hS0 := hS
          go_simp
          have kx := (alloc1 WQ.drew (.cells #[.int .i64 0, .int .i64 0, .string ⟨#[]⟩, .slice none 0 0] 34)).2
          have kn := blk_new WQ.drew (.cells #[.int .i64 0, .int .i64 0, .string ⟨#[]⟩, .slice none 0 0] 34)
          have kz : WQ.heap.size ≤ WQ.drew.heap.size := hS.size
          refine hK.out _ _ (below_then hS kx hS.size) (fun hS => ?_)
          exact norm_ (by kernel_rfl) (sta_11 (WQ.drew.heap.size, ()) _ ⟨hS, ⟨kn, kz⟩, trivial⟩)
      rintro ⟨AXC, cXC, hXC, g11, ⟨⟩⟩ WE ⟨hS, f7, f11, p7_11, -⟩
      dsimp only [putAll]
      try dsimp only at f7
      try dsimp only at f11
      try dsimp only at p7_11
      have xg := box4 f11.1
      have zg := blk_frozen f11.1
      have lg := blk_lt f11.1
      refine rgl 12 rfl (by kernel_rfl) (by decide) (by kernel_rfl) (fun K hK => ?_)
      go_simp
      refine hK.out _ _ ?_
      refine rgp 13 (.int .i64 eC) rfl (by kernel_rfl) (fun _ _ _ h => h) (by kernel_rfl) (fun V => by go_simp) ?_
      refine rgd (by kernel_rfl) ?_
      obtain ⟨WR, hWF, bF, kpF⟩ : ∃ WF, ((((WE.setCell ⟨g11, 0, none⟩ (.int .i64 XC.k)).setCell ⟨g11, 1, none⟩ (.int .i64 XC.n)).setCell ⟨g11, 2, none⟩ (.string XC.nm)).setCell ⟨g11, 3, none⟩ (.slice AXC XC.ar.length cXC)) = WF ∧
          WF.heap[g11]? = some (.cells #[.int .i64 XC.k, .int .i64 XC.n, .string XC.nm, .slice AXC XC.ar.length cXC] 34) ∧ Kp (fun q => q = g11) WE WF := ⟨_, rfl, (set4 f11.1 _ _ _ _).1, (set4 f11.1 _ _ _ _).2⟩
      rw [hWF]
      have HF := f7.2.has.kp kpF p7_11
      have kE := below_then kb hS kb.size
      have kF : Below w.heap.size w WR := ((Kp.of_below (fun q => q = g11) kE).trans kpF (fun i hi e => e)).below (fun i hi (e : i = g11) => by have h1 := f11.2; have h2 := kb.size; omega)
      obtain ⟨hr, BC, mc⟩ := BoxM.mk_ (w0 := w) HF bF f7.1 (Nat.le_trans kb.size f11.2)
      have ss := f7.2.sub.trans mc.sub
      replace mc := (mb.then_ (f7.2.world HF)).then_ mc
      replace Bt := Bt.sub ss
      clear hWF xg zg lg HF kE kpF bF ss hS kb mb f7 f11 p7_11
      have kb := kF
      have mb := mc
      clear kF mc
      clear tx0 tx1 tx2 tx3  tl rt
      clear y0 y2 yl
      obtain ⟨Ax, cx, xe0, xe1, xe2, xe3, rx⟩ := BC.at_
      have xx0 := mb.has.cell _ _ xe0
      have xx1 := mb.has.cell _ _ xe1
      have xx2 := mb.has.cell _ _ xe2
      have xx3 := mb.has.cell _ _ xe3
      have xl := mb.has.lt xe0
      clear xe0 xe1 xe2 xe3
      have y1 := mb.has.cell _ _ (mb.sub.at_ _ _ f1)
      have y2 := mb.has.cell _ _ (mb.sub.at_ _ _ f2)
      have yl := mb.has.lt (mb.sub.at_ _ _ f0)
      go_wp2_with fail
      refine rgs 14 (fun V => Below WR.heap.size WR V) [12] rfl ((Below.refl _ _).drew) (fun hS => ?_)
      refine rgt 0 (.agg #[.int .i64 XC.k, .int .i64 XC.n, .string XC.nm, .slice Ax XC.ar.length cx]) rfl (by kernel_rfl) (fun _ _ _ h => h) (by kernel_rfl) hS (fun V hV => by have q0 := cell_below xx0 hV; have q1 := cell_below xx1 hV; have q2 := cell_below xx2 hV; have q3 := cell_below xx3 hV; go_simp) ?_
      refine rgt 1 (.slice (some ⟨b, o, none⟩) l.length cl) rfl (by kernel_rfl) (fun _ _ _ h => h) (by kernel_rfl) hS (fun V hV => by go_simp) ?_
      refine rgt 2 (.pointer (some ⟨b, o + 1, none⟩)) rfl (by kernel_rfl) (fun _ _ _ h => h) (by kernel_rfl) hS (fun V hV => by go_simp) ?_
      refine rgt 3 (.int .i64 i1) rfl (by kernel_rfl) (fun _ _ _ h => h) (by kernel_rfl) hS (fun V hV => by have q0 := cell_below y1 hV; go_simp) ?_
      refine rgt 4 (.slice (some ⟨b, o, none⟩) l.length cl) rfl (by kernel_rfl) (fun _ _ _ h => h) (by kernel_rfl) hS (fun V hV => by go_simp) ?_
      refine rgt 5 (.pointer (some ⟨b, o + 2, none⟩)) rfl (by kernel_rfl) (fun _ _ _ h => h) (by kernel_rfl) hS (fun V hV => by go_simp) ?_
      refine rgt 6 (.int .i64 i2) rfl (by kernel_rfl) (fun _ _ _ h => h) (by kernel_rfl) hS (fun V hV => by have q0 := cell_below y2 hV; go_simp) ?_
      refine join_ (σ := Option Addr × Nat × Snap × Nat × Unit) 2 #[true, true, true, true, true, true, true, true, true, true, true, true, false, false] (fun s => [(97, .tuple #[.agg #[.int .i64 XD.k, .int .i64 XD.n, .string XD.nm, .slice s.1 XD.ar.length s.2.1], .int .i64 eD]), (89, .tuple #[.agg #[.int .i64 XD.k, .int .i64 XD.n, .string XD.nm, .slice s.1 XD.ar.length s.2.1], .int .i64 eD]), (98, .agg #[.int .i64 XD.k, .int .i64 XD.n, .string XD.nm, .slice s.1 XD.ar.length s.2.1]), (99, .int .i64 eD), (14, .pointer (some ⟨s.2.2.2.1, 0, none⟩))]) (fun s W => Below WR.heap.size WR W ∧ (TmR s.2.2.1 XD [.int .i64 XD.k, .int .i64 XD.n, .string XD.nm, .slice s.1 XD.ar.length s.2.1] ∧ Mk w hr W s.2.2.1) ∧ (W.heap[s.2.2.2.1]? = some (.cells #[.int .i64 0, .int .i64 0, .string ⟨#[]⟩, .slice none 0 0] 34) ∧ WR.heap.size ≤ s.2.2.2.1) ∧ (Off s.2.2.1 (fun q => q = s.2.2.2.1)) ∧ True) ?_ (fun stb_7_11 => ?_)
      rotate_left
      · refine join_ (σ := Option Addr × Nat × Snap × Unit) 3 #[true, true, true, true, true, true, true, true, true, true, true, false, false, false] (fun s => [(97, .tuple #[.agg #[.int .i64 XD.k, .int .i64 XD.n, .string XD.nm, .slice s.1 XD.ar.length s.2.1], .int .i64 eD]), (89, .tuple #[.agg #[.int .i64 XD.k, .int .i64 XD.n, .string XD.nm, .slice s.1 XD.ar.length s.2.1], .int .i64 eD]), (98, .agg #[.int .i64 XD.k, .int .i64 XD.n, .string XD.nm, .slice s.1 XD.ar.length s.2.1]), (99, .int .i64 eD)]) (fun s W => Below WR.heap.size WR W ∧ (TmR s.2.2.1 XD [.int .i64 XD.k, .int .i64 XD.n, .string XD.nm, .slice s.1 XD.ar.length s.2.1] ∧ Mk w hr W s.2.2.1) ∧ True) ?_ (fun stb_7 => ?_)
        · rintro ⟨AXD, cXD, hXD, ⟨⟩⟩ W ⟨hS, f7, -⟩
          dsimp only [putAll]
          refine rg1 11 rfl (by kernel_rfl) (by decide) (by kernel_rfl) (fun K hK => ?_)
          have hS0 := hS
          go_simp
          have kx := (alloc1 W (.cells #[.int .i64 0, .int .i64 0, .string ⟨#[]⟩, .slice none 0 0] 34)).2
          have kn := blk_new W (.cells #[.int .i64 0, .int .i64 0, .string ⟨#[]⟩, .slice none 0 0] 34)
          have kz : WR.heap.size ≤ W.heap.size := hS.size
          refine hK.out _ _ (below_then hS kx hS.size) (fun hS => ?_)
          exact norm_ (by kernel_rfl) (stb_7_11 (AXD, cXD, hXD, W.heap.size, ()) _ ⟨hS, ⟨f7.1, f7.2.world (f7.2.has.below kx)⟩, ⟨kn, kz⟩, f7.2.has.off_new (fun k e => by rw [e]; exact Nat.le_refl _), trivial⟩)
        refine join_ (σ := Nat × Unit) 6 #[true, true, true, true, true, true, true, false, false, false, false, true, false, false] (fun s => [(14, .pointer (some ⟨s.1, 0, none⟩))]) (fun s W => Below WR.heap.size WR W ∧ (W.heap[s.1]? = some (.cells #[.int .i64 0, .int .i64 0, .string ⟨#[]⟩, .slice none 0 0] 34) ∧ WR.heap.size ≤ s.1) ∧ True) ?_ (fun stb_11 => ?_)
        · rintro ⟨g12, ⟨⟩⟩ W ⟨hS, f11, -⟩
          dsimp only [putAll]
          refine rg1 7 rfl (by kernel_rfl) (by decide) (by kernel_rfl) (fun K hK => ?_)
          have hS0 := hS
          go_simp
          have hS_size := hS.size
          refine (Shift_calls XC i1 i2 _ W _ (mb.has.below hS) rx raw_sz).mono ?_
          rintro e W7 ⟨k7, cs7, hXD, rfl, r7, m7⟩
          rw [dXD'.out] at r7
          obtain ⟨AXD, cXD, rfl, _⟩ := r7.open_
          rw [deD'.out]
          simp only []
          have kx := k7
          refine hK.out _ _ (below_then hS kx hS.size) (fun hS => ?_)
          refine rgt 8 (.tuple #[.agg #[.int .i64 XD.k, .int .i64 XD.n, .string XD.nm, .slice AXD XD.ar.length cXD], .int .i64 eD]) rfl (by kernel_rfl) (fun _ _ _ h => h) (by kernel_rfl) hS (fun V hV => by go_simp) ?_
          refine rgt 9 (.agg #[.int .i64 XD.k, .int .i64 XD.n, .string XD.nm, .slice AXD XD.ar.length cXD]) rfl (by kernel_rfl) (fun _ _ _ h => h) (by kernel_rfl) hS (fun V hV => by go_simp) ?_
          refine rgp 10 (.int .i64 eD) rfl (by kernel_rfl) (fun _ _ _ h => h) (by kernel_rfl) (fun V => by go_simp) ?_
          exact norm_ (by kernel_rfl) (stb_7_11 (AXD, cXD, hXD, g12, ()) _ ⟨hS, ⟨r7, m7.from_ (Nat.le_trans kb.size hS_size)⟩, ⟨box_below f11.1 kx, f11.2⟩, m7.off (mb.has.off_new (S := fun q => q = g12) (fun k e => by rw [e]; exact f11.2)) (fun k e => by rw [e]; exact blk_lt f11.1), trivial⟩)
        refine rg2 7 11 rfl rfl (by kernel_rfl) (by decide) (by decide) (by kernel_rfl) (by kernel_rfl) (fun K hK => ?_) (fun K hK => ?_)
        · have hS0 := hS
          go_simp
          have hS_size := hS.size
          refine (Shift_calls XC i1 i2 _ WR.drew _ (mb.has.below hS) rx raw_sz).mono ?_
          rintro e W7 ⟨k7, cs7, hXD, rfl, r7, m7⟩
          rw [dXD'.out] at r7
          obtain ⟨AXD, cXD, rfl, _⟩ := r7.open_
          rw [deD'.out]
          simp only []
          have kx := k7
          refine hK.out _ _ (below_then hS kx hS.size) (fun hS => ?_)
          refine rgt 8 (.tuple #[.agg #[.int .i64 XD.k, .int .i64 XD.n, .string XD.nm, .slice AXD XD.ar.length cXD], .int .i64 eD]) rfl (by kernel_rfl) (fun _ _ _ h => h) (by kernel_rfl) hS (fun V hV => by go_simp) ?_
          refine rgt 9 (.agg #[.int .i64 XD.k, .int .i64 XD.n, .string XD.nm, .slice AXD XD.ar.length cXD]) rfl (by kernel_rfl) (fun _ _ _ h => h) (by kernel_rfl) hS (fun V hV => by go_simp) ?_
          refine rgp 10 (.int .i64 eD) rfl (by kernel_rfl) (fun _ _ _ h => h) (by kernel_rfl) (fun V => by go_simp) ?_
          exact norm_ (by kernel_rfl) (stb_7 (AXD, cXD, hXD, ()) _ ⟨hS, ⟨r7, m7.from_ (Nat.le_trans kb.size hS_size)⟩, trivial⟩)
        · have hS0 := hS
          go_simp
          have kx := (alloc1 WR.drew (.cells #[.int .i64 0, .int .i64 0, .string ⟨#[]⟩, .slice none 0 0] 34)).2
          have kn := blk_new WR.drew (.cells #[.int .i64 0, .int .i64 0, .string ⟨#[]⟩, .slice none 0 0] 34)
          have kz : WR.heap.size ≤ WR.drew.heap.size := hS.size
          refine hK.out _ _ (below_then hS kx hS.size) (fun hS => ?_)
          exact norm_ (by kernel_rfl) (stb_11 (WR.drew.heap.size, ()) _ ⟨hS, ⟨kn, kz⟩, trivial⟩)
      rintro ⟨AXD, cXD, hXD, g12, ⟨⟩⟩ WE2 ⟨hS, f7, f11, p7_11, -⟩
      dsimp only [putAll]
      try dsimp only at f7
      try dsimp only at f11
      try dsimp only at p7_11
      have xg := box4 f11.1
      have zg := blk_frozen f11.1
      have lg := blk_lt f11.1
      refine rgl 12 rfl (by kernel_rfl) (by decide) (by kernel_rfl) (fun K hK => ?_)
      go_simp
      refine hK.out _ _ ?_
      refine rgp 13 (.int .i64 eD) rfl (by kernel_rfl) (fun _ _ _ h => h) (by kernel_rfl) (fun V => by go_simp) ?_
      refine rgd (by kernel_rfl) ?_
      obtain ⟨WS, hWF, bF, kpF⟩ : ∃ WF, ((((WE2.setCell ⟨g12, 0, none⟩ (.int .i64 XD.k)).setCell ⟨g12, 1, none⟩ (.int .i64 XD.n)).setCell ⟨g12, 2, none⟩ (.string XD.nm)).setCell ⟨g12, 3, none⟩ (.slice AXD XD.ar.length cXD)) = WF ∧
          WF.heap[g12]? = some (.cells #[.int .i64 XD.k, .int .i64 XD.n, .string XD.nm, .slice AXD XD.ar.length cXD] 34) ∧ Kp (fun q => q = g12) WE2 WF := ⟨_, rfl, (set4 f11.1 _ _ _ _).1, (set4 f11.1 _ _ _ _).2⟩
      rw [hWF]
      have HF := f7.2.has.kp kpF p7_11
      have kE := below_then kb hS kb.size
      have kF : Below w.heap.size w WS := ((Kp.of_below (fun q => q = g12) kE).trans kpF (fun i hi e => e)).below (fun i hi (e : i = g12) => by have h1 := f11.2; have h2 := kb.size; omega)
      obtain ⟨hz, BD, mc⟩ := BoxM.mk_ (w0 := w) HF bF f7.1 (Nat.le_trans kb.size f11.2)
      have ss := f7.2.sub.trans mc.sub
      replace mc := (mb.then_ (f7.2.world HF)).then_ mc
      replace Bt := Bt.sub ss
      clear hWF xg zg lg HF kE kpF bF ss hS kb mb f7 f11 p7_11
      have kb := kF
      have mb := mc
      clear kF mc
      clear xx0 xx1 xx2 xx3  xl rx
      clear y1 y2 yl BC
      have y0 := mb.has.cell _ _ (mb.sub.at_ _ _ f0)
      have y1 := mb.has.cell _ _ (mb.sub.at_ _ _ f1)
      have yl := mb.has.lt (mb.sub.at_ _ _ f0)
      cases qc : eC == 0
      · have qc' : (eC != 0) = true := by simp at qc ⊢; exact qc
        clear qc hL3
        go_wp2_with fail
        go_quiet (fail)
        all_goals go_wp2_with fail
        go_ret
        first | exact ⟨rfl, kb⟩ | exact ⟨rfl, below_drewN kb _⟩ | exact ⟨rfl, kb.drew⟩
      cases qd : eD == 0
      · have qc' : (eC != 0) = false := by simp at qc ⊢; exact qc
        have qd' : (eD != 0) = true := by simp at qd ⊢; exact qd
        clear qc qd hL3
        go_wp2_with fail
        go_quiet (fail)
        all_goals go_wp2_with fail
        go_ret
        first | exact ⟨rfl, kb⟩ | exact ⟨rfl, below_drewN kb _⟩ | exact ⟨rfl, kb.drew⟩
      have qc' : (eC != 0) = false := by simp at qc ⊢; exact qc
      have qd' : (eD != 0) = false := by simp at qd ⊢; exact qd
      by_cases c4 : 100000 < i0 + i1
      · clear qc qd hL3
        go_wp2_with fail
        go_quiet (fail)
        all_goals go_wp2_with fail
        go_ret
        first | exact ⟨rfl, kb⟩ | exact ⟨rfl, below_drewN kb _⟩ | exact ⟨rfl, kb.drew⟩
      obtain ⟨z1, z2⟩ := hL3.out (by simpa using qc) (by simpa using qd) (by omega)
      obtain ⟨XY, dXY⟩ : ∃ X, tmS (shiftS t (i0 + i1) i2) = X := ⟨_, rfl⟩
      obtain ⟨eY, deY⟩ : ∃ X, codeS (shiftS t (i0 + i1) i2) = X := ⟨_, rfl⟩
      rw [dXY] at z2
      rw [deY] at z1
      have z2' := Lib.hid z2
      have dXY' := Lib.hid dXY
      subst z1
      have deY' := Lib.hid deY
      clear qc qd hL3 z2 dXY deY
      go_wp2_with fail
      go_quiet (fail)
      all_goals go_wp2_with fail
      clear y0 y1 yl
      replace kb := below_drewN kb nq
      replace mb := mb.world (mb.has.drewN nq)
      obtain ⟨WZ, hWZ⟩ : ∃ WZ, WS.drewN nq = WZ := ⟨_, rfl⟩
      rw [hWZ] at kb mb ⊢
      clear hWZ
      obtain ⟨Av, cv, te0, te1, te2, te3, rt⟩ := Bt.at_
      have tx0 := mb.has.cell _ _ te0
      have tx1 := mb.has.cell _ _ te1
      have tx2 := mb.has.cell _ _ te2
      have tx3 := mb.has.cell _ _ te3
      have tl := mb.has.lt te0
      clear te0 te1 te2 te3
      have y0 := mb.has.cell _ _ (mb.sub.at_ _ _ f0)
      have y1 := mb.has.cell _ _ (mb.sub.at_ _ _ f1)
      have y2 := mb.has.cell _ _ (mb.sub.at_ _ _ f2)
      have yl := mb.has.lt (mb.sub.at_ _ _ f0)
      refine rgs 18 (fun V => Below WZ.heap.size WZ V) [16] rfl ((Below.refl _ _).drew) (fun hS => ?_)
      refine rgt 0 (.agg #[.int .i64 t.k, .int .i64 t.n, .string t.nm, .slice Av t.ar.length cv]) rfl (by kernel_rfl) (fun _ _ _ h => h) (by kernel_rfl) hS (fun V hV => by have q0 := cell_below tx0 hV; have q1 := cell_below tx1 hV; have q2 := cell_below tx2 hV; have q3 := cell_below tx3 hV; go_simp) ?_
      refine rgt 1 (.slice (some ⟨b, o, none⟩) l.length cl) rfl (by kernel_rfl) (fun _ _ _ h => h) (by kernel_rfl) hS (fun V hV => by go_simp) ?_
      refine rgt 2 (.pointer (some ⟨b, o, none⟩)) rfl (by kernel_rfl) (fun _ _ _ h => h) (by kernel_rfl) hS (fun V hV => by go_simp) ?_
      refine rgt 3 (.int .i64 i0) rfl (by kernel_rfl) (fun _ _ _ h => h) (by kernel_rfl) hS (fun V hV => by have q0 := cell_below y0 hV; go_simp) ?_
      refine rgt 4 (.slice (some ⟨b, o, none⟩) l.length cl) rfl (by kernel_rfl) (fun _ _ _ h => h) (by kernel_rfl) hS (fun V hV => by go_simp) ?_
      refine rgt 5 (.pointer (some ⟨b, o + 1, none⟩)) rfl (by kernel_rfl) (fun _ _ _ h => h) (by kernel_rfl) hS (fun V hV => by go_simp) ?_
      refine rgt 6 (.int .i64 i1) rfl (by kernel_rfl) (fun _ _ _ h => h) (by kernel_rfl) hS (fun V hV => by have q0 := cell_below y1 hV; go_simp) ?_
      refine rgt 7 (.int .i64 (i0 + i1)) rfl (by kernel_rfl) (fun _ _ _ h => h) (by kernel_rfl) hS (fun V hV => by go_simp; exact Go.IntWalk.i64_in _ ⟨by omega, by omega⟩) ?_
      refine rgt 8 (.slice (some ⟨b, o, none⟩) l.length cl) rfl (by kernel_rfl) (fun _ _ _ h => h) (by kernel_rfl) hS (fun V hV => by go_simp) ?_
      refine rgt 9 (.pointer (some ⟨b, o + 2, none⟩)) rfl (by kernel_rfl) (fun _ _ _ h => h) (by kernel_rfl) hS (fun V hV => by go_simp) ?_
      refine rgt 10 (.int .i64 i2) rfl (by kernel_rfl) (fun _ _ _ h => h) (by kernel_rfl) hS (fun V hV => by have q0 := cell_below y2 hV; go_simp) ?_
      refine join_ (σ := Option Addr × Nat × Snap × Nat × Unit) 2 #[true, true, true, true, true, true, true, true, true, true, true, true, true, true, true, true, false, false] (fun s => [(128, .tuple #[.agg #[.int .i64 XY.k, .int .i64 XY.n, .string XY.nm, .slice s.1 XY.ar.length s.2.1], .int .i64 0]), (116, .tuple #[.agg #[.int .i64 XY.k, .int .i64 XY.n, .string XY.nm, .slice s.1 XY.ar.length s.2.1], .int .i64 0]), (129, .agg #[.int .i64 XY.k, .int .i64 XY.n, .string XY.nm, .slice s.1 XY.ar.length s.2.1]), (130, .int .i64 0), (16, .pointer (some ⟨s.2.2.2.1, 0, none⟩))]) (fun s W => Below WZ.heap.size WZ W ∧ (TmR s.2.2.1 XY [.int .i64 XY.k, .int .i64 XY.n, .string XY.nm, .slice s.1 XY.ar.length s.2.1] ∧ Mk w hz W s.2.2.1) ∧ (W.heap[s.2.2.2.1]? = some (.cells #[.int .i64 0, .int .i64 0, .string ⟨#[]⟩, .slice none 0 0] 34) ∧ WZ.heap.size ≤ s.2.2.2.1) ∧ (Off s.2.2.1 (fun q => q = s.2.2.2.1)) ∧ True) ?_ (fun stc_11_15 => ?_)
      rotate_left
      · refine join_ (σ := Option Addr × Nat × Snap × Unit) 3 #[true, true, true, true, true, true, true, true, true, true, true, true, true, true, true, false, false, false] (fun s => [(128, .tuple #[.agg #[.int .i64 XY.k, .int .i64 XY.n, .string XY.nm, .slice s.1 XY.ar.length s.2.1], .int .i64 0]), (116, .tuple #[.agg #[.int .i64 XY.k, .int .i64 XY.n, .string XY.nm, .slice s.1 XY.ar.length s.2.1], .int .i64 0]), (129, .agg #[.int .i64 XY.k, .int .i64 XY.n, .string XY.nm, .slice s.1 XY.ar.length s.2.1]), (130, .int .i64 0)]) (fun s W => Below WZ.heap.size WZ W ∧ (TmR s.2.2.1 XY [.int .i64 XY.k, .int .i64 XY.n, .string XY.nm, .slice s.1 XY.ar.length s.2.1] ∧ Mk w hz W s.2.2.1) ∧ True) ?_ (fun stc_11 => ?_)
        · rintro ⟨AXY, cXY, hXY, ⟨⟩⟩ W ⟨hS, f11, -⟩
          dsimp only [putAll]
          refine rg1 15 rfl (by kernel_rfl) (by decide) (by kernel_rfl) (fun K hK => ?_)
          have hS0 := hS
          go_simp
          have kx := (alloc1 W (.cells #[.int .i64 0, .int .i64 0, .string ⟨#[]⟩, .slice none 0 0] 34)).2
          have kn := blk_new W (.cells #[.int .i64 0, .int .i64 0, .string ⟨#[]⟩, .slice none 0 0] 34)
          have kz : WZ.heap.size ≤ W.heap.size := hS.size
          refine hK.out _ _ (below_then hS kx hS.size) (fun hS => ?_)
          exact norm_ (by kernel_rfl) (stc_11_15 (AXY, cXY, hXY, W.heap.size, ()) _ ⟨hS, ⟨f11.1, f11.2.world (f11.2.has.below kx)⟩, ⟨kn, kz⟩, f11.2.has.off_new (fun k e => by rw [e]; exact Nat.le_refl _), trivial⟩)
        refine join_ (σ := Nat × Unit) 6 #[true, true, true, true, true, true, true, true, true, true, true, false, false, false, false, true, false, false] (fun s => [(16, .pointer (some ⟨s.1, 0, none⟩))]) (fun s W => Below WZ.heap.size WZ W ∧ (W.heap[s.1]? = some (.cells #[.int .i64 0, .int .i64 0, .string ⟨#[]⟩, .slice none 0 0] 34) ∧ WZ.heap.size ≤ s.1) ∧ True) ?_ (fun stc_15 => ?_)
        · rintro ⟨g13, ⟨⟩⟩ W ⟨hS, f15, -⟩
          dsimp only [putAll]
          refine rg1 11 rfl (by kernel_rfl) (by decide) (by kernel_rfl) (fun K hK => ?_)
          have hS0 := hS
          go_simp
          have hS_size := hS.size
          refine (Shift_calls t (i0 + i1) i2 _ W _ (mb.has.below hS) rt raw_sz).mono ?_
          rintro e W7 ⟨k7, cs7, hXY, rfl, r7, m7⟩
          rw [dXY'.out] at r7
          obtain ⟨AXY, cXY, rfl, _⟩ := r7.open_
          rw [deY'.out]
          simp only []
          have kx := k7
          refine hK.out _ _ (below_then hS kx hS.size) (fun hS => ?_)
          refine rgt 12 (.tuple #[.agg #[.int .i64 XY.k, .int .i64 XY.n, .string XY.nm, .slice AXY XY.ar.length cXY], .int .i64 0]) rfl (by kernel_rfl) (fun _ _ _ h => h) (by kernel_rfl) hS (fun V hV => by go_simp) ?_
          refine rgt 13 (.agg #[.int .i64 XY.k, .int .i64 XY.n, .string XY.nm, .slice AXY XY.ar.length cXY]) rfl (by kernel_rfl) (fun _ _ _ h => h) (by kernel_rfl) hS (fun V hV => by go_simp) ?_
          refine rgp 14 (.int .i64 0) rfl (by kernel_rfl) (fun _ _ _ h => h) (by kernel_rfl) (fun V => by go_simp) ?_
          exact norm_ (by kernel_rfl) (stc_11_15 (AXY, cXY, hXY, g13, ()) _ ⟨hS, ⟨r7, m7.from_ (Nat.le_trans kb.size hS_size)⟩, ⟨box_below f15.1 kx, f15.2⟩, m7.off (mb.has.off_new (S := fun q => q = g13) (fun k e => by rw [e]; exact f15.2)) (fun k e => by rw [e]; exact blk_lt f15.1), trivial⟩)
        refine rg2 11 15 rfl rfl (by kernel_rfl) (by decide) (by decide) (by kernel_rfl) (by kernel_rfl) (fun K hK => ?_) (fun K hK => ?_)
        · have hS0 := hS
          go_simp
          have hS_size := hS.size
          refine (Shift_calls t (i0 + i1) i2 _ WZ.drew _ (mb.has.below hS) rt raw_sz).mono ?_
          rintro e W7 ⟨k7, cs7, hXY, rfl, r7, m7⟩
          rw [dXY'.out] at r7
          obtain ⟨AXY, cXY, rfl, _⟩ := r7.open_
          rw [deY'.out]
          simp only []
          have kx := k7
          refine hK.out _ _ (below_then hS kx hS.size) (fun hS => ?_)
          refine rgt 12 (.tuple #[.agg #[.int .i64 XY.k, .int .i64 XY.n, .string XY.nm, .slice AXY XY.ar.length cXY], .int .i64 0]) rfl (by kernel_rfl) (fun _ _ _ h => h) (by kernel_rfl) hS (fun V hV => by go_simp) ?_
          refine rgt 13 (.agg #[.int .i64 XY.k, .int .i64 XY.n, .string XY.nm, .slice AXY XY.ar.length cXY]) rfl (by kernel_rfl) (fun _ _ _ h => h) (by kernel_rfl) hS (fun V hV => by go_simp) ?_
          refine rgp 14 (.int .i64 0) rfl (by kernel_rfl) (fun _ _ _ h => h) (by kernel_rfl) (fun V => by go_simp) ?_
          exact norm_ (by kernel_rfl) (stc_11 (AXY, cXY, hXY, ()) _ ⟨hS, ⟨r7, m7.from_ (Nat.le_trans kb.size hS_size)⟩, trivial⟩)
        · have hS0 := hS
          go_simp
          have kx := (alloc1 WZ.drew (.cells #[.int .i64 0, .int .i64 0, .string ⟨#[]⟩, .slice none 0 0] 34)).2
          have kn := blk_new WZ.drew (.cells #[.int .i64 0, .int .i64 0, .string ⟨#[]⟩, .slice none 0 0] 34)
          have kz : WZ.heap.size ≤ WZ.drew.heap.size := hS.size
          refine hK.out _ _ (below_then hS kx hS.size) (fun hS => ?_)
          exact norm_ (by kernel_rfl) (stc_15 (WZ.drew.heap.size, ()) _ ⟨hS, ⟨kn, kz⟩, trivial⟩)
      rintro ⟨AXY, cXY, hXY, g13, ⟨⟩⟩ WE3 ⟨hS, f11, f15, p11_15, -⟩
      dsimp only [putAll]
      try dsimp only at f11
      try dsimp only at f15
      try dsimp only at p11_15
      have xg := box4 f15.1
      have zg := blk_frozen f15.1
      have lg := blk_lt f15.1
      refine rgl 16 rfl (by kernel_rfl) (by decide) (by kernel_rfl) (fun K hK => ?_)
      go_simp
      refine hK.out _ _ ?_
      refine rgp 17 (.int .i64 0) rfl (by kernel_rfl) (fun _ _ _ h => h) (by kernel_rfl) (fun V => by go_simp) ?_
      refine rgd (by kernel_rfl) ?_
      obtain ⟨WY, hWF, bF, kpF⟩ : ∃ WF, ((((WE3.setCell ⟨g13, 0, none⟩ (.int .i64 XY.k)).setCell ⟨g13, 1, none⟩ (.int .i64 XY.n)).setCell ⟨g13, 2, none⟩ (.string XY.nm)).setCell ⟨g13, 3, none⟩ (.slice AXY XY.ar.length cXY)) = WF ∧
          WF.heap[g13]? = some (.cells #[.int .i64 XY.k, .int .i64 XY.n, .string XY.nm, .slice AXY XY.ar.length cXY] 34) ∧ Kp (fun q => q = g13) WE3 WF := ⟨_, rfl, (set4 f15.1 _ _ _ _).1, (set4 f15.1 _ _ _ _).2⟩
      rw [hWF]
      have HF := f11.2.has.kp kpF p11_15
      have kE := below_then kb hS kb.size
      have kF : Below w.heap.size w WY := ((Kp.of_below (fun q => q = g13) kE).trans kpF (fun i hi e => e)).below (fun i hi (e : i = g13) => by have h1 := f15.2; have h2 := kb.size; omega)
      obtain ⟨hy, BY, mc⟩ := BoxM.mk_ (w0 := w) HF bF f11.1 (Nat.le_trans kb.size f15.2)
      have ss := f11.2.sub.trans mc.sub
      replace mc := (mb.then_ (f11.2.world HF)).then_ mc
      replace BD := BD.sub ss
      clear hWF xg zg lg HF kE kpF bF ss hS kb mb f11 f15 p11_15
      have kb := kF
      have mb := mc
      clear kF mc
      clear tx0 tx1 tx2 tx3  tl rt
      clear y0 y1 y2 yl Bt
      obtain ⟨Ap, cp, pe0, pe1, pe2, pe3, rp⟩ := BD.at_
      have px0 := mb.has.cell _ _ pe0
      have px1 := mb.has.cell _ _ pe1
      have px2 := mb.has.cell _ _ pe2
      have px3 := mb.has.cell _ _ pe3
      have pl := mb.has.lt pe0
      clear pe0 pe1 pe2 pe3
      obtain ⟨Aq, cq, qe0, qe1, qe2, qe3, rq⟩ := BY.at_
      have qx0 := mb.has.cell _ _ qe0
      have qx1 := mb.has.cell _ _ qe1
      have qx2 := mb.has.cell _ _ qe2
      have qx3 := mb.has.cell _ _ qe3
      have ql := mb.has.lt qe0
      clear qe0 qe1 qe2 qe3
      go_wp2_with fail
      refine (Same_calls XD XY _ _ _ _ mb.has rp rq).mono ?_
      rintro e wF ⟨rfl, kF⟩
      rw [z2'.out]
      replace kb := below_then kb kF kb.size
      go_wp2_with fail
      go_ret
      exact ⟨rfl, kb⟩
  · obtain ⟨As, cs, se0, se1, se2, se3, rs⟩ := Bs.at_
    have sx0 := mm.has.cell _ _ se0
    have sx1 := mm.has.cell _ _ se1
    have sx2 := mm.has.cell _ _ se2
    have sx3 := mm.has.cell _ _ se3
    have sl := mm.has.lt se0
    clear se0 se1 se2 se3
    go_wp2_with fail
    clear sx0 sx1 sx2 sx3  sl 
    have bx := blk_new w2 (.cells #[.int .i64 XB.k, .int .i64 XB.n, .string XB.nm, .slice AB XB.ar.length cB] 34)
    have kx := (alloc1 w2 (.cells #[.int .i64 XB.k, .int .i64 XB.n, .string XB.nm, .slice AB XB.ar.length cB] 34)).2
    obtain ⟨hn, BB, mn⟩ := BoxM.mk_ (w0 := w) (mm.has.below kx) bx r2 kb.size
    obtain ⟨WN, hWN⟩ : ∃ WN, w2.alloc (.cells #[.int .i64 XB.k, .int .i64 XB.n, .string XB.nm, .slice AB XB.ar.length cB] 34) = WN := ⟨_, rfl⟩
    rw [hWN] at kx mn ⊢
    replace kb := below_then kb kx kb.size
    have sn := mn.sub
    have mb : Mk w h WN hn := mm.then_ mn
    clear hWN bx kx mn
    replace Bt := Bt.sub sn
    replace Bs := Bs.sub sn
    replace rs := rs.sub sn
    clear sn
    clear r2 mm
    refine (Raw_calls s _ _ _ mb.has rs).mono ?_
    rintro e WQ ⟨rfl, k3⟩
    replace kb := below_then kb k3 kb.size
    replace mb := mb.world (mb.has.below k3)
    have hL2 : Hid (rawP s = 0 → eB = 0 ∧ sameV XB t = true) := Lib.hid (fun h2 => hL1.out (by simpa using qa) h2)
    clear rs hL1 k3
    obtain ⟨es, hes⟩ : ∃ e, rawP s = e := ⟨_, rfl⟩
    rw [hes] at hL2 ⊢
    clear hes
    cases qs : es == 0
    · clear BB Bs hL2
      by_cases hlen : l.length < 3
      · have hlen' : (l.length : Int) < 3 := by omega
        clear hlen
        go_wp2_with fail
        go_ret
        first | exact ⟨rfl, kb⟩ | exact ⟨rfl, kb.alloc kb.size _⟩
      · have hlen' : ¬ (l.length : Int) < 3 := by omega
        obtain ⟨⟨g0, g0'⟩, b, o, rfl, f0⟩ := hli 0 (by omega)
        obtain ⟨⟨g1, g1'⟩, b1, o1, q1, f1⟩ := hli 1 (by omega)
        obtain ⟨⟨g2, g2'⟩, b2, o2, q2, f2⟩ := hli 2 (by omega)
        cases q1
        cases q2
        obtain ⟨i0, hi0⟩ : ∃ i, l[0] = i := ⟨_, rfl⟩
        obtain ⟨i1, hi1⟩ : ∃ i, l[1] = i := ⟨_, rfl⟩
        obtain ⟨i2, hi2⟩ : ∃ i, l[2] = i := ⟨_, rfl⟩
        rw [hi0] at f0 g0 g0'
        rw [Nat.add_zero] at f0
        rw [hi1] at f1 g1 g1'
        rw [hi2] at f2 g2 g2'
        clear hi0 hi1 hi2 hli hlen
        have y0 := mb.has.cell _ _ (mb.sub.at_ _ _ f0)
        have y1 := mb.has.cell _ _ (mb.sub.at_ _ _ f1)
        have y2 := mb.has.cell _ _ (mb.sub.at_ _ _ f2)
        have yl := mb.has.lt (mb.sub.at_ _ _ f0)
        by_cases c0 : i0 < 0
        · go_wp2_with fail
          go_ret
          first | exact ⟨rfl, kb⟩ | exact ⟨rfl, kb.alloc kb.size _⟩
        by_cases c1 : i1 < 0
        · go_wp2_with fail
          go_ret
          first | exact ⟨rfl, kb⟩ | exact ⟨rfl, kb.alloc kb.size _⟩
        by_cases c2 : 100000 < i0
        · go_wp2_with fail
          go_ret
          first | exact ⟨rfl, kb⟩ | exact ⟨rfl, kb.alloc kb.size _⟩
        by_cases c3 : 100000 < i1
        · go_wp2_with fail
          go_ret
          first | exact ⟨rfl, kb⟩ | exact ⟨rfl, kb.alloc kb.size _⟩
        go_wp2_with fail
        clear y0 y1 y2 yl
        obtain ⟨XC, dXC⟩ : ∃ X, tmS (shiftS t i0 i2) = X := ⟨_, rfl⟩
        obtain ⟨eC, deC⟩ : ∃ X, codeS (shiftS t i0 i2) = X := ⟨_, rfl⟩
        obtain ⟨XD, dXD⟩ : ∃ X, tmS (shiftS XC i1 i2) = X := ⟨_, rfl⟩
        obtain ⟨eD, deD⟩ : ∃ X, codeS (shiftS XC i1 i2) = X := ⟨_, rfl⟩
        have hL3 : Hid (eC = 0 → eD = 0 → i0 + i1 ≤ 100000 → codeS (shiftS t (i0 + i1) i2) = 0 ∧ sameV XD (tmS (shiftS t (i0 + i1) i2)) = true) := Lib.hid (by
          rw [← dXD, ← dXC, ← deC, ← deD, ← dXC]
          exact twice_law)
        have dXC' := Lib.hid dXC
        have deC' := Lib.hid deC
        have dXD' := Lib.hid dXD
        have deD' := Lib.hid deD
        clear dXC deC dXD deD
        have hl0 : (0 : Int) < (l.length : Int) := by omega
        have hl1 : (1 : Int) < (l.length : Int) := by omega
        have hl2 : (2 : Int) < (l.length : Int) := by omega
        obtain ⟨At, ct, te0, te1, te2, te3, rt⟩ := Bt.at_
        have tx0 := mb.has.cell _ _ te0
        have tx1 := mb.has.cell _ _ te1
        have tx2 := mb.has.cell _ _ te2
        have tx3 := mb.has.cell _ _ te3
        have tl := mb.has.lt te0
        clear te0 te1 te2 te3
        have y0 := mb.has.cell _ _ (mb.sub.at_ _ _ f0)
        have y2 := mb.has.cell _ _ (mb.sub.at_ _ _ f2)
        have yl := mb.has.lt (mb.sub.at_ _ _ f0)
        refine rgs 14 (fun V => Below WQ.heap.size WQ V) [12] rfl ((Below.refl _ _).drew) (fun hS => ?_)
        refine rgt 0 (.agg #[.int .i64 t.k, .int .i64 t.n, .string t.nm, .slice At t.ar.length ct]) rfl (by kernel_rfl) (fun _ _ _ h => h) (by kernel_rfl) hS (fun V hV => by have q0 := cell_below tx0 hV; have q1 := cell_below tx1 hV; have q2 := cell_below tx2 hV; have q3 := cell_below tx3 hV; go_simp) ?_
        refine rgt 1 (.slice (some ⟨b, o, none⟩) l.length cl) rfl (by kernel_rfl) (fun _ _ _ h => h) (by kernel_rfl) hS (fun V hV => by go_simp) ?_
        refine rgt 2 (.pointer (some ⟨b, o, none⟩)) rfl (by kernel_rfl) (fun _ _ _ h => h) (by kernel_rfl) hS (fun V hV => by go_simp) ?_
        refine rgt 3 (.int .i64 i0) rfl (by kernel_rfl) (fun _ _ _ h => h) (by kernel_rfl) hS (fun V hV => by have q0 := cell_below y0 hV; go_simp) ?_
        refine rgt 4 (.slice (some ⟨b, o, none⟩) l.length cl) rfl (by kernel_rfl) (fun _ _ _ h => h) (by kernel_rfl) hS (fun V hV => by go_simp) ?_
        refine rgt 5 (.pointer (some ⟨b, o + 2, none⟩)) rfl (by kernel_rfl) (fun _ _ _ h => h) (by kernel_rfl) hS (fun V hV => by go_simp) ?_
        refine rgt 6 (.int .i64 i2) rfl (by kernel_rfl) (fun _ _ _ h => h) (by kernel_rfl) hS (fun V hV => by have q0 := cell_below y2 hV; go_simp) ?_
        refine join_ (σ := Option Addr × Nat × Snap × Nat × Unit) 2 #[true, true, true, true, true, true, true, true, true, true, true, true, false, false] (fun s => [(86, .tuple #[.agg #[.int .i64 XC.k, .int .i64 XC.n, .string XC.nm, .slice s.1 XC.ar.length s.2.1], .int .i64 eC]), (78, .tuple #[.agg #[.int .i64 XC.k, .int .i64 XC.n, .string XC.nm, .slice s.1 XC.ar.length s.2.1], .int .i64 eC]), (87, .agg #[.int .i64 XC.k, .int .i64 XC.n, .string XC.nm, .slice s.1 XC.ar.length s.2.1]), (88, .int .i64 eC), (12, .pointer (some ⟨s.2.2.2.1, 0, none⟩))]) (fun s W => Below WQ.heap.size WQ W ∧ (TmR s.2.2.1 XC [.int .i64 XC.k, .int .i64 XC.n, .string XC.nm, .slice s.1 XC.ar.length s.2.1] ∧ Mk w hn W s.2.2.1) ∧ (W.heap[s.2.2.2.1]? = some (.cells #[.int .i64 0, .int .i64 0, .string ⟨#[]⟩, .slice none 0 0] 34) ∧ WQ.heap.size ≤ s.2.2.2.1) ∧ (Off s.2.2.1 (fun q => q = s.2.2.2.1)) ∧ True) ?_ (fun sta_7_11 => ?_)
        rotate_left
        · refine join_ (σ := Option Addr × Nat × Snap × Unit) 3 #[true, true, true, true, true, true, true, true, true, true, true, false, false, false] (fun s => [(86, .tuple #[.agg #[.int .i64 XC.k, .int .i64 XC.n, .string XC.nm, .slice s.1 XC.ar.length s.2.1], .int .i64 eC]), (78, .tuple #[.agg #[.int .i64 XC.k, .int .i64 XC.n, .string XC.nm, .slice s.1 XC.ar.length s.2.1], .int .i64 eC]), (87, .agg #[.int .i64 XC.k, .int .i64 XC.n, .string XC.nm, .slice s.1 XC.ar.length s.2.1]), (88, .int .i64 eC)]) (fun s W => Below WQ.heap.size WQ W ∧ (TmR s.2.2.1 XC [.int .i64 XC.k, .int .i64 XC.n, .string XC.nm, .slice s.1 XC.ar.length s.2.1] ∧ Mk w hn W s.2.2.1) ∧ True) ?_ (fun sta_7 => ?_)
          · rintro ⟨AXC, cXC, hXC, ⟨⟩⟩ W ⟨hS, f7, -⟩
            dsimp only [putAll]
            refine rg1 11 rfl (by kernel_rfl) (by decide) (by kernel_rfl) (fun K hK => ?_)
            have hS0 := hS
            go_simp
            have kx := (alloc1 W (.cells #[.int .i64 0, .int .i64 0, .string ⟨#[]⟩, .slice none 0 0] 34)).2
            have kn := blk_new W (.cells #[.int .i64 0, .int .i64 0, .string ⟨#[]⟩, .slice none 0 0] 34)
            have kz : WQ.heap.size ≤ W.heap.size := hS.size
            refine hK.out _ _ (below_then hS kx hS.size) (fun hS => ?_)
            exact norm_ (by kernel_rfl) (sta_7_11 (AXC, cXC, hXC, W.heap.size, ()) _ ⟨hS, ⟨f7.1, f7.2.world (f7.2.has.below kx)⟩, ⟨kn, kz⟩, f7.2.has.off_new (fun k e => by rw [e]; exact Nat.le_refl _), trivial⟩)
          refine join_ (σ := Nat × Unit) 6 #[true, true, true, true, true, true, true, false, false, false, false, true, false, false] (fun s => [(12, .pointer (some ⟨s.1, 0, none⟩))]) (fun s W => Below WQ.heap.size WQ W ∧ (W.heap[s.1]? = some (.cells #[.int .i64 0, .int .i64 0, .string ⟨#[]⟩, .slice none 0 0] 34) ∧ WQ.heap.size ≤ s.1) ∧ True) ?_ (fun sta_11 => ?_)
          · rintro ⟨g11, ⟨⟩⟩ W ⟨hS, f11, -⟩
            dsimp only [putAll]
            refine rg1 7 rfl (by kernel_rfl) (by decide) (by kernel_rfl) (fun K hK => ?_)
            have hS0 := hS
            go_simp
            have hS_size := hS.size
            refine (Shift_calls t i0 i2 _ W _ (mb.has.below hS) rt raw_sz).mono ?_
            rintro e W7 ⟨k7, cs7, hXC, rfl, r7, m7⟩
            rw [dXC'.out] at r7
            obtain ⟨AXC, cXC, rfl, _⟩ := r7.open_
            rw [deC'.out]
            simp only []
            have kx := k7
            refine hK.out _ _ (below_then hS kx hS.size) (fun hS => ?_)
            refine rgt 8 (.tuple #[.agg #[.int .i64 XC.k, .int .i64 XC.n, .string XC.nm, .slice AXC XC.ar.length cXC], .int .i64 eC]) rfl (by kernel_rfl) (fun _ _ _ h => h) (by kernel_rfl) hS (fun V hV => by go_simp) ?_
            refine rgt 9 (.agg #[.int .i64 XC.k, .int .i64 XC.n, .string XC.nm, .slice AXC XC.ar.length cXC]) rfl (by kernel_rfl) (fun _ _ _ h => h) (by kernel_rfl) hS (fun V hV => by go_simp) ?_
            refine rgp 10 (.int .i64 eC) rfl (by kernel_rfl) (fun _ _ _ h => h) (by kernel_rfl) (fun V => by go_simp) ?_
            exact norm_ (by kernel_rfl) (sta_7_11 (AXC, cXC, hXC, g11, ()) _ ⟨hS, ⟨r7, m7.from_ (Nat.le_trans kb.size hS_size)⟩, ⟨box_below f11.1 kx, f11.2⟩, m7.off (mb.has.off_new (S := fun q => q = g11) (fun k e => by rw [e]; exact f11.2)) (fun k e => by rw [e]; exact blk_lt f11.1), trivial⟩)
          refine rg2 7 11 rfl rfl (by kernel_rfl) (by decide) (by decide) (by kernel_rfl) (by kernel_rfl) (fun K hK => ?_) (fun K hK => ?_)
          · have hS0 := hS
            go_simp
            have hS_size := hS.size
            refine (Shift_calls t i0 i2 _ WQ.drew _ (mb.has.below hS) rt raw_sz).mono ?_
            rintro e W7 ⟨k7, cs7, hXC, rfl, r7, m7⟩
            rw [dXC'.out] at r7
            obtain ⟨AXC, cXC, rfl, _⟩ := r7.open_
            rw [deC'.out]
            simp only []
            have kx := k7
            refine hK.out _ _ (below_then hS kx hS.size) (fun hS => ?_)
            refine rgt 8 (.tuple #[.agg #[.int .i64 XC.k, .int .i64 XC.n, .string XC.nm, .slice AXC XC.ar.length cXC], .int .i64 eC]) rfl (by kernel_rfl) (fun _ _ _ h => h) (by kernel_rfl) hS (fun V hV => by go_simp) ?_
            refine rgt 9 (.agg #[.int .i64 XC.k, .int .i64 XC.n, .string XC.nm, .slice AXC XC.ar.length cXC]) rfl (by kernel_rfl) (fun _ _ _ h => h) (by kernel_rfl) hS (fun V hV => by go_simp) ?_
            refine rgp 10 (.int .i64 eC) rfl (by kernel_rfl) (fun _ _ _ h => h) (by kernel_rfl) (fun V => by go_simp) ?_
            exact norm_ (by kernel_rfl) (sta_7 (AXC, cXC, hXC, ()) _ ⟨hS, ⟨r7, m7.from_ (Nat.le_trans kb.size hS_size)⟩, trivial⟩)
          · have hS0 := hS
            go_simp
            have kx := (alloc1 WQ.drew (.cells #[.int .i64 0, .int .i64 0, .string ⟨#[]⟩, .slice none 0 0] 34)).2
            have kn := blk_new WQ.drew (.cells #[.int .i64 0, .int .i64 0, .string ⟨#[]⟩, .slice none 0 0] 34)
            have kz : WQ.heap.size ≤ WQ.drew.heap.size := hS.size
            refine hK.out _ _ (below_then hS kx hS.size) (fun hS => ?_)
            exact norm_ (by kernel_rfl) (sta_11 (WQ.drew.heap.size, ()) _ ⟨hS, ⟨kn, kz⟩, trivial⟩)
        rintro ⟨AXC, cXC, hXC, g11, ⟨⟩⟩ WE ⟨hS, f7, f11, p7_11, -⟩
        dsimp only [putAll]
        try dsimp only at f7
        try dsimp only at f11
        try dsimp only at p7_11
        have xg := box4 f11.1
        have zg := blk_frozen f11.1
        have lg := blk_lt f11.1
        refine rgl 12 rfl (by kernel_rfl) (by decide) (by kernel_rfl) (fun K hK => ?_)
        go_simp
        refine hK.out _ _ ?_
        refine rgp 13 (.int .i64 eC) rfl (by kernel_rfl) (fun _ _ _ h => h) (by kernel_rfl) (fun V => by go_simp) ?_
        refine rgd (by kernel_rfl) ?_
        obtain ⟨WR, hWF, bF, kpF⟩ : ∃ WF, ((((WE.setCell ⟨g11, 0, none⟩ (.int .i64 XC.k)).setCell ⟨g11, 1, none⟩ (.int .i64 XC.n)).setCell ⟨g11, 2, none⟩ (.string XC.nm)).setCell ⟨g11, 3, none⟩ (.slice AXC XC.ar.length cXC)) = WF ∧
            WF.heap[g11]? = some (.cells #[.int .i64 XC.k, .int .i64 XC.n, .string XC.nm, .slice AXC XC.ar.length cXC] 34) ∧ Kp (fun q => q = g11) WE WF := ⟨_, rfl, (set4 f11.1 _ _ _ _).1, (set4 f11.1 _ _ _ _).2⟩
        rw [hWF]
        have HF := f7.2.has.kp kpF p7_11
        have kE := below_then kb hS kb.size
        have kF : Below w.heap.size w WR := ((Kp.of_below (fun q => q = g11) kE).trans kpF (fun i hi e => e)).below (fun i hi (e : i = g11) => by have h1 := f11.2; have h2 := kb.size; omega)
        obtain ⟨hr, BC, mc⟩ := BoxM.mk_ (w0 := w) HF bF f7.1 (Nat.le_trans kb.size f11.2)
        have ss := f7.2.sub.trans mc.sub
        replace mc := (mb.then_ (f7.2.world HF)).then_ mc
        replace Bt := Bt.sub ss
        clear hWF xg zg lg HF kE kpF bF ss hS kb mb f7 f11 p7_11
        have kb := kF
        have mb := mc
        clear kF mc
        clear tx0 tx1 tx2 tx3  tl rt
        clear y0 y2 yl
        obtain ⟨Ax, cx, xe0, xe1, xe2, xe3, rx⟩ := BC.at_
        have xx0 := mb.has.cell _ _ xe0
        have xx1 := mb.has.cell _ _ xe1
        have xx2 := mb.has.cell _ _ xe2
        have xx3 := mb.has.cell _ _ xe3
        have xl := mb.has.lt xe0
        clear xe0 xe1 xe2 xe3
        have y1 := mb.has.cell _ _ (mb.sub.at_ _ _ f1)
        have y2 := mb.has.cell _ _ (mb.sub.at_ _ _ f2)
        have yl := mb.has.lt (mb.sub.at_ _ _ f0)
        go_wp2_with fail
        refine rgs 14 (fun V => Below WR.heap.size WR V) [12] rfl ((Below.refl _ _).drew) (fun hS => ?_)
        refine rgt 0 (.agg #[.int .i64 XC.k, .int .i64 XC.n, .string XC.nm, .slice Ax XC.ar.length cx]) rfl (by kernel_rfl) (fun _ _ _ h => h) (by kernel_rfl) hS (fun V hV => by have q0 := cell_below xx0 hV; have q1 := cell_below xx1 hV; have q2 := cell_below xx2 hV; have q3 := cell_below xx3 hV; go_simp) ?_
        refine rgt 1 (.slice (some ⟨b, o, none⟩) l.length cl) rfl (by kernel_rfl) (fun _ _ _ h => h) (by kernel_rfl) hS (fun V hV => by go_simp) ?_
        refine rgt 2 (.pointer (some ⟨b, o + 1, none⟩)) rfl (by kernel_rfl) (fun _ _ _ h => h) (by kernel_rfl) hS (fun V hV => by go_simp) ?_
        refine rgt 3 (.int .i64 i1) rfl (by kernel_rfl) (fun _ _ _ h => h) (by kernel_rfl) hS (fun V hV => by have q0 := cell_below y1 hV; go_simp) ?_
        refine rgt 4 (.slice (some ⟨b, o, none⟩) l.length cl) rfl (by kernel_rfl) (fun _ _ _ h => h) (by kernel_rfl) hS (fun V hV => by go_simp) ?_
        refine rgt 5 (.pointer (some ⟨b, o + 2, none⟩)) rfl (by kernel_rfl) (fun _ _ _ h => h) (by kernel_rfl) hS (fun V hV => by go_simp) ?_
        refine rgt 6 (.int .i64 i2) rfl (by kernel_rfl) (fun _ _ _ h => h) (by kernel_rfl) hS (fun V hV => by have q0 := cell_below y2 hV; go_simp) ?_
        refine join_ (σ := Option Addr × Nat × Snap × Nat × Unit) 2 #[true, true, true, true, true, true, true, true, true, true, true, true, false, false] (fun s => [(97, .tuple #[.agg #[.int .i64 XD.k, .int .i64 XD.n, .string XD.nm, .slice s.1 XD.ar.length s.2.1], .int .i64 eD]), (89, .tuple #[.agg #[.int .i64 XD.k, .int .i64 XD.n, .string XD.nm, .slice s.1 XD.ar.length s.2.1], .int .i64 eD]), (98, .agg #[.int .i64 XD.k, .int .i64 XD.n, .string XD.nm, .slice s.1 XD.ar.length s.2.1]), (99, .int .i64 eD), (14, .pointer (some ⟨s.2.2.2.1, 0, none⟩))]) (fun s W => Below WR.heap.size WR W ∧ (TmR s.2.2.1 XD [.int .i64 XD.k, .int .i64 XD.n, .string XD.nm, .slice s.1 XD.ar.length s.2.1] ∧ Mk w hr W s.2.2.1) ∧ (W.heap[s.2.2.2.1]? = some (.cells #[.int .i64 0, .int .i64 0, .string ⟨#[]⟩, .slice none 0 0] 34) ∧ WR.heap.size ≤ s.2.2.2.1) ∧ (Off s.2.2.1 (fun q => q = s.2.2.2.1)) ∧ True) ?_ (fun stb_7_11 => ?_)
        rotate_left
        · refine join_ (σ := Option Addr × Nat × Snap × Unit) 3 #[true, true, true, true, true, true, true, true, true, true, true, false, false, false] (fun s => [(97, .tuple #[.agg #[.int .i64 XD.k, .int .i64 XD.n, .string XD.nm, .slice s.1 XD.ar.length s.2.1], .int .i64 eD]), (89, .tuple #[.agg #[.int .i64 XD.k, .int .i64 XD.n, .string XD.nm, .slice s.1 XD.ar.length s.2.1], .int .i64 eD]), (98, .agg #[.int .i64 XD.k, .int .i64 XD.n, .string XD.nm, .slice s.1 XD.ar.length s.2.1]), (99, .int .i64 eD)]) (fun s W => Below WR.heap.size WR W ∧ (TmR s.2.2.1 XD [.int .i64 XD.k, .int .i64 XD.n, .string XD.nm, .slice s.1 XD.ar.length s.2.1] ∧ Mk w hr W s.2.2.1) ∧ True) ?_ (fun stb_7 => ?_)
          · rintro ⟨AXD, cXD, hXD, ⟨⟩⟩ W ⟨hS, f7, -⟩
            dsimp only [putAll]
            refine rg1 11 rfl (by kernel_rfl) (by decide) (by kernel_rfl) (fun K hK => ?_)
            have hS0 := hS
            go_simp
            have kx := (alloc1 W (.cells #[.int .i64 0, .int .i64 0, .string ⟨#[]⟩, .slice none 0 0] 34)).2
            have kn := blk_new W (.cells #[.int .i64 0, .int .i64 0, .string ⟨#[]⟩, .slice none 0 0] 34)
            have kz : WR.heap.size ≤ W.heap.size := hS.size
            refine hK.out _ _ (below_then hS kx hS.size) (fun hS => ?_)
            exact norm_ (by kernel_rfl) (stb_7_11 (AXD, cXD, hXD, W.heap.size, ()) _ ⟨hS, ⟨f7.1, f7.2.world (f7.2.has.below kx)⟩, ⟨kn, kz⟩, f7.2.has.off_new (fun k e => by rw [e]; exact Nat.le_refl _), trivial⟩)
          refine join_ (σ := Nat × Unit) 6 #[true, true, true, true, true, true, true, false, false, false, false, true, false, false] (fun s => [(14, .pointer (some ⟨s.1, 0, none⟩))]) (fun s W => Below WR.heap.size WR W ∧ (W.heap[s.1]? = some (.cells #[.int .i64 0, .int .i64 0, .string ⟨#[]⟩, .slice none 0 0] 34) ∧ WR.heap.size ≤ s.1) ∧ True) ?_ (fun stb_11 => ?_)
          · rintro ⟨g12, ⟨⟩⟩ W ⟨hS, f11, -⟩
            dsimp only [putAll]
            refine rg1 7 rfl (by kernel_rfl) (by decide) (by kernel_rfl) (fun K hK => ?_)
            have hS0 := hS
            go_simp
            have hS_size := hS.size
            refine (Shift_calls XC i1 i2 _ W _ (mb.has.below hS) rx raw_sz).mono ?_
            rintro e W7 ⟨k7, cs7, hXD, rfl, r7, m7⟩
            rw [dXD'.out] at r7
            obtain ⟨AXD, cXD, rfl, _⟩ := r7.open_
            rw [deD'.out]
            simp only []
            have kx := k7
            refine hK.out _ _ (below_then hS kx hS.size) (fun hS => ?_)
            refine rgt 8 (.tuple #[.agg #[.int .i64 XD.k, .int .i64 XD.n, .string XD.nm, .slice AXD XD.ar.length cXD], .int .i64 eD]) rfl (by kernel_rfl) (fun _ _ _ h => h) (by kernel_rfl) hS (fun V hV => by go_simp) ?_
            refine rgt 9 (.agg #[.int .i64 XD.k, .int .i64 XD.n, .string XD.nm, .slice AXD XD.ar.length cXD]) rfl (by kernel_rfl) (fun _ _ _ h => h) (by kernel_rfl) hS (fun V hV => by go_simp) ?_
            refine rgp 10 (.int .i64 eD) rfl (by kernel_rfl) (fun _ _ _ h => h) (by kernel_rfl) (fun V => by go_simp) ?_
            exact norm_ (by kernel_rfl) (stb_7_11 (AXD, cXD, hXD, g12, ()) _ ⟨hS, ⟨r7, m7.from_ (Nat.le_trans kb.size hS_size)⟩, ⟨box_below f11.1 kx, f11.2⟩, m7.off (mb.has.off_new (S := fun q => q = g12) (fun k e => by rw [e]; exact f11.2)) (fun k e => by rw [e]; exact blk_lt f11.1), trivial⟩)
          refine rg2 7 11 rfl rfl (by kernel_rfl) (by decide) (by decide) (by kernel_rfl) (by kernel_rfl) (fun K hK => ?_) (fun K hK => ?_)
          · have hS0 := hS
            go_simp
            have hS_size := hS.size
            refine (Shift_calls XC i1 i2 _ WR.drew _ (mb.has.below hS) rx raw_sz).mono ?_
            rintro e W7 ⟨k7, cs7, hXD, rfl, r7, m7⟩
            rw [dXD'.out] at r7
            obtain ⟨AXD, cXD, rfl, _⟩ := r7.open_
            rw [deD'.out]
            simp only []
            have kx := k7
            refine hK.out _ _ (below_then hS kx hS.size) (fun hS => ?_)
            refine rgt 8 (.tuple #[.agg #[.int .i64 XD.k, .int .i64 XD.n, .string XD.nm, .slice AXD XD.ar.length cXD], .int .i64 eD]) rfl (by kernel_rfl) (fun _ _ _ h => h) (by kernel_rfl) hS (fun V hV => by go_simp) ?_
            refine rgt 9 (.agg #[.int .i64 XD.k, .int .i64 XD.n, .string XD.nm, .slice AXD XD.ar.length cXD]) rfl (by kernel_rfl) (fun _ _ _ h => h) (by kernel_rfl) hS (fun V hV => by go_simp) ?_
            refine rgp 10 (.int .i64 eD) rfl (by kernel_rfl) (fun _ _ _ h => h) (by kernel_rfl) (fun V => by go_simp) ?_
            exact norm_ (by kernel_rfl) (stb_7 (AXD, cXD, hXD, ()) _ ⟨hS, ⟨r7, m7.from_ (Nat.le_trans kb.size hS_size)⟩, trivial⟩)
          · have hS0 := hS
            go_simp
            have kx := (alloc1 WR.drew (.cells #[.int .i64 0, .int .i64 0, .string ⟨#[]⟩, .slice none 0 0] 34)).2
            have kn := blk_new WR.drew (.cells #[.int .i64 0, .int .i64 0, .string ⟨#[]⟩, .slice none 0 0] 34)
            have kz : WR.heap.size ≤ WR.drew.heap.size := hS.size
            refine hK.out _ _ (below_then hS kx hS.size) (fun hS => ?_)
            exact norm_ (by kernel_rfl) (stb_11 (WR.drew.heap.size, ()) _ ⟨hS, ⟨kn, kz⟩, trivial⟩)
        rintro ⟨AXD, cXD, hXD, g12, ⟨⟩⟩ WE2 ⟨hS, f7, f11, p7_11, -⟩
        dsimp only [putAll]
        try dsimp only at f7
        try dsimp only at f11
        try dsimp only at p7_11
        have xg := box4 f11.1
        have zg := blk_frozen f11.1
        have lg := blk_lt f11.1
        refine rgl 12 rfl (by kernel_rfl) (by decide) (by kernel_rfl) (fun K hK => ?_)
        go_simp
        refine hK.out _ _ ?_
        refine rgp 13 (.int .i64 eD) rfl (by kernel_rfl) (fun _ _ _ h => h) (by kernel_rfl) (fun V => by go_simp) ?_
        refine rgd (by kernel_rfl) ?_
        obtain ⟨WS, hWF, bF, kpF⟩ : ∃ WF, ((((WE2.setCell ⟨g12, 0, none⟩ (.int .i64 XD.k)).setCell ⟨g12, 1, none⟩ (.int .i64 XD.n)).setCell ⟨g12, 2, none⟩ (.string XD.nm)).setCell ⟨g12, 3, none⟩ (.slice AXD XD.ar.length cXD)) = WF ∧
            WF.heap[g12]? = some (.cells #[.int .i64 XD.k, .int .i64 XD.n, .string XD.nm, .slice AXD XD.ar.length cXD] 34) ∧ Kp (fun q => q = g12) WE2 WF := ⟨_, rfl, (set4 f11.1 _ _ _ _).1, (set4 f11.1 _ _ _ _).2⟩
        rw [hWF]
        have HF := f7.2.has.kp kpF p7_11
        have kE := below_then kb hS kb.size
        have kF : Below w.heap.size w WS := ((Kp.of_below (fun q => q = g12) kE).trans kpF (fun i hi e => e)).below (fun i hi (e : i = g12) => by have h1 := f11.2; have h2 := kb.size; omega)
        obtain ⟨hz, BD, mc⟩ := BoxM.mk_ (w0 := w) HF bF f7.1 (Nat.le_trans kb.size f11.2)
        have ss := f7.2.sub.trans mc.sub
        replace mc := (mb.then_ (f7.2.world HF)).then_ mc
        replace Bt := Bt.sub ss
        clear hWF xg zg lg HF kE kpF bF ss hS kb mb f7 f11 p7_11
        have kb := kF
        have mb := mc
        clear kF mc
        clear xx0 xx1 xx2 xx3  xl rx
        clear y1 y2 yl BC
        have y0 := mb.has.cell _ _ (mb.sub.at_ _ _ f0)
        have y1 := mb.has.cell _ _ (mb.sub.at_ _ _ f1)
        have yl := mb.has.lt (mb.sub.at_ _ _ f0)
        cases qc : eC == 0
        · have qc' : (eC != 0) = true := by simp at qc ⊢; exact qc
          clear qc hL3
          go_wp2_with fail
          go_quiet (fail)
          all_goals go_wp2_with fail
          go_ret
          first | exact ⟨rfl, kb⟩ | exact ⟨rfl, below_drewN kb _⟩ | exact ⟨rfl, kb.drew⟩
        cases qd : eD == 0
        · have qc' : (eC != 0) = false := by simp at qc ⊢; exact qc
          have qd' : (eD != 0) = true := by simp at qd ⊢; exact qd
          clear qc qd hL3
          go_wp2_with fail
          go_quiet (fail)
          all_goals go_wp2_with fail
          go_ret
          first | exact ⟨rfl, kb⟩ | exact ⟨rfl, below_drewN kb _⟩ | exact ⟨rfl, kb.drew⟩
        have qc' : (eC != 0) = false := by simp at qc ⊢; exact qc
        have qd' : (eD != 0) = false := by simp at qd ⊢; exact qd
        by_cases c4 : 100000 < i0 + i1
        · clear qc qd hL3
          go_wp2_with fail
          go_quiet (fail)
          all_goals go_wp2_with fail
          go_ret
          first | exact ⟨rfl, kb⟩ | exact ⟨rfl, below_drewN kb _⟩ | exact ⟨rfl, kb.drew⟩
        obtain ⟨z1, z2⟩ := hL3.out (by simpa using qc) (by simpa using qd) (by omega)
        obtain ⟨XY, dXY⟩ : ∃ X, tmS (shiftS t (i0 + i1) i2) = X := ⟨_, rfl⟩
        obtain ⟨eY, deY⟩ : ∃ X, codeS (shiftS t (i0 + i1) i2) = X := ⟨_, rfl⟩
        rw [dXY] at z2
        rw [deY] at z1
        have z2' := Lib.hid z2
        have dXY' := Lib.hid dXY
        subst z1
        have deY' := Lib.hid deY
        clear qc qd hL3 z2 dXY deY
        go_wp2_with fail
        go_quiet (fail)
        all_goals go_wp2_with fail
        clear y0 y1 yl
        replace kb := below_drewN kb nq
        replace mb := mb.world (mb.has.drewN nq)
        obtain ⟨WZ, hWZ⟩ : ∃ WZ, WS.drewN nq = WZ := ⟨_, rfl⟩
        rw [hWZ] at kb mb ⊢
        clear hWZ
        obtain ⟨Av, cv, te0, te1, te2, te3, rt⟩ := Bt.at_
        have tx0 := mb.has.cell _ _ te0
        have tx1 := mb.has.cell _ _ te1
        have tx2 := mb.has.cell _ _ te2
        have tx3 := mb.has.cell _ _ te3
        have tl := mb.has.lt te0
        clear te0 te1 te2 te3
        have y0 := mb.has.cell _ _ (mb.sub.at_ _ _ f0)
        have y1 := mb.has.cell _ _ (mb.sub.at_ _ _ f1)
        have y2 := mb.has.cell _ _ (mb.sub.at_ _ _ f2)
        have yl := mb.has.lt (mb.sub.at_ _ _ f0)
        refine rgs 18 (fun V => Below WZ.heap.size WZ V) [16] rfl ((Below.refl _ _).drew) (fun hS => ?_)
        refine rgt 0 (.agg #[.int .i64 t.k, .int .i64 t.n, .string t.nm, .slice Av t.ar.length cv]) rfl (by kernel_rfl) (fun _ _ _ h => h) (by kernel_rfl) hS (fun V hV => by have q0 := cell_below tx0 hV; have q1 := cell_below tx1 hV; have q2 := cell_below tx2 hV; have q3 := cell_below tx3 hV; go_simp) ?_
        refine rgt 1 (.slice (some ⟨b, o, none⟩) l.length cl) rfl (by kernel_rfl) (fun _ _ _ h => h) (by kernel_rfl) hS (fun V hV => by go_simp) ?_
        refine rgt 2 (.pointer (some ⟨b, o, none⟩)) rfl (by kernel_rfl) (fun _ _ _ h => h) (by kernel_rfl) hS (fun V hV => by go_simp) ?_
        refine rgt 3 (.int .i64 i0) rfl (by kernel_rfl) (fun _ _ _ h => h) (by kernel_rfl) hS (fun V hV => by have q0 := cell_below y0 hV; go_simp) ?_
        refine rgt 4 (.slice (some ⟨b, o, none⟩) l.length cl) rfl (by kernel_rfl) (fun _ _ _ h => h) (by kernel_rfl) hS (fun V hV => by go_simp) ?_
        refine rgt 5 (.pointer (some ⟨b, o + 1, none⟩)) rfl (by kernel_rfl) (fun _ _ _ h => h) (by kernel_rfl) hS (fun V hV => by go_simp) ?_
        refine rgt 6 (.int .i64 i1) rfl (by kernel_rfl) (fun _ _ _ h => h) (by kernel_rfl) hS (fun V hV => by have q0 := cell_below y1 hV; go_simp) ?_
        refine rgt 7 (.int .i64 (i0 + i1)) rfl (by kernel_rfl) (fun _ _ _ h => h) (by kernel_rfl) hS (fun V hV => by go_simp; exact Go.IntWalk.i64_in _ ⟨by omega, by omega⟩) ?_
        refine rgt 8 (.slice (some ⟨b, o, none⟩) l.length cl) rfl (by kernel_rfl) (fun _ _ _ h => h) (by kernel_rfl) hS (fun V hV => by go_simp) ?_
        refine rgt 9 (.pointer (some ⟨b, o + 2, none⟩)) rfl (by kernel_rfl) (fun _ _ _ h => h) (by kernel_rfl) hS (fun V hV => by go_simp) ?_
        refine rgt 10 (.int .i64 i2) rfl (by kernel_rfl) (fun _ _ _ h => h) (by kernel_rfl) hS (fun V hV => by have q0 := cell_below y2 hV; go_simp) ?_
        refine join_ (σ := Option Addr × Nat × Snap × Nat × Unit) 2 #[true, true, true, true, true, true, true, true, true, true, true, true, true, true, true, true, false, false] (fun s => [(128, .tuple #[.agg #[.int .i64 XY.k, .int .i64 XY.n, .string XY.nm, .slice s.1 XY.ar.length s.2.1], .int .i64 0]), (116, .tuple #[.agg #[.int .i64 XY.k, .int .i64 XY.n, .string XY.nm, .slice s.1 XY.ar.length s.2.1], .int .i64 0]), (129, .agg #[.int .i64 XY.k, .int .i64 XY.n, .string XY.nm, .slice s.1 XY.ar.length s.2.1]), (130, .int .i64 0), (16, .pointer (some ⟨s.2.2.2.1, 0, none⟩))]) (fun s W => Below WZ.heap.size WZ W ∧ (TmR s.2.2.1 XY [.int .i64 XY.k, .int .i64 XY.n, .string XY.nm, .slice s.1 XY.ar.length s.2.1] ∧ Mk w hz W s.2.2.1) ∧ (W.heap[s.2.2.2.1]? = some (.cells #[.int .i64 0, .int .i64 0, .string ⟨#[]⟩, .slice none 0 0] 34) ∧ WZ.heap.size ≤ s.2.2.2.1) ∧ (Off s.2.2.1 (fun q => q = s.2.2.2.1)) ∧ True) ?_ (fun stc_11_15 => ?_)
        rotate_left
        · refine join_ (σ := Option Addr × Nat × Snap × Unit) 3 #[true, true, true, true, true, true, true, true, true, true, true, true, true, true, true, false, false, false] (fun s => [(128, .tuple #[.agg #[.int .i64 XY.k, .int .i64 XY.n, .string XY.nm, .slice s.1 XY.ar.length s.2.1], .int .i64 0]), (116, .tuple #[.agg #[.int .i64 XY.k, .int .i64 XY.n, .string XY.nm, .slice s.1 XY.ar.length s.2.1], .int .i64 0]), (129, .agg #[.int .i64 XY.k, .int .i64 XY.n, .string XY.nm, .slice s.1 XY.ar.length s.2.1]), (130, .int .i64 0)]) (fun s W => Below WZ.heap.size WZ W ∧ (TmR s.2.2.1 XY [.int .i64 XY.k, .int .i64 XY.n, .string XY.nm, .slice s.1 XY.ar.length s.2.1] ∧ Mk w hz W s.2.2.1) ∧ True) ?_ (fun stc_11 => ?_)
          · rintro ⟨AXY, cXY, hXY, ⟨⟩⟩ W ⟨hS, f11, -⟩
            dsimp only [putAll]
            refine rg1 15 rfl (by kernel_rfl) (by decide) (by kernel_rfl) (fun K hK => ?_)
            have hS0 := hS
            go_simp
            have kx := (alloc1 W (.cells #[.int .i64 0, .int .i64 0, .string ⟨#[]⟩, .slice none 0 0] 34)).2
            have kn := blk_new W (.cells #[.int .i64 0, .int .i64 0, .string ⟨#[]⟩, .slice none 0 0] 34)
            have kz : WZ.heap.size ≤ W.heap.size := hS.size
            refine hK.out _ _ (below_then hS kx hS.size) (fun hS => ?_)
            exact norm_ (by kernel_rfl) (stc_11_15 (AXY, cXY, hXY, W.heap.size, ()) _ ⟨hS, ⟨f11.1, f11.2.world (f11.2.has.below kx)⟩, ⟨kn, kz⟩, f11.2.has.off_new (fun k e => by rw [e]; exact Nat.le_refl _), trivial⟩)
          refine join_ (σ := Nat × Unit) 6 #[true, true, true, true, true, true, true, true, true, true, true, false, false, false, false, true, false, false] (fun s => [(16, .pointer (some ⟨s.1, 0, none⟩))]) (fun s W => Below WZ.heap.size WZ W ∧ (W.heap[s.1]? = some (.cells #[.int .i64 0, .int .i64 0, .string ⟨#[]⟩, .slice none 0 0] 34) ∧ WZ.heap.size ≤ s.1) ∧ True) ?_ (fun stc_15 => ?_)
          · rintro ⟨g13, ⟨⟩⟩ W ⟨hS, f15, -⟩
            dsimp only [putAll]
            refine rg1 11 rfl (by kernel_rfl) (by decide) (by kernel_rfl) (fun K hK => ?_)
            have hS0 := hS
            go_simp
            have hS_size := hS.size
            refine (Shift_calls t (i0 + i1) i2 _ W _ (mb.has.below hS) rt raw_sz).mono ?_
            rintro e W7 ⟨k7, cs7, hXY, rfl, r7, m7⟩
            rw [dXY'.out] at r7
            obtain ⟨AXY, cXY, rfl, _⟩ := r7.open_
            rw [deY'.out]
            simp only []
            have kx := k7
            refine hK.out _ _ (below_then hS kx hS.size) (fun hS => ?_)
            refine rgt 12 (.tuple #[.agg #[.int .i64 XY.k, .int .i64 XY.n, .string XY.nm, .slice AXY XY.ar.length cXY], .int .i64 0]) rfl (by kernel_rfl) (fun _ _ _ h => h) (by kernel_rfl) hS (fun V hV => by go_simp) ?_
            refine rgt 13 (.agg #[.int .i64 XY.k, .int .i64 XY.n, .string XY.nm, .slice AXY XY.ar.length cXY]) rfl (by kernel_rfl) (fun _ _ _ h => h) (by kernel_rfl) hS (fun V hV => by go_simp) ?_
            refine rgp 14 (.int .i64 0) rfl (by kernel_rfl) (fun _ _ _ h => h) (by kernel_rfl) (fun V => by go_simp) ?_
            exact norm_ (by kernel_rfl) (stc_11_15 (AXY, cXY, hXY, g13, ()) _ ⟨hS, ⟨r7, m7.from_ (Nat.le_trans kb.size hS_size)⟩, ⟨box_below f15.1 kx, f15.2⟩, m7.off (mb.has.off_new (S := fun q => q = g13) (fun k e => by rw [e]; exact f15.2)) (fun k e => by rw [e]; exact blk_lt f15.1), trivial⟩)
          refine rg2 11 15 rfl rfl (by kernel_rfl) (by decide) (by decide) (by kernel_rfl) (by kernel_rfl) (fun K hK => ?_) (fun K hK => ?_)
          · have hS0 := hS
            go_simp
            have hS_size := hS.size
            refine (Shift_calls t (i0 + i1) i2 _ WZ.drew _ (mb.has.below hS) rt raw_sz).mono ?_
            rintro e W7 ⟨k7, cs7, hXY, rfl, r7, m7⟩
            rw [dXY'.out] at r7
            obtain ⟨AXY, cXY, rfl, _⟩ := r7.open_
            rw [deY'.out]
            simp only []
            have kx := k7
            refine hK.out _ _ (below_then hS kx hS.size) (fun hS => ?_)
            refine rgt 12 (.tuple #[.agg #[.int .i64 XY.k, .int .i64 XY.n, .string XY.nm, .slice AXY XY.ar.length cXY], .int .i64 0]) rfl (by kernel_rfl) (fun _ _ _ h => h) (by kernel_rfl) hS (fun V hV => by go_simp) ?_
            refine rgt 13 (.agg #[.int .i64 XY.k, .int .i64 XY.n, .string XY.nm, .slice AXY XY.ar.length cXY]) rfl (by kernel_rfl) (fun _ _ _ h => h) (by kernel_rfl) hS (fun V hV => by go_simp) ?_
            refine rgp 14 (.int .i64 0) rfl (by kernel_rfl) (fun _ _ _ h => h) (by kernel_rfl) (fun V => by go_simp) ?_
            exact norm_ (by kernel_rfl) (stc_11 (AXY, cXY, hXY, ()) _ ⟨hS, ⟨r7, m7.from_ (Nat.le_trans kb.size hS_size)⟩, trivial⟩)
          · have hS0 := hS
            go_simp
            have kx := (alloc1 WZ.drew (.cells #[.int .i64 0, .int .i64 0, .string ⟨#[]⟩, .slice none 0 0] 34)).2
            have kn := blk_new WZ.drew (.cells #[.int .i64 0, .int .i64 0, .string ⟨#[]⟩, .slice none 0 0] 34)
            have kz : WZ.heap.size ≤ WZ.drew.heap.size := hS.size
            refine hK.out _ _ (below_then hS kx hS.size) (fun hS => ?_)
            exact norm_ (by kernel_rfl) (stc_15 (WZ.drew.heap.size, ()) _ ⟨hS, ⟨kn, kz⟩, trivial⟩)
        rintro ⟨AXY, cXY, hXY, g13, ⟨⟩⟩ WE3 ⟨hS, f11, f15, p11_15, -⟩
        dsimp only [putAll]
        try dsimp only at f11
        try dsimp only at f15
        try dsimp only at p11_15
        have xg := box4 f15.1
        have zg := blk_frozen f15.1
        have lg := blk_lt f15.1
        refine rgl 16 rfl (by kernel_rfl) (by decide) (by kernel_rfl) (fun K hK => ?_)
        go_simp
        refine hK.out _ _ ?_
        refine rgp 17 (.int .i64 0) rfl (by kernel_rfl) (fun _ _ _ h => h) (by kernel_rfl) (fun V => by go_simp) ?_
        refine rgd (by kernel_rfl) ?_
        obtain ⟨WY, hWF, bF, kpF⟩ : ∃ WF, ((((WE3.setCell ⟨g13, 0, none⟩ (.int .i64 XY.k)).setCell ⟨g13, 1, none⟩ (.int .i64 XY.n)).setCell ⟨g13, 2, none⟩ (.string XY.nm)).setCell ⟨g13, 3, none⟩ (.slice AXY XY.ar.length cXY)) = WF ∧
            WF.heap[g13]? = some (.cells #[.int .i64 XY.k, .int .i64 XY.n, .string XY.nm, .slice AXY XY.ar.length cXY] 34) ∧ Kp (fun q => q = g13) WE3 WF := ⟨_, rfl, (set4 f15.1 _ _ _ _).1, (set4 f15.1 _ _ _ _).2⟩
        rw [hWF]
        have HF := f11.2.has.kp kpF p11_15
        have kE := below_then kb hS kb.size
        have kF : Below w.heap.size w WY := ((Kp.of_below (fun q => q = g13) kE).trans kpF (fun i hi e => e)).below (fun i hi (e : i = g13) => by have h1 := f15.2; have h2 := kb.size; omega)
        obtain ⟨hy, BY, mc⟩ := BoxM.mk_ (w0 := w) HF bF f11.1 (Nat.le_trans kb.size f15.2)
        have ss := f11.2.sub.trans mc.sub
        replace mc := (mb.then_ (f11.2.world HF)).then_ mc
        replace BD := BD.sub ss
        clear hWF xg zg lg HF kE kpF bF ss hS kb mb f11 f15 p11_15
        have kb := kF
        have mb := mc
        clear kF mc
        clear tx0 tx1 tx2 tx3  tl rt
        clear y0 y1 y2 yl Bt
        obtain ⟨Ap, cp, pe0, pe1, pe2, pe3, rp⟩ := BD.at_
        have px0 := mb.has.cell _ _ pe0
        have px1 := mb.has.cell _ _ pe1
        have px2 := mb.has.cell _ _ pe2
        have px3 := mb.has.cell _ _ pe3
        have pl := mb.has.lt pe0
        clear pe0 pe1 pe2 pe3
        obtain ⟨Aq, cq, qe0, qe1, qe2, qe3, rq⟩ := BY.at_
        have qx0 := mb.has.cell _ _ qe0
        have qx1 := mb.has.cell _ _ qe1
        have qx2 := mb.has.cell _ _ qe2
        have qx3 := mb.has.cell _ _ qe3
        have ql := mb.has.lt qe0
        clear qe0 qe1 qe2 qe3
        go_wp2_with fail
        refine (Same_calls XD XY _ _ _ _ mb.has rp rq).mono ?_
        rintro e wF ⟨rfl, kF⟩
        rw [z2'.out]
        replace kb := below_then kb kF kb.size
        go_wp2_with fail
        go_ret
        exact ⟨rfl, kb⟩
    · obtain ⟨z1, z2⟩ := hL2.out (by simpa using qs)
      have z2' := Lib.hid z2
      subst z1
      clear z2 hL2
      obtain ⟨Ax, cx, xe0, xe1, xe2, xe3, rx⟩ := BB.at_
      have xx0 := mb.has.cell _ _ xe0
      have xx1 := mb.has.cell _ _ xe1
      have xx2 := mb.has.cell _ _ xe2
      have xx3 := mb.has.cell _ _ xe3
      have xl := mb.has.lt xe0
      clear xe0 xe1 xe2 xe3
      obtain ⟨At, ct, te0, te1, te2, te3, rt⟩ := Bt.at_
      have tx0 := mb.has.cell _ _ te0
      have tx1 := mb.has.cell _ _ te1
      have tx2 := mb.has.cell _ _ te2
      have tx3 := mb.has.cell _ _ te3
      have tl := mb.has.lt te0
      clear te0 te1 te2 te3
      go_wp2_with fail
      refine (Same_calls XB t _ _ _ _ mb.has rx rt).mono ?_
      rintro e WQ ⟨rfl, k4⟩
      rw [z2'.out]
      replace kb := below_then kb k4 kb.size
      replace mb := mb.world (mb.has.below k4)
      clear xx0 xx1 xx2 xx3  xl rx
      clear tx0 tx1 tx2 tx3  tl rt
      clear BB Bs k4 z2'
      by_cases hlen : l.length < 3
      · have hlen' : (l.length : Int) < 3 := by omega
        clear hlen
        go_wp2_with fail
        go_ret
        first | exact ⟨rfl, kb⟩ | exact ⟨rfl, kb.alloc kb.size _⟩
      · have hlen' : ¬ (l.length : Int) < 3 := by omega
        obtain ⟨⟨g0, g0'⟩, b, o, rfl, f0⟩ := hli 0 (by omega)
        obtain ⟨⟨g1, g1'⟩, b1, o1, q1, f1⟩ := hli 1 (by omega)
        obtain ⟨⟨g2, g2'⟩, b2, o2, q2, f2⟩ := hli 2 (by omega)
        cases q1
        cases q2
        obtain ⟨i0, hi0⟩ : ∃ i, l[0] = i := ⟨_, rfl⟩
        obtain ⟨i1, hi1⟩ : ∃ i, l[1] = i := ⟨_, rfl⟩
        obtain ⟨i2, hi2⟩ : ∃ i, l[2] = i := ⟨_, rfl⟩
        rw [hi0] at f0 g0 g0'
        rw [Nat.add_zero] at f0
        rw [hi1] at f1 g1 g1'
        rw [hi2] at f2 g2 g2'
        clear hi0 hi1 hi2 hli hlen
        have y0 := mb.has.cell _ _ (mb.sub.at_ _ _ f0)
        have y1 := mb.has.cell _ _ (mb.sub.at_ _ _ f1)
        have y2 := mb.has.cell _ _ (mb.sub.at_ _ _ f2)
        have yl := mb.has.lt (mb.sub.at_ _ _ f0)
        by_cases c0 : i0 < 0
        · go_wp2_with fail
          go_ret
          first | exact ⟨rfl, kb⟩ | exact ⟨rfl, kb.alloc kb.size _⟩
        by_cases c1 : i1 < 0
        · go_wp2_with fail
          go_ret
          first | exact ⟨rfl, kb⟩ | exact ⟨rfl, kb.alloc kb.size _⟩
        by_cases c2 : 100000 < i0
        · go_wp2_with fail
          go_ret
          first | exact ⟨rfl, kb⟩ | exact ⟨rfl, kb.alloc kb.size _⟩
        by_cases c3 : 100000 < i1
        · go_wp2_with fail
          go_ret
          first | exact ⟨rfl, kb⟩ | exact ⟨rfl, kb.alloc kb.size _⟩
        go_wp2_with fail
        clear y0 y1 y2 yl
        obtain ⟨XC, dXC⟩ : ∃ X, tmS (shiftS t i0 i2) = X := ⟨_, rfl⟩
        obtain ⟨eC, deC⟩ : ∃ X, codeS (shiftS t i0 i2) = X := ⟨_, rfl⟩
        obtain ⟨XD, dXD⟩ : ∃ X, tmS (shiftS XC i1 i2) = X := ⟨_, rfl⟩
        obtain ⟨eD, deD⟩ : ∃ X, codeS (shiftS XC i1 i2) = X := ⟨_, rfl⟩
        have hL3 : Hid (eC = 0 → eD = 0 → i0 + i1 ≤ 100000 → codeS (shiftS t (i0 + i1) i2) = 0 ∧ sameV XD (tmS (shiftS t (i0 + i1) i2)) = true) := Lib.hid (by
          rw [← dXD, ← dXC, ← deC, ← deD, ← dXC]
          exact twice_law)
        have dXC' := Lib.hid dXC
        have deC' := Lib.hid deC
        have dXD' := Lib.hid dXD
        have deD' := Lib.hid deD
        clear dXC deC dXD deD
        have hl0 : (0 : Int) < (l.length : Int) := by omega
        have hl1 : (1 : Int) < (l.length : Int) := by omega
        have hl2 : (2 : Int) < (l.length : Int) := by omega
        obtain ⟨At, ct, te0, te1, te2, te3, rt⟩ := Bt.at_
        have tx0 := mb.has.cell _ _ te0
        have tx1 := mb.has.cell _ _ te1
        have tx2 := mb.has.cell _ _ te2
        have tx3 := mb.has.cell _ _ te3
        have tl := mb.has.lt te0
        clear te0 te1 te2 te3
        have y0 := mb.has.cell _ _ (mb.sub.at_ _ _ f0)
        have y2 := mb.has.cell _ _ (mb.sub.at_ _ _ f2)
        have yl := mb.has.lt (mb.sub.at_ _ _ f0)
        refine rgs 14 (fun V => Below WQ.heap.size WQ V) [12] rfl ((Below.refl _ _).drew) (fun hS => ?_)
        refine rgt 0 (.agg #[.int .i64 t.k, .int .i64 t.n, .string t.nm, .slice At t.ar.length ct]) rfl (by kernel_rfl) (fun _ _ _ h => h) (by kernel_rfl) hS (fun V hV => by have q0 := cell_below tx0 hV; have q1 := cell_below tx1 hV; have q2 := cell_below tx2 hV; have q3 := cell_below tx3 hV; go_simp) ?_
        refine rgt 1 (.slice (some ⟨b, o, none⟩) l.length cl) rfl (by kernel_rfl) (fun _ _ _ h => h) (by kernel_rfl) hS (fun V hV => by go_simp) ?_
        refine rgt 2 (.pointer (some ⟨b, o, none⟩)) rfl (by kernel_rfl) (fun _ _ _ h => h) (by kernel_rfl) hS (fun V hV => by go_simp) ?_
        refine rgt 3 (.int .i64 i0) rfl (by kernel_rfl) (fun _ _ _ h => h) (by kernel_rfl) hS (fun V hV => by have q0 := cell_below y0 hV; go_simp) ?_
        refine rgt 4 (.slice (some ⟨b, o, none⟩) l.length cl) rfl (by kernel_rfl) (fun _ _ _ h => h) (by kernel_rfl) hS (fun V hV => by go_simp) ?_
        refine rgt 5 (.pointer (some ⟨b, o + 2, none⟩)) rfl (by kernel_rfl) (fun _ _ _ h => h) (by kernel_rfl) hS (fun V hV => by go_simp) ?_
        refine rgt 6 (.int .i64 i2) rfl (by kernel_rfl) (fun _ _ _ h => h) (by kernel_rfl) hS (fun V hV => by have q0 := cell_below y2 hV; go_simp) ?_
        refine join_ (σ := Option Addr × Nat × Snap × Nat × Unit) 2 #[true, true, true, true, true, true, true, true, true, true, true, true, false, false] (fun s => [(86, .tuple #[.agg #[.int .i64 XC.k, .int .i64 XC.n, .string XC.nm, .slice s.1 XC.ar.length s.2.1], .int .i64 eC]), (78, .tuple #[.agg #[.int .i64 XC.k, .int .i64 XC.n, .string XC.nm, .slice s.1 XC.ar.length s.2.1], .int .i64 eC]), (87, .agg #[.int .i64 XC.k, .int .i64 XC.n, .string XC.nm, .slice s.1 XC.ar.length s.2.1]), (88, .int .i64 eC), (12, .pointer (some ⟨s.2.2.2.1, 0, none⟩))]) (fun s W => Below WQ.heap.size WQ W ∧ (TmR s.2.2.1 XC [.int .i64 XC.k, .int .i64 XC.n, .string XC.nm, .slice s.1 XC.ar.length s.2.1] ∧ Mk w hn W s.2.2.1) ∧ (W.heap[s.2.2.2.1]? = some (.cells #[.int .i64 0, .int .i64 0, .string ⟨#[]⟩, .slice none 0 0] 34) ∧ WQ.heap.size ≤ s.2.2.2.1) ∧ (Off s.2.2.1 (fun q => q = s.2.2.2.1)) ∧ True) ?_ (fun sta_7_11 => ?_)
        rotate_left
        · refine join_ (σ := Option Addr × Nat × Snap × Unit) 3 #[true, true, true, true, true, true, true, true, true, true, true, false, false, false] (fun s => [(86, .tuple #[.agg #[.int .i64 XC.k, .int .i64 XC.n, .string XC.nm, .slice s.1 XC.ar.length s.2.1], .int .i64 eC]), (78, .tuple #[.agg #[.int .i64 XC.k, .int .i64 XC.n, .string XC.nm, .slice s.1 XC.ar.length s.2.1], .int .i64 eC]), (87, .agg #[.int .i64 XC.k, .int .i64 XC.n, .string XC.nm, .slice s.1 XC.ar.length s.2.1]), (88, .int .i64 eC)]) (fun s W => Below WQ.heap.size WQ W ∧ (TmR s.2.2.1 XC [.int .i64 XC.k, .int .i64 XC.n, .string XC.nm, .slice s.1 XC.ar.length s.2.1] ∧ Mk w hn W s.2.2.1) ∧ True) ?_ (fun sta_7 => ?_)
          · rintro ⟨AXC, cXC, hXC, ⟨⟩⟩ W ⟨hS, f7, -⟩
            dsimp only [putAll]
            refine rg1 11 rfl (by kernel_rfl) (by decide) (by kernel_rfl) (fun K hK => ?_)
            have hS0 := hS
            go_simp
            have kx := (alloc1 W (.cells #[.int .i64 0, .int .i64 0, .string ⟨#[]⟩, .slice none 0 0] 34)).2
            have kn := blk_new W (.cells #[.int .i64 0, .int .i64 0, .string ⟨#[]⟩, .slice none 0 0] 34)
            have kz : WQ.heap.size ≤ W.heap.size := hS.size
            refine hK.out _ _ (below_then hS kx hS.size) (fun hS => ?_)
            exact norm_ (by kernel_rfl) (sta_7_11 (AXC, cXC, hXC, W.heap.size, ()) _ ⟨hS, ⟨f7.1, f7.2.world (f7.2.has.below kx)⟩, ⟨kn, kz⟩, f7.2.has.off_new (fun k e => by rw [e]; exact Nat.le_refl _), trivial⟩)
          refine join_ (σ := Nat × Unit) 6 #[true, true, true, true, true, true, true, false, false, false, false, true, false, false] (fun s => [(12, .pointer (some ⟨s.1, 0, none⟩))]) (fun s W => Below WQ.heap.size WQ W ∧ (W.heap[s.1]? = some (.cells #[.int .i64 0, .int .i64 0, .string ⟨#[]⟩, .slice none 0 0] 34) ∧ WQ.heap.size ≤ s.1) ∧ True) ?_ (fun sta_11 => ?_)
          · rintro ⟨g11, ⟨⟩⟩ W ⟨hS, f11, -⟩
            dsimp only [putAll]
            refine rg1 7 rfl (by kernel_rfl) (by decide) (by kernel_rfl) (fun K hK => ?_)
            have hS0 := hS
            go_simp
            have hS_size := hS.size
            refine (Shift_calls t i0 i2 _ W _ (mb.has.below hS) rt raw_sz).mono ?_
            rintro e W7 ⟨k7, cs7, hXC, rfl, r7, m7⟩
            rw [dXC'.out] at r7
            obtain ⟨AXC, cXC, rfl, _⟩ := r7.open_
            rw [deC'.out]
            simp only []
            have kx := k7
            refine hK.out _ _ (below_then hS kx hS.size) (fun hS => ?_)
            refine rgt 8 (.tuple #[.agg #[.int .i64 XC.k, .int .i64 XC.n, .string XC.nm, .slice AXC XC.ar.length cXC], .int .i64 eC]) rfl (by kernel_rfl) (fun _ _ _ h => h) (by kernel_rfl) hS (fun V hV => by go_simp) ?_
            refine rgt 9 (.agg #[.int .i64 XC.k, .int .i64 XC.n, .string XC.nm, .slice AXC XC.ar.length cXC]) rfl (by kernel_rfl) (fun _ _ _ h => h) (by kernel_rfl) hS (fun V hV => by go_simp) ?_
            refine rgp 10 (.int .i64 eC) rfl (by kernel_rfl) (fun _ _ _ h => h) (by kernel_rfl) (fun V => by go_simp) ?_
            exact norm_ (by kernel_rfl) (sta_7_11 (AXC, cXC, hXC, g11, ()) _ ⟨hS, ⟨r7, m7.from_ (Nat.le_trans kb.size hS_size)⟩, ⟨box_below f11.1 kx, f11.2⟩, m7.off (mb.has.off_new (S := fun q => q = g11) (fun k e => by rw [e]; exact f11.2)) (fun k e => by rw [e]; exact blk_lt f11.1), trivial⟩)
          refine rg2 7 11 rfl rfl (by kernel_rfl) (by decide) (by decide) (by kernel_rfl) (by kernel_rfl) (fun K hK => ?_) (fun K hK => ?_)
          · have hS0 := hS
            go_simp
            have hS_size := hS.size
            refine (Shift_calls t i0 i2 _ WQ.drew _ (mb.has.below hS) rt raw_sz).mono ?_
            rintro e W7 ⟨k7, cs7, hXC, rfl, r7, m7⟩
            rw [dXC'.out] at r7
            obtain ⟨AXC, cXC, rfl, _⟩ := r7.open_
            rw [deC'.out]
            simp only []
            have kx := k7
            refine hK.out _ _ (below_then hS kx hS.size) (fun hS => ?_)
            refine rgt 8 (.tuple #[.agg #[.int .i64 XC.k, .int .i64 XC.n, .string XC.nm, .slice AXC XC.ar.length cXC], .int .i64 eC]) rfl (by kernel_rfl) (fun _ _ _ h => h) (by kernel_rfl) hS (fun V hV => by go_simp) ?_
            refine rgt 9 (.agg #[.int .i64 XC.k, .int .i64 XC.n, .string XC.nm, .slice AXC XC.ar.length cXC]) rfl (by kernel_rfl) (fun _ _ _ h => h) (by kernel_rfl) hS (fun V hV => by go_simp) ?_
            refine rgp 10 (.int .i64 eC) rfl (by kernel_rfl) (fun _ _ _ h => h) (by kernel_rfl) (fun V => by go_simp) ?_
            exact norm_ (by kernel_rfl) (sta_7 (AXC, cXC, hXC, ()) _ ⟨hS, ⟨r7, m7.from_ (Nat.le_trans kb.size hS_size)⟩, trivial⟩)
          · have hS0 := hS
            go_simp
            have kx := (alloc1 WQ.drew (.cells #[.int .i64 0, .int .i64 0, .string ⟨#[]⟩, .slice none 0 0] 34)).2
            have kn := blk_new WQ.drew (.cells #[.int .i64 0, .int .i64 0, .string ⟨#[]⟩, .slice none 0 0] 34)
            have kz : WQ.heap.size ≤ WQ.drew.heap.size := hS.size
            refine hK.out _ _ (below_then hS kx hS.size) (fun hS => ?_)
            exact norm_ (by kernel_rfl) (sta_11 (WQ.drew.heap.size, ()) _ ⟨hS, ⟨kn, kz⟩, trivial⟩)
        rintro ⟨AXC, cXC, hXC, g11, ⟨⟩⟩ WE ⟨hS, f7, f11, p7_11, -⟩
        dsimp only [putAll]
        try dsimp only at f7
        try dsimp only at f11
        try dsimp only at p7_11
        have xg := box4 f11.1
        have zg := blk_frozen f11.1
        have lg := blk_lt f11.1
        refine rgl 12 rfl (by kernel_rfl) (by decide) (by kernel_rfl) (fun K hK => ?_)
        go_simp
        refine hK.out _ _ ?_
        refine rgp 13 (.int .i64 eC) rfl (by kernel_rfl) (fun _ _ _ h => h) (by kernel_rfl) (fun V => by go_simp) ?_
        refine rgd (by kernel_rfl) ?_
        obtain ⟨WR, hWF, bF, kpF⟩ : ∃ WF, ((((WE.setCell ⟨g11, 0, none⟩ (.int .i64 XC.k)).setCell ⟨g11, 1, none⟩ (.int .i64 XC.n)).setCell ⟨g11, 2, none⟩ (.string XC.nm)).setCell ⟨g11, 3, none⟩ (.slice AXC XC.ar.length cXC)) = WF ∧
            WF.heap[g11]? = some (.cells #[.int .i64 XC.k, .int .i64 XC.n, .string XC.nm, .slice AXC XC.ar.length cXC] 34) ∧ Kp (fun q => q = g11) WE WF := ⟨_, rfl, (set4 f11.1 _ _ _ _).1, (set4 f11.1 _ _ _ _).2⟩
        rw [hWF]
        have HF := f7.2.has.kp kpF p7_11
        have kE := below_then kb hS kb.size
        have kF : Below w.heap.size w WR := ((Kp.of_below (fun q => q = g11) kE).trans kpF (fun i hi e => e)).below (fun i hi (e : i = g11) => by have h1 := f11.2; have h2 := kb.size; omega)
        obtain ⟨hr, BC, mc⟩ := BoxM.mk_ (w0 := w) HF bF f7.1 (Nat.le_trans kb.size f11.2)
        have ss := f7.2.sub.trans mc.sub
        replace mc := (mb.then_ (f7.2.world HF)).then_ mc
        replace Bt := Bt.sub ss
        clear hWF xg zg lg HF kE kpF bF ss hS kb mb f7 f11 p7_11
        have kb := kF
        have mb := mc
        clear kF mc
        clear tx0 tx1 tx2 tx3  tl rt
        clear y0 y2 yl
        obtain ⟨Ax, cx, xe0, xe1, xe2, xe3, rx⟩ := BC.at_
        have xx0 := mb.has.cell _ _ xe0
        have xx1 := mb.has.cell _ _ xe1
        have xx2 := mb.has.cell _ _ xe2
        have xx3 := mb.has.cell _ _ xe3
        have xl := mb.has.lt xe0
        clear xe0 xe1 xe2 xe3
        have y1 := mb.has.cell _ _ (mb.sub.at_ _ _ f1)
        have y2 := mb.has.cell _ _ (mb.sub.at_ _ _ f2)
        have yl := mb.has.lt (mb.sub.at_ _ _ f0)
        go_wp2_with fail
        refine rgs 14 (fun V => Below WR.heap.size WR V) [12] rfl ((Below.refl _ _).drew) (fun hS => ?_)
        refine rgt 0 (.agg #[.int .i64 XC.k, .int .i64 XC.n, .string XC.nm, .slice Ax XC.ar.length cx]) rfl (by kernel_rfl) (fun _ _ _ h => h) (by kernel_rfl) hS (fun V hV => by have q0 := cell_below xx0 hV; have q1 := cell_below xx1 hV; have q2 := cell_below xx2 hV; have q3 := cell_below xx3 hV; go_simp) ?_
        refine rgt 1 (.slice (some ⟨b, o, none⟩) l.length cl) rfl (by kernel_rfl) (fun _ _ _ h => h) (by kernel_rfl) hS (fun V hV => by go_simp) ?_
        refine rgt 2 (.pointer (some ⟨b, o + 1, none⟩)) rfl (by kernel_rfl) (fun _ _ _ h => h) (by kernel_rfl) hS (fun V hV => by go_simp) ?_
        refine rgt 3 (.int .i64 i1) rfl (by kernel_rfl) (fun _ _ _ h => h) (by kernel_rfl) hS (fun V hV => by have q0 := cell_below y1 hV; go_simp) ?_
        refine rgt 4 (.slice (some ⟨b, o, none⟩) l.length cl) rfl (by kernel_rfl) (fun _ _ _ h => h) (by kernel_rfl) hS (fun V hV => by go_simp) ?_
        refine rgt 5 (.pointer (some ⟨b, o + 2, none⟩)) rfl (by kernel_rfl) (fun _ _ _ h => h) (by kernel_rfl) hS (fun V hV => by go_simp) ?_
        refine rgt 6 (.int .i64 i2) rfl (by kernel_rfl) (fun _ _ _ h => h) (by kernel_rfl) hS (fun V hV => by have q0 := cell_below y2 hV; go_simp) ?_
        refine join_ (σ := Option Addr × Nat × Snap × Nat × Unit) 2 #[true, true, true, true, true, true, true, true, true, true, true, true, false, false] (fun s => [(97, .tuple #[.agg #[.int .i64 XD.k, .int .i64 XD.n, .string XD.nm, .slice s.1 XD.ar.length s.2.1], .int .i64 eD]), (89, .tuple #[.agg #[.int .i64 XD.k, .int .i64 XD.n, .string XD.nm, .slice s.1 XD.ar.length s.2.1], .int .i64 eD]), (98, .agg #[.int .i64 XD.k, .int .i64 XD.n, .string XD.nm, .slice s.1 XD.ar.length s.2.1]), (99, .int .i64 eD), (14, .pointer (some ⟨s.2.2.2.1, 0, none⟩))]) (fun s W => Below WR.heap.size WR W ∧ (TmR s.2.2.1 XD [.int .i64 XD.k, .int .i64 XD.n, .string XD.nm, .slice s.1 XD.ar.length s.2.1] ∧ Mk w hr W s.2.2.1) ∧ (W.heap[s.2.2.2.1]? = some (.cells #[.int .i64 0, .int .i64 0, .string ⟨#[]⟩, .slice none 0 0] 34) ∧ WR.heap.size ≤ s.2.2.2.1) ∧ (Off s.2.2.1 (fun q => q = s.2.2.2.1)) ∧ True) ?_ (fun stb_7_11 => ?_)
        rotate_left
        · refine join_ (σ := Option Addr × Nat × Snap × Unit) 3 #[true, true, true, true, true, true, true, true, true, true, true, false, false, false] (fun s => [(97, .tuple #[.agg #[.int .i64 XD.k, .int .i64 XD.n, .string XD.nm, .slice s.1 XD.ar.length s.2.1], .int .i64 eD]), (89, .tuple #[.agg #[.int .i64 XD.k, .int .i64 XD.n, .string XD.nm, .slice s.1 XD.ar.length s.2.1], .int .i64 eD]), (98, .agg #[.int .i64 XD.k, .int .i64 XD.n, .string XD.nm, .slice s.1 XD.ar.length s.2.1]), (99, .int .i64 eD)]) (fun s W => Below WR.heap.size WR W ∧ (TmR s.2.2.1 XD [.int .i64 XD.k, .int .i64 XD.n, .string XD.nm, .slice s.1 XD.ar.length s.2.1] ∧ Mk w hr W s.2.2.1) ∧ True) ?_ (fun stb_7 => ?_)
          · rintro ⟨AXD, cXD, hXD, ⟨⟩⟩ W ⟨hS, f7, -⟩
            dsimp only [putAll]
            refine rg1 11 rfl (by kernel_rfl) (by decide) (by kernel_rfl) (fun K hK => ?_)
            have hS0 := hS
            go_simp
            have kx := (alloc1 W (.cells #[.int .i64 0, .int .i64 0, .string ⟨#[]⟩, .slice none 0 0] 34)).2
            have kn := blk_new W (.cells #[.int .i64 0, .int .i64 0, .string ⟨#[]⟩, .slice none 0 0] 34)
            have kz : WR.heap.size ≤ W.heap.size := hS.size
            refine hK.out _ _ (below_then hS kx hS.size) (fun hS => ?_)
            exact norm_ (by kernel_rfl) (stb_7_11 (AXD, cXD, hXD, W.heap.size, ()) _ ⟨hS, ⟨f7.1, f7.2.world (f7.2.has.below kx)⟩, ⟨kn, kz⟩, f7.2.has.off_new (fun k e => by rw [e]; exact Nat.le_refl _), trivial⟩)
          refine join_ (σ := Nat × Unit) 6 #[true, true, true, true, true, true, true, false, false, false, false, true, false, false] (fun s => [(14, .pointer (some ⟨s.1, 0, none⟩))]) (fun s W => Below WR.heap.size WR W ∧ (W.heap[s.1]? = some (.cells #[.int .i64 0, .int .i64 0, .string ⟨#[]⟩, .slice none 0 0] 34) ∧ WR.heap.size ≤ s.1) ∧ True) ?_ (fun stb_11 => ?_)
          · rintro ⟨g12, ⟨⟩⟩ W ⟨hS, f11, -⟩
            dsimp only [putAll]
            refine rg1 7 rfl (by kernel_rfl) (by decide) (by kernel_rfl) (fun K hK => ?_)
            have hS0 := hS
            go_simp
            have hS_size := hS.size
            refine (Shift_calls XC i1 i2 _ W _ (mb.has.below hS) rx raw_sz).mono ?_
            rintro e W7 ⟨k7, cs7, hXD, rfl, r7, m7⟩
            rw [dXD'.out] at r7
            obtain ⟨AXD, cXD, rfl, _⟩ := r7.open_
            rw [deD'.out]
            simp only []
            have kx := k7
            refine hK.out _ _ (below_then hS kx hS.size) (fun hS => ?_)
            refine rgt 8 (.tuple #[.agg #[.int .i64 XD.k, .int .i64 XD.n, .string XD.nm, .slice AXD XD.ar.length cXD], .int .i64 eD]) rfl (by kernel_rfl) (fun _ _ _ h => h) (by kernel_rfl) hS (fun V hV => by go_simp) ?_
            refine rgt 9 (.agg #[.int .i64 XD.k, .int .i64 XD.n, .string XD.nm, .slice AXD XD.ar.length cXD]) rfl (by kernel_rfl) (fun _ _ _ h => h) (by kernel_rfl) hS (fun V hV => by go_simp) ?_
            refine rgp 10 (.int .i64 eD) rfl (by kernel_rfl) (fun _ _ _ h => h) (by kernel_rfl) (fun V => by go_simp) ?_
            exact norm_ (by kernel_rfl) (stb_7_11 (AXD, cXD, hXD, g12, ()) _ ⟨hS, ⟨r7, m7.from_ (Nat.le_trans kb.size hS_size)⟩, ⟨box_below f11.1 kx, f11.2⟩, m7.off (mb.has.off_new (S := fun q => q = g12) (fun k e => by rw [e]; exact f11.2)) (fun k e => by rw [e]; exact blk_lt f11.1), trivial⟩)
          refine rg2 7 11 rfl rfl (by kernel_rfl) (by decide) (by decide) (by kernel_rfl) (by kernel_rfl) (fun K hK => ?_) (fun K hK => ?_)
          · have hS0 := hS
            go_simp
            have hS_size := hS.size
            refine (Shift_calls XC i1 i2 _ WR.drew _ (mb.has.below hS) rx raw_sz).mono ?_
            rintro e W7 ⟨k7, cs7, hXD, rfl, r7, m7⟩
            rw [dXD'.out] at r7
            obtain ⟨AXD, cXD, rfl, _⟩ := r7.open_
            rw [deD'.out]
            simp only []
            have kx := k7
            refine hK.out _ _ (below_then hS kx hS.size) (fun hS => ?_)
            refine rgt 8 (.tuple #[.agg #[.int .i64 XD.k, .int .i64 XD.n, .string XD.nm, .slice AXD XD.ar.length cXD], .int .i64 eD]) rfl (by kernel_rfl) (fun _ _ _ h => h) (by kernel_rfl) hS (fun V hV => by go_simp) ?_
            refine rgt 9 (.agg #[.int .i64 XD.k, .int .i64 XD.n, .string XD.nm, .slice AXD XD.ar.length cXD]) rfl (by kernel_rfl) (fun _ _ _ h => h) (by kernel_rfl) hS (fun V hV => by go_simp) ?_
            refine rgp 10 (.int .i64 eD) rfl (by kernel_rfl) (fun _ _ _ h => h) (by kernel_rfl) (fun V => by go_simp) ?_
            exact norm_ (by kernel_rfl) (stb_7 (AXD, cXD, hXD, ()) _ ⟨hS, ⟨r7, m7.from_ (Nat.le_trans kb.size hS_size)⟩, trivial⟩)
          · have hS0 := hS
            go_simp
            have kx := (alloc1 WR.drew (.cells #[.int .i64 0, .int .i64 0, .string ⟨#[]⟩, .slice none 0 0] 34)).2
            have kn := blk_new WR.drew (.cells #[.int .i64 0, .int .i64 0, .string ⟨#[]⟩, .slice none 0 0] 34)
            have kz : WR.heap.size ≤ WR.drew.heap.size := hS.size
            refine hK.out _ _ (below_then hS kx hS.size) (fun hS => ?_)
            exact norm_ (by kernel_rfl) (stb_11 (WR.drew.heap.size, ()) _ ⟨hS, ⟨kn, kz⟩, trivial⟩)
        rintro ⟨AXD, cXD, hXD, g12, ⟨⟩⟩ WE2 ⟨hS, f7, f11, p7_11, -⟩
        dsimp only [putAll]
        try dsimp only at f7
        try dsimp only at f11
        try dsimp only at p7_11
        have xg := box4 f11.1
        have zg := blk_frozen f11.1
        have lg := blk_lt f11.1
        refine rgl 12 rfl (by kernel_rfl) (by decide) (by kernel_rfl) (fun K hK => ?_)
        go_simp
        refine hK.out _ _ ?_
        refine rgp 13 (.int .i64 eD) rfl (by kernel_rfl) (fun _ _ _ h => h) (by kernel_rfl) (fun V => by go_simp) ?_
        refine rgd (by kernel_rfl) ?_
        obtain ⟨WS, hWF, bF, kpF⟩ : ∃ WF, ((((WE2.setCell ⟨g12, 0, none⟩ (.int .i64 XD.k)).setCell ⟨g12, 1, none⟩ (.int .i64 XD.n)).setCell ⟨g12, 2, none⟩ (.string XD.nm)).setCell ⟨g12, 3, none⟩ (.slice AXD XD.ar.length cXD)) = WF ∧
            WF.heap[g12]? = some (.cells #[.int .i64 XD.k, .int .i64 XD.n, .string XD.nm, .slice AXD XD.ar.length cXD] 34) ∧ Kp (fun q => q = g12) WE2 WF := ⟨_, rfl, (set4 f11.1 _ _ _ _).1, (set4 f11.1 _ _ _ _).2⟩
        rw [hWF]
        have HF := f7.2.has.kp kpF p7_11
        have kE := below_then kb hS kb.size
        have kF : Below w.heap.size w WS := ((Kp.of_below (fun q => q = g12) kE).trans kpF (fun i hi e => e)).below (fun i hi (e : i = g12) => by have h1 := f11.2; have h2 := kb.size; omega)
        obtain ⟨hz, BD, mc⟩ := BoxM.mk_ (w0 := w) HF bF f7.1 (Nat.le_trans kb.size f11.2)
        have ss := f7.2.sub.trans mc.sub
        replace mc := (mb.then_ (f7.2.world HF)).then_ mc
        replace Bt := Bt.sub ss
        clear hWF xg zg lg HF kE kpF bF ss hS kb mb f7 f11 p7_11
        have kb := kF
        have mb := mc
        clear kF mc
        clear xx0 xx1 xx2 xx3  xl rx
        clear y1 y2 yl BC
        have y0 := mb.has.cell _ _ (mb.sub.at_ _ _ f0)
        have y1 := mb.has.cell _ _ (mb.sub.at_ _ _ f1)
        have yl := mb.has.lt (mb.sub.at_ _ _ f0)
        cases qc : eC == 0
        · have qc' : (eC != 0) = true := by simp at qc ⊢; exact qc
          clear qc hL3
          go_wp2_with fail
          go_quiet (fail)
          all_goals go_wp2_with fail
          go_ret
          first | exact ⟨rfl, kb⟩ | exact ⟨rfl, below_drewN kb _⟩ | exact ⟨rfl, kb.drew⟩
        cases qd : eD == 0
        · have qc' : (eC != 0) = false := by simp at qc ⊢; exact qc
          have qd' : (eD != 0) = true := by simp at qd ⊢; exact qd
          clear qc qd hL3
          go_wp2_with fail
          go_quiet (fail)
          all_goals go_wp2_with fail
          go_ret
          first | exact ⟨rfl, kb⟩ | exact ⟨rfl, below_drewN kb _⟩ | exact ⟨rfl, kb.drew⟩
        have qc' : (eC != 0) = false := by simp at qc ⊢; exact qc
        have qd' : (eD != 0) = false := by simp at qd ⊢; exact qd
        by_cases c4 : 100000 < i0 + i1
        · clear qc qd hL3
          go_wp2_with fail
          go_quiet (fail)
          all_goals go_wp2_with fail
          go_ret
          first | exact ⟨rfl, kb⟩ | exact ⟨rfl, below_drewN kb _⟩ | exact ⟨rfl, kb.drew⟩
        obtain ⟨z1, z2⟩ := hL3.out (by simpa using qc) (by simpa using qd) (by omega)
        obtain ⟨XY, dXY⟩ : ∃ X, tmS (shiftS t (i0 + i1) i2) = X := ⟨_, rfl⟩
        obtain ⟨eY, deY⟩ : ∃ X, codeS (shiftS t (i0 + i1) i2) = X := ⟨_, rfl⟩
        rw [dXY] at z2
        rw [deY] at z1
        have z2' := Lib.hid z2
        have dXY' := Lib.hid dXY
        subst z1
        have deY' := Lib.hid deY
        clear qc qd hL3 z2 dXY deY
        go_wp2_with fail
        go_quiet (fail)
        all_goals go_wp2_with fail
        clear y0 y1 yl
        replace kb := below_drewN kb nq
        replace mb := mb.world (mb.has.drewN nq)
        obtain ⟨WZ, hWZ⟩ : ∃ WZ, WS.drewN nq = WZ := ⟨_, rfl⟩
        rw [hWZ] at kb mb ⊢
        clear hWZ
        obtain ⟨Av, cv, te0, te1, te2, te3, rt⟩ := Bt.at_
        have tx0 := mb.has.cell _ _ te0
        have tx1 := mb.has.cell _ _ te1
        have tx2 := mb.has.cell _ _ te2
        have tx3 := mb.has.cell _ _ te3
        have tl := mb.has.lt te0
        clear te0 te1 te2 te3
        have y0 := mb.has.cell _ _ (mb.sub.at_ _ _ f0)
        have y1 := mb.has.cell _ _ (mb.sub.at_ _ _ f1)
        have y2 := mb.has.cell _ _ (mb.sub.at_ _ _ f2)
        have yl := mb.has.lt (mb.sub.at_ _ _ f0)
        refine rgs 18 (fun V => Below WZ.heap.size WZ V) [16] rfl ((Below.refl _ _).drew) (fun hS => ?_)
        refine rgt 0 (.agg #[.int .i64 t.k, .int .i64 t.n, .string t.nm, .slice Av t.ar.length cv]) rfl (by kernel_rfl) (fun _ _ _ h => h) (by kernel_rfl) hS (fun V hV => by have q0 := cell_below tx0 hV; have q1 := cell_below tx1 hV; have q2 := cell_below tx2 hV; have q3 := cell_below tx3 hV; go_simp) ?_
        refine rgt 1 (.slice (some ⟨b, o, none⟩) l.length cl) rfl (by kernel_rfl) (fun _ _ _ h => h) (by kernel_rfl) hS (fun V hV => by go_simp) ?_
        refine rgt 2 (.pointer (some ⟨b, o, none⟩)) rfl (by kernel_rfl) (fun _ _ _ h => h) (by kernel_rfl) hS (fun V hV => by go_simp) ?_
        refine rgt 3 (.int .i64 i0) rfl (by kernel_rfl) (fun _ _ _ h => h) (by kernel_rfl) hS (fun V hV => by have q0 := cell_below y0 hV; go_simp) ?_
        refine rgt 4 (.slice (some ⟨b, o, none⟩) l.length cl) rfl (by kernel_rfl) (fun _ _ _ h => h) (by kernel_rfl) hS (fun V hV => by go_simp) ?_
        refine rgt 5 (.pointer (some ⟨b, o + 1, none⟩)) rfl (by kernel_rfl) (fun _ _ _ h => h) (by kernel_rfl) hS (fun V hV => by go_simp) ?_
        refine rgt 6 (.int .i64 i1) rfl (by kernel_rfl) (fun _ _ _ h => h) (by kernel_rfl) hS (fun V hV => by have q0 := cell_below y1 hV; go_simp) ?_
        refine rgt 7 (.int .i64 (i0 + i1)) rfl (by kernel_rfl) (fun _ _ _ h => h) (by kernel_rfl) hS (fun V hV => by go_simp; exact Go.IntWalk.i64_in _ ⟨by omega, by omega⟩) ?_
        refine rgt 8 (.slice (some ⟨b, o, none⟩) l.length cl) rfl (by kernel_rfl) (fun _ _ _ h => h) (by kernel_rfl) hS (fun V hV => by go_simp) ?_
        refine rgt 9 (.pointer (some ⟨b, o + 2, none⟩)) rfl (by kernel_rfl) (fun _ _ _ h => h) (by kernel_rfl) hS (fun V hV => by go_simp) ?_
        refine rgt 10 (.int .i64 i2) rfl (by kernel_rfl) (fun _ _ _ h => h) (by kernel_rfl) hS (fun V hV => by have q0 := cell_below y2 hV; go_simp) ?_
        refine join_ (σ := Option Addr × Nat × Snap × Nat × Unit) 2 #[true, true, true, true, true, true, true, true, true, true, true, true, true, true, true, true, false, false] (fun s => [(128, .tuple #[.agg #[.int .i64 XY.k, .int .i64 XY.n, .string XY.nm, .slice s.1 XY.ar.length s.2.1], .int .i64 0]), (116, .tuple #[.agg #[.int .i64 XY.k, .int .i64 XY.n, .string XY.nm, .slice s.1 XY.ar.length s.2.1], .int .i64 0]), (129, .agg #[.int .i64 XY.k, .int .i64 XY.n, .string XY.nm, .slice s.1 XY.ar.length s.2.1]), (130, .int .i64 0), (16, .pointer (some ⟨s.2.2.2.1, 0, none⟩))]) (fun s W => Below WZ.heap.size WZ W ∧ (TmR s.2.2.1 XY [.int .i64 XY.k, .int .i64 XY.n, .string XY.nm, .slice s.1 XY.ar.length s.2.1] ∧ Mk w hz W s.2.2.1) ∧ (W.heap[s.2.2.2.1]? = some (.cells #[.int .i64 0, .int .i64 0, .string ⟨#[]⟩, .slice none 0 0] 34) ∧ WZ.heap.size ≤ s.2.2.2.1) ∧ (Off s.2.2.1 (fun q => q = s.2.2.2.1)) ∧ True) ?_ (fun stc_11_15 => ?_)
        rotate_left
        · refine join_ (σ := Option Addr × Nat × Snap × Unit) 3 #[true, true, true, true, true, true, true, true, true, true, true, true, true, true, true, false, false, false] (fun s => [(128, .tuple #[.agg #[.int .i64 XY.k, .int .i64 XY.n, .string XY.nm, .slice s.1 XY.ar.length s.2.1], .int .i64 0]), (116, .tuple #[.agg #[.int .i64 XY.k, .int .i64 XY.n, .string XY.nm, .slice s.1 XY.ar.length s.2.1], .int .i64 0]), (129, .agg #[.int .i64 XY.k, .int .i64 XY.n, .string XY.nm, .slice s.1 XY.ar.length s.2.1]), (130, .int .i64 0)]) (fun s W => Below WZ.heap.size WZ W ∧ (TmR s.2.2.1 XY [.int .i64 XY.k, .int .i64 XY.n, .string XY.nm, .slice s.1 XY.ar.length s.2.1] ∧ Mk w hz W s.2.2.1) ∧ True) ?_ (fun stc_11 => ?_)
          · rintro ⟨AXY, cXY, hXY, ⟨⟩⟩ W ⟨hS, f11, -⟩
            dsimp only [putAll]
            refine rg1 15 rfl (by kernel_rfl) (by decide) (by kernel_rfl) (fun K hK => ?_)
            have hS0 := hS
            go_simp
            have kx := (alloc1 W (.cells #[.int .i64 0, .int .i64 0, .string ⟨#[]⟩, .slice none 0 0] 34)).2
            have kn := blk_new W (.cells #[.int .i64 0, .int .i64 0, .string ⟨#[]⟩, .slice none 0 0] 34)
            have kz : WZ.heap.size ≤ W.heap.size := hS.size
            refine hK.out _ _ (below_then hS kx hS.size) (fun hS => ?_)
            exact norm_ (by kernel_rfl) (stc_11_15 (AXY, cXY, hXY, W.heap.size, ()) _ ⟨hS, ⟨f11.1, f11.2.world (f11.2.has.below kx)⟩, ⟨kn, kz⟩, f11.2.has.off_new (fun k e => by rw [e]; exact Nat.le_refl _), trivial⟩)
          refine join_ (σ := Nat × Unit) 6 #[true, true, true, true, true, true, true, true, true, true, true, false, false, false, false, true, false, false] (fun s => [(16, .pointer (some ⟨s.1, 0, none⟩))]) (fun s W => Below WZ.heap.size WZ W ∧ (W.heap[s.1]? = some (.cells #[.int .i64 0, .int .i64 0, .string ⟨#[]⟩, .slice none 0 0] 34) ∧ WZ.heap.size ≤ s.1) ∧ True) ?_ (fun stc_15 => ?_)
          · rintro ⟨g13, ⟨⟩⟩ W ⟨hS, f15, -⟩
            dsimp only [putAll]
            refine rg1 11 rfl (by kernel_rfl) (by decide) (by kernel_rfl) (fun K hK => ?_)
            have hS0 := hS
            go_simp
            have hS_size := hS.size
            refine (Shift_calls t (i0 + i1) i2 _ W _ (mb.has.below hS) rt raw_sz).mono ?_
            rintro e W7 ⟨k7, cs7, hXY, rfl, r7, m7⟩
            rw [dXY'.out] at r7
            obtain ⟨AXY, cXY, rfl, _⟩ := r7.open_
            rw [deY'.out]
            simp only []
            have kx := k7
            refine hK.out _ _ (below_then hS kx hS.size) (fun hS => ?_)
            refine rgt 12 (.tuple #[.agg #[.int .i64 XY.k, .int .i64 XY.n, .string XY.nm, .slice AXY XY.ar.length cXY], .int .i64 0]) rfl (by kernel_rfl) (fun _ _ _ h => h) (by kernel_rfl) hS (fun V hV => by go_simp) ?_
            refine rgt 13 (.agg #[.int .i64 XY.k, .int .i64 XY.n, .string XY.nm, .slice AXY XY.ar.length cXY]) rfl (by kernel_rfl) (fun _ _ _ h => h) (by kernel_rfl) hS (fun V hV => by go_simp) ?_
            refine rgp 14 (.int .i64 0) rfl (by kernel_rfl) (fun _ _ _ h => h) (by kernel_rfl) (fun V => by go_simp) ?_
            exact norm_ (by kernel_rfl) (stc_11_15 (AXY, cXY, hXY, g13, ()) _ ⟨hS, ⟨r7, m7.from_ (Nat.le_trans kb.size hS_size)⟩, ⟨box_below f15.1 kx, f15.2⟩, m7.off (mb.has.off_new (S := fun q => q = g13) (fun k e => by rw [e]; exact f15.2)) (fun k e => by rw [e]; exact blk_lt f15.1), trivial⟩)
          refine rg2 11 15 rfl rfl (by kernel_rfl) (by decide) (by decide) (by kernel_rfl) (by kernel_rfl) (fun K hK => ?_) (fun K hK => ?_)
          · have hS0 := hS
            go_simp
            have hS_size := hS.size
            refine (Shift_calls t (i0 + i1) i2 _ WZ.drew _ (mb.has.below hS) rt raw_sz).mono ?_
            rintro e W7 ⟨k7, cs7, hXY, rfl, r7, m7⟩
            rw [dXY'.out] at r7
            obtain ⟨AXY, cXY, rfl, _⟩ := r7.open_
            rw [deY'.out]
            simp only []
            have kx := k7
            refine hK.out _ _ (below_then hS kx hS.size) (fun hS => ?_)
            refine rgt 12 (.tuple #[.agg #[.int .i64 XY.k, .int .i64 XY.n, .string XY.nm, .slice AXY XY.ar.length cXY], .int .i64 0]) rfl (by kernel_rfl) (fun _ _ _ h => h) (by kernel_rfl) hS (fun V hV => by go_simp) ?_
            refine rgt 13 (.agg #[.int .i64 XY.k, .int .i64 XY.n, .string XY.nm, .slice AXY XY.ar.length cXY]) rfl (by kernel_rfl) (fun _ _ _ h => h) (by kernel_rfl) hS (fun V hV => by go_simp) ?_
            refine rgp 14 (.int .i64 0) rfl (by kernel_rfl) (fun _ _ _ h => h) (by kernel_rfl) (fun V => by go_simp) ?_
            exact norm_ (by kernel_rfl) (stc_11 (AXY, cXY, hXY, ()) _ ⟨hS, ⟨r7, m7.from_ (Nat.le_trans kb.size hS_size)⟩, trivial⟩)
          · have hS0 := hS
            go_simp
            have kx := (alloc1 WZ.drew (.cells #[.int .i64 0, .int .i64 0, .string ⟨#[]⟩, .slice none 0 0] 34)).2
            have kn := blk_new WZ.drew (.cells #[.int .i64 0, .int .i64 0, .string ⟨#[]⟩, .slice none 0 0] 34)
            have kz : WZ.heap.size ≤ WZ.drew.heap.size := hS.size
            refine hK.out _ _ (below_then hS kx hS.size) (fun hS => ?_)
            exact norm_ (by kernel_rfl) (stc_15 (WZ.drew.heap.size, ()) _ ⟨hS, ⟨kn, kz⟩, trivial⟩)
        rintro ⟨AXY, cXY, hXY, g13, ⟨⟩⟩ WE3 ⟨hS, f11, f15, p11_15, -⟩
        dsimp only [putAll]
        try dsimp only at f11
        try dsimp only at f15
        try dsimp only at p11_15
        have xg := box4 f15.1
        have zg := blk_frozen f15.1
        have lg := blk_lt f15.1
        refine rgl 16 rfl (by kernel_rfl) (by decide) (by kernel_rfl) (fun K hK => ?_)
        go_simp
        refine hK.out _ _ ?_
        refine rgp 17 (.int .i64 0) rfl (by kernel_rfl) (fun _ _ _ h => h) (by kernel_rfl) (fun V => by go_simp) ?_
        refine rgd (by kernel_rfl) ?_
        obtain ⟨WY, hWF, bF, kpF⟩ : ∃ WF, ((((WE3.setCell ⟨g13, 0, none⟩ (.int .i64 XY.k)).setCell ⟨g13, 1, none⟩ (.int .i64 XY.n)).setCell ⟨g13, 2, none⟩ (.string XY.nm)).setCell ⟨g13, 3, none⟩ (.slice AXY XY.ar.length cXY)) = WF ∧
            WF.heap[g13]? = some (.cells #[.int .i64 XY.k, .int .i64 XY.n, .string XY.nm, .slice AXY XY.ar.length cXY] 34) ∧ Kp (fun q => q = g13) WE3 WF := ⟨_, rfl, (set4 f15.1 _ _ _ _).1, (set4 f15.1 _ _ _ _).2⟩
        rw [hWF]
        have HF := f11.2.has.kp kpF p11_15
        have kE := below_then kb hS kb.size
        have kF : Below w.heap.size w WY := ((Kp.of_below (fun q => q = g13) kE).trans kpF (fun i hi e => e)).below (fun i hi (e : i = g13) => by have h1 := f15.2; have h2 := kb.size; omega)
        obtain ⟨hy, BY, mc⟩ := BoxM.mk_ (w0 := w) HF bF f11.1 (Nat.le_trans kb.size f15.2)
        have ss := f11.2.sub.trans mc.sub
        replace mc := (mb.then_ (f11.2.world HF)).then_ mc
        replace BD := BD.sub ss
        clear hWF xg zg lg HF kE kpF bF ss hS kb mb f11 f15 p11_15
        have kb := kF
        have mb := mc
        clear kF mc
        clear tx0 tx1 tx2 tx3  tl rt
        clear y0 y1 y2 yl Bt
        obtain ⟨Ap, cp, pe0, pe1, pe2, pe3, rp⟩ := BD.at_
        have px0 := mb.has.cell _ _ pe0
        have px1 := mb.has.cell _ _ pe1
        have px2 := mb.has.cell _ _ pe2
        have px3 := mb.has.cell _ _ pe3
        have pl := mb.has.lt pe0
        clear pe0 pe1 pe2 pe3
        obtain ⟨Aq, cq, qe0, qe1, qe2, qe3, rq⟩ := BY.at_
        have qx0 := mb.has.cell _ _ qe0
        have qx1 := mb.has.cell _ _ qe1
        have qx2 := mb.has.cell _ _ qe2
        have qx3 := mb.has.cell _ _ qe3
        have ql := mb.has.lt qe0
        clear qe0 qe1 qe2 qe3
        go_wp2_with fail
        refine (Same_calls XD XY _ _ _ _ mb.has rp rq).mono ?_
        rintro e wF ⟨rfl, kF⟩
        rw [z2'.out]
        replace kb := below_then kb kF kb.size
        go_wp2_with fail
        go_ret
        exact ⟨rfl, kb⟩
end Go.Proofs.YtpgbeapojjinmaaGreatDoor
