/- The statement TermOrders: its walk. -/
import Derived.Test.YtpgbeapojjinmaaGreatDoorQD
import Derived.Test.YtpgbeapojjinmaaGreatDoorSN
set_option linter.unusedVariables false
set_option linter.unusedSimpArgs false
namespace Go.Proofs.YtpgbeapojjinmaaGreatDoor
open Go.RowKit Go.Shelf Go.Proofs.YtpgbeapojjinmaaGreatDoorW.PrintLast
theorem cmpV_anti (a b : Tm) : cmpV b a = - cmpV a b := cmpP_anti _ _ _ _
theorem cmpV_self (a : Tm) : cmpV a a = 0 := cmpP_self _ _
theorem cmpV_T3 (a b c : Tm) : T3 (cmpV a b) (cmpV b c) (cmpV a c) := cmpP_T3 _ _ _ _ _ _
theorem cmpV_three (a b : Tm) : cmpV a b = -1 ∨ (cmpV a b = 0 ∨ cmpV a b = 1) := by
  have := cmpP_abs (rawP a == 0) (rawP b == 0) a b
  unfold cmpV
  omega
theorem sameV_eq {a b : Tm} (ha : (rawP a == 0) = true) (hb : (rawP b == 0) = true) : sameV a b = (cmpV a b == 0) := by
  unfold sameV cmpV cmpP
  rw [ha, hb]
  simp
set_option maxRecDepth 100000 in
set_option maxHeartbeats 16000000 in
theorem TermOrders_calls (a b c : Tm) (ca cb cc : List Value) (w : World) (h : Snap) (H : Has w h) (ra : TmR h a ca) (rb : TmR h b cb) (rc : TmR h c cc) :
    Calls Tryz.prog 13 #[.agg ca.toArray, .agg cb.toArray, .agg cc.toArray] w fun e w' => e = .returned (.bool true) ∧ Below w.heap.size w w' := by
  have ra0 := Lib.hid ra
  have rb0 := Lib.hid rb
  have rc0 := Lib.hid rc
  obtain ⟨A0, c0, rfl, hl0, hm0, _, _, _⟩ := ra.open_
  obtain ⟨A1, c1, rfl, hl1, hm1, _, _, _⟩ := rb.open_
  obtain ⟨A2, c2, rfl, hl2, hm2, _, _, _⟩ := rc.open_
  have hu34 := Tryz.underlying34
  have hu42 := Tryz.underlying42
  have hT := Lib.hid (cmpV_T3 a b c)
  have hA := Lib.hid (cmpV_anti a b)
  have hS := Lib.hid (cmpV_self a)
  have hX := cmpV_three a b
  have hY := Lib.hid (cmpV_three b c)
  have hZ := Lib.hid (cmpV_three a c)
  have hSm : Hid ((rawP a == 0) = true → (rawP b == 0) = true → sameV a b = (cmpV a b == 0)) := Lib.hid (fun h1 h2 => sameV_eq h1 h2)
  obtain ⟨X, eX⟩ : ∃ x, cmpV a b = x := ⟨_, rfl⟩
  obtain ⟨Y, eY⟩ : ∃ x, cmpV b c = x := ⟨_, rfl⟩
  obtain ⟨Z, eZ⟩ : ∃ x, cmpV a c = x := ⟨_, rfl⟩
  rw [eX] at hT hA hX hSm
  rw [eY] at hT hY
  rw [eZ] at hT hZ
  have eX' := Lib.hid eX
  have eY' := Lib.hid eY
  have eZ' := Lib.hid eZ
  obtain ⟨p1, p2, p3, hb⟩ := alloc3 w (.cells #[.int .i64 a.k, .int .i64 a.n, .string a.nm, .slice A0 a.ar.length c0] 34) (.cells #[.int .i64 b.k, .int .i64 b.n, .string b.nm, .slice A1 b.ar.length c1] 34) (.cells #[.int .i64 c.k, .int .i64 c.n, .string c.nm, .slice A2 c.ar.length c2] 34)
  unfold lim at hm0 hm1 hm2
  clear ra rb rc hl0 hl1 hl2 eX eY eZ
  rcases hX with rfl | rfl | rfl
  all_goals
    go_enter Tryz.func13, Tryz.ntmps13
    go_wp2_with fail
    refine (sane_calls _ h (H.below hb)).mono ?_
    rintro e w0 ⟨rfl, k0⟩
    have kk0 := below_then hb k0 hb.size
    have r1_0 := box_below p1 k0
    have r2_0 := box_below p2 k0
    have r3_0 := box_below p3 k0
    clear p1 p2 p3
    have d1_0 := box4 r1_0
    have l1_0 := blk_lt r1_0
    have d2_0 := box4 r2_0
    have l2_0 := blk_lt r2_0
    have d3_0 := box4 r3_0
    have l3_0 := blk_lt r3_0
    go_wp2_with fail
    refine (Compare_calls a b _ _ _ h (H.below kk0) ra0.out rb0.out).mono ?_
    rintro e w1 ⟨rfl, k1⟩
    rw [eX'.out]
    have kk1 := below_then kk0 k1 kk0.size
    clear d1_0 l1_0 d2_0 l2_0 d3_0 l3_0
    have r1_1 := box_below r1_0 k1
    have r2_1 := box_below r2_0 k1
    have r3_1 := box_below r3_0 k1
    clear r1_0 r2_0 r3_0
    have d1_1 := box4 r1_1
    have l1_1 := blk_lt r1_1
    have d2_1 := box4 r2_1
    have l2_1 := blk_lt r2_1
    have d3_1 := box4 r3_1
    have l3_1 := blk_lt r3_1
    go_wp2_with fail
    refine (Compare_calls b c _ _ _ h (H.below kk1) rb0.out rc0.out).mono ?_
    rintro e w2 ⟨rfl, k2⟩
    rw [eY'.out]
    have kk2 := below_then kk1 k2 kk1.size
    clear d1_1 l1_1 d2_1 l2_1 d3_1 l3_1
    have r1_2 := box_below r1_1 k2
    have r2_2 := box_below r2_1 k2
    have r3_2 := box_below r3_1 k2
    clear r1_1 r2_1 r3_1
    have d1_2 := box4 r1_2
    have l1_2 := blk_lt r1_2
    have d2_2 := box4 r2_2
    have l2_2 := blk_lt r2_2
    have d3_2 := box4 r3_2
    have l3_2 := blk_lt r3_2
    go_wp2_with fail
    refine (Compare_calls a c _ _ _ h (H.below kk2) ra0.out rc0.out).mono ?_
    rintro e w3 ⟨rfl, k3⟩
    rw [eZ'.out]
    have kk3 := below_then kk2 k3 kk2.size
    clear d1_2 l1_2 d2_2 l2_2 d3_2 l3_2
    have r1_3 := box_below r1_2 k3
    have r2_3 := box_below r2_2 k3
    have r3_3 := box_below r3_2 k3
    clear r1_2 r2_2 r3_2
    have d1_3 := box4 r1_3
    have l1_3 := blk_lt r1_3
    have d2_3 := box4 r2_3
    have l2_3 := blk_lt r2_3
    have d3_3 := box4 r3_3
    have l3_3 := blk_lt r3_3
    go_wp2_with fail
    refine (Compare_calls b a _ _ _ h (H.below kk3) rb0.out ra0.out).mono ?_
    rintro e w4 ⟨rfl, k4⟩
    rw [hA.out]
    have kk4 := below_then kk3 k4 kk3.size
    clear d1_3 l1_3 d2_3 l2_3 d3_3 l3_3
    have r1_4 := box_below r1_3 k4
    have r2_4 := box_below r2_3 k4
    have r3_4 := box_below r3_3 k4
    clear r1_3 r2_3 r3_3
    have d1_4 := box4 r1_4
    have l1_4 := blk_lt r1_4
    have d2_4 := box4 r2_4
    have l2_4 := blk_lt r2_4
    have d3_4 := box4 r3_4
    have l3_4 := blk_lt r3_4
    go_wp2_with fail
    refine (Compare_calls a a _ _ _ h (H.below kk4) ra0.out ra0.out).mono ?_
    rintro e w5 ⟨rfl, k5⟩
    rw [hS.out]
    have kk5 := below_then kk4 k5 kk4.size
    clear d1_4 l1_4 d2_4 l2_4 d3_4 l3_4
    have r1_5 := box_below r1_4 k5
    have r2_5 := box_below r2_4 k5
    have r3_5 := box_below r3_4 k5
    clear r1_4 r2_4 r3_4
    have d1_5 := box4 r1_5
    have l1_5 := blk_lt r1_5
    have d2_5 := box4 r2_5
    have l2_5 := blk_lt r2_5
    have d3_5 := box4 r3_5
    have l3_5 := blk_lt r3_5
    go_wp2_with fail
    refine (Raw_calls a _ _ h (H.below kk5) ra0.out).mono ?_
    rintro e w6 ⟨rfl, k6⟩
    have kk6 := below_then kk5 k6 kk5.size
    clear d1_5 l1_5 d2_5 l2_5 d3_5 l3_5
    have r1_6 := box_below r1_5 k6
    have r2_6 := box_below r2_5 k6
    have r3_6 := box_below r3_5 k6
    clear r1_5 r2_5 r3_5
    have d1_6 := box4 r1_6
    have l1_6 := blk_lt r1_6
    have d2_6 := box4 r2_6
    have l2_6 := blk_lt r2_6
    have d3_6 := box4 r3_6
    have l3_6 := blk_lt r3_6
    obtain ⟨ea, hea⟩ : ∃ e, rawP a = e := ⟨_, rfl⟩
    rw [hea] at hSm ⊢
    clear hea
    cases qa : ea == 0
    · skip
      have eT := hT.out
      have eYY := hY.out
      have eZZ := hZ.out
      clear hT hY hZ hA hS hSm
      rcases eYY with rfl | rfl | rfl <;> rcases eZZ with rfl | rfl | rfl
      all_goals
        first
        | (exfalso; unfold T3 at eT; omega)
        | (clear eT; go_wp2_with fail; go_ret; exact ⟨rfl, kk6⟩)
    · skip
      go_wp2_with fail
      refine (Raw_calls b _ _ h (H.below kk6) rb0.out).mono ?_
      rintro e w7 ⟨rfl, k7⟩
      have kk7 := below_then kk6 k7 kk6.size
      clear d1_6 l1_6 d2_6 l2_6 d3_6 l3_6
      have r1_7 := box_below r1_6 k7
      have r2_7 := box_below r2_6 k7
      have r3_7 := box_below r3_6 k7
      clear r1_6 r2_6 r3_6
      have d1_7 := box4 r1_7
      have l1_7 := blk_lt r1_7
      have d2_7 := box4 r2_7
      have l2_7 := blk_lt r2_7
      have d3_7 := box4 r3_7
      have l3_7 := blk_lt r3_7
      obtain ⟨eb, heb⟩ : ∃ e, rawP b = e := ⟨_, rfl⟩
      rw [heb] at hSm ⊢
      clear heb
      cases qb : eb == 0
      · skip
        have eT := hT.out
        have eYY := hY.out
        have eZZ := hZ.out
        clear hT hY hZ hA hS hSm
        rcases eYY with rfl | rfl | rfl <;> rcases eZZ with rfl | rfl | rfl
        all_goals
          first
          | (exfalso; unfold T3 at eT; omega)
          | (clear eT; go_wp2_with fail; go_ret; exact ⟨rfl, kk7⟩)
      · skip
        have hs := hSm.out qa qb
        have hs' := Lib.hid hs
        clear hs
        go_wp2_with fail
        refine (Same_calls a b _ _ _ h (H.below kk7) ra0.out rb0.out).mono ?_
        rintro e w8 ⟨rfl, k8⟩
        rw [hs'.out]
        have kk8 := below_then kk7 k8 kk7.size
        clear d1_7 l1_7 d2_7 l2_7 d3_7 l3_7
        have r1_8 := box_below r1_7 k8
        have r2_8 := box_below r2_7 k8
        have r3_8 := box_below r3_7 k8
        clear r1_7 r2_7 r3_7
        have d1_8 := box4 r1_8
        have l1_8 := blk_lt r1_8
        have d2_8 := box4 r2_8
        have l2_8 := blk_lt r2_8
        have d3_8 := box4 r3_8
        have l3_8 := blk_lt r3_8
        have eT := hT.out
        have eYY := hY.out
        have eZZ := hZ.out
        clear hT hY hZ hA hS hSm
        rcases eYY with rfl | rfl | rfl <;> rcases eZZ with rfl | rfl | rfl
        all_goals
          first
          | (exfalso; unfold T3 at eT; omega)
          | (clear eT; go_wp2_with fail; go_ret; exact ⟨rfl, kk8⟩)
end Go.Proofs.YtpgbeapojjinmaaGreatDoor
