/- The statement TermLooks: its walk. -/
import Derived.Test.YtpgbeapojjinmaaGreatDoorGN
import Derived.Test.YtpgbeapojjinmaaGreatDoorGC
import Derived.Test.YtpgbeapojjinmaaGreatDoorSN
set_option linter.unusedVariables false
set_option linter.unusedSimpArgs false
namespace Go.Proofs.YtpgbeapojjinmaaGreatDoor
open Go.RowKit Go.Shelf Go.Proofs.YtpgbeapojjinmaaGreatDoorW.PrintLast
set_option maxRecDepth 100000 in
set_option maxHeartbeats 16000000 in
theorem TermLooks_calls (t u : Tm) (v : Int) (ct cu : List Value) (w : World) (h : Snap) (H : Has w h) (rt : TmR h t ct) (ru : TmR h u cu) :
    Calls Tryz.prog 14 #[.agg ct.toArray, .agg cu.toArray, .int .i64 v] w fun e w' => e = .returned (.bool true) ∧ Below w.heap.size w w' := by
  have rt0 := Lib.hid rt
  have ru0 := Lib.hid ru
  obtain ⟨A0, c0, rfl, hl0, hm0, _, _, _⟩ := rt.open_
  obtain ⟨A1, c1, rfl, hl1, hm1, _, _, _⟩ := ru.open_
  have hu34 := Tryz.underlying34
  obtain ⟨z, hz⟩ : ∃ z, teN 4000 t 0 101 = z := ⟨_, rfl⟩
  obtain ⟨y, hy⟩ : ∃ y, teD t 101 = y := ⟨_, rfl⟩
  have hM := measM_eq t
  rw [hz, hy] at hM
  obtain ⟨cl, hcl⟩ : ∃ x, closedV t = x := ⟨_, rfl⟩
  obtain ⟨L4, hL4⟩ : ∃ x, numsV 4 t = x := ⟨_, rfl⟩
  obtain ⟨L3, hL3⟩ : ∃ x, numsV 3 t = x := ⟨_, rfl⟩
  obtain ⟨oc, hoc⟩ : ∃ x, hasI L4 v = x := ⟨_, rfl⟩
  obtain ⟨sm, hsm⟩ : ∃ x, sameV t u = x := ⟨_, rfl⟩
  obtain ⟨cm, hcm⟩ : ∃ x, cmpV t u = x := ⟨_, rfl⟩
  replace hM := Lib.hid hM
  replace hz := Lib.hid hz
  replace hy := Lib.hid hy
  replace hcl := Lib.hid hcl
  replace hL4 := Lib.hid hL4
  replace hL3 := Lib.hid hL3
  replace hoc := Lib.hid hoc
  replace hsm := Lib.hid hsm
  replace hcm := Lib.hid hcm
  have q1 : (z != z) = false := by simp
  have q2 : (y != y) = false := by simp
  have q3 : (cl != cl) = false := by simp
  have q4 : (oc != oc) = false := by simp
  have q5 : (sm == sm) = true := by simp
  have q6 : (cm == cm) = true := by simp
  obtain ⟨p1, p2, hb⟩ := alloc2 w (.cells #[.int .i64 t.k, .int .i64 t.n, .string t.nm, .slice A0 t.ar.length c0] 34) (.cells #[.int .i64 u.k, .int .i64 u.n, .string u.nm, .slice A1 u.ar.length c1] 34)
  clear rt ru hl0 hl1 hm0 hm1
  go_enter Tryz.func14, Tryz.ntmps14
  go_wp2_with fail
  refine (sane_calls _ h (H.below hb)).mono ?_
  rintro e W0 ⟨rfl, k0⟩
  have kb := below_then hb k0 hb.size
  have b1 := box_below p1 k0
  have b2 := box_below p2 k0
  replace H := H.below kb
  clear hb k0 p1 p2
  go_wp2_with fail
  refine rgs 28 (fun V => Below W0.heap.size W0 V) [] rfl ((Below.refl _ _).drew) (fun hS => ?_)
  refine rgnf 0 10 (.agg #[.int .i64 t.k, .int .i64 t.n, .string t.nm, .slice A0 t.ar.length c0]) rfl rfl (by kernel_rfl) (fun _ _ _ h => h) (by kernel_rfl) hS (fun V hV => by have y2 := box4 (box_below b1 hV); have m2 := blk_lt (box_below b1 hV); go_simp) ?_
  refine rgnf 2 12 (.agg #[.int .i64 t.k, .int .i64 t.n, .string t.nm, .slice A0 t.ar.length c0]) rfl rfl (by kernel_rfl) (fun _ _ _ h => h) (by kernel_rfl) hS (fun V hV => by have y2 := box4 (box_below b1 hV); have m2 := blk_lt (box_below b1 hV); go_simp) ?_
  refine rg1 1 rfl (by kernel_rfl) (by decide) (by kernel_rfl) (fun K hK => ?_)
  have hS0 := hS
  go_simp
  refine (Size_calls t _ _ h (H.below hS0) rt0.out).mono ?_
  rintro e WN ⟨rfl, kN⟩
  rw [hM.out]
  simp only []
  refine hK.out _ _ (below_then hS0 kN hS0.size) (fun hS => ?_)
  clear hK
  refine rg1 3 rfl (by kernel_rfl) (by decide) (by kernel_rfl) (fun K hK => ?_)
  have hS0 := hS
  go_simp
  refine (RSize2_calls t _ _ h (H.below hS0) rt0.out).mono ?_
  rintro e WN ⟨rfl, kN⟩
  rw [hz.out]
  simp only []
  refine hK.out _ _ (below_then hS0 kN hS0.size) (fun hS => ?_)
  clear hK
  refine rgnf 4 14 (.bool false) rfl rfl (by kernel_rfl) (fun _ _ _ h => h) (by kernel_rfl) hS (fun V hV => by go_simp) ?_
  refine rgnf 5 15 (.bool false) rfl rfl (by kernel_rfl) (fun _ _ _ h => h) (by kernel_rfl) hS (fun V hV => by go_simp) ?_
  refine rgnf 6 16 (.agg #[.int .i64 t.k, .int .i64 t.n, .string t.nm, .slice A0 t.ar.length c0]) rfl rfl (by kernel_rfl) (fun _ _ _ h => h) (by kernel_rfl) hS (fun V hV => by have y2 := box4 (box_below b1 hV); have m2 := blk_lt (box_below b1 hV); go_simp) ?_
  refine rgnf 8 18 (.agg #[.int .i64 t.k, .int .i64 t.n, .string t.nm, .slice A0 t.ar.length c0]) rfl rfl (by kernel_rfl) (fun _ _ _ h => h) (by kernel_rfl) hS (fun V hV => by have y2 := box4 (box_below b1 hV); have m2 := blk_lt (box_below b1 hV); go_simp) ?_
  refine rg1 7 rfl (by kernel_rfl) (by decide) (by kernel_rfl) (fun K hK => ?_)
  have hS0 := hS
  go_simp
  refine (Depth_calls t _ _ h (H.below hS0) rt0.out).mono ?_
  rintro e WN ⟨rfl, kN⟩
  rw [hM.out]
  simp only []
  refine hK.out _ _ (below_then hS0 kN hS0.size) (fun hS => ?_)
  clear hK
  refine rg1 9 rfl (by kernel_rfl) (by decide) (by kernel_rfl) (fun K hK => ?_)
  have hS0 := hS
  go_simp
  refine (RDepth_calls t _ _ h (H.below hS0) rt0.out).mono ?_
  rintro e WN ⟨rfl, kN⟩
  rw [hy.out]
  simp only []
  refine hK.out _ _ (below_then hS0 kN hS0.size) (fun hS => ?_)
  clear hK
  refine rgnf 10 20 (.bool false) rfl rfl (by kernel_rfl) (fun _ _ _ h => h) (by kernel_rfl) hS (fun V hV => by go_simp) ?_
  refine rgnf 11 21 (.bool false) rfl rfl (by kernel_rfl) (fun _ _ _ h => h) (by kernel_rfl) hS (fun V hV => by go_simp) ?_
  refine rgnf 12 22 (.bool false) rfl rfl (by kernel_rfl) (fun _ _ _ h => h) (by kernel_rfl) hS (fun V hV => by go_simp) ?_
  refine rgnf 13 23 (.agg #[.int .i64 t.k, .int .i64 t.n, .string t.nm, .slice A0 t.ar.length c0]) rfl rfl (by kernel_rfl) (fun _ _ _ h => h) (by kernel_rfl) hS (fun V hV => by have y2 := box4 (box_below b1 hV); have m2 := blk_lt (box_below b1 hV); go_simp) ?_
  refine rgnf 15 25 (.agg #[.int .i64 t.k, .int .i64 t.n, .string t.nm, .slice A0 t.ar.length c0]) rfl rfl (by kernel_rfl) (fun _ _ _ h => h) (by kernel_rfl) hS (fun V hV => by have y2 := box4 (box_below b1 hV); have m2 := blk_lt (box_below b1 hV); go_simp) ?_
  refine rg1 14 rfl (by kernel_rfl) (by decide) (by kernel_rfl) (fun K hK => ?_)
  have hS0 := hS
  go_simp
  refine (Closed_calls t _ _ h (H.below hS0) rt0.out).mono ?_
  rintro e WN ⟨rfl, kN⟩
  rw [hcl.out]
  simp only []
  refine hK.out _ _ (below_then hS0 kN hS0.size) (fun hS => ?_)
  clear hK
  refine rg1 16 rfl (by kernel_rfl) (by decide) (by kernel_rfl) (fun K hK => ?_)
  have hS0 := hS
  go_simp
  refine (RClosed_calls t _ _ h (H.below hS0) rt0.out).mono ?_
  rintro e WN ⟨rfl, kN⟩
  rw [hcl.out]
  simp only []
  refine hK.out _ _ (below_then hS0 kN hS0.size) (fun hS => ?_)
  clear hK
  refine rgnf 17 27 (.bool false) rfl rfl (by kernel_rfl) (fun _ _ _ h => h) (by kernel_rfl) hS (fun V hV => by go_simp) ?_
  refine rgnf 18 28 (.bool false) rfl rfl (by kernel_rfl) (fun _ _ _ h => h) (by kernel_rfl) hS (fun V hV => by go_simp) ?_
  refine rgnf 19 29 (.bool false) rfl rfl (by kernel_rfl) (fun _ _ _ h => h) (by kernel_rfl) hS (fun V hV => by go_simp) ?_
  refine rgnf 20 30 (.agg #[.int .i64 t.k, .int .i64 t.n, .string t.nm, .slice A0 t.ar.length c0]) rfl rfl (by kernel_rfl) (fun _ _ _ h => h) (by kernel_rfl) hS (fun V hV => by have y2 := box4 (box_below b1 hV); have m2 := blk_lt (box_below b1 hV); go_simp) ?_
  refine rgnf 21 31 (.int .i64 v) rfl rfl (by kernel_rfl) (fun _ _ _ h => h) (by kernel_rfl) hS (fun V hV => by go_simp) ?_
  refine rgnf 23 33 (.agg #[.int .i64 t.k, .int .i64 t.n, .string t.nm, .slice A0 t.ar.length c0]) rfl rfl (by kernel_rfl) (fun _ _ _ h => h) (by kernel_rfl) hS (fun V hV => by have y2 := box4 (box_below b1 hV); have m2 := blk_lt (box_below b1 hV); go_simp) ?_
  refine rgnf 24 34 (.int .i64 v) rfl rfl (by kernel_rfl) (fun _ _ _ h => h) (by kernel_rfl) hS (fun V hV => by go_simp) ?_
  refine rg1 22 rfl (by kernel_rfl) (by decide) (by kernel_rfl) (fun K hK => ?_)
  have hS0 := hS
  go_simp
  refine (Occurs_calls t v _ _ h (H.below hS0) rt0.out).mono ?_
  rintro e WN ⟨rfl, kN⟩
  rw [hL4.out, hoc.out]
  simp only []
  refine hK.out _ _ (below_then hS0 kN hS0.size) (fun hS => ?_)
  clear hK
  refine rg1 25 rfl (by kernel_rfl) (by decide) (by kernel_rfl) (fun K hK => ?_)
  have hS0 := hS
  go_simp
  refine (ROccurs_calls t v _ _ h (H.below hS0) rt0.out).mono ?_
  rintro e WA ⟨rfl, kN⟩
  rw [hL4.out, hoc.out]
  simp only []
  refine hK.out _ _ (below_then hS0 kN hS0.size) (fun hS => ?_)
  clear hK
  refine rgnf 26 36 (.bool false) rfl rfl (by kernel_rfl) (fun _ _ _ h => h) (by kernel_rfl) hS (fun V hV => by go_simp) ?_
  refine rgnf 27 37 (.bool false) rfl rfl (by kernel_rfl) (fun _ _ _ h => h) (by kernel_rfl) hS (fun V hV => by go_simp) ?_
  refine rgd (by kernel_rfl) ?_
  simp only [Act.put, List.setIfInBounds_toArray, List.set_cons_zero, List.set_cons_succ]
  replace kb := below_then kb hS kb.size
  replace b1 := box_below b1 hS
  replace b2 := box_below b2 hS
  replace H := H.below hS
  clear hS hS0 kN
  go_wp2_with fail
  refine rgs 13 (fun V => Below WA.heap.size WA V) [] rfl ((Below.refl _ _).drew) (fun hS => ?_)
  refine rgnf 0 38 (.agg #[.int .i64 t.k, .int .i64 t.n, .string t.nm, .slice A0 t.ar.length c0]) rfl rfl (by kernel_rfl) (fun _ _ _ h => h) (by kernel_rfl) hS (fun V hV => by have y2 := box4 (box_below b1 hV); have m2 := blk_lt (box_below b1 hV); go_simp) ?_
  refine rgnf 2 40 (.agg #[.int .i64 t.k, .int .i64 t.n, .string t.nm, .slice A0 t.ar.length c0]) rfl rfl (by kernel_rfl) (fun _ _ _ h => h) (by kernel_rfl) hS (fun V hV => by have y2 := box4 (box_below b1 hV); have m2 := blk_lt (box_below b1 hV); go_simp) ?_
  refine rg1 1 rfl (by kernel_rfl) (by decide) (by kernel_rfl) (fun K hK => ?_)
  have hS0 := hS
  go_simp
  refine (Vars_calls t _ _ h (H.below hS0) rt0.out).mono ?_
  rintro e WN ⟨A2, c2, h2, rfl, s1, m1, kN⟩
  rw [hL4.out] at s1 ⊢
  replace s1 := Lib.hid s1
  replace m1 := Lib.hid m1
  simp only []
  refine hK.out _ _ (below_then hS0 kN hS0.size) (fun hS => ?_)
  clear hK
  refine rg1 3 rfl (by kernel_rfl) (by decide) (by kernel_rfl) (fun K hK => ?_)
  have hS0 := hS
  go_simp
  refine (RNumbers_calls t 4 _ _ h2 m1.out.has (rt0.out.sub m1.out.sub)).mono ?_
  rintro e WN ⟨A3, c3, h3, rfl, s2, m2, kN⟩
  rw [hL4.out] at s2 ⊢
  replace s1 := Lib.hid (s1.out.sub m2.sub)
  replace s2 := Lib.hid s2
  replace m2 := Lib.hid m2
  simp only []
  refine hK.out _ _ (below_then hS0 kN hS0.size) (fun hS => ?_)
  clear hK
  refine rg1 4 rfl (by kernel_rfl) (by decide) (by kernel_rfl) (fun K hK => ?_)
  have hS0 := hS
  go_simp
  refine (SameInts_calls L4 _ _ _ h3 m2.out.has s1.out s2.out).mono ?_
  rintro e WN ⟨rfl, kN⟩
  simp only []
  refine hK.out _ _ (below_then hS0 kN hS0.size) (fun hS => ?_)
  clear hK
  clear s1 s2 m1 m2
  refine rgnf 5 43 (.bool true) rfl rfl (by kernel_rfl) (fun _ _ _ h => h) (by kernel_rfl) hS (fun V hV => by go_simp) ?_
  refine rgnf 6 44 (.agg #[.int .i64 t.k, .int .i64 t.n, .string t.nm, .slice A0 t.ar.length c0]) rfl rfl (by kernel_rfl) (fun _ _ _ h => h) (by kernel_rfl) hS (fun V hV => by have y2 := box4 (box_below b1 hV); have m2 := blk_lt (box_below b1 hV); go_simp) ?_
  refine rgnf 8 46 (.agg #[.int .i64 t.k, .int .i64 t.n, .string t.nm, .slice A0 t.ar.length c0]) rfl rfl (by kernel_rfl) (fun _ _ _ h => h) (by kernel_rfl) hS (fun V hV => by have y2 := box4 (box_below b1 hV); have m2 := blk_lt (box_below b1 hV); go_simp) ?_
  refine rg1 7 rfl (by kernel_rfl) (by decide) (by kernel_rfl) (fun K hK => ?_)
  have hS0 := hS
  go_simp
  refine (Pars_calls t _ _ h (H.below hS0) rt0.out).mono ?_
  rintro e WN ⟨A4, c4, h4, rfl, s1, m1, kN⟩
  rw [hL3.out] at s1 ⊢
  replace s1 := Lib.hid s1
  replace m1 := Lib.hid m1
  simp only []
  refine hK.out _ _ (below_then hS0 kN hS0.size) (fun hS => ?_)
  clear hK
  refine rg1 9 rfl (by kernel_rfl) (by decide) (by kernel_rfl) (fun K hK => ?_)
  have hS0 := hS
  go_simp
  refine (RNumbers_calls t 3 _ _ h4 m1.out.has (rt0.out.sub m1.out.sub)).mono ?_
  rintro e WN ⟨A5, c5, h5, rfl, s2, m2, kN⟩
  rw [hL3.out] at s2 ⊢
  replace s1 := Lib.hid (s1.out.sub m2.sub)
  replace s2 := Lib.hid s2
  replace m2 := Lib.hid m2
  simp only []
  refine hK.out _ _ (below_then hS0 kN hS0.size) (fun hS => ?_)
  clear hK
  refine rg1 10 rfl (by kernel_rfl) (by decide) (by kernel_rfl) (fun K hK => ?_)
  have hS0 := hS
  go_simp
  refine (SameInts_calls L3 _ _ _ h5 m2.out.has s1.out s2.out).mono ?_
  rintro e WB ⟨rfl, kN⟩
  simp only []
  refine hK.out _ _ (below_then hS0 kN hS0.size) (fun hS => ?_)
  clear hK
  clear s1 s2 m1 m2
  refine rgnf 11 49 (.bool true) rfl rfl (by kernel_rfl) (fun _ _ _ h => h) (by kernel_rfl) hS (fun V hV => by go_simp) ?_
  refine rgnf 12 8 (.bool true) rfl rfl (by kernel_rfl) (fun _ _ _ h => h) (by kernel_rfl) hS (fun V hV => by go_simp) ?_
  refine rgd (by kernel_rfl) ?_
  simp only [Act.put, List.setIfInBounds_toArray, List.set_cons_zero, List.set_cons_succ]
  replace kb := below_then kb hS kb.size
  replace b1 := box_below b1 hS
  replace b2 := box_below b2 hS
  replace H := H.below hS
  clear hS hS0 kN
  go_wp2_with fail
  refine rgs 23 (fun V => Below WB.heap.size WB V) [] rfl ((Below.refl _ _).drew) (fun hS => ?_)
  refine rgnf 0 50 (.bool true) rfl rfl (by kernel_rfl) (fun _ _ _ h => h) (by kernel_rfl) hS (fun V hV => by go_simp) ?_
  refine rgnf 1 51 (.bool true) rfl rfl (by kernel_rfl) (fun _ _ _ h => h) (by kernel_rfl) hS (fun V hV => by go_simp) ?_
  refine rgnf 2 52 (.bool true) rfl rfl (by kernel_rfl) (fun _ _ _ h => h) (by kernel_rfl) hS (fun V hV => by go_simp) ?_
  refine rgnf 3 53 (.bool true) rfl rfl (by kernel_rfl) (fun _ _ _ h => h) (by kernel_rfl) hS (fun V hV => by go_simp) ?_
  refine rgnf 4 54 (.bool true) rfl rfl (by kernel_rfl) (fun _ _ _ h => h) (by kernel_rfl) hS (fun V hV => by go_simp) ?_
  refine rgnf 5 55 (.agg #[.int .i64 t.k, .int .i64 t.n, .string t.nm, .slice A0 t.ar.length c0]) rfl rfl (by kernel_rfl) (fun _ _ _ h => h) (by kernel_rfl) hS (fun V hV => by have y2 := box4 (box_below b1 hV); have m2 := blk_lt (box_below b1 hV); go_simp) ?_
  refine rgnf 6 56 (.agg #[.int .i64 u.k, .int .i64 u.n, .string u.nm, .slice A1 u.ar.length c1]) rfl rfl (by kernel_rfl) (fun _ _ _ h => h) (by kernel_rfl) hS (fun V hV => by have y2 := box4 (box_below b2 hV); have m2 := blk_lt (box_below b2 hV); go_simp) ?_
  refine rgnf 8 58 (.agg #[.int .i64 t.k, .int .i64 t.n, .string t.nm, .slice A0 t.ar.length c0]) rfl rfl (by kernel_rfl) (fun _ _ _ h => h) (by kernel_rfl) hS (fun V hV => by have y2 := box4 (box_below b1 hV); have m2 := blk_lt (box_below b1 hV); go_simp) ?_
  refine rgnf 9 59 (.agg #[.int .i64 u.k, .int .i64 u.n, .string u.nm, .slice A1 u.ar.length c1]) rfl rfl (by kernel_rfl) (fun _ _ _ h => h) (by kernel_rfl) hS (fun V hV => by have y2 := box4 (box_below b2 hV); have m2 := blk_lt (box_below b2 hV); go_simp) ?_
  refine rg1 7 rfl (by kernel_rfl) (by decide) (by kernel_rfl) (fun K hK => ?_)
  have hS0 := hS
  go_simp
  refine (Same_calls t u _ _ _ h (H.below hS0) rt0.out ru0.out).mono ?_
  rintro e WN ⟨rfl, kN⟩
  rw [hsm.out]
  simp only []
  refine hK.out _ _ (below_then hS0 kN hS0.size) (fun hS => ?_)
  clear hK
  refine rg1 10 rfl (by kernel_rfl) (by decide) (by kernel_rfl) (fun K hK => ?_)
  have hS0 := hS
  go_simp
  refine (RSame_calls t u _ _ _ h (H.below hS0) rt0.out ru0.out).mono ?_
  rintro e WN ⟨rfl, kN⟩
  rw [hsm.out]
  simp only []
  refine hK.out _ _ (below_then hS0 kN hS0.size) (fun hS => ?_)
  clear hK
  refine rgnf 11 61 (.bool true) rfl rfl (by kernel_rfl) (fun _ _ _ h => h) (by kernel_rfl) hS (fun V hV => by go_simp) ?_
  refine rgnf 12 62 (.bool true) rfl rfl (by kernel_rfl) (fun _ _ _ h => h) (by kernel_rfl) hS (fun V hV => by go_simp) ?_
  refine rgnf 13 63 (.bool true) rfl rfl (by kernel_rfl) (fun _ _ _ h => h) (by kernel_rfl) hS (fun V hV => by go_simp) ?_
  refine rgnf 14 64 (.agg #[.int .i64 t.k, .int .i64 t.n, .string t.nm, .slice A0 t.ar.length c0]) rfl rfl (by kernel_rfl) (fun _ _ _ h => h) (by kernel_rfl) hS (fun V hV => by have y2 := box4 (box_below b1 hV); have m2 := blk_lt (box_below b1 hV); go_simp) ?_
  refine rgnf 15 65 (.agg #[.int .i64 u.k, .int .i64 u.n, .string u.nm, .slice A1 u.ar.length c1]) rfl rfl (by kernel_rfl) (fun _ _ _ h => h) (by kernel_rfl) hS (fun V hV => by have y2 := box4 (box_below b2 hV); have m2 := blk_lt (box_below b2 hV); go_simp) ?_
  refine rgnf 17 67 (.agg #[.int .i64 t.k, .int .i64 t.n, .string t.nm, .slice A0 t.ar.length c0]) rfl rfl (by kernel_rfl) (fun _ _ _ h => h) (by kernel_rfl) hS (fun V hV => by have y2 := box4 (box_below b1 hV); have m2 := blk_lt (box_below b1 hV); go_simp) ?_
  refine rgnf 18 68 (.agg #[.int .i64 u.k, .int .i64 u.n, .string u.nm, .slice A1 u.ar.length c1]) rfl rfl (by kernel_rfl) (fun _ _ _ h => h) (by kernel_rfl) hS (fun V hV => by have y2 := box4 (box_below b2 hV); have m2 := blk_lt (box_below b2 hV); go_simp) ?_
  refine rg1 16 rfl (by kernel_rfl) (by decide) (by kernel_rfl) (fun K hK => ?_)
  have hS0 := hS
  go_simp
  refine (Compare_calls t u _ _ _ h (H.below hS0) rt0.out ru0.out).mono ?_
  rintro e WN ⟨rfl, kN⟩
  rw [hcm.out]
  simp only []
  refine hK.out _ _ (below_then hS0 kN hS0.size) (fun hS => ?_)
  clear hK
  refine rg1 19 rfl (by kernel_rfl) (by decide) (by kernel_rfl) (fun K hK => ?_)
  have hS0 := hS
  go_simp
  refine (RCompare_calls t u _ _ _ h (H.below hS0) rt0.out ru0.out).mono ?_
  rintro e WN ⟨rfl, kN⟩
  rw [hcm.out]
  simp only []
  refine hK.out _ _ (below_then hS0 kN hS0.size) (fun hS => ?_)
  clear hK
  refine rgnf 20 70 (.bool true) rfl rfl (by kernel_rfl) (fun _ _ _ h => h) (by kernel_rfl) hS (fun V hV => by go_simp) ?_
  refine rgnf 21 71 (.bool true) rfl rfl (by kernel_rfl) (fun _ _ _ h => h) (by kernel_rfl) hS (fun V hV => by go_simp) ?_
  refine rgnf 22 6 (.bool true) rfl rfl (by kernel_rfl) (fun _ _ _ h => h) (by kernel_rfl) hS (fun V hV => by go_simp) ?_
  refine rgd (by kernel_rfl) ?_
  simp only [Act.put, List.setIfInBounds_toArray, List.set_cons_zero, List.set_cons_succ]
  replace kb := below_then kb hS kb.size
  go_wp2_with fail
  go_ret
  exact ⟨rfl, kb⟩
end Go.Proofs.YtpgbeapojjinmaaGreatDoor
