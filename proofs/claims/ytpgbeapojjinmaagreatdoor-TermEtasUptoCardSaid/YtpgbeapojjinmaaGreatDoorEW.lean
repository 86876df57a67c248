/- The document's Eta. No law is proved here. -/
import Derived.Test.YtpgbeapojjinmaaGreatDoorEV
set_option linter.unusedVariables false
set_option linter.unusedSimpArgs false
namespace Go.Proofs.YtpgbeapojjinmaaGreatDoor
open Go.RowKit Go.Shelf Go.Proofs.YtpgbeapojjinmaaGreatDoorW.PrintLast
set_option maxRecDepth 100000 in
set_option maxHeartbeats 8000000 in
theorem REta_calls (t : Tm) (ty : Ty) (cs cy : List Value) (w : World) (h : Snap) (H : Has w h) (r : TmR h t cs) (ry : TyR h ty cy) :
    Calls Tryz.prog 26 #[.agg cs.toArray, .agg cy.toArray] w (DoneRes w h (rEtaD t ty)) := by
  have r0 := Lib.hid r
  have ry0 := Lib.hid ry
  obtain ⟨A, cap, rfl, hl, hlm, hk1, hn1, hr⟩ := r.open_
  obtain ⟨A', cap', rfl, _⟩ := ry.open_
  have hu34 := Tryz.underlying34
  have hu36 := Tryz.underlying36
  have hu50 := Tryz.underlying50
  have hu124 := Tryz.underlying124
  obtain ⟨R, hR⟩ : ∃ R, rEtaD t ty = R := ⟨_, rfl⟩
  rw [hR]
  unfold rEtaD at hR
  replace hR := Lib.hid hR
  obtain ⟨a1, a3, a2, ab⟩ := alloc3 w (.cells #[.int .i64 t.k, .int .i64 t.n, .string t.nm, .slice A t.ar.length cap] 34) (.cells #[.string ty.nm, .slice A' ty.ar.length cap'] 36) (.cells #[.int .i64 0, .int .i64 0, .string ⟨#[]⟩, .slice none 0 0, .int .i64 0] 50)
  go_enter Tryz.func26, Tryz.ntmps26
  go_wp2_with fail
  refine (RRaw_calls t _ _ h (H.below ab) r0.out).mono ?_
  rintro e w1 ⟨rfl, k1⟩
  have ab1 := below_then ab k1 ab.size
  have b1 := box_below a1 k1
  have b2 := box_below a2 k1
  have b3 := box_below a3 k1
  clear a1 a2 a3 ab k1
  have x1 := box4 b1
  have l1 := blk_lt b1
  by_cases q0 : rawP t = 0
  rotate_left
  · have G : Hid (R = (tm0, rawP t)) := Lib.hid (by rw [← hR.out, if_pos q0])
    obtain ⟨x0, hx0⟩ : ∃ x, rawP t = x := ⟨_, rfl⟩
    rw [hx0] at G q0 ⊢
    have q1 : (x0 == 0) = false := by simpa using q0
    have q2 : (x0 != 0) = true := by simpa using q0
    clear q0 hx0 hR x1 l1
    have x2 := box5d b2
    have f2 := blk_frozen b2
    have l2 := blk_lt b2
    go_wp2_with fail
    obtain ⟨W5, hW5, b5, kp5⟩ : ∃ W5, (((((w1.setCell ⟨w.heap.size + 1 + 1, 0, none⟩ (.int .i64 0)).setCell ⟨w.heap.size + 1 + 1, 1, none⟩ (.int .i64 0)).setCell ⟨w.heap.size + 1 + 1, 2, none⟩ (.string ⟨#[]⟩)).setCell ⟨w.heap.size + 1 + 1, 3, none⟩ (.slice none 0 0)).setCell ⟨w.heap.size + 1 + 1, 4, none⟩ (.int .i64 x0)) = W5 ∧ W5.heap[w.heap.size + 1 + 1]? = some (.cells #[.int .i64 0, .int .i64 0, .string ⟨#[]⟩, .slice none 0 0, .int .i64 x0] 50) ∧ Kp (fun q => q = w.heap.size + 1 + 1) w1 W5 := ⟨_, rfl, (set5d b2 _ _ _ _ _).1, (set5d b2 _ _ _ _ _).2⟩
    rw [hW5]
    have x5 := box5d b5
    have hb5 : Below w.heap.size w W5 := ((Kp.of_below (fun q => q = w.heap.size + 1 + 1) ab1).trans kp5 (fun i hi e => e)).below (fun i hi e => by omega)
    refine bodyPost_ret (v := .agg #[.int .i64 0, .int .i64 0, .string ⟨#[]⟩, .slice none 0 0, .int .i64 x0]) (by simp [results, Tryz.results26, go_sem, x5]) rfl ?_
    rw [G.out]
    exact ⟨hb5, none, 0, h, rfl, tm0_R h, Mk.refl (H.below hb5)⟩
  have hnn := raw_n q0
  rw [q0]
  have G : Hid (R = if t.k = 5 ∨ 0 < t.ar.length then (tm0, 6) else if formTy ty ≠ 0 then (tm0, formTy ty) else endD (rEta ty.sz 0 0 t.k t.n t.nm ty).1 (rEta ty.sz 0 0 t.k t.n t.nm ty).2.2) := Lib.hid (by rw [← hR.out, if_neg (fun e => e q0)])
  clear hR
  by_cases q5 : t.k = 5 ∨ 0 < t.ar.length
  · have G1 : Hid (R = (tm0, 6)) := Lib.hid (by rw [G.out, if_pos q5])
    have hq : ((t.k == 5) = true ∧ True) ∨ ((t.k == 5) = false ∧ (0 : Int) < t.ar.length) := by
      by_cases e : t.k = 5
      · exact .inl ⟨by simp [e], trivial⟩
      · exact .inr ⟨by simp [e], by rcases q5 with g | g; exact absurd g e; omega⟩
    clear q5 G q0
    rcases hq with ⟨g1, g2⟩ | ⟨g1, g2⟩
    · clear g2
      have x2 := box5d b2
      have f2 := blk_frozen b2
      have l2 := blk_lt b2
      go_wp2_with fail
      obtain ⟨W5, hW5, b5, kp5⟩ : ∃ W5, (((((w1.setCell ⟨w.heap.size + 1 + 1, 0, none⟩ (.int .i64 0)).setCell ⟨w.heap.size + 1 + 1, 1, none⟩ (.int .i64 0)).setCell ⟨w.heap.size + 1 + 1, 2, none⟩ (.string ⟨#[]⟩)).setCell ⟨w.heap.size + 1 + 1, 3, none⟩ (.slice none 0 0)).setCell ⟨w.heap.size + 1 + 1, 4, none⟩ (.int .i64 6)) = W5 ∧ W5.heap[w.heap.size + 1 + 1]? = some (.cells #[.int .i64 0, .int .i64 0, .string ⟨#[]⟩, .slice none 0 0, .int .i64 6] 50) ∧ Kp (fun q => q = w.heap.size + 1 + 1) w1 W5 := ⟨_, rfl, (set5d b2 _ _ _ _ _).1, (set5d b2 _ _ _ _ _).2⟩
      rw [hW5]
      have x5 := box5d b5
      have hb5 : Below w.heap.size w W5 := ((Kp.of_below (fun q => q = w.heap.size + 1 + 1) ab1).trans kp5 (fun i hi e => e)).below (fun i hi e => by omega)
      refine bodyPost_ret (v := .agg #[.int .i64 0, .int .i64 0, .string ⟨#[]⟩, .slice none 0 0, .int .i64 6]) (by simp [results, Tryz.results26, go_sem, x5]) rfl ?_
      rw [G1.out]
      exact ⟨hb5, none, 0, h, rfl, tm0_R h, Mk.refl (H.below hb5)⟩
    · skip
      have x2 := box5d b2
      have f2 := blk_frozen b2
      have l2 := blk_lt b2
      go_wp2_with fail
      obtain ⟨W5, hW5, b5, kp5⟩ : ∃ W5, (((((w1.setCell ⟨w.heap.size + 1 + 1, 0, none⟩ (.int .i64 0)).setCell ⟨w.heap.size + 1 + 1, 1, none⟩ (.int .i64 0)).setCell ⟨w.heap.size + 1 + 1, 2, none⟩ (.string ⟨#[]⟩)).setCell ⟨w.heap.size + 1 + 1, 3, none⟩ (.slice none 0 0)).setCell ⟨w.heap.size + 1 + 1, 4, none⟩ (.int .i64 6)) = W5 ∧ W5.heap[w.heap.size + 1 + 1]? = some (.cells #[.int .i64 0, .int .i64 0, .string ⟨#[]⟩, .slice none 0 0, .int .i64 6] 50) ∧ Kp (fun q => q = w.heap.size + 1 + 1) w1 W5 := ⟨_, rfl, (set5d b2 _ _ _ _ _).1, (set5d b2 _ _ _ _ _).2⟩
      rw [hW5]
      have x5 := box5d b5
      have hb5 : Below w.heap.size w W5 := ((Kp.of_below (fun q => q = w.heap.size + 1 + 1) ab1).trans kp5 (fun i hi e => e)).below (fun i hi e => by omega)
      refine bodyPost_ret (v := .agg #[.int .i64 0, .int .i64 0, .string ⟨#[]⟩, .slice none 0 0, .int .i64 6]) (by simp [results, Tryz.results26, go_sem, x5]) rfl ?_
      rw [G1.out]
      exact ⟨hb5, none, 0, h, rfl, tm0_R h, Mk.refl (H.below hb5)⟩
  have hk5 : (t.k == 5) = false := by
    have : t.k ≠ 5 := fun e => q5 (.inl e)
    simpa using this
  have hl0 : ¬ (0 : Int) < t.ar.length := by omega
  have G1 : Hid (R = if formTy ty ≠ 0 then (tm0, formTy ty) else endD (rEta ty.sz 0 0 t.k t.n t.nm ty).1 (rEta ty.sz 0 0 t.k t.n t.nm ty).2.2) := Lib.hid (by rw [G.out, if_neg q5])
  clear G q5 q0
  have y1 := box2 b3
  go_wp2_with fail
  refine (FormType_calls ty _ _ h (H.below ab1) ry0.out).mono ?_
  rintro e w2 ⟨rfl, k2⟩
  have ab2 := below_then ab1 k2 ab1.size
  have d1 := box_below b1 k2
  have d2 := box_below b2 k2
  have d3 := box_below b3 k2
  clear x1 l1 y1 b1 b2 b3 k2
  by_cases q6 : formTy ty = 0
  rotate_left
  · have G2 : Hid (R = (tm0, formTy ty)) := Lib.hid (by rw [G1.out, if_pos q6])
    obtain ⟨x0, hx0⟩ : ∃ x, formTy ty = x := ⟨_, rfl⟩
    rw [hx0] at G2 q6 ⊢
    have q1 : (x0 == 0) = false := by simpa using q6
    have q2 : (x0 != 0) = true := by simpa using q6
    clear q6 hx0 hk5 hl0
    have x2 := box5d d2
    have f2 := blk_frozen d2
    have l2 := blk_lt d2
    go_wp2_with fail
    obtain ⟨W5, hW5, b5, kp5⟩ : ∃ W5, (((((w2.setCell ⟨w.heap.size + 1 + 1, 0, none⟩ (.int .i64 0)).setCell ⟨w.heap.size + 1 + 1, 1, none⟩ (.int .i64 0)).setCell ⟨w.heap.size + 1 + 1, 2, none⟩ (.string ⟨#[]⟩)).setCell ⟨w.heap.size + 1 + 1, 3, none⟩ (.slice none 0 0)).setCell ⟨w.heap.size + 1 + 1, 4, none⟩ (.int .i64 x0)) = W5 ∧ W5.heap[w.heap.size + 1 + 1]? = some (.cells #[.int .i64 0, .int .i64 0, .string ⟨#[]⟩, .slice none 0 0, .int .i64 x0] 50) ∧ Kp (fun q => q = w.heap.size + 1 + 1) w2 W5 := ⟨_, rfl, (set5d d2 _ _ _ _ _).1, (set5d d2 _ _ _ _ _).2⟩
    rw [hW5]
    have x5 := box5d b5
    have hb5 : Below w.heap.size w W5 := ((Kp.of_below (fun q => q = w.heap.size + 1 + 1) ab2).trans kp5 (fun i hi e => e)).below (fun i hi e => by omega)
    refine bodyPost_ret (v := .agg #[.int .i64 0, .int .i64 0, .string ⟨#[]⟩, .slice none 0 0, .int .i64 x0]) (by simp [results, Tryz.results26, go_sem, x5]) rfl ?_
    rw [G2.out]
    exact ⟨hb5, none, 0, h, rfl, tm0_R h, Mk.refl (H.below hb5)⟩
  rw [q6]
  have G2 : Hid (R = endD (rEta ty.sz 0 0 t.k t.n t.nm ty).1 (rEta ty.sz 0 0 t.k t.n t.nm ty).2.2) := Lib.hid (by rw [G1.out, if_neg (fun e => e q6)])
  clear G1
  have x1 := box4 d1
  have y1 := box2 d3
  have ly := blk_lt d3
  have l1 := blk_lt d1
  have hsz := ((formTy_zero ty).1 q6).1.1
  have q6' := Lib.hid q6
  clear q6
  go_wp2_with fail
  have bw := blk_new w2 (.cells #[.slice none 0 0, .int .i64 0, .int .i64 0] 124)
  have kx := (alloc1 w2 (.cells #[.slice none 0 0, .int .i64 0, .int .i64 0] 124)).2
  have has2 := H.below ab2
  have hl2 := ab2.size
  refine (re_ok ty.sz w2.heap.size (.slice none 0 0) 0 0 t.k t.n t.nm A t.ar.length cap ty _ _ h (has2.below kx) ry0.out (has2.off_new (fun q e => by rw [e]; exact Nat.le_refl _)) hk1 ⟨hn1.1, by omega⟩ (Nat.le_refl _) (by omega) q6'.out (by omega) bw).mono ?_
  rintro e w3 ⟨k3, hcn3, cs', h3, rfl, r3, m3⟩
  obtain ⟨P, hP⟩ : ∃ P, rEta ty.sz 0 0 t.k t.n t.nm ty = P := ⟨_, rfl⟩
  rw [hP] at hcn3 r3 G2
  clear hP x1 y1 l1 ly
  obtain ⟨u, s2, E2⟩ := P
  simp only [] at hcn3 r3 G2
  have kk3 : Below w.heap.size w w3 := ((Kp.of_below (fun q => q = w2.heap.size) (below_then ab2 kx hl2)).trans k3 (fun q hq e => e)).below (fun i hi e => by omega)
  have lw2 := blk_lt d2
  have e2 := blk_kp (box_below d2 kx) k3 (by omega)
  have r3' := Lib.hid r3
  obtain ⟨A3, c3, rfl, _⟩ := r3.open_
  have mm3 : Mk w h w3 h3 := m3.from_ (w0 := w) (by simp; omega)
  have off3 : Off h3 (fun q => q = w.heap.size + 1 + 1) := m3.off (H.off_new (fun k hk => by omega)) (fun k hk => by simp; omega)
  clear m3 k3 kx bw d1 d2 d3 has2
  go_wp2_with fail
  have hcn4 := blk_alloc hcn3 (.cells #[.int .i64 u.k, .int .i64 u.n, .string u.nm, .slice A3 u.ar.length c3] 34)
  have e3 := blk_alloc e2 (.cells #[.int .i64 u.k, .int .i64 u.n, .string u.nm, .slice A3 u.ar.length c3] 34)
  refine (ended_calls w2.heap.size (.slice none 0 0) s2 E2 u _ _ h3 (mm3.has.alloc _) r3'.out hcn4).mono ?_
  rintro e w4 ⟨k4, A4, c4, h4, rfl, r4, m4⟩
  have sz3 := kk3.size
  have ab4 := below_then (kk3.alloc kk3.size (.cells #[.int .i64 u.k, .int .i64 u.n, .string u.nm, .slice A3 u.ar.length c3] 34)) k4 (by simp; omega)
  have e4 := box_below e3 k4
  have m5 : Mk w h w4 h4 := mm3.trans (m4.from_ (w0 := w3) (by simp)) (by omega)
  rw [← G2.out] at r4 ⊢
  obtain ⟨V, E4⟩ := R
  simp only [] at r4 ⊢
  have x2 := box5d e4
  have f2 := blk_frozen e4
  have l2 := blk_lt e4
  have le3 := blk_lt e3
  have off5 : Off h4 (fun q => q = w.heap.size + 1 + 1) := m4.off off3 (fun k hk => by simp at le3 ⊢; omega)
  clear hcn4 e3 e2 hcn3 k4 m4
  go_wp2_with fail
  obtain ⟨W5, hW5, b5, kp5⟩ : ∃ W5, (((((w4.setCell ⟨w.heap.size + 1 + 1, 0, none⟩ (.int .i64 V.k)).setCell ⟨w.heap.size + 1 + 1, 1, none⟩ (.int .i64 V.n)).setCell ⟨w.heap.size + 1 + 1, 2, none⟩ (.string V.nm)).setCell ⟨w.heap.size + 1 + 1, 3, none⟩ (.slice A4 V.ar.length c4)).setCell ⟨w.heap.size + 1 + 1, 4, none⟩ (.int .i64 E4)) = W5 ∧ W5.heap[w.heap.size + 1 + 1]? = some (.cells #[.int .i64 V.k, .int .i64 V.n, .string V.nm, .slice A4 V.ar.length c4, .int .i64 E4] 50) ∧ Kp (fun q => q = w.heap.size + 1 + 1) w4 W5 := ⟨_, rfl, (set5d e4 _ _ _ _ _).1, (set5d e4 _ _ _ _ _).2⟩
  rw [hW5]
  have x5 := box5d b5
  have hb5 : Below w.heap.size w W5 := ((Kp.of_below (fun q => q = w.heap.size + 1 + 1) ab4).trans kp5 (fun i hi e => e)).below (fun i hi e => by omega)
  refine bodyPost_ret (v := .agg #[.int .i64 V.k, .int .i64 V.n, .string V.nm, .slice A4 V.ar.length c4, .int .i64 E4]) (by simp [results, Tryz.results26, go_sem, x5]) rfl ?_
  exact ⟨hb5, A4, c4, h4, rfl, r4, m5.world (m5.has.kp kp5 off5)⟩
end Go.Proofs.YtpgbeapojjinmaaGreatDoor
