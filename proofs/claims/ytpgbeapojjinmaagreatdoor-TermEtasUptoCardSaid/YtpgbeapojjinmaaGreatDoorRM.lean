/- The document's Shift and Lift (package peculiumref04). No law is proved here. -/
import Derived.Test.YtpgbeapojjinmaaGreatDoorRB
import Derived.Test.YtpgbeapojjinmaaGreatDoorMR
set_option linter.unusedVariables false
set_option linter.unusedSimpArgs false
namespace Go.Proofs.YtpgbeapojjinmaaGreatDoor
open Go.RowKit Go.Shelf Go.Proofs.YtpgbeapojjinmaaGreatDoorW.PrintLast
/-- What a function of the document returns that may have an error. -/
def DoneRes (w : World) (h : Snap) (d : Tm × Int) (e : Ending) (w' : World) : Prop := Below w.heap.size w w' ∧ ∃ (A : Option Addr) (c : Nat) (h' : Snap), e = .returned (.agg #[.int .i64 d.1.k, .int .i64 d.1.n, .string d.1.nm, .slice A d.1.ar.length c, .int .i64 d.2]) ∧ TmR h' d.1 [.int .i64 d.1.k, .int .i64 d.1.n, .string d.1.nm, .slice A d.1.ar.length c] ∧ Mk w h w' h'
theorem raw_le {t : Tm} (h : rawP t = 0) : t.sz ≤ 4000 ∧ allN smallN t = true := ⟨((rawP_zero t).1 h).1.1, raw_small t ((rawP_zero t).1 h).2⟩
theorem box5d {w : World} {b : Nat} {x0 x1 x2 x3 x4 : Value} {T : TypeId} (hb : w.heap[b]? = some (.cells #[x0, x1, x2, x3, x4] T)) : w.cell? ⟨b, 0, none⟩ = some x0 ∧ w.cell? ⟨b, 1, none⟩ = some x1 ∧ w.cell? ⟨b, 2, none⟩ = some x2 ∧ w.cell? ⟨b, 3, none⟩ = some x3 ∧ w.cell? ⟨b, 4, none⟩ = some x4 :=
  ⟨(blk_cell hb 0).trans rfl, (blk_cell hb 1).trans rfl, (blk_cell hb 2).trans rfl, (blk_cell hb 3).trans rfl, (blk_cell hb 4).trans rfl⟩
theorem set5d {w : World} {b : Nat} {x0 x1 x2 x3 x4 : Value} {T : TypeId} (hb : w.heap[b]? = some (.cells #[x0, x1, x2, x3, x4] T)) (y0 y1 y2 y3 y4 : Value) :
    (((((w.setCell ⟨b, 0, none⟩ y0).setCell ⟨b, 1, none⟩ y1).setCell ⟨b, 2, none⟩ y2).setCell ⟨b, 3, none⟩ y3).setCell ⟨b, 4, none⟩ y4).heap[b]? = some (.cells #[y0, y1, y2, y3, y4] T) ∧
      Kp (fun q => q = b) w (((((w.setCell ⟨b, 0, none⟩ y0).setCell ⟨b, 1, none⟩ y1).setCell ⟨b, 2, none⟩ y2).setCell ⟨b, 3, none⟩ y3).setCell ⟨b, 4, none⟩ y4) :=
  ⟨by have := blk_set (blk_set (blk_set (blk_set (blk_set hb 0 y0) 1 y1) 2 y2) 3 y3) 4 y4; simpa using this, ((((((Kp.refl (fun q => q = b) w).set (p := ⟨b, 0, none⟩) (.inl rfl) y0).set (p := ⟨b, 1, none⟩) (.inl rfl) y1).set (p := ⟨b, 2, none⟩) (.inl rfl) y2).set (p := ⟨b, 3, none⟩) (.inl rfl) y3).set (p := ⟨b, 4, none⟩) (.inl rfl) y4)⟩
set_option maxRecDepth 100000 in
set_option maxHeartbeats 8000000 in
theorem RShift_calls (t : Tm) (up from_ : Int) (cs : List Value) (w : World) (h : Snap) (H : Has w h) (r : TmR h t cs) :
    Calls Tryz.prog 47 #[.agg cs.toArray, .int .i64 up, .int .i64 from_] w (DoneRes w h (rMove (rsT up from_) t up from_)) := by
  have r0 := Lib.hid r
  obtain ⟨A, cap, rfl, hl, hlm, hk1, hn1, hr⟩ := r.open_
  have hu34 := Tryz.underlying34
  have hu50 := Tryz.underlying50
  obtain ⟨R, hR⟩ : ∃ R, rMove (rsT up from_) t up from_ = R := ⟨_, rfl⟩
  rw [hR]
  unfold rMove at hR
  have hR' := Lib.hid hR
  clear hR
  obtain ⟨a1, a2, ab⟩ := alloc2 w (.cells #[.int .i64 t.k, .int .i64 t.n, .string t.nm, .slice A t.ar.length cap] 34) (.cells #[.int .i64 0, .int .i64 0, .string ⟨#[]⟩, .slice none 0 0, .int .i64 0] 50)
  go_enter Tryz.func47, Tryz.ntmps47
  go_wp2_with fail
  refine (RRaw_calls t _ _ h (H.below ab) r0.out).mono ?_
  rintro e w1 ⟨rfl, k1⟩
  have ab1 := below_then ab k1 ab.size
  have b1 := box_below a1 k1
  have b2 := box_below a2 k1
  clear a1 a2 ab k1
  have x1 := box4 b1
  have l1 := blk_lt b1
  by_cases q0 : rawP t = 0
  · have q0' := Lib.hid q0
    rw [q0]
    by_cases c : up < 0 ∨ (100000 < up ∨ (from_ < 0 ∨ 100000 < from_))
    · have G : Hid (R = (tm0, 1)) := Lib.hid (by rw [← hR'.out]; unfold askedP; rw [if_pos q0, if_pos c, if_neg (by omega)])
      clear q0
      rcases c with c | c
      · have f2 := blk_frozen b2
        have x2 := box5d b2
        have l2 := blk_lt b2
        go_wp2_with fail
        obtain ⟨W5, hW5, b5, kp5⟩ : ∃ W5, (((((w1.setCell ⟨w.heap.size + 1, 0, none⟩ (.int .i64 0)).setCell ⟨w.heap.size + 1, 1, none⟩ (.int .i64 0)).setCell ⟨w.heap.size + 1, 2, none⟩ (.string ⟨#[]⟩)).setCell ⟨w.heap.size + 1, 3, none⟩ (.slice none 0 0)).setCell ⟨w.heap.size + 1, 4, none⟩ (.int .i64 1)) = W5 ∧ W5.heap[w.heap.size + 1]? = some (.cells #[.int .i64 0, .int .i64 0, .string ⟨#[]⟩, .slice none 0 0, .int .i64 1] 50) ∧ Kp (fun q => q = w.heap.size + 1) w1 W5 := ⟨_, rfl, (set5d b2 _ _ _ _ _).1, (set5d b2 _ _ _ _ _).2⟩
        rw [hW5]
        have x5 := box5d b5
        have hb5 : Below w.heap.size w W5 := ((Kp.of_below (fun q => q = w.heap.size + 1) ab1).trans kp5 (fun i hi e => e)).below (fun i hi e => by omega)
        refine bodyPost_ret (v := .agg #[.int .i64 0, .int .i64 0, .string ⟨#[]⟩, .slice none 0 0, .int .i64 1]) (by simp [results, Tryz.results47, go_sem, x5]) rfl ?_
        rw [G.out]
        exact ⟨hb5, none, 0, h, rfl, tm0_R h, Mk.refl (H.below hb5)⟩
      · by_cases c0 : up < 0
        · have f2 := blk_frozen b2
          have x2 := box5d b2
          have l2 := blk_lt b2
          go_wp2_with fail
          obtain ⟨W5, hW5, b5, kp5⟩ : ∃ W5, (((((w1.setCell ⟨w.heap.size + 1, 0, none⟩ (.int .i64 0)).setCell ⟨w.heap.size + 1, 1, none⟩ (.int .i64 0)).setCell ⟨w.heap.size + 1, 2, none⟩ (.string ⟨#[]⟩)).setCell ⟨w.heap.size + 1, 3, none⟩ (.slice none 0 0)).setCell ⟨w.heap.size + 1, 4, none⟩ (.int .i64 1)) = W5 ∧ W5.heap[w.heap.size + 1]? = some (.cells #[.int .i64 0, .int .i64 0, .string ⟨#[]⟩, .slice none 0 0, .int .i64 1] 50) ∧ Kp (fun q => q = w.heap.size + 1) w1 W5 := ⟨_, rfl, (set5d b2 _ _ _ _ _).1, (set5d b2 _ _ _ _ _).2⟩
          rw [hW5]
          have x5 := box5d b5
          have hb5 : Below w.heap.size w W5 := ((Kp.of_below (fun q => q = w.heap.size + 1) ab1).trans kp5 (fun i hi e => e)).below (fun i hi e => by omega)
          refine bodyPost_ret (v := .agg #[.int .i64 0, .int .i64 0, .string ⟨#[]⟩, .slice none 0 0, .int .i64 1]) (by simp [results, Tryz.results47, go_sem, x5]) rfl ?_
          rw [G.out]
          exact ⟨hb5, none, 0, h, rfl, tm0_R h, Mk.refl (H.below hb5)⟩
        · rcases c with c | c
          · have f2 := blk_frozen b2
            have x2 := box5d b2
            have l2 := blk_lt b2
            go_wp2_with fail
            obtain ⟨W5, hW5, b5, kp5⟩ : ∃ W5, (((((w1.setCell ⟨w.heap.size + 1, 0, none⟩ (.int .i64 0)).setCell ⟨w.heap.size + 1, 1, none⟩ (.int .i64 0)).setCell ⟨w.heap.size + 1, 2, none⟩ (.string ⟨#[]⟩)).setCell ⟨w.heap.size + 1, 3, none⟩ (.slice none 0 0)).setCell ⟨w.heap.size + 1, 4, none⟩ (.int .i64 1)) = W5 ∧ W5.heap[w.heap.size + 1]? = some (.cells #[.int .i64 0, .int .i64 0, .string ⟨#[]⟩, .slice none 0 0, .int .i64 1] 50) ∧ Kp (fun q => q = w.heap.size + 1) w1 W5 := ⟨_, rfl, (set5d b2 _ _ _ _ _).1, (set5d b2 _ _ _ _ _).2⟩
            rw [hW5]
            have x5 := box5d b5
            have hb5 : Below w.heap.size w W5 := ((Kp.of_below (fun q => q = w.heap.size + 1) ab1).trans kp5 (fun i hi e => e)).below (fun i hi e => by omega)
            refine bodyPost_ret (v := .agg #[.int .i64 0, .int .i64 0, .string ⟨#[]⟩, .slice none 0 0, .int .i64 1]) (by simp [results, Tryz.results47, go_sem, x5]) rfl ?_
            rw [G.out]
            exact ⟨hb5, none, 0, h, rfl, tm0_R h, Mk.refl (H.below hb5)⟩
          · by_cases c1 : 100000 < up
            · have f2 := blk_frozen b2
              have x2 := box5d b2
              have l2 := blk_lt b2
              go_wp2_with fail
              obtain ⟨W5, hW5, b5, kp5⟩ : ∃ W5, (((((w1.setCell ⟨w.heap.size + 1, 0, none⟩ (.int .i64 0)).setCell ⟨w.heap.size + 1, 1, none⟩ (.int .i64 0)).setCell ⟨w.heap.size + 1, 2, none⟩ (.string ⟨#[]⟩)).setCell ⟨w.heap.size + 1, 3, none⟩ (.slice none 0 0)).setCell ⟨w.heap.size + 1, 4, none⟩ (.int .i64 1)) = W5 ∧ W5.heap[w.heap.size + 1]? = some (.cells #[.int .i64 0, .int .i64 0, .string ⟨#[]⟩, .slice none 0 0, .int .i64 1] 50) ∧ Kp (fun q => q = w.heap.size + 1) w1 W5 := ⟨_, rfl, (set5d b2 _ _ _ _ _).1, (set5d b2 _ _ _ _ _).2⟩
              rw [hW5]
              have x5 := box5d b5
              have hb5 : Below w.heap.size w W5 := ((Kp.of_below (fun q => q = w.heap.size + 1) ab1).trans kp5 (fun i hi e => e)).below (fun i hi e => by omega)
              refine bodyPost_ret (v := .agg #[.int .i64 0, .int .i64 0, .string ⟨#[]⟩, .slice none 0 0, .int .i64 1]) (by simp [results, Tryz.results47, go_sem, x5]) rfl ?_
              rw [G.out]
              exact ⟨hb5, none, 0, h, rfl, tm0_R h, Mk.refl (H.below hb5)⟩
            · rcases c with c | c
              · have f2 := blk_frozen b2
                have x2 := box5d b2
                have l2 := blk_lt b2
                go_wp2_with fail
                obtain ⟨W5, hW5, b5, kp5⟩ : ∃ W5, (((((w1.setCell ⟨w.heap.size + 1, 0, none⟩ (.int .i64 0)).setCell ⟨w.heap.size + 1, 1, none⟩ (.int .i64 0)).setCell ⟨w.heap.size + 1, 2, none⟩ (.string ⟨#[]⟩)).setCell ⟨w.heap.size + 1, 3, none⟩ (.slice none 0 0)).setCell ⟨w.heap.size + 1, 4, none⟩ (.int .i64 1)) = W5 ∧ W5.heap[w.heap.size + 1]? = some (.cells #[.int .i64 0, .int .i64 0, .string ⟨#[]⟩, .slice none 0 0, .int .i64 1] 50) ∧ Kp (fun q => q = w.heap.size + 1) w1 W5 := ⟨_, rfl, (set5d b2 _ _ _ _ _).1, (set5d b2 _ _ _ _ _).2⟩
                rw [hW5]
                have x5 := box5d b5
                have hb5 : Below w.heap.size w W5 := ((Kp.of_below (fun q => q = w.heap.size + 1) ab1).trans kp5 (fun i hi e => e)).below (fun i hi e => by omega)
                refine bodyPost_ret (v := .agg #[.int .i64 0, .int .i64 0, .string ⟨#[]⟩, .slice none 0 0, .int .i64 1]) (by simp [results, Tryz.results47, go_sem, x5]) rfl ?_
                rw [G.out]
                exact ⟨hb5, none, 0, h, rfl, tm0_R h, Mk.refl (H.below hb5)⟩
              · have c2 : ¬ from_ < 0 := by omega
                have f2 := blk_frozen b2
                have x2 := box5d b2
                have l2 := blk_lt b2
                go_wp2_with fail
                obtain ⟨W5, hW5, b5, kp5⟩ : ∃ W5, (((((w1.setCell ⟨w.heap.size + 1, 0, none⟩ (.int .i64 0)).setCell ⟨w.heap.size + 1, 1, none⟩ (.int .i64 0)).setCell ⟨w.heap.size + 1, 2, none⟩ (.string ⟨#[]⟩)).setCell ⟨w.heap.size + 1, 3, none⟩ (.slice none 0 0)).setCell ⟨w.heap.size + 1, 4, none⟩ (.int .i64 1)) = W5 ∧ W5.heap[w.heap.size + 1]? = some (.cells #[.int .i64 0, .int .i64 0, .string ⟨#[]⟩, .slice none 0 0, .int .i64 1] 50) ∧ Kp (fun q => q = w.heap.size + 1) w1 W5 := ⟨_, rfl, (set5d b2 _ _ _ _ _).1, (set5d b2 _ _ _ _ _).2⟩
                rw [hW5]
                have x5 := box5d b5
                have hb5 : Below w.heap.size w W5 := ((Kp.of_below (fun q => q = w.heap.size + 1) ab1).trans kp5 (fun i hi e => e)).below (fun i hi e => by omega)
                refine bodyPost_ret (v := .agg #[.int .i64 0, .int .i64 0, .string ⟨#[]⟩, .slice none 0 0, .int .i64 1]) (by simp [results, Tryz.results47, go_sem, x5]) rfl ?_
                rw [G.out]
                exact ⟨hb5, none, 0, h, rfl, tm0_R h, Mk.refl (H.below hb5)⟩
    · have hz : askedP t up from_ = 0 := by unfold askedP; rw [if_pos q0, if_neg c]
      have G : Hid (R = if grT (rsT up from_ t) ≤ 100000 then (rsT up from_ t, 0) else (tm0, 2)) := Lib.hid (by rw [← hR'.out, if_pos hz])
      have n0 : ¬ up < 0 := by omega
      have n1 : ¬ 100000 < up := by omega
      have n2 : ¬ from_ < 0 := by omega
      have n3 : ¬ 100000 < from_ := by omega
      have hle := raw_le q0
      clear q0 hz c
      go_wp2_with fail
      refine (rshift_calls t.sz t (Nat.le_refl _) up from_ (by omega) (by omega) _ _ h (H.below ab1) r0.out hle.2).mono ?_
      rintro e w2 ⟨k2, cs', h2, rfl, r2, m2⟩
      obtain ⟨u, hu⟩ : ∃ u, rsT up from_ t = u := ⟨_, rfl⟩
      rw [hu] at r2 G
      clear hu
      have r2' := Lib.hid r2
      obtain ⟨A2, c2, rfl, _⟩ := r2.open_
      have ab2 := below_then ab1 k2 ab1.size
      have b3 := box_below b2 k2
      go_wp2_with fail
      have kx := (alloc1 w2 (.cells #[.int .i64 u.k, .int .i64 u.n, .string u.nm, .slice A2 u.ar.length c2] 34)).2
      have ab3 := below_then ab2 kx ab2.size
      have b4 := box_below b3 kx
      have bx := blk_new w2 (.cells #[.int .i64 u.k, .int .i64 u.n, .string u.nm, .slice A2 u.ar.length c2] 34)
      obtain ⟨W3, hW3⟩ : ∃ W3, w2.alloc (.cells #[.int .i64 u.k, .int .i64 u.n, .string u.nm, .slice A2 u.ar.length c2] 34) = W3 := ⟨_, rfl⟩
      rw [hW3] at ab3 b4 bx kx ⊢
      clear hW3 b3
      refine (greatest_calls u.sz u (Nat.le_refl _) _ _ h2 (m2.has.below kx) r2'.out).mono ?_
      rintro e w4 ⟨rfl, k4⟩
      have ab4 := below_then ab3 k4 ab3.size
      have b5' := box_below b4 k4
      have bx4 := box_below bx k4
      have m4 : Mk w h w4 h2 := (m2.from_ ab1.size).world ((m2.has.below kx).below k4)
      clear b4 bx
      obtain ⟨g, hg⟩ : ∃ g, grT u = g := ⟨_, rfl⟩
      rw [hg] at G ⊢
      clear hg
      by_cases cg : 100000 < g
      · have G1 : Hid (R = (tm0, 2)) := Lib.hid (by rw [G.out, if_neg (by omega)])
        clear G
        have f2 := blk_frozen b5'
        have x2 := box5d b5'
        have l2 := blk_lt b5'
        go_wp2_with fail
        obtain ⟨W5, hW5, b5, kp5⟩ : ∃ W5, (((((w4.setCell ⟨w.heap.size + 1, 0, none⟩ (.int .i64 0)).setCell ⟨w.heap.size + 1, 1, none⟩ (.int .i64 0)).setCell ⟨w.heap.size + 1, 2, none⟩ (.string ⟨#[]⟩)).setCell ⟨w.heap.size + 1, 3, none⟩ (.slice none 0 0)).setCell ⟨w.heap.size + 1, 4, none⟩ (.int .i64 2)) = W5 ∧ W5.heap[w.heap.size + 1]? = some (.cells #[.int .i64 0, .int .i64 0, .string ⟨#[]⟩, .slice none 0 0, .int .i64 2] 50) ∧ Kp (fun q => q = w.heap.size + 1) w4 W5 := ⟨_, rfl, (set5d b5' _ _ _ _ _).1, (set5d b5' _ _ _ _ _).2⟩
        rw [hW5]
        have x5 := box5d b5
        have hb5 : Below w.heap.size w W5 := ((Kp.of_below (fun q => q = w.heap.size + 1) ab4).trans kp5 (fun i hi e => e)).below (fun i hi e => by omega)
        refine bodyPost_ret (v := .agg #[.int .i64 0, .int .i64 0, .string ⟨#[]⟩, .slice none 0 0, .int .i64 2]) (by simp [results, Tryz.results47, go_sem, x5]) rfl ?_
        rw [G1.out]
        exact ⟨hb5, none, 0, h, rfl, tm0_R h, Mk.refl (H.below hb5)⟩
      · have G1 : Hid (R = (u, 0)) := Lib.hid (by rw [G.out, if_pos (by omega)])
        clear G
        have f2 := blk_frozen b5'
        have x2 := box5d b5'
        have l2 := blk_lt b5'
        have xx := box4 bx4
        have lx := blk_lt bx4
        go_wp2_with fail
        obtain ⟨W5, hW5, b5, kp5⟩ : ∃ W5, (((((w4.setCell ⟨w.heap.size + 1, 0, none⟩ (.int .i64 u.k)).setCell ⟨w.heap.size + 1, 1, none⟩ (.int .i64 u.n)).setCell ⟨w.heap.size + 1, 2, none⟩ (.string u.nm)).setCell ⟨w.heap.size + 1, 3, none⟩ (.slice A2 u.ar.length c2)).setCell ⟨w.heap.size + 1, 4, none⟩ (.int .i64 0)) = W5 ∧ W5.heap[w.heap.size + 1]? = some (.cells #[.int .i64 u.k, .int .i64 u.n, .string u.nm, .slice A2 u.ar.length c2, .int .i64 0] 50) ∧ Kp (fun q => q = w.heap.size + 1) w4 W5 := ⟨_, rfl, (set5d b5' _ _ _ _ _).1, (set5d b5' _ _ _ _ _).2⟩
        rw [hW5]
        have x5 := box5d b5
        have hb5 : Below w.heap.size w W5 := ((Kp.of_below (fun q => q = w.heap.size + 1) ab4).trans kp5 (fun i hi e => e)).below (fun i hi e => by omega)
        refine bodyPost_ret (v := .agg #[.int .i64 u.k, .int .i64 u.n, .string u.nm, .slice A2 u.ar.length c2, .int .i64 0]) (by simp [results, Tryz.results47, go_sem, x5]) rfl ?_
        rw [G1.out]
        have off4 : Off h2 (fun q => q = w.heap.size + 1) := m2.off (H.off_new (fun k hk => by omega)) (fun k hk => by have := blk_lt b2; omega)
        exact ⟨hb5, A2, c2, h2, rfl, r2'.out, m4.world (m4.has.kp kp5 off4)⟩
  · have G : Hid (R = (tm0, rawP t)) := Lib.hid (by rw [← hR'.out]; unfold askedP; rw [if_neg q0, if_neg q0])
    have q0' : (rawP t != 0) = true := by simp [q0]
    clear q0
    generalize rawP t = x at *
    have f2 := blk_frozen b2
    have x2 := box5d b2
    have l2 := blk_lt b2
    go_wp2_with fail
    obtain ⟨W5, hW5, b5, kp5⟩ : ∃ W5, (((((w1.setCell ⟨w.heap.size + 1, 0, none⟩ (.int .i64 0)).setCell ⟨w.heap.size + 1, 1, none⟩ (.int .i64 0)).setCell ⟨w.heap.size + 1, 2, none⟩ (.string ⟨#[]⟩)).setCell ⟨w.heap.size + 1, 3, none⟩ (.slice none 0 0)).setCell ⟨w.heap.size + 1, 4, none⟩ (.int .i64 x)) = W5 ∧ W5.heap[w.heap.size + 1]? = some (.cells #[.int .i64 0, .int .i64 0, .string ⟨#[]⟩, .slice none 0 0, .int .i64 x] 50) ∧ Kp (fun q => q = w.heap.size + 1) w1 W5 := ⟨_, rfl, (set5d b2 _ _ _ _ _).1, (set5d b2 _ _ _ _ _).2⟩
    rw [hW5]
    have x5 := box5d b5
    have hb5 : Below w.heap.size w W5 := ((Kp.of_below (fun q => q = w.heap.size + 1) ab1).trans kp5 (fun i hi e => e)).below (fun i hi e => by omega)
    refine bodyPost_ret (v := .agg #[.int .i64 0, .int .i64 0, .string ⟨#[]⟩, .slice none 0 0, .int .i64 x]) (by simp [results, Tryz.results47, go_sem, x5]) rfl ?_
    rw [G.out]
    exact ⟨hb5, none, 0, h, rfl, tm0_R h, Mk.refl (H.below hb5)⟩
set_option maxRecDepth 100000 in
set_option maxHeartbeats 8000000 in
theorem RLift_calls (t : Tm) (up from_ : Int) (cs : List Value) (w : World) (h : Snap) (H : Has w h) (r : TmR h t cs) :
    Calls Tryz.prog 48 #[.agg cs.toArray, .int .i64 up, .int .i64 from_] w (DoneRes w h (rMove (rlT up from_) t up from_)) := by
  have r0 := Lib.hid r
  obtain ⟨A, cap, rfl, hl, hlm, hk1, hn1, hr⟩ := r.open_
  have hu34 := Tryz.underlying34
  have hu50 := Tryz.underlying50
  obtain ⟨R, hR⟩ : ∃ R, rMove (rlT up from_) t up from_ = R := ⟨_, rfl⟩
  rw [hR]
  unfold rMove at hR
  have hR' := Lib.hid hR
  clear hR
  obtain ⟨a1, a2, ab⟩ := alloc2 w (.cells #[.int .i64 t.k, .int .i64 t.n, .string t.nm, .slice A t.ar.length cap] 34) (.cells #[.int .i64 0, .int .i64 0, .string ⟨#[]⟩, .slice none 0 0, .int .i64 0] 50)
  go_enter Tryz.func48, Tryz.ntmps48
  go_wp2_with fail
  refine (RRaw_calls t _ _ h (H.below ab) r0.out).mono ?_
  rintro e w1 ⟨rfl, k1⟩
  have ab1 := below_then ab k1 ab.size
  have b1 := box_below a1 k1
  have b2 := box_below a2 k1
  clear a1 a2 ab k1
  have x1 := box4 b1
  have l1 := blk_lt b1
  by_cases q0 : rawP t = 0
  · have q0' := Lib.hid q0
    rw [q0]
    by_cases c : up < 0 ∨ (100000 < up ∨ (from_ < 0 ∨ 100000 < from_))
    · have G : Hid (R = (tm0, 1)) := Lib.hid (by rw [← hR'.out]; unfold askedP; rw [if_pos q0, if_pos c, if_neg (by omega)])
      clear q0
      rcases c with c | c
      · have f2 := blk_frozen b2
        have x2 := box5d b2
        have l2 := blk_lt b2
        go_wp2_with fail
        obtain ⟨W5, hW5, b5, kp5⟩ : ∃ W5, (((((w1.setCell ⟨w.heap.size + 1, 0, none⟩ (.int .i64 0)).setCell ⟨w.heap.size + 1, 1, none⟩ (.int .i64 0)).setCell ⟨w.heap.size + 1, 2, none⟩ (.string ⟨#[]⟩)).setCell ⟨w.heap.size + 1, 3, none⟩ (.slice none 0 0)).setCell ⟨w.heap.size + 1, 4, none⟩ (.int .i64 1)) = W5 ∧ W5.heap[w.heap.size + 1]? = some (.cells #[.int .i64 0, .int .i64 0, .string ⟨#[]⟩, .slice none 0 0, .int .i64 1] 50) ∧ Kp (fun q => q = w.heap.size + 1) w1 W5 := ⟨_, rfl, (set5d b2 _ _ _ _ _).1, (set5d b2 _ _ _ _ _).2⟩
        rw [hW5]
        have x5 := box5d b5
        have hb5 : Below w.heap.size w W5 := ((Kp.of_below (fun q => q = w.heap.size + 1) ab1).trans kp5 (fun i hi e => e)).below (fun i hi e => by omega)
        refine bodyPost_ret (v := .agg #[.int .i64 0, .int .i64 0, .string ⟨#[]⟩, .slice none 0 0, .int .i64 1]) (by simp [results, Tryz.results48, go_sem, x5]) rfl ?_
        rw [G.out]
        exact ⟨hb5, none, 0, h, rfl, tm0_R h, Mk.refl (H.below hb5)⟩
      · by_cases c0 : up < 0
        · have f2 := blk_frozen b2
          have x2 := box5d b2
          have l2 := blk_lt b2
          go_wp2_with fail
          obtain ⟨W5, hW5, b5, kp5⟩ : ∃ W5, (((((w1.setCell ⟨w.heap.size + 1, 0, none⟩ (.int .i64 0)).setCell ⟨w.heap.size + 1, 1, none⟩ (.int .i64 0)).setCell ⟨w.heap.size + 1, 2, none⟩ (.string ⟨#[]⟩)).setCell ⟨w.heap.size + 1, 3, none⟩ (.slice none 0 0)).setCell ⟨w.heap.size + 1, 4, none⟩ (.int .i64 1)) = W5 ∧ W5.heap[w.heap.size + 1]? = some (.cells #[.int .i64 0, .int .i64 0, .string ⟨#[]⟩, .slice none 0 0, .int .i64 1] 50) ∧ Kp (fun q => q = w.heap.size + 1) w1 W5 := ⟨_, rfl, (set5d b2 _ _ _ _ _).1, (set5d b2 _ _ _ _ _).2⟩
          rw [hW5]
          have x5 := box5d b5
          have hb5 : Below w.heap.size w W5 := ((Kp.of_below (fun q => q = w.heap.size + 1) ab1).trans kp5 (fun i hi e => e)).below (fun i hi e => by omega)
          refine bodyPost_ret (v := .agg #[.int .i64 0, .int .i64 0, .string ⟨#[]⟩, .slice none 0 0, .int .i64 1]) (by simp [results, Tryz.results48, go_sem, x5]) rfl ?_
          rw [G.out]
          exact ⟨hb5, none, 0, h, rfl, tm0_R h, Mk.refl (H.below hb5)⟩
        · rcases c with c | c
          · have f2 := blk_frozen b2
            have x2 := box5d b2
            have l2 := blk_lt b2
            go_wp2_with fail
            obtain ⟨W5, hW5, b5, kp5⟩ : ∃ W5, (((((w1.setCell ⟨w.heap.size + 1, 0, none⟩ (.int .i64 0)).setCell ⟨w.heap.size + 1, 1, none⟩ (.int .i64 0)).setCell ⟨w.heap.size + 1, 2, none⟩ (.string ⟨#[]⟩)).setCell ⟨w.heap.size + 1, 3, none⟩ (.slice none 0 0)).setCell ⟨w.heap.size + 1, 4, none⟩ (.int .i64 1)) = W5 ∧ W5.heap[w.heap.size + 1]? = some (.cells #[.int .i64 0, .int .i64 0, .string ⟨#[]⟩, .slice none 0 0, .int .i64 1] 50) ∧ Kp (fun q => q = w.heap.size + 1) w1 W5 := ⟨_, rfl, (set5d b2 _ _ _ _ _).1, (set5d b2 _ _ _ _ _).2⟩
            rw [hW5]
            have x5 := box5d b5
            have hb5 : Below w.heap.size w W5 := ((Kp.of_below (fun q => q = w.heap.size + 1) ab1).trans kp5 (fun i hi e => e)).below (fun i hi e => by omega)
            refine bodyPost_ret (v := .agg #[.int .i64 0, .int .i64 0, .string ⟨#[]⟩, .slice none 0 0, .int .i64 1]) (by simp [results, Tryz.results48, go_sem, x5]) rfl ?_
            rw [G.out]
            exact ⟨hb5, none, 0, h, rfl, tm0_R h, Mk.refl (H.below hb5)⟩
          · by_cases c1 : 100000 < up
            · have f2 := blk_frozen b2
              have x2 := box5d b2
              have l2 := blk_lt b2
              go_wp2_with fail
              obtain ⟨W5, hW5, b5, kp5⟩ : ∃ W5, (((((w1.setCell ⟨w.heap.size + 1, 0, none⟩ (.int .i64 0)).setCell ⟨w.heap.size + 1, 1, none⟩ (.int .i64 0)).setCell ⟨w.heap.size + 1, 2, none⟩ (.string ⟨#[]⟩)).setCell ⟨w.heap.size + 1, 3, none⟩ (.slice none 0 0)).setCell ⟨w.heap.size + 1, 4, none⟩ (.int .i64 1)) = W5 ∧ W5.heap[w.heap.size + 1]? = some (.cells #[.int .i64 0, .int .i64 0, .string ⟨#[]⟩, .slice none 0 0, .int .i64 1] 50) ∧ Kp (fun q => q = w.heap.size + 1) w1 W5 := ⟨_, rfl, (set5d b2 _ _ _ _ _).1, (set5d b2 _ _ _ _ _).2⟩
              rw [hW5]
              have x5 := box5d b5
              have hb5 : Below w.heap.size w W5 := ((Kp.of_below (fun q => q = w.heap.size + 1) ab1).trans kp5 (fun i hi e => e)).below (fun i hi e => by omega)
              refine bodyPost_ret (v := .agg #[.int .i64 0, .int .i64 0, .string ⟨#[]⟩, .slice none 0 0, .int .i64 1]) (by simp [results, Tryz.results48, go_sem, x5]) rfl ?_
              rw [G.out]
              exact ⟨hb5, none, 0, h, rfl, tm0_R h, Mk.refl (H.below hb5)⟩
            · rcases c with c | c
              · have f2 := blk_frozen b2
                have x2 := box5d b2
                have l2 := blk_lt b2
                go_wp2_with fail
                obtain ⟨W5, hW5, b5, kp5⟩ : ∃ W5, (((((w1.setCell ⟨w.heap.size + 1, 0, none⟩ (.int .i64 0)).setCell ⟨w.heap.size + 1, 1, none⟩ (.int .i64 0)).setCell ⟨w.heap.size + 1, 2, none⟩ (.string ⟨#[]⟩)).setCell ⟨w.heap.size + 1, 3, none⟩ (.slice none 0 0)).setCell ⟨w.heap.size + 1, 4, none⟩ (.int .i64 1)) = W5 ∧ W5.heap[w.heap.size + 1]? = some (.cells #[.int .i64 0, .int .i64 0, .string ⟨#[]⟩, .slice none 0 0, .int .i64 1] 50) ∧ Kp (fun q => q = w.heap.size + 1) w1 W5 := ⟨_, rfl, (set5d b2 _ _ _ _ _).1, (set5d b2 _ _ _ _ _).2⟩
                rw [hW5]
                have x5 := box5d b5
                have hb5 : Below w.heap.size w W5 := ((Kp.of_below (fun q => q = w.heap.size + 1) ab1).trans kp5 (fun i hi e => e)).below (fun i hi e => by omega)
                refine bodyPost_ret (v := .agg #[.int .i64 0, .int .i64 0, .string ⟨#[]⟩, .slice none 0 0, .int .i64 1]) (by simp [results, Tryz.results48, go_sem, x5]) rfl ?_
                rw [G.out]
                exact ⟨hb5, none, 0, h, rfl, tm0_R h, Mk.refl (H.below hb5)⟩
              · have c2 : ¬ from_ < 0 := by omega
                have f2 := blk_frozen b2
                have x2 := box5d b2
                have l2 := blk_lt b2
                go_wp2_with fail
                obtain ⟨W5, hW5, b5, kp5⟩ : ∃ W5, (((((w1.setCell ⟨w.heap.size + 1, 0, none⟩ (.int .i64 0)).setCell ⟨w.heap.size + 1, 1, none⟩ (.int .i64 0)).setCell ⟨w.heap.size + 1, 2, none⟩ (.string ⟨#[]⟩)).setCell ⟨w.heap.size + 1, 3, none⟩ (.slice none 0 0)).setCell ⟨w.heap.size + 1, 4, none⟩ (.int .i64 1)) = W5 ∧ W5.heap[w.heap.size + 1]? = some (.cells #[.int .i64 0, .int .i64 0, .string ⟨#[]⟩, .slice none 0 0, .int .i64 1] 50) ∧ Kp (fun q => q = w.heap.size + 1) w1 W5 := ⟨_, rfl, (set5d b2 _ _ _ _ _).1, (set5d b2 _ _ _ _ _).2⟩
                rw [hW5]
                have x5 := box5d b5
                have hb5 : Below w.heap.size w W5 := ((Kp.of_below (fun q => q = w.heap.size + 1) ab1).trans kp5 (fun i hi e => e)).below (fun i hi e => by omega)
                refine bodyPost_ret (v := .agg #[.int .i64 0, .int .i64 0, .string ⟨#[]⟩, .slice none 0 0, .int .i64 1]) (by simp [results, Tryz.results48, go_sem, x5]) rfl ?_
                rw [G.out]
                exact ⟨hb5, none, 0, h, rfl, tm0_R h, Mk.refl (H.below hb5)⟩
    · have hz : askedP t up from_ = 0 := by unfold askedP; rw [if_pos q0, if_neg c]
      have G : Hid (R = if grT (rlT up from_ t) ≤ 100000 then (rlT up from_ t, 0) else (tm0, 2)) := Lib.hid (by rw [← hR'.out, if_pos hz])
      have n0 : ¬ up < 0 := by omega
      have n1 : ¬ 100000 < up := by omega
      have n2 : ¬ from_ < 0 := by omega
      have n3 : ¬ 100000 < from_ := by omega
      have hle := raw_le q0
      clear q0 hz c
      go_wp2_with fail
      refine (rlift_calls t.sz t (Nat.le_refl _) up from_ (by omega) (by omega) _ _ h (H.below ab1) r0.out hle.2).mono ?_
      rintro e w2 ⟨k2, cs', h2, rfl, r2, m2⟩
      obtain ⟨u, hu⟩ : ∃ u, rlT up from_ t = u := ⟨_, rfl⟩
      rw [hu] at r2 G
      clear hu
      have r2' := Lib.hid r2
      obtain ⟨A2, c2, rfl, _⟩ := r2.open_
      have ab2 := below_then ab1 k2 ab1.size
      have b3 := box_below b2 k2
      go_wp2_with fail
      have kx := (alloc1 w2 (.cells #[.int .i64 u.k, .int .i64 u.n, .string u.nm, .slice A2 u.ar.length c2] 34)).2
      have ab3 := below_then ab2 kx ab2.size
      have b4 := box_below b3 kx
      have bx := blk_new w2 (.cells #[.int .i64 u.k, .int .i64 u.n, .string u.nm, .slice A2 u.ar.length c2] 34)
      obtain ⟨W3, hW3⟩ : ∃ W3, w2.alloc (.cells #[.int .i64 u.k, .int .i64 u.n, .string u.nm, .slice A2 u.ar.length c2] 34) = W3 := ⟨_, rfl⟩
      rw [hW3] at ab3 b4 bx kx ⊢
      clear hW3 b3
      refine (greatest_calls u.sz u (Nat.le_refl _) _ _ h2 (m2.has.below kx) r2'.out).mono ?_
      rintro e w4 ⟨rfl, k4⟩
      have ab4 := below_then ab3 k4 ab3.size
      have b5' := box_below b4 k4
      have bx4 := box_below bx k4
      have m4 : Mk w h w4 h2 := (m2.from_ ab1.size).world ((m2.has.below kx).below k4)
      clear b4 bx
      obtain ⟨g, hg⟩ : ∃ g, grT u = g := ⟨_, rfl⟩
      rw [hg] at G ⊢
      clear hg
      by_cases cg : 100000 < g
      · have G1 : Hid (R = (tm0, 2)) := Lib.hid (by rw [G.out, if_neg (by omega)])
        clear G
        have f2 := blk_frozen b5'
        have x2 := box5d b5'
        have l2 := blk_lt b5'
        go_wp2_with fail
        obtain ⟨W5, hW5, b5, kp5⟩ : ∃ W5, (((((w4.setCell ⟨w.heap.size + 1, 0, none⟩ (.int .i64 0)).setCell ⟨w.heap.size + 1, 1, none⟩ (.int .i64 0)).setCell ⟨w.heap.size + 1, 2, none⟩ (.string ⟨#[]⟩)).setCell ⟨w.heap.size + 1, 3, none⟩ (.slice none 0 0)).setCell ⟨w.heap.size + 1, 4, none⟩ (.int .i64 2)) = W5 ∧ W5.heap[w.heap.size + 1]? = some (.cells #[.int .i64 0, .int .i64 0, .string ⟨#[]⟩, .slice none 0 0, .int .i64 2] 50) ∧ Kp (fun q => q = w.heap.size + 1) w4 W5 := ⟨_, rfl, (set5d b5' _ _ _ _ _).1, (set5d b5' _ _ _ _ _).2⟩
        rw [hW5]
        have x5 := box5d b5
        have hb5 : Below w.heap.size w W5 := ((Kp.of_below (fun q => q = w.heap.size + 1) ab4).trans kp5 (fun i hi e => e)).below (fun i hi e => by omega)
        refine bodyPost_ret (v := .agg #[.int .i64 0, .int .i64 0, .string ⟨#[]⟩, .slice none 0 0, .int .i64 2]) (by simp [results, Tryz.results48, go_sem, x5]) rfl ?_
        rw [G1.out]
        exact ⟨hb5, none, 0, h, rfl, tm0_R h, Mk.refl (H.below hb5)⟩
      · have G1 : Hid (R = (u, 0)) := Lib.hid (by rw [G.out, if_pos (by omega)])
        clear G
        have f2 := blk_frozen b5'
        have x2 := box5d b5'
        have l2 := blk_lt b5'
        have xx := box4 bx4
        have lx := blk_lt bx4
        go_wp2_with fail
        obtain ⟨W5, hW5, b5, kp5⟩ : ∃ W5, (((((w4.setCell ⟨w.heap.size + 1, 0, none⟩ (.int .i64 u.k)).setCell ⟨w.heap.size + 1, 1, none⟩ (.int .i64 u.n)).setCell ⟨w.heap.size + 1, 2, none⟩ (.string u.nm)).setCell ⟨w.heap.size + 1, 3, none⟩ (.slice A2 u.ar.length c2)).setCell ⟨w.heap.size + 1, 4, none⟩ (.int .i64 0)) = W5 ∧ W5.heap[w.heap.size + 1]? = some (.cells #[.int .i64 u.k, .int .i64 u.n, .string u.nm, .slice A2 u.ar.length c2, .int .i64 0] 50) ∧ Kp (fun q => q = w.heap.size + 1) w4 W5 := ⟨_, rfl, (set5d b5' _ _ _ _ _).1, (set5d b5' _ _ _ _ _).2⟩
        rw [hW5]
        have x5 := box5d b5
        have hb5 : Below w.heap.size w W5 := ((Kp.of_below (fun q => q = w.heap.size + 1) ab4).trans kp5 (fun i hi e => e)).below (fun i hi e => by omega)
        refine bodyPost_ret (v := .agg #[.int .i64 u.k, .int .i64 u.n, .string u.nm, .slice A2 u.ar.length c2, .int .i64 0]) (by simp [results, Tryz.results48, go_sem, x5]) rfl ?_
        rw [G1.out]
        have off4 : Off h2 (fun q => q = w.heap.size + 1) := m2.off (H.off_new (fun k hk => by omega)) (fun k hk => by have := blk_lt b2; omega)
        exact ⟨hb5, A2, c2, h2, rfl, r2'.out, m4.world (m4.has.kp kp5 off4)⟩
  · have G : Hid (R = (tm0, rawP t)) := Lib.hid (by rw [← hR'.out]; unfold askedP; rw [if_neg q0, if_neg q0])
    have q0' : (rawP t != 0) = true := by simp [q0]
    clear q0
    generalize rawP t = x at *
    have f2 := blk_frozen b2
    have x2 := box5d b2
    have l2 := blk_lt b2
    go_wp2_with fail
    obtain ⟨W5, hW5, b5, kp5⟩ : ∃ W5, (((((w1.setCell ⟨w.heap.size + 1, 0, none⟩ (.int .i64 0)).setCell ⟨w.heap.size + 1, 1, none⟩ (.int .i64 0)).setCell ⟨w.heap.size + 1, 2, none⟩ (.string ⟨#[]⟩)).setCell ⟨w.heap.size + 1, 3, none⟩ (.slice none 0 0)).setCell ⟨w.heap.size + 1, 4, none⟩ (.int .i64 x)) = W5 ∧ W5.heap[w.heap.size + 1]? = some (.cells #[.int .i64 0, .int .i64 0, .string ⟨#[]⟩, .slice none 0 0, .int .i64 x] 50) ∧ Kp (fun q => q = w.heap.size + 1) w1 W5 := ⟨_, rfl, (set5d b2 _ _ _ _ _).1, (set5d b2 _ _ _ _ _).2⟩
    rw [hW5]
    have x5 := box5d b5
    have hb5 : Below w.heap.size w W5 := ((Kp.of_below (fun q => q = w.heap.size + 1) ab1).trans kp5 (fun i hi e => e)).below (fun i hi e => by omega)
    refine bodyPost_ret (v := .agg #[.int .i64 0, .int .i64 0, .string ⟨#[]⟩, .slice none 0 0, .int .i64 x]) (by simp [results, Tryz.results48, go_sem, x5]) rfl ?_
    rw [G.out]
    exact ⟨hb5, none, 0, h, rfl, tm0_R h, Mk.refl (H.below hb5)⟩
end Go.Proofs.YtpgbeapojjinmaaGreatDoor
