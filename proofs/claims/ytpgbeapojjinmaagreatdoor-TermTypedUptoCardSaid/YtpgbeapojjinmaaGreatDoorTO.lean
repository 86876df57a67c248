/- The document's typeOf (package peculiumref04). No law is proved here. -/
import Derived.Test.YtpgbeapojjinmaaGreatDoorFB
import Derived.Test.YtpgbeapojjinmaaGreatDoorPA
set_option linter.unusedVariables false
set_option linter.unusedSimpArgs false
namespace Go.Proofs.YtpgbeapojjinmaaGreatDoor
open Go.RowKit Go.Shelf Go.Proofs.YtpgbeapojjinmaaGreatDoorW.PrintLast
/-- What typeOf returns. -/
def RTyRes (w : World) (h : Snap) (o : Option Ty) (e : Ending) (w' : World) : Prop := Below w.heap.size w w' ∧ ∃ (u : Ty) (A : Option Addr) (c : Nat), e = .returned (.tuple #[.agg #[.string u.nm, .slice A u.ar.length c], .bool o.isSome]) ∧ TyR h u [.string u.nm, .slice A u.ar.length c] ∧ (∀ x, o = some x → u = x)
theorem set2f {w : World} {b : Nat} {x0 x1 : Value} {T : TypeId} (hb : w.heap[b]? = some (.cells #[x0, x1] T)) (y0 y1 : Value) :
    ((w.setCell ⟨b, 0, none⟩ y0).setCell ⟨b, 1, none⟩ y1).heap[b]? = some (.cells #[y0, y1] T) ∧ Kp (fun q => q = b) w ((w.setCell ⟨b, 0, none⟩ y0).setCell ⟨b, 1, none⟩ y1) :=
  ⟨by have := blk_set (blk_set hb 0 y0) 1 y1; simpa using this, ((Kp.refl (fun q => q = b) w).set (p := ⟨b, 0, none⟩) (.inl rfl) y0).set (p := ⟨b, 1, none⟩) (.inl rfl) y1⟩
/-- The type of a head, by the document. -/
def rTyO (p : Pg) (s : Sc) (t : Tm) : Option Ty := if t.k = 1 ∨ (t.k = 2 ∨ (t.k = 3 ∨ t.k = 4)) then typeOfP p s.vars s.pars s.bound t else none
theorem fromO_in {l : List Ty} {n : Int} {j : Nat} (hj : j < l.length) (h : n = j) : fromO l n = some l[j] := by
  subst h
  unfold fromO
  rw [if_neg (by omega)]
  simp [hj]
theorem fromO_out {l : List Ty} {n : Int} (h : n < 0 ∨ (l.length : Int) ≤ n) : fromO l n = none := by
  unfold fromO
  rw [if_pos h]
set_option maxRecDepth 100000 in
set_option maxHeartbeats 8000000 in
theorem RtypeOf_calls (p : Pg) (s : Sc) (t : Tm) (ps ss : List Value) (cs : List Value) (w : World) (h : Snap) (H : Has w h) (rp : PgR h p ps) (rs : ScR h s ss) (r : TmR h t cs) (hn0 : 0 ≤ t.n) :
    Calls Tryz.prog 162 #[.agg ps.toArray, .agg ss.toArray, .agg cs.toArray] w (RTyRes w h (rTyO p s t)) := by
  have rp0 := Lib.hid rp
  obtain ⟨A, cap, rfl, hl, hlm, hk1, hn1, hr⟩ := r.open_
  obtain ⟨v0, v1, Z2, n2, z2, Z3, n3, z3, Z4, n4, z4, rfl, rt, rc⟩ := rp
  obtain ⟨At, kt, rfl, _⟩ := id rt
  obtain ⟨Ac, kc, rfl, hcc, hcl, hrc⟩ := id rc
  obtain ⟨s0, s1, s2, rfl, r0, r1, r2⟩ := rs
  obtain ⟨A0, k0, rfl, hl0, hm0, hr0⟩ := id r0
  obtain ⟨A1, k1, rfl, hl1, hm1, hr1⟩ := id r1
  obtain ⟨A2, k2, rfl, hl2, hm2, hr2⟩ := id r2
  have hu28 := Tryz.underlying28
  have hu31 := Tryz.underlying31
  have hu34 := Tryz.underlying34
  have hu36 := Tryz.underlying36
  have hu105 := Tryz.underlying105
  unfold lim at hm0 hm1 hm2 hcl
  clear rt rc r0 r1 r2 r
  obtain ⟨O, hO⟩ : ∃ O, rTyO p s t = O := ⟨_, rfl⟩
  rw [hO]
  unfold rTyO typeOfP at hO
  generalize t.n = n at *
  obtain ⟨a1, a2, a3, a4, ab⟩ := alloc4 w (.cells #[.slice At p.types.length kt, .slice Ac p.consts.length kc, .slice Z2 n2 z2, .slice Z3 n3 z3, .slice Z4 n4 z4] 28) (.cells #[.slice A0 s.vars.length k0, .slice A1 s.pars.length k1, .slice A2 s.bound.length k2] 31) (.cells #[.int .i64 t.k, .int .i64 n, .string t.nm, .slice A t.ar.length cap] 34) (.cells #[.string ⟨#[]⟩, .slice none 0 0] 36)
  by_cases q1 : t.k = 1
  · rw [if_pos (by omega), if_pos q1] at hO
    have g1 : (t.k == 1) = true := beq_iff_eq.2 q1
    clear q1
    have hco : conO p t.nm = if idxC t.nm p.consts 0 < 0 then none else match p.consts[(idxC t.nm p.consts 0).toNat]? with
      | some c => if checkP p.types c.2 = 0 then some c.2 else none
      | none => none := rfl
    rw [hO] at hco
    have hco' := Lib.hid hco
    clear hco hO
    go_enter Tryz.func162, Tryz.ntmps162
    go_wp2_with fail
    go_loopw [8] (fun i wr => ∃ k : Nat, k ≤ p.consts.length ∧ i = .int .i64 k ∧ Hid (idxC t.nm (p.consts.drop k) k = idxC t.nm p.consts 0) ∧ wr.heap[w.heap.size]? = some (.cells #[.slice At p.types.length kt, .slice Ac p.consts.length kc, .slice Z2 n2 z2, .slice Z3 n3 z3, .slice Z4 n4 z4] 28) ∧ wr.heap[w.heap.size + 1 + 1]? = some (.cells #[.int .i64 t.k, .int .i64 n, .string t.nm, .slice A t.ar.length cap] 34) ∧ wr.heap[w.heap.size + 1 + 1 + 1]? = some (.cells #[.string ⟨#[]⟩, .slice none 0 0] 36) ∧ Below w.heap.size w wr) (fun i _ => p.consts.length - (intOf i).toNat)
    case atStart => exact ⟨0, by omega, rfl, by show idxC _ _ _ = _; simp, a1, a3, a4, ab⟩
    case round =>
      obtain ⟨k, hk, rfl, hI, hB, hD, hR, hbel⟩ := hrel
      have x0 : _ = some _ := blk_cell hB 0
      have x1 : _ = some _ := blk_cell hB 1
      have x2 : _ = some _ := blk_cell hB 2
      have x3 : _ = some _ := blk_cell hB 3
      have x4 : _ = some _ := blk_cell hB 4
      obtain ⟨y0, y1, y2, y3⟩ := box4 hD
      have lR := blk_lt hR
      have fR := blk_frozen hR
      have xR := box2 hR
      have hw := H.below hbel
      by_cases hlt : k < p.consts.length
      · obtain ⟨b, o, A', cap', rfl, e0, e1, e2, rt⟩ := hrc k hlt
        have hc0 := hw.cell _ _ e0
        have hc1 := hw.cell _ _ e1
        have hc2 := hw.cell _ _ e2
        cases hq : p.consts[k].1.toList == t.nm.toList
        · have hI' : Hid (idxC t.nm (p.consts.drop (k + 1)) ((k + 1 : Nat) : Int) = idxC t.nm p.consts 0) := by
            have := hI.out
            rw [List.drop_eq_getElem_cons hlt, idxC, if_neg (by rw [hq]; simp)] at this
            exact this
          clear hI
          go_wp2_with fail
          go_quiet (fail)
          all_goals go_wp2_with fail
          refine ⟨?_, by simp [intOf]; omega⟩
          first
          | exact ⟨k + 1, by omega, by go_num, hI', hB, hD, hR, below_drewN hbel _⟩
          | (repeat apply Exists.intro
             refine ⟨?_, rfl⟩
             exact ⟨k + 1, by omega, by go_num, hI', hB, hD, hR, below_drewN hbel _⟩)
        · have hix : idxC t.nm p.consts 0 = k := by
            have := hI.out
            rw [List.drop_eq_getElem_cons hlt, idxC, if_pos hq] at this
            exact this.symm
          have hO : Hid (O = if checkTy p.types p.consts[k].2 = 0 then some p.consts[k].2 else none) := Lib.hid (by
            rw [hco'.out, hix, if_neg (by omega)]
            simp only [Int.toNat_natCast, List.getElem?_eq_getElem hlt, checkP_eq])
          clear hI hco' hix
          go_wp2_with fail
          go_quiet (fail)
          all_goals go_wp2_with fail
          clear x0 x1 x2 x3 x4 y0 y1 y2 y3 lR fR xR hc0 hc1 hc2
          replace hB : (wr.drewN nq).heap[w.heap.size]? = some (.cells #[.slice At p.types.length kt, .slice (some ⟨b, o, none⟩) p.consts.length kc, .slice Z2 n2 z2, .slice Z3 n3 z3, .slice Z4 n4 z4] 28) := hB
          replace hR : (wr.drewN nq).heap[w.heap.size + 1 + 1 + 1]? = some (.cells #[.string ⟨#[]⟩, .slice none 0 0] 36) := hR
          replace hbel := below_drewN hbel nq
          clear hD hw
          obtain ⟨WQ, hWQ⟩ : ∃ WQ, wr.drewN nq = WQ := ⟨_, rfl⟩
          rw [hWQ] at hB hR hbel ⊢
          clear hWQ
          have hw := H.below hbel
          have x0 : _ = some _ := blk_cell hB 0
          have x1 : _ = some _ := blk_cell hB 1
          have x2 : _ = some _ := blk_cell hB 2
          have x3 : _ = some _ := blk_cell hB 3
          have x4 : _ = some _ := blk_cell hB 4
          have hc1 := hw.cell _ _ e1
          have hc2 := hw.cell _ _ e2
          refine rgs 17 (fun V => Below WQ.heap.size WQ V) [15] rfl ((Below.refl _ _).drew) (fun hS => ?_)
          refine rgt 0 (.pointer (some ⟨w.heap.size, 1, none⟩)) rfl (by kernel_rfl) (fun _ _ _ h => h) (by kernel_rfl) hS (fun V hV => by go_simp) ?_
          refine rgt 1 (.slice (some ⟨b, o, none⟩) p.consts.length kc) rfl (by kernel_rfl) (fun _ _ _ h => h) (by kernel_rfl) hS (fun V hV => by have q0 := cell_below x1 hV; go_simp) ?_
          refine rgt 2 (.int .i64 k) rfl (by kernel_rfl) (fun _ _ _ h => h) (by kernel_rfl) hS (fun V hV => by go_simp) ?_
          refine rgt 3 (.pointer (some ⟨b, o + k * 3, none⟩)) rfl (by kernel_rfl) (fun _ _ _ h => h) (by kernel_rfl) hS (fun V hV => by go_simp) ?_
          refine rgt 4 (.pointer (some ⟨b, o + k * 3 + 1, none⟩)) rfl (by kernel_rfl) (fun _ _ _ h => h) (by kernel_rfl) hS (fun V hV => by go_simp) ?_
          refine rgt 5 (.agg #[.string p.consts[k].2.nm, .slice A' p.consts[k].2.ar.length cap']) rfl (by kernel_rfl) (fun _ _ _ h => h) (by kernel_rfl) hS (fun V hV => by have q0 := cell_below hc1 hV; have q1 := cell_below hc2 hV; go_simp) ?_
          refine rgt 6 (.agg #[.slice At p.types.length kt, .slice (some ⟨b, o, none⟩) p.consts.length kc, .slice Z2 n2 z2, .slice Z3 n3 z3, .slice Z4 n4 z4]) rfl (by kernel_rfl) (fun _ _ _ h => h) (by kernel_rfl) hS (fun V hV => by have q0 := cell_below x0 hV; have q1 := cell_below x1 hV; have q2 := cell_below x2 hV; have q3 := cell_below x3 hV; have q4 := cell_below x4 hV; go_simp) ?_
          refine rgt 7 (.pointer (some ⟨w.heap.size, 1, none⟩)) rfl (by kernel_rfl) (fun _ _ _ h => h) (by kernel_rfl) hS (fun V hV => by go_simp) ?_
          refine rgt 8 (.slice (some ⟨b, o, none⟩) p.consts.length kc) rfl (by kernel_rfl) (fun _ _ _ h => h) (by kernel_rfl) hS (fun V hV => by have q0 := cell_below x1 hV; go_simp) ?_
          refine rgt 9 (.int .i64 k) rfl (by kernel_rfl) (fun _ _ _ h => h) (by kernel_rfl) hS (fun V hV => by go_simp) ?_
          refine rgt 10 (.pointer (some ⟨b, o + k * 3, none⟩)) rfl (by kernel_rfl) (fun _ _ _ h => h) (by kernel_rfl) hS (fun V hV => by go_simp) ?_
          refine rgt 11 (.pointer (some ⟨b, o + k * 3 + 1, none⟩)) rfl (by kernel_rfl) (fun _ _ _ h => h) (by kernel_rfl) hS (fun V hV => by go_simp) ?_
          refine rgt 12 (.agg #[.string p.consts[k].2.nm, .slice A' p.consts[k].2.ar.length cap']) rfl (by kernel_rfl) (fun _ _ _ h => h) (by kernel_rfl) hS (fun V hV => by have q0 := cell_below hc1 hV; have q1 := cell_below hc2 hV; go_simp) ?_
          refine rg1 13 rfl (by kernel_rfl) (by decide) (by kernel_rfl) (fun K hK => ?_)
          have hS0 := hS
          go_simp
          refine (RCheckType_calls p p.consts[k].2 _ _ _ h hw.drew rp0.out rt).mono ?_
          rintro e W1 ⟨rfl, k1⟩
          simp only []
          refine hK.out _ _ (below_then hS0 k1 hS0.size) (fun hS => ?_)
          have hbel1 := below_then hbel hS hbel.size
          have hR1 := box_below hR hS
          have lR := blk_lt hR1
          have fR := blk_frozen hR1
          have xR := box2 hR1
          generalize checkTy p.types p.consts[k].2 = z at *
          cases hz : z == 0
          · have hO1 : Hid (O = none) := Lib.hid (by rw [hO.out, if_neg (by simpa using hz)])
            refine rgp 14 (.bool false) rfl (by kernel_rfl) (fun _ _ _ h => h) (by kernel_rfl) (fun V => by go_simp) ?_
            refine rgl 15 rfl (by kernel_rfl) (by decide) (by kernel_rfl) (fun K hK => ?_)
            go_simp
            refine hK.out _ _ ?_
            refine rgp 16 (.bool false) rfl (by kernel_rfl) (fun _ _ _ h => h) (by kernel_rfl) (fun V => by go_simp) ?_
            refine rgd (by kernel_rfl) ?_
            obtain ⟨W5, hW5, b5, kp5⟩ : ∃ W5, ((W1.setCell ⟨w.heap.size + 1 + 1 + 1, 0, none⟩ (.string p.consts[k].2.nm)).setCell ⟨w.heap.size + 1 + 1 + 1, 1, none⟩ (.slice A' p.consts[k].2.ar.length cap')) = W5 ∧ W5.heap[w.heap.size + 1 + 1 + 1]? = some (.cells #[.string p.consts[k].2.nm, .slice A' p.consts[k].2.ar.length cap'] 36) ∧ Kp (fun q => q = w.heap.size + 1 + 1 + 1) W1 W5 := ⟨_, rfl, (set2f hR1 _ _).1, (set2f hR1 _ _).2⟩
            rw [hW5]
            go_wp2_with fail
            have x5 := box2 b5
            refine bodyPost_ret (v := .tuple #[.agg #[.string p.consts[k].2.nm, .slice A' p.consts[k].2.ar.length cap'], .bool false]) (by simp [results, Tryz.results162, go_sem, x5]) rfl ?_
            rw [hO1.out]
            exact ⟨((Kp.of_below (fun q => q = w.heap.size + 1 + 1 + 1) hbel1).trans kp5 (fun i hi e => e)).below (fun i hi e => by omega), p.consts[k].2, A', cap', rfl, rt, nofun⟩
          · have hO1 : Hid (O = some p.consts[k].2) := Lib.hid (by rw [hO.out, if_pos (by simpa using hz)])
            refine rgp 14 (.bool true) rfl (by kernel_rfl) (fun _ _ _ h => h) (by kernel_rfl) (fun V => by go_simp) ?_
            refine rgl 15 rfl (by kernel_rfl) (by decide) (by kernel_rfl) (fun K hK => ?_)
            go_simp
            refine hK.out _ _ ?_
            refine rgp 16 (.bool true) rfl (by kernel_rfl) (fun _ _ _ h => h) (by kernel_rfl) (fun V => by go_simp) ?_
            refine rgd (by kernel_rfl) ?_
            obtain ⟨W5, hW5, b5, kp5⟩ : ∃ W5, ((W1.setCell ⟨w.heap.size + 1 + 1 + 1, 0, none⟩ (.string p.consts[k].2.nm)).setCell ⟨w.heap.size + 1 + 1 + 1, 1, none⟩ (.slice A' p.consts[k].2.ar.length cap')) = W5 ∧ W5.heap[w.heap.size + 1 + 1 + 1]? = some (.cells #[.string p.consts[k].2.nm, .slice A' p.consts[k].2.ar.length cap'] 36) ∧ Kp (fun q => q = w.heap.size + 1 + 1 + 1) W1 W5 := ⟨_, rfl, (set2f hR1 _ _).1, (set2f hR1 _ _).2⟩
            rw [hW5]
            go_wp2_with fail
            have x5 := box2 b5
            refine bodyPost_ret (v := .tuple #[.agg #[.string p.consts[k].2.nm, .slice A' p.consts[k].2.ar.length cap'], .bool true]) (by simp [results, Tryz.results162, go_sem, x5]) rfl ?_
            rw [hO1.out]
            exact ⟨((Kp.of_below (fun q => q = w.heap.size + 1 + 1 + 1) hbel1).trans kp5 (fun i hi e => e)).below (fun i hi e => by omega), p.consts[k].2, A', cap', rfl, rt, fun x e => by cases e; rfl⟩
      · have hix : idxC t.nm p.consts 0 = -1 := by
          have := hI.out
          rw [List.drop_eq_nil_of_le (by omega), idxC] at this
          exact this.symm
        have hO : Hid (O = none) := Lib.hid (by rw [hco'.out, hix]; rfl)
        clear hI hco' hix
        go_wp2_with fail
        obtain ⟨W5, hW5, b5, kp5⟩ : ∃ W5, ((wr.setCell ⟨w.heap.size + 1 + 1 + 1, 0, none⟩ (.string ⟨#[]⟩)).setCell ⟨w.heap.size + 1 + 1 + 1, 1, none⟩ (.slice none 0 0)) = W5 ∧ W5.heap[w.heap.size + 1 + 1 + 1]? = some (.cells #[.string ⟨#[]⟩, .slice none 0 0] 36) ∧ Kp (fun q => q = w.heap.size + 1 + 1 + 1) wr W5 := ⟨_, rfl, (set2f hR _ _).1, (set2f hR _ _).2⟩
        rw [hW5]
        have x5 := box2 b5
        refine bodyPost_ret (v := .tuple #[.agg #[.string ⟨#[]⟩, .slice none 0 0], .bool false]) (by simp [results, Tryz.results162, go_sem, x5]) rfl ?_
        rw [hO.out]
        exact ⟨((Kp.of_below (fun q => q = w.heap.size + 1 + 1 + 1) hbel).trans kp5 (fun i hi e => e)).below (fun i hi e => by omega), ty0, none, 0, rfl, ty0_R h, nofun⟩
  have g1 : (t.k == 1) = false := beq_eq_false_iff_ne.2 q1
  by_cases q2 : t.k = 2
  · rw [if_pos (by omega), if_neg q1, if_pos q2] at hO
    have g2 : (t.k == 2) = true := beq_iff_eq.2 q2
    by_cases c : n < (s.bound.length : Int)
    · clear q1 q2
      obtain ⟨j, hj⟩ : ∃ j : Nat, (s.bound.length : Int) - 1 - n = j := Int.eq_ofNat_of_zero_le (by omega)

      have hjl : j < s.bound.length := by omega
      rw [fromO_in hjl hj] at hO
      obtain ⟨b, o, A', c', rfl, e0, e1, rt⟩ := hr2.get j hjl
      have hw := H.below ab
      have x0 := hw.cell _ _ e0
      have x1 := hw.cell _ _ e1
      have y0 := H.cell _ _ e0
      have y1 := H.cell _ _ e1
      have lb := H.lt e0
      have hO' := Lib.hid hO
      clear hO
      obtain ⟨_, _, _, d4, db⟩ := alloc4 w (.cells #[.slice At p.types.length kt, .slice Ac p.consts.length kc, .slice Z2 n2 z2, .slice Z3 n3 z3, .slice Z4 n4 z4] 28) (.cells #[.slice A0 s.vars.length k0, .slice A1 s.pars.length k1, .slice (some ⟨b, o, none⟩) s.bound.length k2] 31) (.cells #[.int .i64 t.k, .int .i64 n, .string t.nm, .slice A t.ar.length cap] 34) (.cells #[.string s.bound[j].nm, .slice A' s.bound[j].ar.length c'] 36)
      go_enter Tryz.func162, Tryz.ntmps162
      go_wp2_with fail
      have x5 := box2 d4
      refine bodyPost_ret (v := .tuple #[.agg #[.string s.bound[j].nm, .slice A' s.bound[j].ar.length c'], .bool true]) (by simp [results, Tryz.results162, go_sem, x5]) rfl ?_
      rw [← hO'.out]
      exact ⟨db, s.bound[j], A', c', rfl, rt, fun x e => by cases e; rfl⟩
    · rw [fromO_out (by omega)] at hO
      clear q1 q2
      have hO' := Lib.hid hO
      clear hO
      go_enter Tryz.func162, Tryz.ntmps162
      go_wp2_with fail
      have x5 := box2 a4
      refine bodyPost_ret (v := .tuple #[.agg #[.string ⟨#[]⟩, .slice none 0 0], .bool false]) (by simp [results, Tryz.results162, go_sem, x5]) rfl ?_
      rw [← hO'.out]
      exact ⟨ab, ty0, none, 0, rfl, ty0_R h, nofun⟩
  have g2 : (t.k == 2) = false := beq_eq_false_iff_ne.2 q2
  by_cases q3 : t.k = 3
  · rw [if_pos (by omega), if_neg q1, if_neg q2, if_pos q3] at hO
    have g3 : (t.k == 3) = true := beq_iff_eq.2 q3
    by_cases c : n < (s.pars.length : Int)
    · clear q1 q2 q3
      obtain ⟨j, hj⟩ : ∃ j : Nat, n = j := Int.eq_ofNat_of_zero_le (by omega)
      subst hj
      have hjl : j < s.pars.length := by omega
      rw [fromO_in hjl rfl] at hO
      obtain ⟨b, o, A', c', rfl, e0, e1, rt⟩ := hr1.get j hjl
      have hw := H.below ab
      have x0 := hw.cell _ _ e0
      have x1 := hw.cell _ _ e1
      have y0 := H.cell _ _ e0
      have y1 := H.cell _ _ e1
      have lb := H.lt e0
      have hO' := Lib.hid hO
      clear hO
      obtain ⟨_, _, _, d4, db⟩ := alloc4 w (.cells #[.slice At p.types.length kt, .slice Ac p.consts.length kc, .slice Z2 n2 z2, .slice Z3 n3 z3, .slice Z4 n4 z4] 28) (.cells #[.slice A0 s.vars.length k0, .slice (some ⟨b, o, none⟩) s.pars.length k1, .slice A2 s.bound.length k2] 31) (.cells #[.int .i64 t.k, .int .i64 (j : Int), .string t.nm, .slice A t.ar.length cap] 34) (.cells #[.string s.pars[j].nm, .slice A' s.pars[j].ar.length c'] 36)
      go_enter Tryz.func162, Tryz.ntmps162
      go_wp2_with fail
      have x5 := box2 d4
      refine bodyPost_ret (v := .tuple #[.agg #[.string s.pars[j].nm, .slice A' s.pars[j].ar.length c'], .bool true]) (by simp [results, Tryz.results162, go_sem, x5]) rfl ?_
      rw [← hO'.out]
      exact ⟨db, s.pars[j], A', c', rfl, rt, fun x e => by cases e; rfl⟩
    · rw [fromO_out (by omega)] at hO
      clear q1 q2 q3
      have hO' := Lib.hid hO
      clear hO
      go_enter Tryz.func162, Tryz.ntmps162
      go_wp2_with fail
      have x5 := box2 a4
      refine bodyPost_ret (v := .tuple #[.agg #[.string ⟨#[]⟩, .slice none 0 0], .bool false]) (by simp [results, Tryz.results162, go_sem, x5]) rfl ?_
      rw [← hO'.out]
      exact ⟨ab, ty0, none, 0, rfl, ty0_R h, nofun⟩
  have g3 : (t.k == 3) = false := beq_eq_false_iff_ne.2 q3
  by_cases q4 : t.k = 4
  · rw [if_pos (by omega), if_neg q1, if_neg q2, if_neg q3] at hO
    have g4 : (t.k == 4) = true := beq_iff_eq.2 q4
    by_cases c : n < (s.vars.length : Int)
    · clear q1 q2 q3 q4
      obtain ⟨j, hj⟩ : ∃ j : Nat, n = j := Int.eq_ofNat_of_zero_le (by omega)
      subst hj
      have hjl : j < s.vars.length := by omega
      rw [fromO_in hjl rfl] at hO
      obtain ⟨b, o, A', c', rfl, e0, e1, rt⟩ := hr0.get j hjl
      have hw := H.below ab
      have x0 := hw.cell _ _ e0
      have x1 := hw.cell _ _ e1
      have y0 := H.cell _ _ e0
      have y1 := H.cell _ _ e1
      have lb := H.lt e0
      have hO' := Lib.hid hO
      clear hO
      obtain ⟨_, _, _, d4, db⟩ := alloc4 w (.cells #[.slice At p.types.length kt, .slice Ac p.consts.length kc, .slice Z2 n2 z2, .slice Z3 n3 z3, .slice Z4 n4 z4] 28) (.cells #[.slice (some ⟨b, o, none⟩) s.vars.length k0, .slice A1 s.pars.length k1, .slice A2 s.bound.length k2] 31) (.cells #[.int .i64 t.k, .int .i64 (j : Int), .string t.nm, .slice A t.ar.length cap] 34) (.cells #[.string s.vars[j].nm, .slice A' s.vars[j].ar.length c'] 36)
      go_enter Tryz.func162, Tryz.ntmps162
      go_wp2_with fail
      have x5 := box2 d4
      refine bodyPost_ret (v := .tuple #[.agg #[.string s.vars[j].nm, .slice A' s.vars[j].ar.length c'], .bool true]) (by simp [results, Tryz.results162, go_sem, x5]) rfl ?_
      rw [← hO'.out]
      exact ⟨db, s.vars[j], A', c', rfl, rt, fun x e => by cases e; rfl⟩
    · rw [fromO_out (by omega)] at hO
      clear q1 q2 q3 q4
      have hO' := Lib.hid hO
      clear hO
      go_enter Tryz.func162, Tryz.ntmps162
      go_wp2_with fail
      have x5 := box2 a4
      refine bodyPost_ret (v := .tuple #[.agg #[.string ⟨#[]⟩, .slice none 0 0], .bool false]) (by simp [results, Tryz.results162, go_sem, x5]) rfl ?_
      rw [← hO'.out]
      exact ⟨ab, ty0, none, 0, rfl, ty0_R h, nofun⟩
  have g4 : (t.k == 4) = false := beq_eq_false_iff_ne.2 q4
  rw [if_neg (by omega)] at hO
  clear q1 q2 q3 q4
  have hO' := Lib.hid hO
  clear hO
  go_enter Tryz.func162, Tryz.ntmps162
  go_wp2_with fail
  have x5 := box2 a4
  refine bodyPost_ret (v := .tuple #[.agg #[.string ⟨#[]⟩, .slice none 0 0], .bool false]) (by simp [results, Tryz.results162, go_sem, x5]) rfl ?_
  rw [← hO'.out]
  exact ⟨ab, ty0, none, 0, rfl, ty0_R h, nofun⟩
end Go.Proofs.YtpgbeapojjinmaaGreatDoor
