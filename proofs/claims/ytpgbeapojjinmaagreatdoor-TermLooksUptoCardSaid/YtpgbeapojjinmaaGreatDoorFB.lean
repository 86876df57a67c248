/- The guards of chapter 04's statements: TypeNodes, typed, Few, Brief: what they return does not matter. No law is proved here. -/
import Derived.Test.YtpgbeapojjinmaaGreatDoorMB
import Derived.Test.YtpgbeapojjinmaaGreatDoorPB
set_option linter.unusedVariables false
set_option linter.unusedSimpArgs false
namespace Go.Proofs.YtpgbeapojjinmaaGreatDoor
open Go.RowKit Go.Shelf Go.Proofs.YtpgbeapojjinmaaGreatDoorW.PrintLast
set_option maxRecDepth 100000 in
set_option maxHeartbeats 4000000 in
theorem TypeNodes_calls (t : Ty) (cs : List Value) (w : World) (h : Snap) (H : Has w h) (r : TyR h t cs) :
    Calls Tryz.prog 156 #[.agg cs.toArray, .int .i64 2000] w fun e w' => ∃ n : Int, e = .returned (.int .i64 n) ∧ (0 ≤ n ∧ n ≤ 2001) ∧ Below w.heap.size w w' := by
  obtain ⟨A, cap, rfl, hl, hm, hr⟩ := r.open_
  have hu36 := Tryz.underlying36
  have bd := tyN_bd 2000 t 0 1000000 (by omega)
  obtain ⟨b1, ab⟩ := alloc1 w (.cells #[.string t.nm, .slice A t.ar.length cap] 36)
  go_enter Tryz.func156, Tryz.ntmps156
  go_wp2_with fail
  refine (typeNodes_calls t.sz t (Nat.le_refl _) _ _ h (H.below ab) r 0 2000 1000000 (by omega) (by omega) (by omega) (by omega) (by omega)).mono ?_
  rintro e w1 ⟨rfl, k1⟩
  generalize tyN 2000 t 0 1000000 = z at *
  go_wp2_with fail
  go_ret
  exact ⟨_, rfl, by omega, below_then ab k1 ab.size⟩
set_option maxRecDepth 100000 in
set_option maxHeartbeats 4000000 in
theorem ltyped_calls (l : List Ty) (sv : Value) (w : World) (h : Snap) (H : Has w h) (r : TyS h l sv) :
    Calls Tryz.prog 75 #[sv] w fun e w' => ∃ n : Int, e = .returned (.int .i64 n) ∧ (0 ≤ n ∧ n ≤ 1000000000000000) ∧ Below w.heap.size w w' := by
  obtain ⟨A, cap, rfl, hl, hm, hr⟩ := r
  have hu36 := Tryz.underlying36
  unfold lim at hm
  go_enter Tryz.func75, Tryz.ntmps75
  go_wp2_with fail
  go_loopw [3, 4] (fun v i wr => ∃ (k : Nat) (q : Int), k ≤ l.length ∧ i = .int .i64 k ∧ v = .int .i64 q ∧ 0 ≤ q ∧ q ≤ k * 2001 ∧ Below w.heap.size w wr) (fun _ i _ => l.length - (intOf i).toNat)
  case atStart => exact ⟨0, 0, by omega, rfl, rfl, by omega, by omega, Below.refl _ _⟩
  case round =>
    obtain ⟨k, q, hk, rfl, rfl, hq0, hq1, hbel⟩ := hrel
    by_cases hlt : k < l.length
    · obtain ⟨b, o, A', cap', rfl, e0, e1, rt⟩ := hr.get k hlt
      have hw := H.below hbel
      have hc0 := hw.cell _ _ e0
      have hc1 := hw.cell _ _ e1
      go_wp2_with fail
      refine (TypeNodes_calls l[k] _ _ h hw rt).mono ?_
      rintro e w1 ⟨n, rfl, ⟨hn0, hn1⟩, k1⟩
      go_wp2_with fail
      exact ⟨⟨k + 1, q + n, by omega, by go_num, by go_num, by omega, by omega, below_then hbel k1 hbel.size⟩, by simp [intOf]; omega⟩
    · go_wp2_with fail
      go_ret
      exact ⟨q, rfl, ⟨hq0, by omega⟩, hbel⟩
set_option maxRecDepth 100000 in
set_option maxHeartbeats 4000000 in
theorem RSize_calls (t : Tm) (cs : List Value) (w : World) (h : Snap) (H : Has w h) (r : TmR h t cs) :
    Calls Tryz.prog 56 #[.agg cs.toArray] w fun e w' => ∃ n : Int, e = .returned (.int .i64 n) ∧ Below w.heap.size w w' := by
  obtain ⟨A, cap, rfl, hl, hm, _, _, hr⟩ := r.open_
  have hu34 := Tryz.underlying34
  obtain ⟨b1, ab⟩ := alloc1 w (.cells #[.int .i64 t.k, .int .i64 t.n, .string t.nm, .slice A t.ar.length cap] 34)
  go_enter Tryz.func56, Tryz.ntmps56
  go_wp2_with fail
  refine (termNodes_calls t.sz t (Nat.le_refl _) _ _ h (H.below ab) r 0 4000 101 (by omega) (by omega) (by omega) (by omega) (by omega)).mono ?_
  rintro e w1 ⟨rfl, k1⟩
  generalize teN 4000 t 0 101 = z at *
  go_wp2_with fail
  go_ret
  exact ⟨_, rfl, below_then ab k1 ab.size⟩
set_option maxRecDepth 100000 in
set_option maxHeartbeats 4000000 in
theorem Brief_calls (l : List Tm) (sv : Value) (w : World) (h : Snap) (H : Has w h) (r : TmS h l sv) :
    Calls Tryz.prog 19 #[sv] w fun e w' => ∃ b : Bool, e = .returned (.bool b) ∧ Below w.heap.size w w' := by
  obtain ⟨A, cap, rfl, hl, hm, hr⟩ := r
  have hu34 := Tryz.underlying34
  unfold lim at hm
  go_enter Tryz.func19, Tryz.ntmps19
  go_wp2_with fail
  go_loopw [3] (fun i wr => ∃ (k : Nat), k ≤ l.length ∧ i = .int .i64 k ∧ Below w.heap.size w wr) (fun i _ => l.length - (intOf i).toNat)
  case atStart => exact ⟨0, by omega, rfl, Below.refl _ _⟩
  case round =>
    obtain ⟨k, hk, rfl, hbel⟩ := hrel
    by_cases hlt : k < l.length
    · obtain ⟨b, o, A', cap', rfl, e0, e1, e2, e3, rt⟩ := hr.get k hlt
      have hw := H.below hbel
      have hc0 := hw.cell _ _ e0
      have hc1 := hw.cell _ _ e1
      have hc2 := hw.cell _ _ e2
      have hc3 := hw.cell _ _ e3
      go_wp2_with fail
      refine (RSize_calls l[k] _ _ h hw rt).mono ?_
      rintro e w1 ⟨n, rfl, k1⟩
      have hbel1 := below_then hbel k1 hbel.size
      by_cases c1 : 300 < n
      · by_cases c2 : n ≤ 4000
        · go_wp2_with fail
          go_ret
          exact ⟨_, rfl, hbel1⟩
        · go_wp2_with fail
          exact ⟨⟨k + 1, by omega, by go_num, hbel1⟩, by simp [intOf]; omega⟩
      · go_wp2_with fail
        exact ⟨⟨k + 1, by omega, by go_num, hbel1⟩, by simp [intOf]; omega⟩
    · go_wp2_with fail
      go_ret
      exact ⟨_, rfl, hbel⟩
theorem rgof {ops : Array Oper} {Q : Exit → Act → World → Prop} {S : World → Prop} {ds : List Nat} {a : Act} {w : World} {l : Array Bool} {fuel : Nat} (i d : Nat) {oi : Oper} (hi : ops[i]? = some oi) (hd : oi.dst = some d) (hc : takeB .any ops ds l (l.setIfInBounds i true) i = true) (hQ : ∀ c a w, Q (.panic c) (a.put (some d) undef) w → Q (.panic c) a w)
    (hw : Region.wanted oi (yielded ops a.tmps) = false) (hS : S w) (h : wpAnyLast Tryz.prog .any ops Q S ds fuel (l.setIfInBounds i true) (a.put (some d) undef) w) : wpAnyLast Tryz.prog .any ops Q S ds (fuel + 1) l a w :=
  take_ (l.setIfInBounds i true) hi rfl hc (by rw [hd]; exact hQ) (.inr ⟨hw, rfl⟩) hS rfl (by rw [hd]; exact h)
/-- An operation that yields, its slot named. -/
theorem rgnf {ops : Array Oper} {Q : Exit → Act → World → Prop} {S : World → Prop} {ds : List Nat} {a : Act} {w : World} {l : Array Bool} {fuel : Nat} (i d : Nat) (v : Value) {oi : Oper} (hi : ops[i]? = some oi) (hd : oi.dst = some d) (hc : takeB .any ops ds l (l.setIfInBounds i true) i = true) (hQ : ∀ c a w, Q (.panic c) (a.put (some d) v) w → Q (.panic c) a w)
    (hw : Region.wanted oi (yielded ops a.tmps) = true) (hS : S w) (hr : ∀ w, S w → (execOp a.eval oi).run Tryz.prog w = .ok (.value v) w)
    (h : wpAnyLast Tryz.prog .any ops Q S ds fuel (l.setIfInBounds i true) (a.put (some d) v) w) : wpAnyLast Tryz.prog .any ops Q S ds (fuel + 1) l a w :=
  take_ (l.setIfInBounds i true) hi rfl hc (by rw [hd]; exact hQ) (.inl ⟨hw, hr⟩) hS rfl (by rw [hd]; exact h)

/-- What Few returns. -/
def FewRes (s : Sc) (w : World) (e : Ending) (w' : World) : Prop := ∃ b : Bool, e = .returned (.bool b) ∧ (b = true → s.vars.length + s.pars.length + s.bound.length ≤ 200) ∧ Below w.heap.size w w'
theorem bx3f {w : World} {b : Nat} {x y z : Value} {T : TypeId} (hb : w.heap[b]? = some (.cells #[x, y, z] T)) : w.cell? ⟨b, 0, none⟩ = some x ∧ w.cell? ⟨b, 1, none⟩ = some y ∧ w.cell? ⟨b, 2, none⟩ = some z := ⟨(blk_cell hb 0).trans rfl, (blk_cell hb 1).trans rfl, (blk_cell hb 2).trans rfl⟩
set_option maxRecDepth 100000 in
set_option maxHeartbeats 8000000 in
theorem Few_calls (p : Pg) (s : Sc) (ps ss : List Value) (w : World) (h : Snap) (H : Has w h) (rp : PgR h p ps) (rs : ScR h s ss) :
    Calls Tryz.prog 18 #[.agg ps.toArray, .agg ss.toArray] w (FewRes s w) := by
  obtain ⟨v0, v1, Z2, n2, z2, Z3, n3, z3, Z4, n4, z4, rfl, ⟨At, kt, rfl, hl0, hm0, _⟩, Ac, kc, rfl, lc, mc, hco⟩ := rp
  obtain ⟨u0, u1, u2, rfl, r0, r1, r2⟩ := rs
  obtain ⟨A0, k0, rfl, hl1, hm1, _⟩ := id r0
  obtain ⟨A1, k1, rfl, hl2, hm2, _⟩ := id r1
  obtain ⟨A2, k2, rfl, hl3, hm3, _⟩ := id r2
  have hu28 := Tryz.underlying28
  have hu31 := Tryz.underlying31
  have hu36 := Tryz.underlying36
  have hu105 := Tryz.underlying105
  have r0' := Lib.hid r0
  have r1' := Lib.hid r1
  have r2' := Lib.hid r2
  clear r0 r1 r2
  unfold lim at hm0 mc hm1 hm2 hm3
  obtain ⟨b1, b2, ab⟩ := alloc2 w (.cells #[.slice At p.types.length kt, .slice Ac p.consts.length kc, .slice Z2 n2 z2, .slice Z3 n3 z3, .slice Z4 n4 z4] 28) (.cells #[.slice A0 s.vars.length k0, .slice A1 s.pars.length k1, .slice A2 s.bound.length k2] 31)
  have x0 : _ = some _ := blk_cell b1 0
  have x1 : _ = some _ := blk_cell b1 1
  have y := bx3f b2
  by_cases c1 : 60 < p.types.length
  · have c1' : (60 : Int) < (p.types.length : Int) := by omega
    go_enter Tryz.func18, Tryz.ntmps18
    go_wp2_with fail
    go_ret
    exact ⟨_, rfl, nofun, ab⟩
  have c1' : ¬ (60 : Int) < (p.types.length : Int) := by omega
  by_cases c2 : 250 < p.consts.length
  · have c2' : (250 : Int) < (p.consts.length : Int) := by omega
    go_enter Tryz.func18, Tryz.ntmps18
    go_wp2_with fail
    go_ret
    exact ⟨_, rfl, nofun, ab⟩
  have c2' : ¬ (250 : Int) < (p.consts.length : Int) := by omega
  by_cases c3 : 200 < s.vars.length + s.pars.length + s.bound.length
  · have c3' : (200 : Int) < (s.vars.length : Int) + (s.pars.length : Int) + (s.bound.length : Int) := by omega
    go_enter Tryz.func18, Tryz.ntmps18
    go_wp2_with fail
    go_ret
    exact ⟨_, rfl, nofun, ab⟩
  have c3' : ¬ (200 : Int) < (s.vars.length : Int) + (s.pars.length : Int) + (s.bound.length : Int) := by omega
  have hsum := Lib.hid (show s.vars.length + s.pars.length + s.bound.length ≤ 200 by omega)
  go_enter Tryz.func18, Tryz.ntmps18
  go_wp2_with fail
  go_loopw [5, 6] (fun sv i wr => ∃ (ts : List Ty) (xs : List Value), ts.length ≤ p.consts.length ∧ i = .int .i64 ts.length ∧ wr.ownsRow (w.heap.size + 1 + 1) 36 2 sv ts.length xs ∧ Chunks (TyR h) 2 ts xs ∧ wr.heap[w.heap.size]? = some (.cells #[.slice At p.types.length kt, .slice Ac p.consts.length kc, .slice Z2 n2 z2, .slice Z3 n3 z3, .slice Z4 n4 z4] 28) ∧ wr.heap[w.heap.size + 1]? = some (.cells #[.slice A0 s.vars.length k0, .slice A1 s.pars.length k1, .slice A2 s.bound.length k2] 31) ∧ Below w.heap.size w wr) (fun _ i _ => p.consts.length - (intOf i).toNat)
  case atStart => exact ⟨[], [], by simp, rfl, World.ownsRow_nil .., .nil, b1, b2, ab⟩
  case round =>
    obtain ⟨ts, xs, hj, rfl, hown, hch, hB, hD, hbel⟩ := hrel
    obtain ⟨As, ks, rfl⟩ := own_form hown
    have z1 : _ = some _ := blk_cell hB 1
    have y := bx3f hD
    obtain ⟨y0, y1, y2⟩ := y
    have ls := blk_lt hD
    have hw := H.below hbel
    by_cases hlt : ts.length < p.consts.length
    · obtain ⟨b, o, A', cap', rfl, e0, e1, e2, rt⟩ := hco ts.length hlt
      have hc1 := hw.cell _ _ e1
      have hc2 := hw.cell _ _ e2
      have lb := hw.lt e1
      go_wp2_with (refine app36L rfl _ _ rfl rfl (own_kp hown ((Kp.refl (fun _ => False) wr).alloc _) (fun _ hf => hf.elim)) rfl (blk_new _ _) (by unfold lim; omega) (by simp <;> omega) ?_; intro sv2 w2 hown2 hg2 hat; obtain ⟨A3, c3, rfl⟩ := own_form hown2
                   have kp := ((Kp.refl (fun q => (Value.slice As ts.length ks).ownBlock = some q) wr).alloc (.cells #[.string p.consts[ts.length].2.nm, .slice A' p.consts[ts.length].2.ar.length cap'] 36)).grown hg2 (fun _ e => .inl e)
                   have hB2 := blk_kp hB kp (own_ge hown (by omega))
                   have hD2 := blk_kp hD kp (own_ge hown (by omega)))
      refine ⟨⟨ts ++ [p.consts[ts.length].2], _, by simp; omega, by simp, by rw [List.length_append]; exact hown2, hch.snoc rt rfl, hB2, hD2, ?_⟩, by simp [intOf]; omega⟩
      exact ((Kp.of_below (fun q => w.heap.size ≤ q) hbel).trans kp (fun q hq e => by have := hown.lt _ e; omega)).below (fun i hi => by omega)
    · have hje : ts.length = p.consts.length := by omega
      obtain ⟨h2, A3, c3, e3, hk3, hc3', hr3, m3, hn3⟩ := own_Ty hw (w0 := w) (by omega) hown hch
      cases e3
      have rts := Lib.hid (show TyS h2 ts (.slice As ts.length ks) from ⟨As, ks, rfl, hc3', by unfold lim; omega, hr3⟩)
      have s0 := Lib.hid (r0'.out.sub m3.sub)
      have s1 := Lib.hid (r1'.out.sub m3.sub)
      have s2 := Lib.hid (r2'.out.sub m3.sub)
      clear hown hch hr3 hje hn3
      go_wp2_with fail
      refine rgs 18 (fun V => Below wr.heap.size wr V) [] rfl ((Below.refl _ _).drew) (fun hS => ?_)
      refine rgt 0 (.slice As ts.length ks) rfl (by kernel_rfl) (fun _ _ _ h => h) (by kernel_rfl) hS (fun V hV => by go_simp) ?_
      refine rg1 1 rfl (by kernel_rfl) (by decide) (by kernel_rfl) (fun K hK => ?_)
      have hS1 := hS
      go_simp
      refine (ltyped_calls ts _ _ _ m3.has.drew rts.out).mono ?_
      rintro e WN1 ⟨na, rfl, ⟨na0, na1⟩, kN1⟩
      simp only []
      refine hK.out _ _ (below_then hS1 kN1 hS1.size) (fun hS => ?_)
      by_cases d1 : na ≤ 2500
      · refine rgt 2 (.bool true) rfl (by kernel_rfl) (fun _ _ _ h => h) (by kernel_rfl) hS (fun V hV => by go_simp) ?_
        refine rgt 3 (.bool true) rfl (by kernel_rfl) (fun _ _ _ h => h) (by kernel_rfl) hS (fun V hV => by go_simp) ?_
        refine rgt 4 (.pointer (some ⟨w.heap.size + 1, 0, none⟩)) rfl (by kernel_rfl) (fun _ _ _ h => h) (by kernel_rfl) hS (fun V hV => by go_simp) ?_
        refine rgt 5 (.slice A0 s.vars.length k0) rfl (by kernel_rfl) (fun _ _ _ h => h) (by kernel_rfl) hS (fun V hV => by have q0 := cell_below y0 hV; go_simp) ?_
        refine rgt 7 (.pointer (some ⟨w.heap.size + 1, 1, none⟩)) rfl (by kernel_rfl) (fun _ _ _ h => h) (by kernel_rfl) hS (fun V hV => by go_simp) ?_
        refine rgt 8 (.slice A1 s.pars.length k1) rfl (by kernel_rfl) (fun _ _ _ h => h) (by kernel_rfl) hS (fun V hV => by have q0 := cell_below y1 hV; go_simp) ?_
        refine rgt 11 (.pointer (some ⟨w.heap.size + 1, 2, none⟩)) rfl (by kernel_rfl) (fun _ _ _ h => h) (by kernel_rfl) hS (fun V hV => by go_simp) ?_
        refine rgt 12 (.slice A2 s.bound.length k2) rfl (by kernel_rfl) (fun _ _ _ h => h) (by kernel_rfl) hS (fun V hV => by have q0 := cell_below y2 hV; go_simp) ?_
        refine rg1 6 rfl (by kernel_rfl) (by decide) (by kernel_rfl) (fun K hK => ?_)
        have hS6 := hS
        go_simp
        refine (ltyped_calls s.vars _ _ _ (m3.has.below hS6) s0.out).mono ?_
        rintro e WN6 ⟨nb, rfl, ⟨nb0, nb1⟩, kN6⟩
        simp only []
        refine hK.out _ _ (below_then hS6 kN6 hS6.size) (fun hS => ?_)
        refine rg1 9 rfl (by kernel_rfl) (by decide) (by kernel_rfl) (fun K hK => ?_)
        have hS9 := hS
        go_simp
        refine (ltyped_calls s.pars _ _ _ (m3.has.below hS9) s1.out).mono ?_
        rintro e WN9 ⟨nc, rfl, ⟨nc0, nc1⟩, kN9⟩
        simp only []
        refine hK.out _ _ (below_then hS9 kN9 hS9.size) (fun hS => ?_)
        refine rgt 10 (.int .i64 (nb + nc)) rfl (by kernel_rfl) (fun _ _ _ h => h) (by kernel_rfl) hS (fun V hV => by go_simp; exact Go.IntWalk.i64_in _ ⟨by omega, by omega⟩) ?_
        refine rg1 13 rfl (by kernel_rfl) (by decide) (by kernel_rfl) (fun K hK => ?_)
        have hS13 := hS
        go_simp
        refine (ltyped_calls s.bound _ _ _ (m3.has.below hS13) s2.out).mono ?_
        rintro e WN13 ⟨nd, rfl, ⟨nd0, nd1⟩, kN13⟩
        simp only []
        refine hK.out _ _ (below_then hS13 kN13 hS13.size) (fun hS => ?_)
        refine rgt 14 (.int .i64 (nb + nc + nd)) rfl (by kernel_rfl) (fun _ _ _ h => h) (by kernel_rfl) hS (fun V hV => by go_simp; exact Go.IntWalk.i64_in _ ⟨by omega, by omega⟩) ?_
        refine rgt 15 (.bool (decide (nb + nc + nd ≤ 2500))) rfl (by kernel_rfl) (fun _ _ _ h => h) (by kernel_rfl) hS (fun V hV => by go_simp) ?_
        refine rgt 16 (.bool (decide (nb + nc + nd ≤ 2500))) rfl (by kernel_rfl) (fun _ _ _ h => h) (by kernel_rfl) hS (fun V hV => by go_simp) ?_
        refine rgt 17 (.bool (decide (nb + nc + nd ≤ 2500))) rfl (by kernel_rfl) (fun _ _ _ h => h) (by kernel_rfl) hS (fun V hV => by go_simp) ?_
        refine rgd (by kernel_rfl) ?_
        have kE := below_then hbel hS hbel.size
        go_wp2_with fail
        go_ret
        exact ⟨_, rfl, fun _ => hsum.out, kE⟩
      · refine rgt 2 (.bool false) rfl (by kernel_rfl) (fun _ _ _ h => h) (by kernel_rfl) hS (fun V hV => by go_simp) ?_
        refine rgt 3 (.bool false) rfl (by kernel_rfl) (fun _ _ _ h => h) (by kernel_rfl) hS (fun V hV => by go_simp) ?_
        simp only [Act.put, List.setIfInBounds_toArray, List.set_cons_zero, List.set_cons_succ]
        refine rgof 4 51 rfl rfl (by kernel_rfl) (fun _ _ _ h => h) (by kernel_rfl) hS ?_
        refine rgof 5 52 rfl rfl (by kernel_rfl) (fun _ _ _ h => h) (by kernel_rfl) hS ?_
        refine rgof 6 53 rfl rfl (by kernel_rfl) (fun _ _ _ h => h) (by kernel_rfl) hS ?_
        refine rgof 7 54 rfl rfl (by kernel_rfl) (fun _ _ _ h => h) (by kernel_rfl) hS ?_
        refine rgof 8 55 rfl rfl (by kernel_rfl) (fun _ _ _ h => h) (by kernel_rfl) hS ?_
        refine rgof 9 56 rfl rfl (by kernel_rfl) (fun _ _ _ h => h) (by kernel_rfl) hS ?_
        refine rgof 10 57 rfl rfl (by kernel_rfl) (fun _ _ _ h => h) (by kernel_rfl) hS ?_
        refine rgof 11 58 rfl rfl (by kernel_rfl) (fun _ _ _ h => h) (by kernel_rfl) hS ?_
        refine rgof 12 59 rfl rfl (by kernel_rfl) (fun _ _ _ h => h) (by kernel_rfl) hS ?_
        refine rgof 13 60 rfl rfl (by kernel_rfl) (fun _ _ _ h => h) (by kernel_rfl) hS ?_
        refine rgof 14 61 rfl rfl (by kernel_rfl) (fun _ _ _ h => h) (by kernel_rfl) hS ?_
        refine rgof 15 62 rfl rfl (by kernel_rfl) (fun _ _ _ h => h) (by kernel_rfl) hS ?_
        simp only [Act.put, List.setIfInBounds_toArray, List.set_cons_zero, List.set_cons_succ]
        refine rgnf 16 63 (.bool false) rfl rfl (by kernel_rfl) (fun _ _ _ h => h) (by kernel_rfl) hS (fun V hV => by go_simp) ?_
        refine rgnf 17 4 (.bool false) rfl rfl (by kernel_rfl) (fun _ _ _ h => h) (by kernel_rfl) hS (fun V hV => by go_simp) ?_
        refine rgd (by kernel_rfl) ?_
        simp only [Act.put, List.setIfInBounds_toArray, List.set_cons_zero, List.set_cons_succ]
        have kE := below_then hbel hS hbel.size
        go_wp2_with fail
        go_ret
        exact ⟨_, rfl, fun _ => hsum.out, kE⟩
end Go.Proofs.YtpgbeapojjinmaaGreatDoor
