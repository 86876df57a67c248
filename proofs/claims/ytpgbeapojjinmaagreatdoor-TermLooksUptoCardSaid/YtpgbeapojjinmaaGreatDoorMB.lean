/- term.typeOf. · term.typeOf: the main part. No law is proved here. -/
import Derived.Test.YtpgbeapojjinmaaGreatDoorLB
set_option linter.unusedVariables false
set_option linter.unusedSimpArgs false
namespace Go.Proofs.YtpgbeapojjinmaaGreatDoor
open Go.RowKit Go.Shelf Go.Proofs.YtpgbeapojjinmaaGreatDoorW.PrintLast
def ty0 : Ty := .mk ⟨#[]⟩ []
theorem ty0_R (h : Snap) : TyR h ty0 [.string ⟨#[]⟩, .slice none 0 0] := ⟨none, 0, rfl, by simp, by simp, trivial⟩
theorem set2 {w : World} {b : Nat} {x0 x1 : Value} {T : TypeId} (hb : w.heap[b]? = some (.cells #[x0, x1] T)) (y0 y1 : Value) :
    ((w.setCell ⟨b, 0, none⟩ y0).setCell ⟨b, 1, none⟩ y1).heap[b]? = some (.cells #[y0, y1] T) ∧ Kp (fun q => q = b) w ((w.setCell ⟨b, 0, none⟩ y0).setCell ⟨b, 1, none⟩ y1) :=
  ⟨by have := blk_set (blk_set hb 0 y0) 1 y1; simpa using this, ((Kp.refl (fun q => q = b) w).set (p := ⟨b, 0, none⟩) (.inl rfl) y0).set (p := ⟨b, 1, none⟩) (.inl rfl) y1⟩
/-- The type of a number in a list. -/
def fromO (l : List Ty) (n : Int) : Option Ty := if n < 0 ∨ l.length ≤ n then none else l[n.toNat]?
/-- How a function ends that returns a type, or none. -/
def TyOpt (w : World) (h : Snap) (o : Option Ty) (e : Ending) (w' : World) : Prop := Below w.heap.size w w' ∧ ∃ cs : List Value, e = .returned (.tuple #[.agg cs.toArray, .bool o.isSome]) ∧ TyR h (o.getD ty0) cs
set_option maxRecDepth 100000 in
set_option maxHeartbeats 4000000 in
theorem from_calls (l : List Ty) (n : Int) (sv : Value) (w : World) (h : Snap) (H : Has w h) (r : TyS h l sv) : Calls Tryz.prog 215 #[sv, .int .i64 n] w (TyOpt w h (fromO l n)) := by
  obtain ⟨A, cap, rfl, hc, hl, hr⟩ := r
  have hu36 := Tryz.underlying36
  obtain ⟨a1, ab⟩ := alloc1 w (.cells #[.string ⟨#[]⟩, .slice none 0 0] 36)
  by_cases q : n < 0 ∨ l.length ≤ n
  · have G : Hid (fromO l n = none) := Lib.hid (by rw [fromO, if_pos q])
    rcases (show (n < 0) ∨ (¬ n < 0 ∧ (l.length : Int) ≤ n) by omega) with q1 | ⟨q1, q2⟩
    all_goals go_enter Tryz.func215, Tryz.ntmps215
    all_goals go_wp2_with fail
    all_goals
      have x := box2 a1
      refine bodyPost_ret (v := .tuple #[.agg #[.string ⟨#[]⟩, .slice none 0 0], .bool false]) (by simp [results, Tryz.results215, go_sem, x]) rfl ?_
      rw [G.out]
      exact ⟨ab, _, rfl, ty0_R h⟩
  · obtain ⟨j, rfl⟩ : ∃ j : Nat, n = j := Int.eq_ofNat_of_zero_le (by omega)
    have hj : j < l.length := by omega
    have G : Hid (fromO l j = some l[j]) := Lib.hid (by rw [fromO, if_neg q]; simp [hj])
    obtain ⟨b', o', A', c', rfl, e0, e1, rt⟩ := hr.get j hj
    have hc0 := H.cell _ _ e0
    have hc1 := H.cell _ _ e1
    have lb := H.lt e0
    generalize l[j] = X at *
    go_enter Tryz.func215, Tryz.ntmps215
    go_wp2_with fail
    obtain ⟨a3, ab3⟩ := alloc1 w (.cells #[.string X.nm, .slice A' X.ar.length c'] 36)
    have x := box2 a3
    refine bodyPost_ret (v := .tuple #[.agg #[.string X.nm, .slice A' X.ar.length c'], .bool true]) (by simp [results, Tryz.results215, go_sem, x]) rfl ?_
    rw [G.out]
    exact ⟨ab3, _, rfl, rt⟩
set_option maxRecDepth 100000 in
set_option maxHeartbeats 4000000 in
theorem named_calls (c : ByteArray) (v0 v1 : Value) (bt : Nat) (k n : Int) (nm : ByteArray) (v : Value) (w : World) (ht : w.heap[bt]? = some (.cells #[.int .i64 k, .int .i64 n, .string nm, v] 34)) :
    Calls Tryz.prog 217 #[.agg #[.string c, v0, v1], .pointer (some ⟨bt, 0, none⟩)] w fun e w' => e = .returned (.bool (c.toList == nm.toList)) ∧ Below w.heap.size w w' := by
  have x := box4 ht
  have lt := blk_lt ht
  obtain ⟨a1, ab⟩ := alloc1 w (.cells #[.string c, v0, v1] 105)
  go_enter Tryz.func217, Tryz.ntmps217
  go_wp2_with fail
  go_ret
  exact ⟨rfl, ab⟩
/-- The index of the constant with a name. -/
def idxC (nm : ByteArray) : List (ByteArray × Ty) → Int → Int
  | [], _ => -1
  | c :: cs, i => if (c.1.toList == nm.toList) = true then i else idxC nm cs (i + 1)
set_option maxRecDepth 100000 in
set_option maxHeartbeats 4000000 in
theorem index_calls (l : List (ByteArray × Ty)) (sv : Value) (bt : Nat) (k n : Int) (nm : ByteArray) (v : Value) (w : World) (h : Snap) (H : Has w h) (r : CoS h l sv) (ht : w.heap[bt]? = some (.cells #[.int .i64 k, .int .i64 n, .string nm, v] 34)) :
    Calls Tryz.prog 216 #[sv, .func (.func 217) #[] #[.pointer (some ⟨bt, 0, none⟩)]] w fun e w' => e = .returned (.int .i64 (idxC nm l 0)) ∧ Below w.heap.size w w' := by
  obtain ⟨A, cap, rfl, hc, hlm, hr⟩ := r
  unfold lim at hlm
  go_enter Tryz.func216, Tryz.ntmps216
  go_wp2_with fail
  go_loopw [8] (fun i wr => ∃ j : Nat, j ≤ l.length ∧ i = .int .i64 j ∧ Below w.heap.size w wr ∧ Hid (idxC nm (l.drop j) j = idxC nm l 0)) (fun i _ => l.length - (intOf i).toNat)
  case atStart => exact ⟨0, by omega, rfl, Below.refl _ w, by show _ = _; simp⟩
  case round =>
    obtain ⟨j, hj, rfl, hb, hI⟩ := hrel
    by_cases hlt : j < l.length
    · obtain ⟨b', o, A', c', rfl, e0, e1, e2, rt⟩ := hr j hlt
      have hw := H.below hb
      have hc0 := hw.cell _ _ e0
      have hc1 := hw.cell _ _ e1
      have hc2 := hw.cell _ _ e2
      have hI' := hI.out
      rw [List.drop_eq_getElem_cons hlt, idxC] at hI'
      replace hI' := Lib.hid hI'
      go_wp2_with fail
      generalize l[j] = X at *
      refine (named_calls X.1 _ _ bt k n nm v _ (box_below ht hb)).mono ?_
      rintro e w1 ⟨rfl, k1⟩
      have k2 := below_then hb k1 hb.size
      cases q : (X.1.toList == nm.toList)
      · have hI2 : Hid (idxC nm (l.drop (j + 1)) ((j : Int) + 1) = idxC nm l 0) := by
          have := hI'.out
          rw [if_neg (by simp [q])] at this
          exact this
        go_wp2_with fail
        exact ⟨⟨j + 1, by omega, by simp, k2, by simpa using hI2⟩, by simp [intOf]; omega⟩
      · have hI2 : Hid ((j : Int) = idxC nm l 0) := by
          have := hI'.out
          rw [if_pos q] at this
          exact this
        go_wp2_with fail
        go_ret
        rw [← hI2.out]
        exact ⟨rfl, k2⟩
    · have hje : j = l.length := by omega
      have hfin : Hid (idxC nm l 0 = -1) := by
        have := hI.out
        rw [hje, List.drop_length] at this
        exact this.symm
      go_wp2_with fail
      go_ret
      rw [hfin.out]
      exact ⟨rfl, hb⟩
end Go.Proofs.YtpgbeapojjinmaaGreatDoor
namespace Go.Proofs.YtpgbeapojjinmaaGreatDoor
open Go.RowKit Go.Shelf Go.Proofs.YtpgbeapojjinmaaGreatDoorW.PrintLast
/-- A scope. -/
structure Sc where
  vars : List Ty
  pars : List Ty
  bound : List Ty
def ScR (h : Snap) (s : Sc) (cs : List Value) : Prop := ∃ v0 v1 v2, cs = [v0, v1, v2] ∧ TyS h s.vars v0 ∧ TyS h s.pars v1 ∧ TyS h s.bound v2
theorem ScR.sub {h h' : Snap} {s : Sc} {cs : List Value} (r : ScR h s cs) (q : Sub h h') : ScR h' s cs := by
  obtain ⟨v0, v1, v2, e, a, b, c⟩ := r
  exact ⟨v0, v1, v2, e, a.sub q, b.sub q, c.sub q⟩
/-- The type of a constant. -/
def conO (p : Pg) (nm : ByteArray) : Option Ty := if idxC nm p.consts 0 < 0 then none else match p.consts[(idxC nm p.consts 0).toNat]? with
  | some c => if checkP p.types c.2 = 0 then some c.2 else none
  | none => none
/-- The type of a head. -/
def typeOfP (p : Pg) (v q b : List Ty) (t : Tm) : Option Ty := if t.k = 1 then conO p t.nm else if t.k = 2 then fromO b (b.length - 1 - t.n) else if t.k = 3 then fromO q t.n else fromO v t.n
theorem idxC_lt (nm : ByteArray) : ∀ (l : List (ByteArray × Ty)) (i : Int), idxC nm l i = -1 ∨ (i ≤ idxC nm l i ∧ idxC nm l i < i + l.length)
  | [], i => .inl rfl
  | c :: cs, i => by
    rw [idxC]
    split
    · right; simp; omega
    · rcases idxC_lt nm cs (i + 1) with h | h
      · exact .inl h
      · right; simp; omega
set_option maxRecDepth 100000 in
set_option maxHeartbeats 8000000 in
theorem typeOf_calls (p : Pg) (s : Sc) (b : List Ty) (t : Tm) (ps ss : List Value) (sb : Value) (cs : List Value) (w : World) (h : Snap) (H : Has w h) (rp : PgR h p ps) (rs : ScR h s ss) (rb : TyS h b sb) (r : TmR h t cs) (hn0 : 0 ≤ t.n) :
    Calls Tryz.prog 161 #[.agg ps.toArray, .agg ss.toArray, sb, .agg cs.toArray] w (TyOpt w h (typeOfP p s.vars s.pars b t)) := by
  have hmf := run_mf
  have rp0 := rp
  obtain ⟨A, cap, rfl, hl, hlm, hk1, hn1, hr⟩ := r.open_
  obtain ⟨v0, v1, Z2, n2, z2, Z3, n3, z3, Z4, n4, z4, rfl, rt, rc⟩ := rp
  obtain ⟨At, kt, rfl, _⟩ := id rt
  obtain ⟨Ac, kc, rfl, hcc, hcl, hrc⟩ := id rc
  obtain ⟨s0, s1, s2, rfl, r0, r1, r2⟩ := rs
  obtain ⟨A0, k0, rfl, _⟩ := id r0
  obtain ⟨A1, k1, rfl, _⟩ := id r1
  obtain ⟨A2, k2, rfl, _⟩ := id r2
  obtain ⟨Ab, kb, rfl, hbc, hbl, _⟩ := id rb
  have hu34 := Tryz.underlying34
  have hu36 := Tryz.underlying36
  obtain ⟨a1, a2, a3, a4, ab⟩ := alloc4 w (.cells #[.slice At p.types.length kt, .slice Ac p.consts.length kc, .slice Z2 n2 z2, .slice Z3 n3 z3, .slice Z4 n4 z4] 28) (.cells #[.slice A0 s.vars.length k0, .slice A1 s.pars.length k1, .slice A2 s.bound.length k2] 31) (.cells #[.int .i64 t.k, .int .i64 t.n, .string t.nm, .slice A t.ar.length cap] 34) (.cells #[.string ⟨#[]⟩, .slice none 0 0] 36)
  have hv : typeOfP p s.vars s.pars b t = if t.k = 1 then conO p t.nm else if t.k = 2 then fromO b (b.length - 1 - t.n) else if t.k = 3 then fromO s.pars t.n else fromO s.vars t.n := rfl
  obtain ⟨O, hO⟩ : ∃ O, typeOfP p s.vars s.pars b t = O := ⟨_, rfl⟩
  rw [hO] at hv ⊢
  clear hO
  by_cases q1 : t.k = 1
  · rw [if_pos q1] at hv
    have g1 : (t.k == 1) = true := by simp [q1]
    replace hv := Lib.hid hv
    clear q1
    go_enter Tryz.func161, Tryz.ntmps161
    go_wp2_with fail
    refine (index_calls p.consts _ (w.heap.size + 1 + 1) t.k t.n t.nm _ _ h (H.below ab) rc a3).mono ?_
    rintro e w1 ⟨rfl, kq⟩
    have d1 := box_below a1 kq
    have d4 := box_below a4 kq
    have kk := below_then ab kq ab.size
    have l4 := blk_lt d4
    have f4 := blk_frozen d4
    have x4 := box2 d4
    have hix := idxC_lt t.nm p.consts 0
    have hco : conO p t.nm = if idxC t.nm p.consts 0 < 0 then none else match p.consts[(idxC t.nm p.consts 0).toNat]? with
      | some c => if checkP p.types c.2 = 0 then some c.2 else none
      | none => none := rfl
    rw [← hv.out] at hco
    clear hv
    by_cases q3 : idxC t.nm p.consts 0 < 0
    · have hI : idxC t.nm p.consts 0 = -1 := by omega
      rw [if_pos q3] at hco
      rw [hI]
      clear q3 hI hix
      subst hco
      go_wp2_with fail
      go_quiet (fail)
      go_wp2_with fail
      rename_i nq _ _ _
      obtain ⟨W5, hW5, b5, kp5⟩ : ∃ W5, (((w1.drewN nq).setCell ⟨w.heap.size + 1 + 1 + 1, 0, none⟩ (.string ⟨#[]⟩)).setCell ⟨w.heap.size + 1 + 1 + 1, 1, none⟩ (.slice none 0 0)) = W5 ∧ W5.heap[w.heap.size + 1 + 1 + 1]? = some (.cells #[.string ⟨#[]⟩, .slice none 0 0] 36) ∧ Kp (fun q => q = w.heap.size + 1 + 1 + 1) (w1.drewN nq) W5 := ⟨_, rfl, (set2 (w := w1.drewN nq) d4 _ _).1, (set2 (w := w1.drewN nq) d4 _ _).2⟩
      rw [hW5]
      have x5 := box2 b5
      refine bodyPost_ret (v := .tuple #[.agg #[.string ⟨#[]⟩, .slice none 0 0], .bool false]) (by simp [results, Tryz.results161, go_sem, x5]) rfl ?_
      exact ⟨(((Kp.of_below (fun q => q = w.heap.size + 1 + 1 + 1) kk).drewN nq).trans kp5 (fun i hi e => e)).below (fun i hi e => by omega), _, rfl, ty0_R h⟩
    · rw [if_neg q3] at hco
      obtain ⟨j, hj⟩ : ∃ j : Nat, idxC t.nm p.consts 0 = j := Int.eq_ofNat_of_zero_le (by omega)
      have hjl : j < p.consts.length := by omega
      rw [hj] at hco ⊢
      obtain ⟨b', o', A', c', rfl, e0, e1, e2, rt9⟩ := hrc j hjl
      have hw1 := H.below kk
      have hc1 := hw1.cell _ _ e1
      have hc2 := hw1.cell _ _ e2
      have hco2 : Hid (O = if checkP p.types p.consts[j].2 = 0 then some p.consts[j].2 else none) := Lib.hid (by rw [hco]; simp [hjl])
      clear hco q3 hix hj
      generalize p.consts[j].2 = X at *
      have x10 : w1.cell? ⟨w.heap.size, 0, none⟩ = some (.slice At p.types.length kt) := blk_cell d1 0
      have x11 : w1.cell? ⟨w.heap.size, 1, none⟩ = some (.slice (some ⟨b', o', none⟩) p.consts.length kc) := blk_cell d1 1
      have x12 : w1.cell? ⟨w.heap.size, 2, none⟩ = some (.slice Z2 n2 z2) := blk_cell d1 2
      have x13 : w1.cell? ⟨w.heap.size, 3, none⟩ = some (.slice Z3 n3 z3) := blk_cell d1 3
      have x14 : w1.cell? ⟨w.heap.size, 4, none⟩ = some (.slice Z4 n4 z4) := blk_cell d1 4
      have hq0 : decide ((j : Int) < 0) = false := decide_eq_false (by omega)
      have hw1' := Lib.hid hw1
      have rt9' := Lib.hid rt9
      have rp0' := Lib.hid rp0
      clear rp0 rt9 hw1 e0 e1 e2
      go_wp2_with fail
      refine rgs 13 (fun V => (V.cell? ⟨w.heap.size, 0, none⟩ = some (.slice At p.types.length kt) ∧ V.cell? ⟨w.heap.size, 1, none⟩ = some (.slice (some ⟨b', o', none⟩) p.consts.length kc) ∧ V.cell? ⟨w.heap.size, 2, none⟩ = some (.slice Z2 n2 z2) ∧ V.cell? ⟨w.heap.size, 3, none⟩ = some (.slice Z3 n3 z3) ∧ V.cell? ⟨w.heap.size, 4, none⟩ = some (.slice Z4 n4 z4)) ∧
        V.cell? ⟨b', o' + j * 3 + 1, none⟩ = some (.string X.nm) ∧ V.cell? ⟨b', o' + j * 3 + 2, none⟩ = some (.slice A' X.ar.length c')) [] rfl ⟨⟨x10, x11, x12, x13, x14⟩, hc1, hc2⟩ (fun hS => ?_)
      refine rgt 0 (.int .i64 (j : Int)) rfl (by kernel_rfl) (fun _ _ _ h => h) rfl hS (fun V hV => by go_simp) ?_
      refine rgt 1 (.bool false) rfl (by kernel_rfl) (fun _ _ _ h => h) rfl hS (fun V hV => by go_simp) ?_
      refine rgt 2 (.bool false) rfl (by kernel_rfl) (fun _ _ _ h => h) rfl hS (fun V hV => by go_simp) ?_
      refine rgt 3 (.agg #[.slice At p.types.length kt, .slice (some ⟨b', o', none⟩) p.consts.length kc, .slice Z2 n2 z2, .slice Z3 n3 z3, .slice Z4 n4 z4]) rfl (by kernel_rfl) (fun _ _ _ h => h) (by kernel_rfl) hS (fun V hV => by obtain ⟨⟨p0, p1, p2, p3, p4⟩, p5, p6⟩ := hV; go_simp) ?_
      refine rgt 4 (.pointer (some ⟨w.heap.size, 1, none⟩)) rfl (by kernel_rfl) (fun _ _ _ h => h) (by kernel_rfl) hS (fun V hV => by go_simp) ?_
      refine rgt 5 (.slice (some ⟨b', o', none⟩) p.consts.length kc) rfl (by kernel_rfl) (fun _ _ _ h => h) (by kernel_rfl) hS (fun V hV => by obtain ⟨⟨p0, p1, p2, p3, p4⟩, p5, p6⟩ := hV; go_simp) ?_
      refine rgt 6 (.int .i64 (j : Int)) rfl (by kernel_rfl) (fun _ _ _ h => h) (by kernel_rfl) hS (fun V hV => by go_simp) ?_
      refine rgt 7 (.pointer (some ⟨b', o' + j * 3, none⟩)) rfl (by kernel_rfl) (fun _ _ _ h => h) (by kernel_rfl) hS (fun V hV => by go_simp) ?_
      refine rgt 8 (.pointer (some ⟨b', o' + j * 3 + 1, none⟩)) rfl (by kernel_rfl) (fun _ _ _ h => h) (by kernel_rfl) hS (fun V hV => by go_simp) ?_
      refine rgt 9 (.agg #[.string X.nm, .slice A' X.ar.length c']) rfl (by kernel_rfl) (fun _ _ _ h => h) (by kernel_rfl) hS (fun V hV => by obtain ⟨⟨p0, p1, p2, p3, p4⟩, p5, p6⟩ := hV; go_simp) ?_
      refine rg1 10 rfl (by kernel_rfl) (by decide) (by kernel_rfl) (fun K hK => ?_)
      go_simp
      refine (CheckType_calls p X _ _ w1.drew h hw1'.out.drew rp0'.out rt9'.out).mono ?_
      rintro e w2 ⟨rfl, kz⟩
      have kb := undrew kz
      have kk2 := below_then kk kb kk.size
      have d5 := box_below d4 kb
      have l5 := blk_lt d5
      have f5 := blk_frozen d5
      have x5 := box2 d5
      have y11 := cell_below x11 kb
      have y12 := cell_below hc1 kb
      have y13 := cell_below hc2 kb
      simp only []
      refine hK.out _ _ ?_ (fun hS => ?_)
      · obtain ⟨⟨p0, p1, p2, p3, p4⟩, p5, p6⟩ := hS
        exact ⟨⟨cell_below p0 kz, cell_below p1 kz, cell_below p2 kz, cell_below p3 kz, cell_below p4 kz⟩, cell_below p5 kz, cell_below p6 kz⟩
      refine rgt 11 (.bool (checkP p.types X != 0)) rfl (by kernel_rfl) (fun _ _ _ h => h) (by kernel_rfl) hS (fun V hV => by go_simp) ?_
      refine rgt 12 (.bool (checkP p.types X != 0)) rfl (by kernel_rfl) (fun _ _ _ h => h) (by kernel_rfl) hS (fun V hV => by go_simp) ?_
      refine rgd (by kernel_rfl) ?_
      clear x10 x11 x12 x13 x14 hc1 hc2 x4 l4 f4 hS
      by_cases qc : checkP p.types X = 0
      · have hO2 : O = some X := by rw [hco2.out, if_pos qc]
        have gc : (checkP p.types X != 0) = false := by simp [qc]
        rw [gc]
        clear hco2 qc gc
        go_wp2_with fail
        obtain ⟨W5, hW5, b5, kp5⟩ : ∃ W5, ((w2.setCell ⟨w.heap.size + 1 + 1 + 1, 0, none⟩ (.string X.nm)).setCell ⟨w.heap.size + 1 + 1 + 1, 1, none⟩ (.slice A' X.ar.length c')) = W5 ∧ W5.heap[w.heap.size + 1 + 1 + 1]? = some (.cells #[.string X.nm, .slice A' X.ar.length c'] 36) ∧ Kp (fun q => q = w.heap.size + 1 + 1 + 1) w2 W5 := ⟨_, rfl, (set2 d5 _ _).1, (set2 d5 _ _).2⟩
        rw [hW5]
        have x6 := box2 b5
        refine bodyPost_ret (v := .tuple #[.agg #[.string X.nm, .slice A' X.ar.length c'], .bool true]) (by simp [results, Tryz.results161, go_sem, x6]) rfl ?_
        subst hO2
        exact ⟨((Kp.of_below (fun q => q = w.heap.size + 1 + 1 + 1) kk2).trans kp5 (fun i hi e => e)).below (fun i hi e => by omega), _, rfl, rt9'.out⟩
      · have hO2 : O = none := by rw [hco2.out, if_neg qc]
        have gc : (checkP p.types X != 0) = true := by simp [qc]
        rw [gc]
        clear hco2 qc gc
        go_wp2_with fail
        obtain ⟨W5, hW5, b5, kp5⟩ : ∃ W5, ((w2.setCell ⟨w.heap.size + 1 + 1 + 1, 0, none⟩ (.string ⟨#[]⟩)).setCell ⟨w.heap.size + 1 + 1 + 1, 1, none⟩ (.slice none 0 0)) = W5 ∧ W5.heap[w.heap.size + 1 + 1 + 1]? = some (.cells #[.string ⟨#[]⟩, .slice none 0 0] 36) ∧ Kp (fun q => q = w.heap.size + 1 + 1 + 1) w2 W5 := ⟨_, rfl, (set2 d5 _ _).1, (set2 d5 _ _).2⟩
        rw [hW5]
        have x6 := box2 b5
        refine bodyPost_ret (v := .tuple #[.agg #[.string ⟨#[]⟩, .slice none 0 0], .bool false]) (by simp [results, Tryz.results161, go_sem, x6]) rfl ?_
        subst hO2
        exact ⟨((Kp.of_below (fun q => q = w.heap.size + 1 + 1 + 1) kk2).trans kp5 (fun i hi e => e)).below (fun i hi e => by omega), _, rfl, ty0_R h⟩
  rw [if_neg q1] at hv
  have g1 : (t.k == 1) = false := by simp [q1]
  clear q1
  by_cases q2 : t.k = 2
  · rw [if_pos q2] at hv
    have g2 : (t.k == 2) = true := by simp [q2]
    replace hv := Lib.hid hv
    clear q2
    have hw1 : IntKind.i64.wrap ((b.length : Int) - 1) = b.length - 1 := IntWalk.i64_in _ (by unfold lim at hbl; omega)
    have hw2 : IntKind.i64.wrap ((b.length : Int) - 1 - t.n) = b.length - 1 - t.n := IntWalk.i64_in _ (by unfold lim at hbl; omega)
    go_enter Tryz.func161, Tryz.ntmps161
    go_wp2_with fail
    refine (from_calls b ((b.length : Int) - 1 - t.n) _ _ h (H.below ab) rb).mono ?_
    rintro e w1 ⟨kq, cs1, rfl, rr⟩
    have d4 := box_below a4 kq
    have kk := below_then ab kq ab.size
    rw [← hv.out] at rr ⊢
    generalize hX : O.getD ty0 = X at *
    generalize hB : O.isSome = B at *
    obtain ⟨AX, cX, rfl, _⟩ := rr.open_
    have l4 := blk_lt d4
    have f4 := blk_frozen d4
    have x4 := box2 d4
    go_wp2_with fail
    obtain ⟨W5, hW5, b5, kp5⟩ : ∃ W5, ((w1.setCell ⟨w.heap.size + 1 + 1 + 1, 0, none⟩ (.string X.nm)).setCell ⟨w.heap.size + 1 + 1 + 1, 1, none⟩ (.slice AX X.ar.length cX)) = W5 ∧ W5.heap[w.heap.size + 1 + 1 + 1]? = some (.cells #[.string X.nm, .slice AX X.ar.length cX] 36) ∧ Kp (fun q => q = w.heap.size + 1 + 1 + 1) w1 W5 := ⟨_, rfl, (set2 d4 _ _).1, (set2 d4 _ _).2⟩
    rw [hW5]
    have x5 := box2 b5
    refine bodyPost_ret (v := .tuple #[.agg #[.string X.nm, .slice AX X.ar.length cX], .bool B]) (by simp [results, Tryz.results161, go_sem, x5]) rfl ?_
    exact ⟨((Kp.of_below (fun q => q = w.heap.size + 1 + 1 + 1) kk).trans kp5 (fun i hi e => e)).below (fun i hi e => by omega), [.string X.nm, .slice AX X.ar.length cX], by rw [hB], by rw [hX]; exact rr⟩
  rw [if_neg q2] at hv
  have g2 : (t.k == 2) = false := by simp [q2]
  clear q2
  by_cases q3 : t.k = 3
  · rw [if_pos q3] at hv
    have g3 : (t.k == 3) = true := by simp [q3]
    replace hv := Lib.hid hv
    clear q3
    go_enter Tryz.func161, Tryz.ntmps161
    go_wp2_with fail
    refine (from_calls s.pars t.n _ _ h (H.below ab) r1).mono ?_
    rintro e w1 ⟨kq, cs1, rfl, rr⟩
    have d4 := box_below a4 kq
    have kk := below_then ab kq ab.size
    rw [← hv.out] at rr ⊢
    generalize hX : O.getD ty0 = X at *
    generalize hB : O.isSome = B at *
    obtain ⟨AX, cX, rfl, _⟩ := rr.open_
    have l4 := blk_lt d4
    have f4 := blk_frozen d4
    have x4 := box2 d4
    go_wp2_with fail
    obtain ⟨W5, hW5, b5, kp5⟩ : ∃ W5, ((w1.setCell ⟨w.heap.size + 1 + 1 + 1, 0, none⟩ (.string X.nm)).setCell ⟨w.heap.size + 1 + 1 + 1, 1, none⟩ (.slice AX X.ar.length cX)) = W5 ∧ W5.heap[w.heap.size + 1 + 1 + 1]? = some (.cells #[.string X.nm, .slice AX X.ar.length cX] 36) ∧ Kp (fun q => q = w.heap.size + 1 + 1 + 1) w1 W5 := ⟨_, rfl, (set2 d4 _ _).1, (set2 d4 _ _).2⟩
    rw [hW5]
    have x5 := box2 b5
    refine bodyPost_ret (v := .tuple #[.agg #[.string X.nm, .slice AX X.ar.length cX], .bool B]) (by simp [results, Tryz.results161, go_sem, x5]) rfl ?_
    exact ⟨((Kp.of_below (fun q => q = w.heap.size + 1 + 1 + 1) kk).trans kp5 (fun i hi e => e)).below (fun i hi e => by omega), [.string X.nm, .slice AX X.ar.length cX], by rw [hB], by rw [hX]; exact rr⟩
  · rw [if_neg q3] at hv
    have g3 : (t.k == 3) = false := by simp [q3]
    replace hv := Lib.hid hv
    clear q3
    go_enter Tryz.func161, Tryz.ntmps161
    go_wp2_with fail
    refine (from_calls s.vars t.n _ _ h (H.below ab) r0).mono ?_
    rintro e w1 ⟨kq, cs1, rfl, rr⟩
    have d4 := box_below a4 kq
    have kk := below_then ab kq ab.size
    rw [← hv.out] at rr ⊢
    generalize hX : O.getD ty0 = X at *
    generalize hB : O.isSome = B at *
    obtain ⟨AX, cX, rfl, _⟩ := rr.open_
    have l4 := blk_lt d4
    have f4 := blk_frozen d4
    have x4 := box2 d4
    go_wp2_with fail
    obtain ⟨W5, hW5, b5, kp5⟩ : ∃ W5, ((w1.setCell ⟨w.heap.size + 1 + 1 + 1, 0, none⟩ (.string X.nm)).setCell ⟨w.heap.size + 1 + 1 + 1, 1, none⟩ (.slice AX X.ar.length cX)) = W5 ∧ W5.heap[w.heap.size + 1 + 1 + 1]? = some (.cells #[.string X.nm, .slice AX X.ar.length cX] 36) ∧ Kp (fun q => q = w.heap.size + 1 + 1 + 1) w1 W5 := ⟨_, rfl, (set2 d4 _ _).1, (set2 d4 _ _).2⟩
    rw [hW5]
    have x5 := box2 b5
    refine bodyPost_ret (v := .tuple #[.agg #[.string X.nm, .slice AX X.ar.length cX], .bool B]) (by simp [results, Tryz.results161, go_sem, x5]) rfl ?_
    exact ⟨((Kp.of_below (fun q => q = w.heap.size + 1 + 1 + 1) kk).trans kp5 (fun i hi e => e)).below (fun i hi e => by omega), [.string X.nm, .slice AX X.ar.length cX], by rw [hB], by rw [hX]; exact rr⟩
end Go.Proofs.YtpgbeapojjinmaaGreatDoor
