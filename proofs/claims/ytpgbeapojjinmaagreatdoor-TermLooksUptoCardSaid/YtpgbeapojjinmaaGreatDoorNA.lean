/- term.Typed, Check. No law is proved here. -/
import Derived.Test.YtpgbeapojjinmaaGreatDoorMD
import Derived.Test.YtpgbeapojjinmaaGreatDoorPA
import Derived.Test.YtpgbeapojjinmaaGreatDoorPB
set_option linter.unusedVariables false
set_option linter.unusedSimpArgs false
namespace Go.Proofs.YtpgbeapojjinmaaGreatDoor
open Go.RowKit Go.Shelf Go.Proofs.YtpgbeapojjinmaaGreatDoorW.PrintLast
/-- The first error of some types. -/
def chkL (ss : List ByteArray) : List Ty → Int
  | [] => 0
  | x :: l => if checkP ss x = 0 then chkL ss l else checkP ss x
def chkLL (ss : List ByteArray) : List (List Ty) → Int
  | [] => 0
  | l :: ll => if chkL ss l = 0 then chkLL ss ll else chkL ss l
def typedP (p : Pg) (s : Sc) (t : Tm) (ty : Ty) : Int :=
  if rawP t = 0 then (if chkLL p.types [s.vars, s.pars, s.bound, [ty]] = 0 then (if canP p s.vars s.pars t.sz s.bound t ty then 0 else 41) else chkLL p.types [s.vars, s.pars, s.bound, [ty]]) else rawP t
theorem rawP_zero (t : Tm) : rawP t = 0 ↔ (t.sz ≤ 4000 ∧ t.dep ≤ 100) ∧ rawN t = true := by
  unfold rawP
  rw [← sizedM_zero]
  by_cases c : sizedM t = 0
  · cases f : rawN t <;> simp [c]
  · simp [c]
theorem checkP_sz {ss : List ByteArray} {t : Ty} (h : checkP ss t = 0) : t.sz ≤ 4000 := by
  unfold checkP at h
  split at h
  · rename_i c; exact ((sizedT_zero t).1 c).1
  · exact absurd h ‹_›
theorem chkL_sz {ss : List ByteArray} : ∀ {l : List Ty}, chkL ss l = 0 → ∀ u ∈ l, u.sz ≤ 4000
  | [], _, u, hu => by cases hu
  | x :: l, h, u, hu => by
    rw [chkL] at h
    split at h
    · rcases List.mem_cons.1 hu with rfl | hu
      · exact checkP_sz ‹_›
      · exact chkL_sz h u hu
    · exact absurd h ‹_›
theorem chkLL_sz {ss : List ByteArray} : ∀ {ll : List (List Ty)}, chkLL ss ll = 0 → ∀ l ∈ ll, ∀ u ∈ l, u.sz ≤ 4000
  | [], _, l, hl => by cases hl
  | x :: ll, h, l, hl => by
    rw [chkLL] at h
    split at h
    · rcases List.mem_cons.1 hl with rfl | hl
      · exact chkL_sz ‹_›
      · exact chkLL_sz h l hl
    · exact absurd h ‹_›
theorem can_all (p : Pg) (s : Sc) (hv : ∀ u ∈ s.vars, u.sz ≤ 1000000000) (hq : ∀ u ∈ s.pars, u.sz ≤ 1000000000) : ∀ m, CanOK p s m
  | 0 => fun b t ty ps ss sb ct cy w h H rp rs rb r ry ht => by have := t.sz_pos; omega
  | m + 1 => can_step p s m (Lib.hid (can_all p s hv hq m)) hv hq (fun c hc h => by have := checkP_sz h; omega)
/-- A block of four slices of types. -/
structure Four (h : Snap) (w : World) (g : Nat) (ll : List (List Ty)) : Prop where
  at_ : ∀ j (hj : j < ll.length), ∃ A c, w.cell? ⟨g, j, none⟩ = some (.slice A ll[j].length c) ∧ ll[j].length ≤ c ∧ ll[j].length ≤ lim ∧ TyL h A 0 ll[j]
theorem Four.below {h : Snap} {w w' : World} {g : Nat} {ll : List (List Ty)} (f : Four h w g ll) (k : Below w.heap.size w w') : Four h w' g ll := ⟨fun j hj => by
  obtain ⟨A, c, e, r⟩ := f.at_ j hj
  exact ⟨A, c, cell_below e k, r⟩⟩
theorem one_TyL {w0 W : World} {h : Snap} {u : Ty} {A : Option Addr} {c g : Nat} (H : Has W h) (hb : W.heap[g]? = some (.cells #[.string u.nm, .slice A u.ar.length c] 36)) (r : TyR h u [.string u.nm, .slice A u.ar.length c]) (hg : w0.heap.size ≤ g) :
    ∃ h2, TyL h2 (some ⟨g, 0, none⟩) 0 [u] ∧ Mk w0 h W h2 := by
  have hx : ∀ i, W.cell? ⟨g, i, none⟩ = _ := fun i => blk_cell hb i
  exact ⟨withRow h W g 2, ⟨⟨g, 0, _, _, rfl, withRow.at_ H (by omega) (hx 0), withRow.at_ H (by omega) (hx 1), r.sub (withRow.sub ..)⟩, trivial⟩, ⟨withRow.sub .., withRow.has H .., fun a v e => (withRow.new e).imp_right (fun k => by omega)⟩⟩
set_option maxRecDepth 100000 in
set_option maxHeartbeats 8000000 in
theorem Typed_calls (p : Pg) (s : Sc) (t : Tm) (ty : Ty) (ps ss ct cy : List Value) (w : World) (h : Snap) (H : Has w h) (rp : PgR h p ps) (rs : ScR h s ss) (r : TmR h t ct) (ry : TyR h ty cy) (hb : s.bound.length ≤ 900000) :
    Calls Tryz.prog 22 #[.agg ps.toArray, .agg ss.toArray, .agg ct.toArray, .agg cy.toArray] w fun e w' => e = .returned (.int .i64 (typedP p s t ty)) ∧ Below w.heap.size w w' := by
  have rp0 := Lib.hid rp
  have rs0 := Lib.hid rs
  have r0 := Lib.hid r
  have ry0 := Lib.hid ry
  obtain ⟨A, cap, rfl, hl, hlm, hk1, hn1, hr⟩ := r.open_
  obtain ⟨Ay, cy, rfl, hyl, hym, hry⟩ := ry.open_
  obtain ⟨v0, v1, Z2, n2, z2, Z3, n3, z3, Z4, n4, z4, rfl, rt, rc⟩ := rp
  obtain ⟨At, kt, rfl, _⟩ := id rt
  obtain ⟨Ac, kc, rfl, _⟩ := id rc
  obtain ⟨s0, s1, s2, rfl, r0', r1', r2'⟩ := rs
  obtain ⟨A0, k0, rfl, c0a, c0b, c0c⟩ := id r0'
  obtain ⟨A1, k1, rfl, c1a, c1b, c1c⟩ := id r1'
  obtain ⟨A2, k2, rfl, c2a, c2b, c2c⟩ := id r2'
  have hu34 := Tryz.underlying34
  have hu36 := Tryz.underlying36
  obtain ⟨a1, a2, a3, a4, ab⟩ := alloc4 w (.cells #[.slice At p.types.length kt, .slice Ac p.consts.length kc, .slice Z2 n2 z2, .slice Z3 n3 z3, .slice Z4 n4 z4] 28) (.cells #[.slice A0 s.vars.length k0, .slice A1 s.pars.length k1, .slice A2 s.bound.length k2] 31) (.cells #[.int .i64 t.k, .int .i64 t.n, .string t.nm, .slice A t.ar.length cap] 34) (.cells #[.string ty.nm, .slice Ay ty.ar.length cy] 36)
  have hval : typedP p s t ty = if rawP t = 0 then (if chkLL p.types [s.vars, s.pars, s.bound, [ty]] = 0 then (if canP p s.vars s.pars t.sz s.bound t ty then 0 else 41) else chkLL p.types [s.vars, s.pars, s.bound, [ty]]) else rawP t := rfl
  obtain ⟨R, hR⟩ : ∃ R, typedP p s t ty = R := ⟨_, rfl⟩
  rw [hR] at hval ⊢
  clear hR
  by_cases q : rawP t = 0
  · have q' : (rawP t != 0) = false := by simp [q]
    rw [if_pos q] at hval
    replace hval := Lib.hid hval
    obtain ⟨⟨hz1, _⟩, hraw⟩ := (rawP_zero t).1 q
    have c0' := Lib.hid (show _ ∧ _ from ⟨c0a, c0b⟩)
    have c1' := Lib.hid (show _ ∧ _ from ⟨c1a, c1b⟩)
    have c2' := Lib.hid (show _ ∧ _ from ⟨c2a, c2b⟩)
    have r2s := Lib.hid r2'
    have c0c' := Lib.hid c0c
    have c1c' := Lib.hid c1c
    have c2c' := Lib.hid c2c
    clear q c0a c0b c1a c1b c2a c2b c0c c1c c2c hr hry rt rc r0' r1' r2'
    go_enter Tryz.func22, Tryz.ntmps22
    go_wp2_with fail
    refine (Raw_calls t _ _ h (H.below ab) r0.out).mono ?_
    rintro e w1 ⟨rfl, kq⟩
    have kk := below_then ab kq ab.size
    have d1 := box_below a1 kq
    have d2 := box_below a2 kq
    have d3 := box_below a3 kq
    have d4 := box_below a4 kq
    have y20 : w1.cell? ⟨w.heap.size + 1, 0, none⟩ = some (.slice A0 s.vars.length k0) := blk_cell d2 0
    have y21 : w1.cell? ⟨w.heap.size + 1, 1, none⟩ = some (.slice A1 s.pars.length k1) := blk_cell d2 1
    have y22 : w1.cell? ⟨w.heap.size + 1, 2, none⟩ = some (.slice A2 s.bound.length k2) := blk_cell d2 2
    have y4 := box2 d4
    have l2 := blk_lt d2
    have l4 := blk_lt d4
    go_wp2_with fail
    have kb1 : Below w1.heap.size w1 (w1.alloc (.cells #[.string ty.nm, .slice Ay ty.ar.length cy] 36)) := (alloc1 w1 _).2
    obtain ⟨h4, t4, m4⟩ := one_TyL (w0 := w) (H.below (below_then kk kb1 kk.size)) (blk_new w1 (.cells #[.string ty.nm, .slice Ay ty.ar.length cy] 36)) ry0.out kk.size
    have n2b := blk_new (w1.alloc (.cells #[.string ty.nm, .slice Ay ty.ar.length cy] 36)) (.cells #[.slice A0 s.vars.length k0, .slice A1 s.pars.length k1, .slice A2 s.bound.length k2, .slice (some ⟨w1.heap.size, 0, none⟩) 1 1] 29)
    have kb2 := (alloc2 w1 (.cells #[.string ty.nm, .slice Ay ty.ar.length cy] 36) (.cells #[.slice A0 s.vars.length k0, .slice A1 s.pars.length k1, .slice A2 s.bound.length k2, .slice (some ⟨w1.heap.size, 0, none⟩) 1 1] 29)).2.2
    have m4a := m4.has.alloc (.cells #[.slice A0 s.vars.length k0, .slice A1 s.pars.length k1, .slice A2 s.bound.length k2, .slice (some ⟨w1.heap.size, 0, none⟩) 1 1] 29)
    obtain ⟨W2, hW2⟩ : ∃ W2, ((w1.alloc (.cells #[.string ty.nm, .slice Ay ty.ar.length cy] 36)).alloc (.cells #[.slice A0 s.vars.length k0, .slice A1 s.pars.length k1, .slice A2 s.bound.length k2, .slice (some ⟨w1.heap.size, 0, none⟩) 1 1] 29)) = W2 := ⟨_, rfl⟩
    rw [hW2] at n2b kb2 m4a ⊢
    clear hW2
    simp only [World.size_alloc] at n2b
    have kk2 := below_then kk kb2 kk.size
    have sb := m4.sub
    have e1 := box_below d1 kb2
    have e2 := box_below d2 kb2
    have e3 := box_below d3 kb2
    have e4 := box_below d4 kb2
    obtain ⟨LL, hLL⟩ : ∃ LL, [s.vars, s.pars, s.bound, [ty]] = LL := ⟨_, rfl⟩
    have hLn : LL.length = 4 := by rw [← hLL]; rfl
    have F0 : Four h4 W2 (w1.heap.size + 1) LL := ⟨fun j hj => by
      subst hLL
      match j, hj with
      | 0, _ => exact ⟨A0, k0, blk_cell n2b 0, c0'.out.1, c0'.out.2, TyL.sub sb c0c'.out⟩
      | 1, _ => exact ⟨A1, k1, blk_cell n2b 1, c1'.out.1, c1'.out.2, TyL.sub sb c1c'.out⟩
      | 2, _ => exact ⟨A2, k2, blk_cell n2b 2, c2'.out.1, c2'.out.2, TyL.sub sb c2c'.out⟩
      | 3, _ => exact ⟨_, 1, blk_cell n2b 3, by simp, by simp [lim], t4⟩⟩
    have rp4 := Lib.hid (PgR.sub rp0.out sb)
    have hLL' := Lib.hid hLL
    have hLn' := Lib.hid hLn
    rw [hLL] at hval
    clear hLL hLn y20 y21 y22 y4 l2 l4 d1 d2 d3 d4 n2b t4
    go_loopw [30] (fun i wr => ∃ j : Nat, j ≤ 4 ∧ i = .int .i64 j ∧ Below W2.heap.size W2 wr ∧ Hid (chkLL p.types (LL.drop j) = chkLL p.types LL)) (fun i _ => 4 - (intOf i).toNat)
    case atStart => exact ⟨0, by omega, rfl, Below.refl _ W2, by show _ = _; simp⟩
    case round =>
      obtain ⟨j, hj, rfl, hbw, hI⟩ := hrel
      by_cases hlt : j < 4
      · have hltL : j < LL.length := by rw [hLn'.out]; exact hlt
        obtain ⟨Aj, cj, hcj, hj1, hj2, hj3⟩ := (F0.below hbw).at_ j hltL
        have hI2 : Hid ((if chkL p.types LL[j] = 0 then chkLL p.types (LL.drop (j + 1)) else chkL p.types LL[j]) = chkLL p.types LL) := Lib.hid (by have := hI.out; rw [List.drop_eq_getElem_cons hltL, chkLL] at this; exact this)
        generalize hl : LL[j] = l at *
        have hj2' := Lib.hid hj2
        have hj3' := Lib.hid hj3
        unfold lim at hj2
        have hjd : decide ((j : Int) < 4) = true := by simp; omega
        clear hl hI hj3
        go_wp2_with fail
        go_loopw [36] (fun i wx => ∃ k : Nat, k ≤ l.length ∧ i = .int .i64 k ∧ Below W2.heap.size W2 wx ∧ Hid (chkL p.types (l.drop k) = chkL p.types l)) (fun i _ => l.length - (intOf i).toNat)
        case atStart => exact ⟨0, by omega, rfl, hbw, by show _ = _; simp⟩
        case round =>
          obtain ⟨k, hk, rfl, hbx, hJ⟩ := hrel
          by_cases hlk : k < l.length
          · obtain ⟨b', o', A', c', rfl, f0, f1, rx⟩ := hj3'.out.get k hlk
            have hw := m4a.below hbx
            have hc0 := hw.cell _ _ f0
            have hc1 := hw.cell _ _ f1
            have g1 := box_below e1 hbx
            have x10 : wr.cell? ⟨w.heap.size, 0, none⟩ = some (.slice At p.types.length kt) := blk_cell g1 0
            have x11 : wr.cell? ⟨w.heap.size, 1, none⟩ = some (.slice Ac p.consts.length kc) := blk_cell g1 1
            have x12 : wr.cell? ⟨w.heap.size, 2, none⟩ = some (.slice Z2 n2 z2) := blk_cell g1 2
            have x13 : wr.cell? ⟨w.heap.size, 3, none⟩ = some (.slice Z3 n3 z3) := blk_cell g1 3
            have x14 : wr.cell? ⟨w.heap.size, 4, none⟩ = some (.slice Z4 n4 z4) := blk_cell g1 4
            have l1 := blk_lt g1
            have lb := hw.lt f0
            have hJ2 : Hid ((if checkP p.types l[k] = 0 then chkL p.types (l.drop (k + 1)) else checkP p.types l[k]) = chkL p.types l) := Lib.hid (by have := hJ.out; rw [List.drop_eq_getElem_cons hlk, chkL] at this; exact this)
            clear hJ f0 f1
            generalize l[k] = X at *
            go_wp2_with fail
            refine (CheckType_calls p X _ _ _ h4 (hw.alloc _) rp4.out rx).mono ?_
            rintro e w5 ⟨rfl, k5⟩
            have hb5 := below_then (hbx.alloc hbx.size (.cells #[.string X.nm, .slice A' X.ar.length c'] 36)) k5 (by have := hbx.size; simp; omega)
            by_cases qc : checkP p.types X = 0
            · have qc' : (checkP p.types X != 0) = false := by simp [qc]
              have hJ3 : Hid (chkL p.types (l.drop (k + 1)) = chkL p.types l) := Lib.hid (by have := hJ2.out; rw [if_pos qc] at this; exact this)
              clear qc hJ2
              go_wp2_with fail
              exact ⟨⟨k + 1, by omega, by simp, hb5, hJ3⟩, by simp [intOf]; omega⟩
            · have qc' : (checkP p.types X != 0) = true := by simp [qc]
              have hJ3 : checkP p.types X = chkL p.types l := by have := hJ2.out; rw [if_neg qc] at this; exact this
              have hI3 : checkP p.types X = chkLL p.types LL := by have := hI2.out; rw [if_neg (by rw [← hJ3]; exact qc)] at this; rw [hJ3]; exact this
              have hR3 : Hid (checkP p.types X = R) := Lib.hid (by have := hval.out; rw [← hI3, if_neg qc] at this; exact this.symm)
              clear qc hJ2 hJ3 hI3
              go_wp2_with fail
              go_ret
              rw [hR3.out]
              exact ⟨rfl, below_then kk2 hb5 kk2.size⟩
          · have hke : k = l.length := by omega
            have h0 : chkL p.types l = 0 := by
              have := hJ.out
              rw [hke, List.drop_length] at this
              exact this.symm
            have hI3 : Hid (chkLL p.types (LL.drop (j + 1)) = chkLL p.types LL) := Lib.hid (by have := hI2.out; rw [if_pos h0] at this; exact this)
            clear h0 hke
            go_wp2_with fail
            exact ⟨⟨j + 1, by omega, by simp, hbx, hI3⟩, by simp [intOf]; omega⟩
      · have hje : j = 4 := by omega
        have h0 : chkLL p.types LL = 0 := by
          have := hI.out
          rw [hje, List.drop_eq_nil_of_le (by rw [hLn'.out]; exact Nat.le_refl _)] at this
          exact this.symm
        have hsz := chkLL_sz h0
        have hRR : Hid (R = if canP p s.vars s.pars t.sz s.bound t ty then 0 else 41) := Lib.hid (by have := hval.out; rw [if_pos h0] at this; exact this)
        have hs0 := Lib.hid (hsz s.vars (by rw [← hLL'.out]; simp))
        have hs1 := Lib.hid (hsz s.pars (by rw [← hLL'.out]; simp))
        have hs2 := Lib.hid (hsz s.bound (by rw [← hLL'.out]; simp))
        have hs3 := Lib.hid (hsz [ty] (by rw [← hLL'.out]; simp) ty (by simp))
        clear hsz h0 hje hI
        go_wp2_with fail
        have g1 := box_below e1 hbw
        have g2 := box_below e2 hbw
        have g3 := box_below e3 hbw
        have g4 := box_below e4 hbw
        have kkw := below_then kk2 hbw kk2.size
        have Hw := H.below kkw
        have x3 := box4 g3
        have x4 := box2 g4
        refine rgs 9 (fun V => (V.cell? ⟨w.heap.size, 0, none⟩ = some (.slice At p.types.length kt) ∧ V.cell? ⟨w.heap.size, 1, none⟩ = some (.slice Ac p.consts.length kc) ∧ V.cell? ⟨w.heap.size, 2, none⟩ = some (.slice Z2 n2 z2) ∧ V.cell? ⟨w.heap.size, 3, none⟩ = some (.slice Z3 n3 z3) ∧ V.cell? ⟨w.heap.size, 4, none⟩ = some (.slice Z4 n4 z4)) ∧ (V.cell? ⟨w.heap.size + 1, 0, none⟩ = some (.slice A0 s.vars.length k0) ∧ V.cell? ⟨w.heap.size + 1, 1, none⟩ = some (.slice A1 s.pars.length k1) ∧ V.cell? ⟨w.heap.size + 1, 2, none⟩ = some (.slice A2 s.bound.length k2)) ∧ (V.cell? ⟨w.heap.size + 1 + 1, 0, none⟩ = some (.int .i64 t.k) ∧ V.cell? ⟨w.heap.size + 1 + 1, 1, none⟩ = some (.int .i64 t.n) ∧ V.cell? ⟨w.heap.size + 1 + 1, 2, none⟩ = some (.string t.nm) ∧ V.cell? ⟨w.heap.size + 1 + 1, 3, none⟩ = some (.slice A t.ar.length cap)) ∧ (V.cell? ⟨w.heap.size + 1 + 1 + 1, 0, none⟩ = some (.string ty.nm) ∧ V.cell? ⟨w.heap.size + 1 + 1 + 1, 1, none⟩ = some (.slice Ay ty.ar.length cy))) [] rfl ⟨⟨blk_cell g1 0, blk_cell g1 1, blk_cell g1 2, blk_cell g1 3, blk_cell g1 4⟩, ⟨blk_cell g2 0, blk_cell g2 1, blk_cell g2 2⟩, ⟨x3.1, x3.2.1, x3.2.2.1, x3.2.2.2⟩, ⟨x4.1, x4.2⟩⟩ (fun hS => ?_)
        refine rgt 0 (.agg #[.slice At p.types.length kt, .slice Ac p.consts.length kc, .slice Z2 n2 z2, .slice Z3 n3 z3, .slice Z4 n4 z4]) rfl (by kernel_rfl) (fun _ _ _ h => h) rfl hS (fun V hV => by obtain ⟨⟨p0, p1, p2, p3, p4⟩, ⟨q0, q1, q2⟩, ⟨t0, t1, t2, t3⟩, ⟨y0, y1⟩⟩ := hV; go_simp) ?_
        refine rgt 1 (.agg #[.slice A0 s.vars.length k0, .slice A1 s.pars.length k1, .slice A2 s.bound.length k2]) rfl (by kernel_rfl) (fun _ _ _ h => h) rfl hS (fun V hV => by obtain ⟨⟨p0, p1, p2, p3, p4⟩, ⟨q0, q1, q2⟩, ⟨t0, t1, t2, t3⟩, ⟨y0, y1⟩⟩ := hV; go_simp) ?_
        refine rgt 2 (.pointer (some ⟨w.heap.size + 1, 2, none⟩)) rfl (by kernel_rfl) (fun _ _ _ h => h) rfl hS (fun V hV => by go_simp) ?_
        refine rgt 3 (.slice A2 s.bound.length k2) rfl (by kernel_rfl) (fun _ _ _ h => h) rfl hS (fun V hV => by obtain ⟨⟨p0, p1, p2, p3, p4⟩, ⟨q0, q1, q2⟩, ⟨t0, t1, t2, t3⟩, ⟨y0, y1⟩⟩ := hV; go_simp) ?_
        refine rgt 5 (.agg #[.int .i64 t.k, .int .i64 t.n, .string t.nm, .slice A t.ar.length cap]) rfl (by kernel_rfl) (fun _ _ _ h => h) rfl hS (fun V hV => by obtain ⟨⟨p0, p1, p2, p3, p4⟩, ⟨q0, q1, q2⟩, ⟨t0, t1, t2, t3⟩, ⟨y0, y1⟩⟩ := hV; go_simp) ?_
        refine rgt 6 (.agg #[.string ty.nm, .slice Ay ty.ar.length cy]) rfl (by kernel_rfl) (fun _ _ _ h => h) rfl hS (fun V hV => by obtain ⟨⟨p0, p1, p2, p3, p4⟩, ⟨q0, q1, q2⟩, ⟨t0, t1, t2, t3⟩, ⟨y0, y1⟩⟩ := hV; go_simp) ?_
        refine rg1 4 rfl (by kernel_rfl) (by decide) rfl (fun K hK => ?_)
        go_simp
        refine (Clone_calls s.bound _ _ h Hw.drew r2s.out).mono ?_
        rintro e w3 ⟨sv, h5, rfl, r5, m5, k5⟩
        have k5' := undrew k5
        have kk5 := below_then kkw k5' kkw.size
        simp only []
        refine hK.out _ _ ?_ (fun hS => ?_)
        · obtain ⟨⟨p0, p1, p2, p3, p4⟩, ⟨q0, q1, q2⟩, ⟨t0, t1, t2, t3⟩, ⟨y0, y1⟩⟩ := hS
          exact ⟨⟨cell_below p0 k5, cell_below p1 k5, cell_below p2 k5, cell_below p3 k5, cell_below p4 k5⟩, ⟨cell_below q0 k5, cell_below q1 k5, cell_below q2 k5⟩, ⟨cell_below t0 k5, cell_below t1 k5, cell_below t2 k5, cell_below t3 k5⟩, ⟨cell_below y0 k5, cell_below y1 k5⟩⟩
        refine rg1 7 rfl (by kernel_rfl) (by decide) rfl (fun K hK => ?_)
        go_simp
        refine (can_all p s (fun u hu => by have := hs0.out u hu; omega) (fun u hu => by have := hs1.out u hu; omega) t.sz s.bound t ty _ _ _ _ _ w3 h5 m5.has (PgR.sub rp0.out m5.sub) (ScR.sub rs0.out m5.sub) r5 (r0.out.sub m5.sub) (ry0.out.sub m5.sub) (Nat.le_refl _) hraw (by omega) (fun u hu => by have := hs2.out u hu; omega) (by have := hs3.out; omega)).mono ?_
        rintro e w4 ⟨rfl, k6⟩
        have kk6 := below_then kk5 k6 kk5.size
        simp only []
        refine hK.out _ _ ?_ (fun hS => ?_)
        · obtain ⟨⟨p0, p1, p2, p3, p4⟩, ⟨q0, q1, q2⟩, ⟨t0, t1, t2, t3⟩, ⟨y0, y1⟩⟩ := hS
          exact ⟨⟨cell_below p0 k6, cell_below p1 k6, cell_below p2 k6, cell_below p3 k6, cell_below p4 k6⟩, ⟨cell_below q0 k6, cell_below q1 k6, cell_below q2 k6⟩, ⟨cell_below t0 k6, cell_below t1 k6, cell_below t2 k6, cell_below t3 k6⟩, ⟨cell_below y0 k6, cell_below y1 k6⟩⟩
        cases hx : canP p s.vars s.pars t.sz s.bound t ty with
        | false =>
          have hR4 : Hid (R = 41) := Lib.hid (by have := hRR.out; rw [hx] at this; simpa using this)
          refine rgt 8 (.bool true) rfl (by kernel_rfl) (fun _ _ _ h => h) rfl hS (fun V hV => by go_simp) ?_
          refine rgd (by kernel_rfl) ?_
          go_wp2_with fail
          go_ret
          rw [hR4.out]
          exact ⟨rfl, kk6⟩
        | true =>
          have hR4 : Hid (R = 0) := Lib.hid (by have := hRR.out; rw [hx] at this; simpa using this)
          refine rgt 8 (.bool false) rfl (by kernel_rfl) (fun _ _ _ h => h) rfl hS (fun V hV => by go_simp) ?_
          refine rgd (by kernel_rfl) ?_
          go_wp2_with fail
          go_ret
          rw [hR4.out]
          exact ⟨rfl, kk6⟩
  · have q' : (rawP t != 0) = true := by simp [q]
    rw [if_neg q] at hval
    have hv' := Lib.hid hval
    clear q hval
    go_enter Tryz.func22, Tryz.ntmps22
    go_wp2_with fail
    refine (Raw_calls t _ _ h (H.below ab) r0.out).mono ?_
    rintro e w1 ⟨rfl, kq⟩
    have kk := below_then ab kq ab.size
    go_wp2_with fail
    go_ret
    rw [hv'.out]
    exact ⟨rfl, kk⟩
set_option maxRecDepth 100000 in
set_option maxHeartbeats 4000000 in
theorem Check_calls (p : Pg) (q b : List Ty) (t : Tm) (ty : Ty) (ps ct cy : List Value) (sq sb : Value) (w : World) (h : Snap) (H : Has w h) (rp : PgR h p ps) (rq : TyS h q sq) (rb : TyS h b sb) (r : TmR h t ct) (ry : TyR h ty cy) (hb : b.length ≤ 900000) :
    Calls Tryz.prog 24 #[.agg ps.toArray, sq, sb, .agg ct.toArray, .agg cy.toArray] w fun e w' => e = .returned (.int .i64 (typedP p ⟨[], q, b⟩ t ty)) ∧ Below w.heap.size w w' := by
  have rp0 := Lib.hid rp
  have rq0 := Lib.hid rq
  have rb0 := Lib.hid rb
  have r0 := Lib.hid r
  have ry0 := Lib.hid ry
  obtain ⟨A, cap, rfl, hl, hlm, hk1, hn1, hr⟩ := r.open_
  obtain ⟨Ay, cy, rfl, hyl, hym, hry⟩ := ry.open_
  obtain ⟨v0, v1, Z2, n2, z2, Z3, n3, z3, Z4, n4, z4, rfl, rt, rc⟩ := rp
  obtain ⟨At, kt, rfl, _⟩ := id rt
  obtain ⟨Ac, kc, rfl, _⟩ := id rc
  obtain ⟨A1, k1, rfl, c1a, c1b, c1c⟩ := id rq
  obtain ⟨A2, k2, rfl, c2a, c2b, c2c⟩ := id rb
  have hu34 := Tryz.underlying34
  have hu36 := Tryz.underlying36
  have hu31 := Tryz.underlying31
  obtain ⟨a1, a2, a3, ab⟩ := alloc3 w (.cells #[.slice At p.types.length kt, .slice Ac p.consts.length kc, .slice Z2 n2 z2, .slice Z3 n3 z3, .slice Z4 n4 z4] 28) (.cells #[.int .i64 t.k, .int .i64 t.n, .string t.nm, .slice A t.ar.length cap] 34) (.cells #[.string ty.nm, .slice Ay ty.ar.length cy] 36)
  clear rt rc hr hry c1a c1b c1c c2a c2b c2c hl hyl hlm hym rq rb r ry
  go_enter Tryz.func24, Tryz.ntmps24
  go_wp2_with fail
  refine (Typed_calls p ⟨[], q, b⟩ t ty _ _ _ _ _ h (H.below ab) rp0.out ⟨_, _, _, rfl, TyS_nil h, rq0.out, rb0.out⟩ r0.out ry0.out hb).mono ?_
  rintro e w1 ⟨rfl, k1⟩
  go_wp2_with fail
  go_ret
  exact ⟨rfl, below_then ab k1 ab.size⟩
end Go.Proofs.YtpgbeapojjinmaaGreatDoor
