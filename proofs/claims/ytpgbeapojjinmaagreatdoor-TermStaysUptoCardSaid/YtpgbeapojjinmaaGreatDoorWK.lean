/- below: a scope with one bound variable more; wide. · Snapshots of whole boxes and rows, for the walks of statements. No law is proved here. -/
import Derived.Test.YtpgbeapojjinmaaGreatDoorAP
import Derived.Test.YtpgbeapojjinmaaGreatDoorSN
set_option linter.unusedVariables false
set_option linter.unusedSimpArgs false
namespace Go.Proofs.YtpgbeapojjinmaaGreatDoor
open Go.RowKit Go.Shelf Go.Proofs.YtpgbeapojjinmaaGreatDoorW.PrintLast
theorem set3f {w : World} {b : Nat} {x0 x1 x2 : Value} {T : TypeId} (hb : w.heap[b]? = some (.cells #[x0, x1, x2] T)) (y0 y1 y2 : Value) :
    (((w.setCell ⟨b, 0, none⟩ y0).setCell ⟨b, 1, none⟩ y1).setCell ⟨b, 2, none⟩ y2).heap[b]? = some (.cells #[y0, y1, y2] T) ∧ Kp (fun q => q = b) w (((w.setCell ⟨b, 0, none⟩ y0).setCell ⟨b, 1, none⟩ y1).setCell ⟨b, 2, none⟩ y2) :=
  ⟨by have := blk_set (blk_set (blk_set hb 0 y0) 1 y1) 2 y2; simpa using this, (((Kp.refl (fun q => q = b) w).set (p := ⟨b, 0, none⟩) (.inl rfl) y0).set (p := ⟨b, 1, none⟩) (.inl rfl) y1).set (p := ⟨b, 2, none⟩) (.inl rfl) y2⟩
set_option maxRecDepth 100000 in
set_option maxHeartbeats 4000000 in
theorem wide_calls (s : Sc) (ss : List Value) (w : World) (h : Snap) (H : Has w h) (rs : ScR h s ss) :
    Calls Tryz.prog 49 #[.agg ss.toArray] w fun e w' => e = .returned (.bool (decide (60 < s.vars.length + s.pars.length + s.bound.length))) ∧ Below w.heap.size w w' := by
  obtain ⟨s0, s1, s2, rfl, q0, q1, q2⟩ := rs
  obtain ⟨A0, k0, rfl, _, m0, _⟩ := q0
  obtain ⟨A1, k1, rfl, _, m1, _⟩ := q1
  obtain ⟨A2, k2, rfl, _, m2, _⟩ := q2
  have hu31 := Tryz.underlying31
  unfold lim at m0 m1 m2
  obtain ⟨a1, ab⟩ := alloc1 w (.cells #[.slice A0 s.vars.length k0, .slice A1 s.pars.length k1, .slice A2 s.bound.length k2] 31)
  obtain ⟨x0, x1, x2⟩ := bx3f a1
  by_cases c : 60 < s.vars.length + s.pars.length + s.bound.length
  · have c' : (60 : Int) < (s.vars.length : Int) + s.pars.length + s.bound.length := by omega
    rw [decide_eq_true c]
    clear c
    go_enter Tryz.func49, Tryz.ntmps49
    go_wp2_with fail
    go_ret
    exact ⟨rfl, ab⟩
  · have c' : ¬ (60 : Int) < (s.vars.length : Int) + s.pars.length + s.bound.length := by omega
    rw [decide_eq_false c]
    clear c
    go_enter Tryz.func49, Tryz.ntmps49
    go_wp2_with fail
    go_ret
    exact ⟨rfl, ab⟩
/-- What below returns. -/
def BelRes (w : World) (h : Snap) (s : Sc) (ty : Ty) (v0 v1 : Value) (e : Ending) (w' : World) : Prop := ∃ (A : Option Addr) (c : Nat) (h' : Snap), e = .returned (.agg #[v0, v1, .slice A (s.bound.length + 1) c]) ∧ TyS h' (s.bound ++ [ty]) (.slice A (s.bound.length + 1) c) ∧ Mk w h w' h' ∧ Below w.heap.size w w'
set_option maxRecDepth 100000 in
set_option maxHeartbeats 16000000 in
theorem below_calls (s : Sc) (ty : Ty) (A0 A1 A2 : Option Addr) (k0 k1 k2 : Nat) (cy : List Value) (w : World) (h : Snap) (H : Has w h) (r2 : TyS h s.bound (.slice A2 s.bound.length k2)) (ry : TyR h ty cy) (hsum : s.bound.length ≤ 1000000) :
    Calls Tryz.prog 50 #[.agg #[.slice A0 s.vars.length k0, .slice A1 s.pars.length k1, .slice A2 s.bound.length k2], .agg cy.toArray] w (BelRes w h s ty (.slice A0 s.vars.length k0) (.slice A1 s.pars.length k1)) := by
  have ry0 := Lib.hid ry
  have r2s := Lib.hid r2
  obtain ⟨Ay, cy, rfl, hyl, hym, hry⟩ := ry.open_
  have hu31 := Tryz.underlying31
  have hu29 := Tryz.underlying29
  have hu36 := Tryz.underlying36
  clear r2 ry hyl hym hry
  obtain ⟨a1, a2, a3, ab⟩ := alloc3 w (.cells #[.slice A0 s.vars.length k0, .slice A1 s.pars.length k1, .slice A2 s.bound.length k2] 31) (.cells #[.string ty.nm, .slice Ay ty.ar.length cy] 36) (.cells #[.slice none 0 0, .slice none 0 0, .slice none 0 0] 31)
  go_enter Tryz.func50, Tryz.ntmps50
  go_wp2_with fail
  obtain ⟨W0, hW0⟩ : ∃ W0, ((w.alloc (.cells #[.slice A0 s.vars.length k0, .slice A1 s.pars.length k1, .slice A2 s.bound.length k2] 31)).alloc (.cells #[.string ty.nm, .slice Ay ty.ar.length cy] 36)).alloc (.cells #[.slice none 0 0, .slice none 0 0, .slice none 0 0] 31) = W0 := ⟨_, rfl⟩
  rw [hW0] at a1 a2 a3 ab ⊢
  have hsz : W0.heap.size = w.heap.size + 3 := by rw [← hW0]; simp
  have hsz' := Lib.hid hsz
  clear hW0 hsz
  have H0 := H.below ab
  obtain ⟨u0, u1, u2⟩ := bx3f a1
  obtain ⟨e0, e1⟩ := box2 a2
  refine rgs 13 (fun V => Below W0.heap.size W0 V) [12] rfl ((Below.refl _ _).drew) (fun hS => ?_)
  refine rgnf 0 6 (.pointer (some ⟨w.heap.size, 0, none⟩)) rfl rfl (by kernel_rfl) (fun _ _ _ h => h) (by kernel_rfl) hS (fun V hV => by go_simp) ?_
  refine rgnf 1 7 (.slice A0 s.vars.length k0) rfl rfl (by kernel_rfl) (fun _ _ _ h => h) (by kernel_rfl) hS (fun V hV => by have q0 := cell_below u0 hV; go_simp) ?_
  refine rgnf 2 8 (.pointer (some ⟨w.heap.size, 1, none⟩)) rfl rfl (by kernel_rfl) (fun _ _ _ h => h) (by kernel_rfl) hS (fun V hV => by go_simp) ?_
  refine rgnf 3 9 (.slice A1 s.pars.length k1) rfl rfl (by kernel_rfl) (fun _ _ _ h => h) (by kernel_rfl) hS (fun V hV => by have q0 := cell_below u1 hV; go_simp) ?_
  refine rgnf 4 10 (.slice none 0 0) rfl rfl (by kernel_rfl) (fun _ _ _ h => h) (by kernel_rfl) hS (fun V hV => by go_simp) ?_
  refine rgnf 5 11 (.pointer (some ⟨w.heap.size, 2, none⟩)) rfl rfl (by kernel_rfl) (fun _ _ _ h => h) (by kernel_rfl) hS (fun V hV => by go_simp) ?_
  refine rgnf 6 12 (.slice A2 s.bound.length k2) rfl rfl (by kernel_rfl) (fun _ _ _ h => h) (by kernel_rfl) hS (fun V hV => by have q0 := cell_below u2 hV; go_simp) ?_
  refine rgnf 8 14 (.agg #[.string ty.nm, .slice Ay ty.ar.length cy]) rfl rfl (by kernel_rfl) (fun _ _ _ h => h) (by kernel_rfl) hS (fun V hV => by have q0 := cell_below e0 hV; have q1 := cell_below e1 hV; go_simp) ?_
  simp only [Act.put, List.setIfInBounds_toArray, List.set_cons_zero, List.set_cons_succ]
  refine join_ (σ := Value × List Value × Nat) 3 #[true, true, true, true, true, true, true, true, true, true, false, false, false] (fun z => [(13, z.1), (15, .slice (some ⟨z.2.2, 0, none⟩) 1 1)])
    (fun z W => Below W0.heap.size W0 W ∧ W.ownsRow W0.heap.size 36 2 z.1 s.bound.length z.2.1 ∧ Chunks (TyR h) 2 s.bound z.2.1 ∧ W.heap[z.2.2]? = some (.cells #[.string ty.nm, .slice Ay ty.ar.length cy] 36) ∧ W0.heap.size ≤ z.2.2 ∧ z.1.ownBlock ≠ some z.2.2) ?_ (fun hcont => ?_)
  · rintro ⟨v, ys, g⟩ W ⟨hS, hown, hch, hg, hge, hne⟩
    dsimp only at hown hch hg hge hne
    refine norm_ (a' := ?_) ?_ ?_
    rotate_left
    · simp only [putAll, Act.put, List.setIfInBounds_toArray, List.set_cons_zero, List.set_cons_succ]
      rfl
    refine rg1 10 rfl (by kernel_rfl) (by decide) (by kernel_rfl) (fun K hK => ?_)
    refine app36 (B := W0.heap.size) (sv := v) _ _ rfl (by go_simp) hown (by go_simp) hg (by unfold lim; omega) hS.size ?_
    intro sv2 W2 hown2 hgr2 hat
    obtain ⟨A3, c3, rfl⟩ := own_form hown2
    have k2' : Below W0.heap.size W0 W2 := ((Kp.of_below (fun q => W0.heap.size ≤ q) hS).grown hgr2 (fun q e => .inr (hown.lt _ e).1)).below (fun i hi hq => by omega)
    refine hK.out _ _ k2' (fun hS => ?_)
    refine norm_ (a' := Act.put _ (some 16) _) rfl ?_
    simp only [Act.put, List.setIfInBounds_toArray, List.set_cons_zero, List.set_cons_succ]
    refine rgnf 11 17 (.agg #[.slice A0 s.vars.length k0, .slice A1 s.pars.length k1, .slice A3 (s.bound.length + 1) c3]) rfl rfl (by kernel_rfl) (fun _ _ _ h => h) (by kernel_rfl) hS (fun V hV => by go_simp) ?_
    simp only [Act.put, List.setIfInBounds_toArray, List.set_cons_zero, List.set_cons_succ]
    have d3 := box_below a3 k2'
    obtain ⟨x0, x1, x2⟩ := bx3f d3
    have z3 := blk_frozen d3
    have l3 := blk_lt d3
    have H2 := H0.below k2'
    obtain ⟨h3, r3, m3, _⟩ := own_TyS (w0 := w) H2 (by have := hsz'.out; omega) hown2 (hch.snoc ry0.out rfl) (by unfold lim; simp; omega)
    have r3' := Lib.hid r3
    have hoff : Off h3 (fun q => q = w.heap.size + 1 + 1) := ⟨fun a u e hq => by
      have hq' : a.block = w.heap.size + 1 + 1 := hq
      rcases ‹∀ a u, h3 a = some u → h a = some u ∨ _› a u e with e1 | e1
      · have := H.lt e1; omega
      · have := (hown2.lt _ e1).1; have := hsz'.out; omega⟩
    clear hown hown2 hgr2 hat hch hg hge hne r3
    refine rgl 12 rfl (by kernel_rfl) (by decide) (by kernel_rfl) (fun K hK => ?_)
    go_simp
    refine hK.out _ _ ?_
    refine rgd (by kernel_rfl) ?_
    obtain ⟨W5, hW5, b5, kp5⟩ : ∃ W5, (((W2.setCell ⟨w.heap.size + 1 + 1, 0, none⟩ (.slice A0 s.vars.length k0)).setCell ⟨w.heap.size + 1 + 1, 1, none⟩ (.slice A1 s.pars.length k1)).setCell ⟨w.heap.size + 1 + 1, 2, none⟩ (.slice A3 (s.bound.length + 1) c3)) = W5 ∧ W5.heap[w.heap.size + 1 + 1]? = some (.cells #[.slice A0 s.vars.length k0, .slice A1 s.pars.length k1, .slice A3 (s.bound.length + 1) c3] 31) ∧ Kp (fun q => q = w.heap.size + 1 + 1) W2 W5 := ⟨_, rfl, (set3f d3 _ _ _).1, (set3f d3 _ _ _).2⟩
    rw [hW5]
    have kk := below_then ab k2' ab.size
    obtain ⟨y0, y1, y2⟩ := bx3f b5
    go_wp2_with fail
    refine bodyPost_ret (v := .agg #[.slice A0 s.vars.length k0, .slice A1 s.pars.length k1, .slice A3 (s.bound.length + 1) c3]) (by simp [results, Tryz.results50, go_sem, y0, y1, y2]) rfl ?_
    exact ⟨A3, c3, h3, rfl, r3'.out, m3.world (m3.has.kp kp5 hoff), ((Kp.of_below (fun q => q = w.heap.size + 1 + 1) kk).trans kp5 (fun i hi e => e)).below (fun i hi e => by omega)⟩
  refine rg2 7 9 rfl rfl (by kernel_rfl) (by decide) (by decide) (by kernel_rfl) (by kernel_rfl) (fun K hK => ?_) (fun K hK => ?_)
  · refine app36S (sv := .slice none 0 0) (xv := .slice A2 s.bound.length k2) (us := s.bound) (h := h) _ _ rfl (by go_simp) (World.ownsRow_nil W0.drew W0.heap.size 36 2) (by go_simp) H0.drew r2s.out (by unfold lim; omega) (Nat.le_refl _) ?_
    intro v W1 ys hown hch hgr hat
    rw [Nat.zero_add, List.nil_append] at hown
    have k1' : Below W0.heap.size W0 W1 := ((Kp.refl (fun _ => False) W0).drew.grown hgr (fun q e => by cases e)).below (fun i hi hf => hf)
    obtain ⟨A3, c3, rfl⟩ := own_form hown
    refine hK.out _ _ k1' (fun hS => ?_)
    refine rg1 9 rfl (by kernel_rfl) (by decide) (by kernel_rfl) (fun K hK => ?_)
    go_simp
    refine hK.out _ _ (hS.alloc hS.size _) (fun hS2 => ?_)
    exact norm_ (by kernel_rfl) (hcont (.slice A3 s.bound.length c3, ys, W1.heap.size) _ ⟨hS2, own_kp hown ((Kp.refl (fun _ => False) W1).alloc _) (fun _ hf => hf.elim), hch, blk_new _ _, hS.size, own_new hown (Nat.le_refl _)⟩)
  · go_simp
    refine hK.out _ _ ((Below.refl _ W0).drew.alloc (Nat.le_refl _) _) (fun hS => ?_)
    refine rg1 7 rfl (by kernel_rfl) (by decide) (by kernel_rfl) (fun K hK => ?_)
    refine app36S (sv := .slice none 0 0) (xv := .slice A2 s.bound.length k2) (us := s.bound) (h := h) _ _ rfl (by go_simp) (World.ownsRow_nil (W0.drew.alloc (.cells #[.string ty.nm, .slice Ay ty.ar.length cy] 36)) W0.heap.size 36 2) (by go_simp) (H0.drew.alloc _) r2s.out (by unfold lim; omega) hS.size ?_
    intro v W1 ys hown hch hgr hat
    rw [Nat.zero_add, List.nil_append] at hown
    have kp : Kp (fun _ => False) (W0.drew.alloc (.cells #[.string ty.nm, .slice Ay ty.ar.length cy] 36)) W1 := (Kp.refl _ _).grown hgr (fun q e => by cases e)
    have k1' : Below W0.heap.size W0 W1 := (((Kp.refl (fun _ => False) W0).drew.alloc _).trans kp (fun _ _ hf => hf)).below (fun i hi hf => hf)
    obtain ⟨A3, c3, rfl⟩ := own_form hown
    refine hK.out _ _ k1' (fun hS2 => ?_)
    exact norm_ (by kernel_rfl) (hcont (.slice A3 s.bound.length c3, ys, W0.heap.size) _ ⟨hS2, hown, hch, blk_kp (blk_new W0.drew _) kp (fun hf => hf), Nat.le_refl _, fun e => by
      rcases hat _ e with e | e
      · cases e
      · simp at e <;> omega⟩)
end Go.Proofs.YtpgbeapojjinmaaGreatDoor
namespace Go.Proofs.YtpgbeapojjinmaaGreatDoor
open Go.RowKit Go.Shelf Go.Proofs.YtpgbeapojjinmaaGreatDoorW.PrintLast
/-- A snapshot with all cells of a block. -/
theorem row_snap {w0 W : World} {h : Snap} {g : Nat} {cs : Array Value} {T : TypeId} (H : Has W h) (hb : W.heap[g]? = some (.cells cs T)) (hg : w0.heap.size ≤ g) :
    ∃ h2, (∀ (i : Nat) v, cs[i]? = some v → h2 ⟨g, i, none⟩ = some v) ∧ Mk w0 h W h2 :=
  ⟨withRow h W g cs.size, fun i v e => withRow.at_ H (by have := Array.getElem?_eq_some_iff.1 e; exact this.1) ((blk_cell hb i).trans e), ⟨withRow.sub .., withRow.has H .., fun a v e => (withRow.new e).imp_right (fun k => by omega)⟩⟩
theorem three_TmS {w0 W : World} {h : Snap} {u v x : Tm} {A B C : Option Addr} {a b c g : Nat} (H : Has W h) (hb : W.heap[g]? = some (.cells #[.int .i64 u.k, .int .i64 u.n, .string u.nm, .slice A u.ar.length a, .int .i64 v.k, .int .i64 v.n, .string v.nm, .slice B v.ar.length b, .int .i64 x.k, .int .i64 x.n, .string x.nm, .slice C x.ar.length c] 34))
    (ru : TmR h u [.int .i64 u.k, .int .i64 u.n, .string u.nm, .slice A u.ar.length a]) (rv : TmR h v [.int .i64 v.k, .int .i64 v.n, .string v.nm, .slice B v.ar.length b]) (rx : TmR h x [.int .i64 x.k, .int .i64 x.n, .string x.nm, .slice C x.ar.length c]) (hg : w0.heap.size ≤ g) :
    ∃ h2, TmS h2 [u, v, x] (.slice (some ⟨g, 0, none⟩) 3 3) ∧ Mk w0 h W h2 := by
  have hx : ∀ i, W.cell? ⟨g, i, none⟩ = _ := fun i => blk_cell hb i
  exact ⟨withRow h W g 12, ⟨_, 3, rfl, by simp, by simp [lim], ⟨⟨g, 0, _, _, _, _, rfl, withRow.at_ H (by omega) (hx 0), withRow.at_ H (by omega) (hx 1), withRow.at_ H (by omega) (hx 2), withRow.at_ H (by omega) (hx 3), ru.sub (withRow.sub ..)⟩,
    ⟨g, 0, _, _, _, _, rfl, withRow.at_ H (by omega) (hx 4), withRow.at_ H (by omega) (hx 5), withRow.at_ H (by omega) (hx 6), withRow.at_ H (by omega) (hx 7), rv.sub (withRow.sub ..)⟩,
    ⟨g, 0, _, _, _, _, rfl, withRow.at_ H (by omega) (hx 8), withRow.at_ H (by omega) (hx 9), withRow.at_ H (by omega) (hx 10), withRow.at_ H (by omega) (hx 11), rx.sub (withRow.sub ..)⟩, trivial⟩⟩, ⟨withRow.sub .., withRow.has H .., fun a v e => (withRow.new e).imp_right (fun k => by omega)⟩⟩
/-- below, the length of its scope's list named. -/
theorem below_callsN (n : Nat) (s : Sc) (hn : s.bound.length = n) (ty : Ty) (A0 A1 A2 : Option Addr) (n0 n1 k0 k1 k2 : Nat) (h0 : s.vars.length = n0) (h1 : s.pars.length = n1) (cy : List Value) (w : World) (h : Snap) (H : Has w h) (r2 : TyS h s.bound (.slice A2 n k2)) (ry : TyR h ty cy) (hsum : s.bound.length ≤ 1000000) :
    Calls Tryz.prog 50 #[.agg #[.slice A0 n0 k0, .slice A1 n1 k1, .slice A2 n k2], .agg cy.toArray] w (fun e w' => ∃ (A : Option Addr) (c : Nat) (h' : Snap), e = .returned (.agg #[.slice A0 n0 k0, .slice A1 n1 k1, .slice A (n + 1) c]) ∧ TyS h' (s.bound ++ [ty]) (.slice A (n + 1) c) ∧ Mk w h w' h' ∧ Below w.heap.size w w') := by
  subst hn
  subst h0
  subst h1
  exact below_calls s ty A0 A1 A2 k0 k1 k2 cy w h H r2 ry hsum
theorem ScR.three {h : Snap} {s : Sc} {a b c : Value} (r : ScR h s [a, b, c]) : TyS h s.vars a ∧ TyS h s.pars b ∧ TyS h s.bound c := by
  obtain ⟨v0, v1, v2, e, r0, r1, r2⟩ := r
  simp only [List.cons.injEq, and_true] at e
  obtain ⟨rfl, rfl, rfl⟩ := e
  exact ⟨r0, r1, r2⟩
end Go.Proofs.YtpgbeapojjinmaaGreatDoor
