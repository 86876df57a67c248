/- Own text: types: SameType, Parts, Arity, Arrow (the program's). No law is proved here. -/
import Derived.Test.YtpgbeapojjinmaaGreatDoorB
import Derived.Test.YtpgbeapojjinmaaGreatDoorN
set_option linter.unusedVariables false
set_option linter.unusedSimpArgs false
namespace Go.Proofs.YtpgbeapojjinmaaGreatDoor
open Go.RowKit Go.Proofs.YtpgbeapojjinmaaGreatDoorW.PrintLast
/-- The state of the loop of 'copied' behind i rounds. -/
structure CopS (w : World) (h : Snap) (nm : ByteArray) (cs : Array Value) (ar : List Ty) (i : Nat) (sv : Value) (xs : List Value) (wr : World) (h' : Snap) : Prop where
  b1 : wr.heap[w.heap.size]? = some (.cells cs 36)
  b2 : wr.heap[w.heap.size + 1]? = some (.cells #[.string ⟨#[]⟩, .slice none 0 0] 36)
  b3 : wr.heap[w.heap.size + 1 + 1]? = some (.cells #[.string nm, sv] 36)
  own : wr.ownsRow (w.heap.size + 3) 36 2 sv i xs
  ch : Chunks (TyR h') 2 (ar.take i) xs
  made : Mk w h wr h'
  bel : Below w.heap.size w wr
  off : Off h' (fun q => (w.heap.size ≤ q ∧ q < w.heap.size + 3) ∨ sv.ownBlock = some q)
set_option maxRecDepth 100000 in
set_option maxHeartbeats 4000000 in
theorem copied_calls : ∀ (n : Nat) (t : Ty) (_ : t.sz ≤ n) (cs : List Value) (w : World) (h : Snap) (H : Has w h) (r : TyR h t cs),
    Calls Tryz.prog 110 #[.agg cs.toArray] w fun e w' => ∃ cs' h', e = .returned (.agg cs'.toArray) ∧ TyR h' t cs' ∧ Below w.heap.size w w' ∧ Mk w h w' h' := by
  intro n
  induction n with
  | zero => intro t ht; have := t.sz_pos; omega
  | succ n ih =>
  rintro ⟨nm, ar⟩ ht cs w h H ⟨A, cap, rfl, hl, hm, hr⟩
  have hu36 := Tryz.underlying36
  have IH := Lib.hid ih
  clear ih
  have hm' := Lib.hid hm
  unfold lim at hm
  go_enter Tryz.func110, Tryz.ntmps110
  go_wp2_with fail
  go_loopw [12] (fun i wr => ∃ k : Nat, k ≤ ar.length ∧ i = .int .i64 k ∧ ∃ sv xs h', CopS w h nm #[.string nm, .slice A ar.length cap] ar k sv xs wr h') (fun i _ => ar.length - (intOf i).toNat)
  case atStart =>
    have B3 := (((Below.refl w.heap.size w).alloc (Nat.le_refl _) (.cells #[.string nm, .slice A ar.length cap] 36)).alloc (by simp) (.cells #[.string ⟨#[]⟩, .slice none 0 0] 36)).alloc (by simp <;> omega) (.cells #[.string nm, .slice none 0 0] 36)
    exact ⟨0, by omega, rfl, .slice none 0 0, [], h, blk_alloc (blk_alloc (blk_new w _) _) _, blk_alloc (by simpa using blk_new (w.alloc _) _) _, by simpa using blk_new ((w.alloc _).alloc _) _, World.ownsRow_nil .., .nil, Mk.refl (H.below B3), B3, H.off_new (fun q hq => by
      rcases hq with hq | hq
      · exact hq.1
      · simp [Value.ownBlock] at hq)⟩
  case round =>
    obtain ⟨k, hk, rfl, sv, xs, h', hC⟩ := hrel
    have ls := blk_lt hC.b3
    obtain ⟨As, ks, rfl⟩ := own_form hC.own
    by_cases hlt : k < ar.length
    · obtain ⟨b, o, A', cap', rfl, e0, e1, rt⟩ := hr.get k hlt
      have hw := hC.made.has.sub hC.made.sub
      have hc0 := hw.cell _ _ e0
      have hc1 := hw.cell _ _ e1
      have hcs := blk_cell hC.b3 1
      have ht' := Lib.hid (show ar[k].sz ≤ n by have h1 := ht; have h2 := Ty.sz_at ar k hlt; simp only [Ty.sz] at h1; omega)
      clear ht
      have rt' := Lib.hid (rt.sub hC.made.sub)
      go_wp2_with fail
      have hasW := hC.made.has.alloc (.cells #[.string ar[k].nm, .slice A' ar[k].ar.length cap'] 36)
      refine rgs 8 (fun W => W.cell? ⟨w.heap.size + 1 + 1, 1, none⟩ = some (.slice As k ks) ∧ W.cell? ⟨wr.heap.size, 0, none⟩ = some (.string ar[k].nm) ∧ W.cell? ⟨wr.heap.size, 1, none⟩ = some (.slice A' ar[k].ar.length cap')) [5, 7] rfl ?_ (fun hS => ?_)
      · go_simp
      refine rgt 0 (.pointer (some ⟨w.heap.size + 1 + 1, 1, none⟩)) rfl (by kernel_rfl) (fun _ _ _ h => h) rfl hS (fun W hW => by go_simp) ?_
      refine rgt 1 (.slice As k ks) rfl (by kernel_rfl) (fun _ _ _ h => h) rfl hS (fun W hW => by obtain ⟨q1, q2, q3⟩ := hW; go_simp) ?_
      refine rgt 2 (.agg #[.string ar[k].nm, .slice A' ar[k].ar.length cap']) rfl (by kernel_rfl) (fun _ _ _ h => h) rfl hS (fun W hW => by obtain ⟨q1, q2, q3⟩ := hW; go_simp) ?_
      refine rg1 3 rfl (by kernel_rfl) (by decide) rfl (fun K hK => ?_)
      go_simp
      refine (IH.out ar[k] ht'.out _ _ h' hasW.drew rt'.out).mono ?_
      rintro e w1 ⟨cs', h1, rfl, r1, b1, m1⟩
      obtain ⟨A1, c1, rfl, hl1, hl2, _⟩ := r1.open_
      refine hK.out _ _ ?_ (fun hS => ?_)
      · obtain ⟨q1, q2, q3⟩ := hS
        exact ⟨cell_below q1 b1, cell_below q2 b1, cell_below q3 b1⟩
      refine rg1 4 rfl (by kernel_rfl) (by decide) rfl (fun K hK => ?_)
      go_simp
      refine hK.out _ _ ?_ (fun hS => ?_)
      · obtain ⟨q1, q2, q3⟩ := hS
        exact ⟨cell_alloc q1 _, cell_alloc q2 _, cell_alloc q3 _⟩
      refine rgl 5 rfl (by kernel_rfl) (by decide) rfl (fun K hK => ?_)
      have kp1 : Kp (fun _ => False) wr (w1.alloc (.cells #[.string ar[k].nm, .slice A1 ar[k].ar.length c1] 36)) := (((Kp.refl _ wr).alloc _).drew.below_step b1).alloc _
      have ls1 := kp1.size
      simp only [World.size_alloc] at ls1
      refine app36 _ _ rfl rfl (own_kp hC.own kp1 (fun _ hf => hf.elim)) rfl (blk_new _ _) (by unfold lim; omega) (by simp; omega) ?_
      intro sv2 w2 hown2 hg2 hat
      obtain ⟨A2, c2, rfl⟩ := own_form hown2
      have kp2 := (kp1.mono (T := fun q => (Value.slice As k ks).ownBlock = some q) (fun _ hf => hf.elim)).grown hg2 (fun _ e => .inl e)
      have ne := own_ge hC.own (b := w.heap.size + 1 + 1) (by omega)
      have hb3 := blk_kp hC.b3 kp2 ne
      have hc3 := blk_cell hb3 1
      have hz3 := blk_frozen hb3 1
      refine hK.out _ _ ?_
      refine rgp 6 (.pointer (some ⟨w.heap.size + 1 + 1, 1, none⟩)) rfl (by kernel_rfl) (fun _ _ _ h => h) rfl (fun W => by go_simp) ?_
      refine rgl 7 rfl (by kernel_rfl) (by decide) rfl (fun K hK => ?_)
      go_simp
      refine hK.out _ _ ?_
      refine rgd (by kernel_rfl) ?_
      go_wp2_with fail
      have hs1 : (wr.alloc (.cells #[.string ar[k].nm, .slice A' ar[k].ar.length cap'] 36)).drew.heap.size = wr.heap.size + 1 := by simp
      have off1 : Off h1 (fun q => (w.heap.size ≤ q ∧ q < w.heap.size + 3) ∨ (Value.slice As k ks).ownBlock = some q) := m1.off hC.off (fun q hq => by
        rw [hs1]
        rcases hq with hq | hq
        · omega
        · have := hC.own.lt _ hq; omega)
      have has2 : Has w2 h1 := (m1.has.alloc _).kp ((Kp.refl _ _).grown hg2 (fun q e => .inl e)) ⟨fun x v e hq => off1.at_ x v e (.inr hq)⟩
      have kpw : Kp (fun q => w.heap.size ≤ q) w (w2.setCell ⟨w.heap.size + 1 + 1, 1, none⟩ (.slice A2 (k + 1) c2)) := ((Kp.of_below _ hC.bel).trans kp2 (fun i hi e => by have := hC.own.lt _ e; omega)).set (.inl (by simp; omega)) _
      refine ⟨⟨k + 1, by omega, by go_num, .slice A2 (k + 1) c2, _, h1, blk_far (blk_kp hC.b1 kp2 (own_ge hC.own (by omega))) (by simp; omega) _, blk_far (blk_kp hC.b2 kp2 (own_ge hC.own (by omega))) (by simp) _, by simpa using blk_set hb3 1 (.slice A2 (k + 1) c2), own_far hown2 (by simp) _,
        by rw [take_snoc ar k hlt]; exact .snoc (hC.ch.imp (fun _ _ q => q.sub m1.sub)) r1 rfl, (hC.made.trans (m1.from_ (by omega)) (by omega)).world (has2.set (fun x v e hx => off1.at_ x v e (.inl (by rw [hx]; simp; omega))) _), kpw.below (fun i hi => by omega), ?_⟩, by simp [intOf]; omega⟩
      exact ⟨fun x v e hq => by
        rcases hq with hq | hq
        · exact off1.at_ x v e (.inl hq)
        · rcases hat _ hq with hq | hq
          · exact off1.at_ x v e (.inr hq)
          · have := m1.has.lt e
            simp at hq
            omega⟩
    · have hc30 := blk_cell hC.b3 0
      have hc31 := blk_cell hC.b3 1
      have hc20 := blk_cell hC.b2 0
      have hc21 := blk_cell hC.b2 1
      have hz20 := blk_frozen hC.b2 0
      have hz21 := blk_frozen hC.b2 1
      go_wp2_with fail
      obtain ⟨h2, A2, c2, e2, hk2, hc2, hr2, m2, hn2⟩ := own_Ty hC.made.has (w0 := w) (by omega) hC.own hC.ch
      refine bodyPost_ret (v := .agg #[.string nm, .slice As k ks]) ?_ rfl ?_
      · simp [results, Tryz.results110, go_sem, hc20, hc21]
      · obtain rfl : k = ar.length := by omega
        cases e2
        rw [List.take_length] at hr2
        have off2 : ∀ x u, h2 x = some u → x.block ≠ w.heap.size + 1 := fun x u e hx => by
          rcases hn2 x u e with q | q
          · exact hC.off.at_ x u q (.inl (by omega))
          · exact own_ge hC.own (b := x.block) (by omega) q
        refine ⟨[.string nm, .slice As ar.length ks], h2, rfl, ⟨As, ks, rfl, hc2, hm'.out, hr2⟩, ?_, (hC.made.then_ m2).world ((m2.has.set (p := ⟨w.heap.size + 1, 0, none⟩) off2 _).set (p := ⟨w.heap.size + 1, 1, none⟩) off2 _)⟩
        exact (hC.bel.setCell (by simp) _).setCell (by simp) _
end Go.Proofs.YtpgbeapojjinmaaGreatDoor
namespace Go.Proofs.YtpgbeapojjinmaaGreatDoor
open Go.RowKit Go.Proofs.YtpgbeapojjinmaaGreatDoorW.PrintLast
def sameP (t u : Ty) : Bool := formP t && formP u && sameT t u
set_option maxRecDepth 100000 in
set_option maxHeartbeats 4000000 in
theorem SameTypeP_calls (t u : Ty) (cs ds : List Value) (w : World) (h : Snap) (H : Has w h) (r : TyR h t cs) (q : TyR h u ds) :
    Calls Tryz.prog 42 #[.agg cs.toArray, .agg ds.toArray] w fun e w' => e = .returned (.bool (sameP t u)) ∧ Below w.heap.size w w' := by
  obtain ⟨A, cap, rfl, hl, hm, hr⟩ := r.open_
  obtain ⟨B, dap, rfl, gl, gm, gr⟩ := q.open_
  have hu36 := Tryz.underlying36
  obtain ⟨hB, hD, hb⟩ := alloc2 w (.cells #[.string t.nm, .slice A t.ar.length cap] 36) (.cells #[.string u.nm, .slice B u.ar.length dap] 36)
  have G := Lib.hid (show sameP t u = (formP t && formP u && sameT t u) from rfl)
  go_enter Tryz.func42, Tryz.ntmps42
  go_wp2_with fail
  refine (formedP_calls t _ _ h (H.below hb) r).mono ?_
  rintro e w1 ⟨rfl, b1⟩
  have hb1 := below_then hb b1 hb.size
  have hB1 := box_below hB b1
  have hD1 := box_below hD b1
  obtain ⟨x0, x1⟩ := box2 hB1
  obtain ⟨x2, x3⟩ := box2 hD1
  cases c1 : formP t
  · have G' := Lib.hid (show sameP t u = false by rw [G.out, c1]; rfl)
    clear G
    go_wp2_with fail
    go_ret
    exact ⟨ret_bool G'.out.symm, hb1⟩
  have G' := Lib.hid (show sameP t u = (formP u && sameT t u) by rw [G.out, c1]; rfl)
  clear G
  go_wp2_with fail
  refine (formedP_calls u _ _ h (H.below hb1) q).mono ?_
  rintro e w2 ⟨rfl, b2⟩
  have hb2 := below_then hb1 b2 hb1.size
  have hB2 := box_below hB1 b2
  have hD2 := box_below hD1 b2
  obtain ⟨y0, y1⟩ := box2 hB2
  obtain ⟨y2, y3⟩ := box2 hD2
  cases c2 : formP u
  · have G := Lib.hid (show sameP t u = false by rw [G'.out, c2]; rfl)
    clear G'
    go_wp2_with fail
    go_ret
    exact ⟨ret_bool G.out.symm, hb2⟩
  have G := Lib.hid (show sameP t u = sameT t u by rw [G'.out, c2]; rfl)
  clear G'
  go_wp2_with fail
  refine (equal_calls _ t u (Nat.le_refl _) _ _ _ h (H.below hb2) r q).mono ?_
  rintro e w3 ⟨rfl, b3⟩
  have hb3 := below_then hb2 b3 hb2.size
  go_wp2_with fail
  go_ret
  exact ⟨ret_bool G.out.symm, hb3⟩
/-- 'Parts' of the program. -/
def PPartsL (t : Ty) : List Ty := if formP t then partsL t else []
def PPartsR (t : Ty) : ByteArray := if formP t then partsR t else ⟨#[]⟩
set_option maxRecDepth 100000 in
set_option maxHeartbeats 4000000 in
theorem Parts_calls (t : Ty) (cs : List Value) (w : World) (h : Snap) (H : Has w h) (r : TyR h t cs) (hd : formP t = true → (partsL t).length ≤ lim) :
    Calls Tryz.prog 34 #[.agg cs.toArray] w fun e w' => ∃ sv h', e = .returned (.tuple #[sv, .string (PPartsR t)]) ∧ TyS h' (PPartsL t) sv ∧ Mk w h w' h' ∧ Below w.heap.size w w' := by
  obtain ⟨A, cap, rfl, hl, hm, hr⟩ := r.open_
  have hu36 := Tryz.underlying36
  obtain ⟨hB, hb⟩ := alloc1 w (.cells #[.string t.nm, .slice A t.ar.length cap] 36)
  go_enter Tryz.func34, Tryz.ntmps34
  go_wp2_with fail
  refine (formedP_calls t _ _ h (H.below hb) r).mono ?_
  rintro e w1 ⟨rfl, b1⟩
  have hb1 := below_then hb b1 hb.size
  have hB1 := box_below hB b1
  obtain ⟨x0, x1⟩ := box2 hB1
  have l1 := blk_lt hB1
  cases c1 : formP t
  · have G := Lib.hid (show PPartsL t = [] ∧ PPartsR t = ⟨#[]⟩ by simp [PPartsL, PPartsR, c1])
    go_wp2_with fail
    go_ret2
    rw [G.out.1, G.out.2]
    exact ⟨_, h, rfl, TyS_nil h, Mk.refl (H.below hb1), hb1⟩
  have G := Lib.hid (show PPartsL t = partsL t ∧ PPartsR t = partsR t by simp [PPartsL, PPartsR, c1])
  have hd' := Lib.hid (hd c1)
  have hd2 := hd c1
  unfold lim at hd2
  clear hd c1
  go_wp2_with fail
  refine (parts_calls t _ _ h (H.below hb1) r hd'.out).mono ?_
  rintro e w2 ⟨sv, xs, rfl, hown, hch, b2⟩
  have hb2 := below_then hb1 b2 hb1.size
  obtain ⟨As, ks, rfl⟩ := own_form hown
  have H2 := H.below hb2
  have sz2 := hb1.size
  go_wp2_with fail
  go_loopw [17] (fun i wr => ∃ (j : Nat) (ys : List Value) (h' : Snap), j ≤ (partsL t).length ∧ i = .int .i64 j ∧ wr.ownsRow w1.heap.size 36 2 (.slice As (partsL t).length ks) (partsL t).length ys ∧ Chunks (TyR h') 2 (partsL t) ys ∧ Mk w h wr h' ∧ Off h' (fun q => (Value.slice As (partsL t).length ks).ownBlock = some q) ∧ Below w.heap.size w wr) (fun i _ => (partsL t).length - (intOf i).toNat)
  case atStart => exact ⟨0, xs, h, by omega, rfl, hown, hch, Mk.refl H2, H.off_new (fun q e => by have := hown.lt _ e; omega), hb2⟩
  case round =>
    obtain ⟨j, ys, h', hj, rfl, ho, hc, hmk, hoff, hbel⟩ := hrel
    by_cases hlt : j < (partsL t).length
    · obtain ⟨g, c', e, hg⟩ := own_head ho (by omega)
      simp only [Value.slice.injEq, true_and] at e
      obtain ⟨rfl, rfl⟩ := e
      obtain ⟨ec, er, el, eq⟩ := hc.at_ j hlt
      obtain ⟨A', cp, rfl, _⟩ := er.open_
      have v0 := eq 0 (by omega)
      have v1 := eq 1 (by omega)
      simp only [List.getElem?_cons_zero, List.getElem?_cons_succ, Nat.add_zero] at v0 v1
      obtain ⟨cur, hcur⟩ := own_blk ho
      have hc0 : wr.cell? ⟨g, 0 + j * 2, none⟩ = some (.string (partsL t)[j].nm) := by
        have := ho.cells (g := g) rfl _ _ v0
        rw [show (⟨g, 0, none⟩ : Addr).add (j * 2) = ⟨g, 0 + j * 2, none⟩ from by unfold Addr.add; split <;> simp_all] at this
        exact this
      have hc1 : wr.cell? ⟨g, 0 + j * 2 + 1, none⟩ = some (.slice A' (partsL t)[j].ar.length cp) := by
        have := ho.cells (g := g) rfl _ _ v1
        rw [show (⟨g, 0, none⟩ : Addr).add (j * 2 + 1) = ⟨g, 0 + j * 2 + 1, none⟩ from by unfold Addr.add; split <;> simp_all] at this
        exact this
      simp only [Nat.zero_add] at hc0 hc1
      go_wp2_with fail
      refine (copied_calls _ (partsL t)[j] (Nat.le_refl _) _ _ h' hmk.has er).mono ?_
      rintro e w3 ⟨cs', h3, rfl, r3, b3, m3⟩
      obtain ⟨A3, c3, rfl, _⟩ := r3.open_
      have ho3 := own_kp ho (Kp.of_below (fun _ => False) b3) (fun _ hf => hf.elim)
      have hcur3 := box_below hcur b3
      have d0 := cell_below hc0 b3
      have d1 := cell_below hc1 b3
      have z0 := blk_frozen hcur3 (j * 2)
      have z1 := blk_frozen hcur3 (j * 2 + 1)
      have off3 : Off h3 (fun q => (Value.slice (some ⟨g, 0, none⟩) (partsL t).length ks).ownBlock = some q) := m3.off hoff (fun q e => ho.lt _ e |>.2)
      go_wp2_with fail
      refine ⟨⟨j + 1, _, h3, by omega, by go_num, own_set (own_set ho3 (j * 2) (by omega) (.string (partsL t)[j].nm)) (j * 2 + 1) (by omega) (.slice A3 (partsL t)[j].ar.length c3), (hc.imp (fun _ _ q => q.sub m3.sub)).set2 hlt r3, (hmk.trans m3 hbel.size).world (((m3.has.set (p := ⟨g, j * 2, none⟩) (fun a v e he => off3.at_ a v e (by rw [he]; rfl)) _)).set (p := ⟨g, j * 2 + 1, none⟩) (fun a v e he => off3.at_ a v e (by rw [he]; rfl)) _), off3, ?_⟩, by simp [intOf]; omega⟩
      exact ((below_then hbel b3 hbel.size).setCell (by simp; omega) _).setCell (by simp; omega) _
    · go_wp2_with fail
      go_ret2
      rw [G.out.1, G.out.2]
      obtain ⟨h2, hs, hk, hn⟩ := own_TyS (w0 := w) hmk.has (by omega) ho hc hd'.out
      exact ⟨_, h2, rfl, hs, hmk.then_ hk, hbel⟩
set_option maxRecDepth 100000 in
set_option maxHeartbeats 4000000 in
theorem Arity_calls (t : Ty) (cs : List Value) (w : World) (h : Snap) (H : Has w h) (r : TyR h t cs) (hd : formP t = true → (partsL t).length ≤ lim) :
    Calls Tryz.prog 37 #[.agg cs.toArray] w fun e w' => e = .returned (.int .i64 (PPartsL t).length) ∧ Below w.heap.size w w' := by
  obtain ⟨A, cap, rfl, hl, hm, hr⟩ := r.open_
  have hu36 := Tryz.underlying36
  obtain ⟨hB, hb⟩ := alloc1 w (.cells #[.string t.nm, .slice A t.ar.length cap] 36)
  have hd' := Lib.hid hd
  clear hd
  go_enter Tryz.func37, Tryz.ntmps37
  go_wp2_with fail
  refine (Parts_calls t _ _ h (H.below hb) r hd'.out).mono ?_
  rintro e w1 ⟨sv, h', rfl, ⟨As, ks, rfl, _⟩, m1, b1⟩
  go_wp2_with fail
  go_ret
  exact ⟨rfl, below_then hb b1 hb.size⟩
end Go.Proofs.YtpgbeapojjinmaaGreatDoor
