/- The document's fail, tooLarge, Copy, ended. · The document's ended and eta. No law is proved here. -/
import Derived.Test.YtpgbeapojjinmaaGreatDoorPE
import Derived.Test.YtpgbeapojjinmaaGreatDoorRM
set_option linter.unusedVariables false
set_option linter.unusedSimpArgs false
namespace Go.Proofs.YtpgbeapojjinmaaGreatDoor
open Go.RowKit Go.Shelf Go.Proofs.YtpgbeapojjinmaaGreatDoorW.PrintLast
theorem bx3g {w : World} {b : Nat} {x y z : Value} {T : TypeId} (hb : w.heap[b]? = some (.cells #[x, y, z] T)) : w.cell? ⟨b, 0, none⟩ = some x ∧ w.cell? ⟨b, 1, none⟩ = some y ∧ w.cell? ⟨b, 2, none⟩ = some z := ⟨(blk_cell hb 0).trans rfl, (blk_cell hb 1).trans rfl, (blk_cell hb 2).trans rfl⟩
set_option maxRecDepth 100000 in
set_option maxHeartbeats 4000000 in
theorem fail_calls (bw : Nat) (lv : Value) (s E x : Int) (w : World) (hb : w.heap[bw]? = some (.cells #[lv, .int .i64 s, .int .i64 E] 124)) :
    Calls Tryz.prog 166 #[.pointer (some ⟨bw, 0, none⟩), .int .i64 x] w fun e w' => e = .returned (.tuple #[]) ∧ Kp (fun q => q = bw) w w' ∧ w'.heap[bw]? = some (.cells #[lv, .int .i64 s, .int .i64 (failE E x)] 124) := by
  have hu124 := Tryz.underlying124
  obtain ⟨x0, x1, x2⟩ := bx3g hb
  have f2 := blk_frozen hb
  have lb := blk_lt hb
  unfold failE
  by_cases c : E = 0
  · subst c
    rw [if_pos rfl]
    go_enter Tryz.func166, Tryz.ntmps166
    go_wp2_with fail
    go_end0
    exact ⟨rfl, (Kp.refl (fun q => q = bw) w).set (p := ⟨bw, 2, none⟩) (.inl rfl) _, by simpa using blk_set hb 2 (.int .i64 x)⟩
  · rw [if_neg c]
    have c' : (E == 0) = false := by simpa using c
    go_enter Tryz.func166, Tryz.ntmps166
    go_wp2_with fail
    go_end0
    exact ⟨rfl, Kp.refl _ _, hb⟩
set_option maxRecDepth 100000 in
set_option maxHeartbeats 4000000 in
theorem tooLarge_calls (t : Tm) (cs : List Value) (w : World) (h : Snap) (H : Has w h) (r : TmR h t cs) :
    Calls Tryz.prog 167 #[.agg cs.toArray] w fun e w' => e = .returned (.bool (tooP t)) ∧ Below w.heap.size w w' := by
  have r0 := Lib.hid r
  obtain ⟨A, cap, rfl, hl, hm, _, _, hr⟩ := r.open_
  have hu34 := Tryz.underlying34
  obtain ⟨b1, ab⟩ := alloc1 w (.cells #[.int .i64 t.k, .int .i64 t.n, .string t.nm, .slice A t.ar.length cap] 34)
  have G : Hid (tooP t = (decide (4000 < teN 4000 t 0 1000000) || decide (100000 < grT t))) := Lib.hid rfl
  go_enter Tryz.func167, Tryz.ntmps167
  go_wp2_with fail
  refine (termNodes_calls t.sz t (Nat.le_refl _) _ _ h (H.below ab) r0.out 0 4000 1000000 (by omega) (by omega) (by omega) (by omega) (by omega)).mono ?_
  rintro e w1 ⟨rfl, k1⟩
  have ab1 := below_then ab k1 ab.size
  have b2 := box_below b1 k1
  have x2 := box4 b2
  have l2 := blk_lt b2
  obtain ⟨x, hx⟩ : ∃ x, teN 4000 t 0 1000000 = x := ⟨_, rfl⟩
  rw [hx] at G ⊢
  clear hx
  by_cases c1 : 4000 < x
  · have G1 : Hid (tooP t = true) := Lib.hid (by rw [G.out, decide_eq_true c1]; rfl)
    clear G
    go_wp2_with fail
    go_ret
    rw [G1.out]
    exact ⟨rfl, ab1⟩
  · have G1 : Hid (tooP t = decide (100000 < grT t)) := Lib.hid (by rw [G.out, decide_eq_false c1]; rfl)
    clear G
    go_wp2_with fail
    refine (greatest_calls t.sz t (Nat.le_refl _) _ _ h (H.below ab1) r0.out).mono ?_
    rintro e w2 ⟨rfl, k2⟩
    have ab2 := below_then ab1 k2 ab1.size
    obtain ⟨y, hy⟩ : ∃ x, grT t = x := ⟨_, rfl⟩
    rw [hy] at G1 ⊢
    clear hy
    by_cases c2 : 100000 < y
    · rw [decide_eq_true c2] at G1
      go_wp2_with fail
      go_ret
      rw [G1.out]
      exact ⟨rfl, ab2⟩
    · rw [decide_eq_false c2] at G1
      go_wp2_with fail
      go_ret
      rw [G1.out]
      exact ⟨ret_bool (by simp [c1, c2]), ab2⟩
/-- The state of Copy's loop. -/
structure CpS (w : World) (h : Snap) (c1 : Array Value) (us : List Tm) (sv : Value) (xs : List Value) (wr : World) (h' : Snap) : Prop where
  b1 : wr.heap[w.heap.size]? = some (.cells c1 34)
  b2 : wr.heap[w.heap.size + 1]? = some (.cells #[.int .i64 0, .int .i64 0, .string ⟨#[]⟩, .slice none 0 0] 34)
  own : wr.ownsRow (w.heap.size + 1 + 1) 34 4 sv us.length xs
  ch : Chunks (TmR h') 4 us xs
  made : Mk w h wr h'
  bel : Below w.heap.size w wr
  off : Off h' (fun q => q = w.heap.size ∨ q = w.heap.size + 1 ∨ sv.ownBlock = some q)
set_option maxRecDepth 100000 in
set_option maxHeartbeats 8000000 in
theorem Copy_calls : ∀ (m : Nat) (t : Tm) (_ : t.sz ≤ m) (cs : List Value) (w : World) (h : Snap) (H : Has w h) (r : TmR h t cs),
    Calls Tryz.prog 168 #[.agg cs.toArray] w (MadeTm w h (.inr t)) := by
  intro m
  induction m with
  | zero => intro t ht; have := t.sz_pos; omega
  | succ m ih =>
  rintro ⟨kk, nn, nm, ar⟩ ht cs w h H r
  obtain ⟨A, cap', rfl, hl, hlm, hk1, hn1, hr⟩ := id r
  have hu34 := Tryz.underlying34
  have IH := Lib.hid ih
  clear ih
  obtain ⟨a1, a2, ab⟩ := alloc2 w (.cells #[.int .i64 kk, .int .i64 nn, .string nm, .slice A ar.length cap'] 34) (.cells #[.int .i64 0, .int .i64 0, .string ⟨#[]⟩, .slice none 0 0] 34)
  have hsz : ((w.alloc (.cells #[.int .i64 kk, .int .i64 nn, .string nm, .slice A ar.length cap'] 34)).alloc (.cells #[.int .i64 0, .int .i64 0, .string ⟨#[]⟩, .slice none 0 0] 34)).heap.size = w.heap.size + 2 := by simp
  have hlm2 : ar.length ≤ 1073741824 := by unfold lim at hlm; exact hlm
  go_enter Tryz.func168, Tryz.ntmps168
  go_wp2_with fail
  go_loopw [3, 4] (fun v i wr => ∃ us xs h', us.length ≤ ar.length ∧ i = .int .i64 us.length ∧ CpS w h #[.int .i64 kk, .int .i64 nn, .string nm, .slice A ar.length cap'] us v xs wr h' ∧ Hid (us = ar.take us.length)) (fun _ i _ => ar.length - (intOf i).toNat)
  case atStart => exact ⟨[], [], h, by simp, rfl, ⟨a1, a2, World.ownsRow_nil .., .nil, Mk.refl (H.below ab), ab, H.off_new (fun q hq => by
      rcases hq with hq | hq | hq
      · omega
      · omega
      · simp [Value.ownBlock] at hq)⟩, by show _ = _; simp⟩
  case round =>
    obtain ⟨us, xs, h', hj, rfl, hC, hI⟩ := hrel
    have ls := blk_lt hC.b2
    obtain ⟨As, ks, rfl⟩ := own_form hC.own
    have z1 := box4 hC.b1
    by_cases hlt : us.length < ar.length
    · obtain ⟨b', o, A', c', rfl, e0, e1, e2, e3, rt⟩ := hr.get us.length hlt
      have hw := hC.made.has.sub hC.made.sub
      have hc0 := hw.cell _ _ e0
      have hc1 := hw.cell _ _ e1
      have hc2 := hw.cell _ _ e2
      have hc3 := hw.cell _ _ e3
      have ht' := Lib.hid (show ar[us.length].sz ≤ m by have h1 := ht; have h2 := Tm.sz_at ar us.length hlt; simp only [Tm.sz] at h1; omega)
      have rt' := Lib.hid (rt.sub hC.made.sub)
      have hI' : Hid (us ++ [ar[us.length]] = ar.take (us.length + 1)) := by
        show _ = _
        rw [take_snoc ar us.length hlt, ← hI.out]
      clear hI
      go_wp2_with fail
      obtain ⟨u, hu⟩ : ∃ u, ar[us.length] = u := ⟨_, rfl⟩
      rw [hu] at hc0 hc1 hc2 hc3 ht' rt' hI' ⊢
      clear hu e0 e1 e2 e3 rt
      refine (IH.out u ht'.out _ wr h' hC.made.has rt'.out).mono ?_
      rintro e w1 ⟨k1, cs', h1, rfl, r1, m1⟩
      have r1' := Lib.hid r1
      obtain ⟨A1, c1, rfl, hl1, hl2, hk2, hn2, _⟩ := r1.open_
      have kk6 : Below w.heap.size w w1 := below_then hC.bel k1 hC.bel.size
      have kp1 : Kp (fun _ => False) wr (w1.alloc (.cells #[.int .i64 u.k, .int .i64 u.n, .string u.nm, .slice A1 u.ar.length c1] 34)) := ((Kp.refl _ wr).below_step k1).alloc _
      have hown1 := own_kp hC.own kp1 (fun _ hf => hf.elim)
      have hnb := blk_new w1 (.cells #[.int .i64 u.k, .int .i64 u.n, .string u.nm, .slice A1 u.ar.length c1] 34)
      have ls1 := k1.size
      have hb1 := hC.bel.size
      go_wp2_with (refine app34L rfl _ _ rfl rfl hown1 rfl hnb (by unfold lim; omega) (by simp; omega) ?_; intro sv2 w2 hown2 hg2 hat)
      obtain ⟨A2, c2, rfl⟩ := own_form hown2
      have kp2 : Kp (fun q => (Value.slice As us.length ks).ownBlock = some q) wr w2 := (kp1.mono (T := fun q => (Value.slice As us.length ks).ownBlock = some q) (fun _ hf => hf.elim)).grown hg2 (fun _ e => .inl e)
      have hnb1 := blk_kp hC.b1 kp2 (own_ge hC.own (by omega))
      have hnb2 := blk_kp hC.b2 kp2 (own_ge hC.own (by omega))
      have off1 : Off h1 (fun q => q = w.heap.size ∨ q = w.heap.size + 1 ∨ (Value.slice As us.length ks).ownBlock = some q) := m1.off hC.off (fun q hq => by
        rcases hq with hq | hq | hq
        · omega
        · omega
        · have := hC.own.lt _ hq; omega)
      have kg : Kp (fun q => (Value.slice As us.length ks).ownBlock = some q) w1 w2 := ((Kp.refl _ w1).alloc _).grown hg2 (fun q e => .inl e)
      have has2 : Has w2 h1 := m1.has.kp kg ⟨fun x v e hq => off1.at_ x v e (.inr (.inr hq))⟩
      have sw2 := kg.size
      have kb2 : Below w.heap.size w w2 := ((Kp.of_below (fun q => w.heap.size ≤ q) kk6).trans kg (fun q hq e => by
        have := hC.own.2
        exact Nat.le_of_not_lt (fun hlt => own_ge hC.own (b := q) (by omega) e))).below (fun i hi e => by omega)
      go_wp2_with fail
      refine ⟨⟨us ++ [u], _, h1, by simp; omega, by simp, ⟨hnb1, hnb2, by rw [List.length_append]; exact hown2, .snoc (hC.ch.imp (fun _ _ q => q.sub m1.sub)) r1'.out rfl, (hC.made.trans m1 hb1).world has2, kb2, ⟨fun x v e hq => ?_⟩⟩, by rw [List.length_append]; exact hI'⟩, by simp [intOf]; omega⟩
      rcases hq with hq | hq | hq
      · exact off1.at_ x v e (.inl hq)
      · exact off1.at_ x v e (.inr (.inl hq))
      · rcases hat _ hq with hq | hq
        · exact off1.at_ x v e (.inr (.inr hq))
        · have := m1.has.lt e
          simp at hq
          omega
    · have hje := Lib.hid (show us.length = ar.length by omega)
      have hus : Hid (us = ar) := by
        have := hI.out
        rw [hje.out, List.take_length] at this
        exact this
      obtain ⟨h2, A2, c2, e2, hn3, hc2', hr3, m3, hn4⟩ := own_Tm (w0 := w) hC.made.has (by omega) hC.own hC.ch
      cases e2
      have rT : TmR h2 (.mk kk nn nm us) [.int .i64 kk, .int .i64 nn, .string nm, .slice As us.length ks] := ⟨As, ks, rfl, hc2', by unfold lim; omega, hk1, hn1, hr3⟩
      have off2 : Off h2 (fun q => q = w.heap.size + 1) := ⟨fun x v e hx => by
        rcases hn4 x v e with q | q
        · exact hC.off.at_ x v q (.inr (.inl hx))
        · exact own_ge hC.own (b := x.block) (by omega) q⟩
      have mm2 := hC.made.then_ m3
      clear hn3 hc2' hr3 hn4 m3 hI
      have f3 := blk_frozen hC.b2
      have x2 := box4 hC.b2
      go_wp2_with fail
      obtain ⟨W5, hW5, b5, kp5⟩ : ∃ W5, ((((wr.setCell ⟨w.heap.size + 1, 0, none⟩ (.int .i64 kk)).setCell ⟨w.heap.size + 1, 1, none⟩ (.int .i64 nn)).setCell ⟨w.heap.size + 1, 2, none⟩ (.string nm)).setCell ⟨w.heap.size + 1, 3, none⟩ (.slice As us.length ks)) = W5 ∧
          W5.heap[w.heap.size + 1]? = some (.cells #[.int .i64 kk, .int .i64 nn, .string nm, .slice As us.length ks] 34) ∧ Kp (fun q => q = w.heap.size + 1) wr W5 := ⟨_, rfl, (set4 hC.b2 _ _ _ _).1, (set4 hC.b2 _ _ _ _).2⟩
      rw [hW5]
      have x5 := box4 b5
      refine bodyPost_ret (v := .agg #[.int .i64 kk, .int .i64 nn, .string nm, .slice As us.length ks]) (by simp [results, Tryz.results168, go_sem, x5]) rfl ?_
      have hres := rT
      rw [hus.out] at hres
      exact ⟨((Kp.of_below (fun q => q = w.heap.size + 1) hC.bel).trans kp5 (fun i hi e => e)).below (fun i hi e => by omega), _, h2, by rw [hus.out], hres, mm2.world (mm2.has.kp kp5 off2)⟩
end Go.Proofs.YtpgbeapojjinmaaGreatDoor
namespace Go.Proofs.YtpgbeapojjinmaaGreatDoor
open Go.RowKit Go.Shelf Go.Proofs.YtpgbeapojjinmaaGreatDoorW.PrintLast
set_option maxRecDepth 100000 in
set_option maxHeartbeats 8000000 in
theorem ended_calls (bw : Nat) (lv : Value) (s E : Int) (t : Tm) (cs : List Value) (w : World) (h : Snap) (H : Has w h) (r : TmR h t cs) (hb : w.heap[bw]? = some (.cells #[lv, .int .i64 s, .int .i64 E] 124)) :
    Calls Tryz.prog 95 #[.pointer (some ⟨bw, 0, none⟩), .agg cs.toArray] w (DoneRes w h (endD t E)) := by
  have r0 := Lib.hid r
  obtain ⟨A, cap, rfl, hl, hlm, hk1, hn1, hr⟩ := r.open_
  have hu34 := Tryz.underlying34
  have hu50 := Tryz.underlying50
  have hu124 := Tryz.underlying124
  obtain ⟨R, hR⟩ : ∃ R, endD t E = R := ⟨_, rfl⟩
  rw [hR]
  unfold endD at hR
  replace hR := Lib.hid hR
  obtain ⟨a1, a2, ab⟩ := alloc2 w (.cells #[.int .i64 t.k, .int .i64 t.n, .string t.nm, .slice A t.ar.length cap] 34) (.cells #[.int .i64 0, .int .i64 0, .string ⟨#[]⟩, .slice none 0 0, .int .i64 0] 50)
  have hb1 := box_below hb ab
  obtain ⟨u0, u1, u2⟩ := bx3g hb1
  have lb := blk_lt hb1
  have l1 := blk_lt a1
  have x1 := box4 a1
  by_cases c0 : E = 0
  rotate_left
  · have c0n : (E != 0) = true := by simpa using c0
    have G : Hid (R = (tm0, E)) := Lib.hid (by rw [← hR.out, if_pos c0])
    clear c0
    obtain ⟨W0, hW0⟩ : ∃ W0, (w.alloc (.cells #[.int .i64 t.k, .int .i64 t.n, .string t.nm, .slice A t.ar.length cap] 34)).alloc (.cells #[.int .i64 0, .int .i64 0, .string ⟨#[]⟩, .slice none 0 0, .int .i64 0] 50) = W0 := ⟨_, rfl⟩
    rw [hW0] at a1 a2 ab hb1 u0 u1 u2 lb l1 x1
    have x2 := box5d a2
    have f2 := blk_frozen a2
    have l2 := blk_lt a2
    go_enter Tryz.func95, Tryz.ntmps95
    go_wp2_with fail
    obtain ⟨W5, hW5, b5, kp5⟩ : ∃ W5, (((((W0.setCell ⟨w.heap.size + 1, 0, none⟩ (.int .i64 0)).setCell ⟨w.heap.size + 1, 1, none⟩ (.int .i64 0)).setCell ⟨w.heap.size + 1, 2, none⟩ (.string ⟨#[]⟩)).setCell ⟨w.heap.size + 1, 3, none⟩ (.slice none 0 0)).setCell ⟨w.heap.size + 1, 4, none⟩ (.int .i64 E)) = W5 ∧ W5.heap[w.heap.size + 1]? = some (.cells #[.int .i64 0, .int .i64 0, .string ⟨#[]⟩, .slice none 0 0, .int .i64 E] 50) ∧ Kp (fun q => q = w.heap.size + 1) W0 W5 := ⟨_, rfl, (set5d a2 _ _ _ _ _).1, (set5d a2 _ _ _ _ _).2⟩
    rw [hW5]
    have x5 := box5d b5
    have hb5 : Below w.heap.size w W5 := ((Kp.of_below (fun q => q = w.heap.size + 1) ab).trans kp5 (fun i hi e => e)).below (fun i hi e => by omega)
    refine bodyPost_ret (v := .agg #[.int .i64 0, .int .i64 0, .string ⟨#[]⟩, .slice none 0 0, .int .i64 E]) (by simp [results, Tryz.results95, go_sem, x5]) rfl ?_
    rw [G.out]
    exact ⟨hb5, none, 0, h, rfl, tm0_R h, Mk.refl (H.below hb5)⟩
  subst c0
  have G : Hid (R = if tooP t then (tm0, 2) else if 100 < teD t 101 then (tm0, 5) else (t, 0)) := Lib.hid (by rw [← hR.out, if_neg (by decide)])
  clear hR
  go_enter Tryz.func95, Tryz.ntmps95
  go_wp2_with fail
  clear u0 u1 u2
  refine (tooLarge_calls t _ _ h (H.below ab) r0.out).mono ?_
  rintro e w1 ⟨rfl, k1⟩
  have ab1 := below_then ab k1 ab.size
  have b1 := box_below a1 k1
  have b2 := box_below a2 k1
  clear x1 l1
  cases c1 : tooP t
  rotate_left
  · have G1 : Hid (R = (tm0, 2)) := Lib.hid (by rw [G.out, c1]; rfl)
    have x2 := box5d b2
    have f2 := blk_frozen b2
    have l2 := blk_lt b2
    go_wp2_with fail
    obtain ⟨W5, hW5, b5, kp5⟩ : ∃ W5, (((((w1.setCell ⟨w.heap.size + 1, 0, none⟩ (.int .i64 0)).setCell ⟨w.heap.size + 1, 1, none⟩ (.int .i64 0)).setCell ⟨w.heap.size + 1, 2, none⟩ (.string ⟨#[]⟩)).setCell ⟨w.heap.size + 1, 3, none⟩ (.slice none 0 0)).setCell ⟨w.heap.size + 1, 4, none⟩ (.int .i64 2)) = W5 ∧ W5.heap[w.heap.size + 1]? = some (.cells #[.int .i64 0, .int .i64 0, .string ⟨#[]⟩, .slice none 0 0, .int .i64 2] 50) ∧ Kp (fun q => q = w.heap.size + 1) w1 W5 := ⟨_, rfl, (set5d b2 _ _ _ _ _).1, (set5d b2 _ _ _ _ _).2⟩
    rw [hW5]
    have x5 := box5d b5
    have hb5 : Below w.heap.size w W5 := ((Kp.of_below (fun q => q = w.heap.size + 1) ab1).trans kp5 (fun i hi e => e)).below (fun i hi e => by omega)
    refine bodyPost_ret (v := .agg #[.int .i64 0, .int .i64 0, .string ⟨#[]⟩, .slice none 0 0, .int .i64 2]) (by simp [results, Tryz.results95, go_sem, x5]) rfl ?_
    rw [G1.out]
    exact ⟨hb5, none, 0, h, rfl, tm0_R h, Mk.refl (H.below hb5)⟩
  have G1 : Hid (R = if 100 < teD t 101 then (tm0, 5) else (t, 0)) := Lib.hid (by rw [G.out, c1]; rfl)
  clear G c1
  have x1 := box4 b1
  have l1 := blk_lt b1
  go_wp2_with fail
  refine (RDepth_calls t _ _ h (H.below ab1) r0.out).mono ?_
  rintro e w2 ⟨rfl, k2⟩
  have ab2 := below_then ab1 k2 ab1.size
  have d1 := box_below b1 k2
  have d2 := box_below b2 k2
  clear x1 l1 b1 b2
  obtain ⟨y, hy⟩ : ∃ x, teD t 101 = x := ⟨_, rfl⟩
  rw [hy] at G1 ⊢
  clear hy
  by_cases c2 : 100 < y
  · have G2 : Hid (R = (tm0, 5)) := Lib.hid (by rw [G1.out, if_pos c2])
    have x2 := box5d d2
    have f2 := blk_frozen d2
    have l2 := blk_lt d2
    go_wp2_with fail
    obtain ⟨W5, hW5, b5, kp5⟩ : ∃ W5, (((((w2.setCell ⟨w.heap.size + 1, 0, none⟩ (.int .i64 0)).setCell ⟨w.heap.size + 1, 1, none⟩ (.int .i64 0)).setCell ⟨w.heap.size + 1, 2, none⟩ (.string ⟨#[]⟩)).setCell ⟨w.heap.size + 1, 3, none⟩ (.slice none 0 0)).setCell ⟨w.heap.size + 1, 4, none⟩ (.int .i64 5)) = W5 ∧ W5.heap[w.heap.size + 1]? = some (.cells #[.int .i64 0, .int .i64 0, .string ⟨#[]⟩, .slice none 0 0, .int .i64 5] 50) ∧ Kp (fun q => q = w.heap.size + 1) w2 W5 := ⟨_, rfl, (set5d d2 _ _ _ _ _).1, (set5d d2 _ _ _ _ _).2⟩
    rw [hW5]
    have x5 := box5d b5
    have hb5 : Below w.heap.size w W5 := ((Kp.of_below (fun q => q = w.heap.size + 1) ab2).trans kp5 (fun i hi e => e)).below (fun i hi e => by omega)
    refine bodyPost_ret (v := .agg #[.int .i64 0, .int .i64 0, .string ⟨#[]⟩, .slice none 0 0, .int .i64 5]) (by simp [results, Tryz.results95, go_sem, x5]) rfl ?_
    rw [G2.out]
    exact ⟨hb5, none, 0, h, rfl, tm0_R h, Mk.refl (H.below hb5)⟩
  have G2 : Hid (R = (t, 0)) := Lib.hid (by rw [G1.out, if_neg c2])
  clear G1
  have x1 := box4 d1
  have l1 := blk_lt d1
  go_wp2_with fail
  have ld2 := blk_lt d2
  refine (Copy_calls t.sz t (Nat.le_refl _) _ _ h (H.below ab2) r0.out).mono ?_
  rintro e w3 ⟨k3, cs', h', rfl, r', m'⟩
  have ab3 := below_then ab2 k3 ab2.size
  have e2 := box_below d2 k3
  obtain ⟨A1, c3, rfl, _⟩ := r'.open_
  clear x1 l1
  have x2 := box5d e2
  have f2 := blk_frozen e2
  have l2 := blk_lt e2
  go_wp2_with fail
  obtain ⟨W5, hW5, b5, kp5⟩ : ∃ W5, (((((w3.setCell ⟨w.heap.size + 1, 0, none⟩ (.int .i64 t.k)).setCell ⟨w.heap.size + 1, 1, none⟩ (.int .i64 t.n)).setCell ⟨w.heap.size + 1, 2, none⟩ (.string t.nm)).setCell ⟨w.heap.size + 1, 3, none⟩ (.slice A1 t.ar.length c3)).setCell ⟨w.heap.size + 1, 4, none⟩ (.int .i64 0)) = W5 ∧ W5.heap[w.heap.size + 1]? = some (.cells #[.int .i64 t.k, .int .i64 t.n, .string t.nm, .slice A1 t.ar.length c3, .int .i64 0] 50) ∧ Kp (fun q => q = w.heap.size + 1) w3 W5 := ⟨_, rfl, (set5d e2 _ _ _ _ _).1, (set5d e2 _ _ _ _ _).2⟩
  rw [hW5]
  have x5 := box5d b5
  have hb5 : Below w.heap.size w W5 := ((Kp.of_below (fun q => q = w.heap.size + 1) ab3).trans kp5 (fun i hi e => e)).below (fun i hi e => by omega)
  refine bodyPost_ret (v := .agg #[.int .i64 t.k, .int .i64 t.n, .string t.nm, .slice A1 t.ar.length c3, .int .i64 0]) (by simp [results, Tryz.results95, go_sem, x5]) rfl ?_
  rw [G2.out]
  exact ⟨hb5, A1, c3, h', rfl, r', (m'.from_ ab2.size).world (m'.has.kp kp5 (m'.off (H.off_new (fun k hk => by omega)) (fun k hk => by omega)))⟩
end Go.Proofs.YtpgbeapojjinmaaGreatDoor
