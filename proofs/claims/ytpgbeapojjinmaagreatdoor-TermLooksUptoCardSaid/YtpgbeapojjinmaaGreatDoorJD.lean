/- term.worker.apply. · term.worker.subst, and the three together. No law is proved here. -/
import Derived.Test.YtpgbeapojjinmaaGreatDoorJB
set_option linter.unusedVariables false
set_option linter.unusedSimpArgs false
namespace Go.Proofs.YtpgbeapojjinmaaGreatDoor
open Go.RowKit Go.Shelf Go.Proofs.YtpgbeapojjinmaaGreatDoorW.PrintLast
theorem run_app {f : Nat} {c : Int} {t x : Tm} {xs : List Tm} {o : Sum Int (Tm × Int)} (he : runW f (.app c t (x :: xs)) = some o) :
    ∃ g, f = g + 1 ∧ t.k = 5 ∧ (0 ≤ c ∧ c ≤ 2000) ∧ ((2000 < c + 1 ∧ o = .inl 4) ∨ (c + 1 ≤ 2000 ∧ ∃ body bs, t.ar = body :: bs ∧ ∃ o1, runW g (.sub (c + 1) body x) = some o1 ∧ match o1 with
      | .inl e => o = .inl e
      | .inr (u, c') => u.ld ≤ 1000000000 ∧ (((measM u).1 ≤ 4000 ∧ fitsP u = true ∧ runW g (.app c' u xs) = some o) ∨ (¬ ((measM u).1 ≤ 4000 ∧ fitsP u = true) ∧ o = .inl 2)))) := by
  cases f with
  | zero => simp [runW] at he
  | succ g =>
  obtain ⟨k, n, nm, ar⟩ := t
  rw [runW.eq_def] at he
  simp only [] at he
  by_cases q : k = 5
  · rw [if_pos q] at he
    by_cases q1 : c < 0 ∨ 2000 < c
    · rw [if_pos q1] at he; cases he
    rw [if_neg q1] at he
    refine ⟨g, rfl, q, by omega, ?_⟩
    by_cases q2 : c + 1 ≤ 2000
    · rw [if_pos q2] at he
      cases ar with
      | nil => cases he
      | cons body bs =>
        refine .inr ⟨q2, body, bs, rfl, ?_⟩
        simp only [] at he
        cases hx : runW g (.sub (c + 1) body x) with
        | none => rw [hx] at he; cases he
        | some o1 =>
          rw [hx] at he
          refine ⟨o1, rfl, ?_⟩
          rcases o1 with e | ⟨u, c'⟩
          · simp at he; exact he.symm
          · simp only [] at he
            by_cases q3 : u.ld ≤ 1000000000
            · refine ⟨q3, ?_⟩
              by_cases q4 : (measM u).1 ≤ 4000 ∧ fitsP u = true
              · rw [if_pos ⟨q4.1, q4.2, q3⟩] at he; exact .inl ⟨q4.1, q4.2, he⟩
              · rw [if_neg (fun h => q4 ⟨h.1, h.2.1⟩), if_pos q3] at he; cases he; exact .inr ⟨q4, rfl⟩
            · rw [if_neg (fun h => q3 h.2.2), if_neg q3] at he; cases he
    · rw [if_neg q2] at he
      cases he
      exact .inl ⟨by omega, rfl⟩
  · rw [if_neg q] at he; cases he
theorem run_app0 {f : Nat} {c : Int} {t : Tm} {o : Sum Int (Tm × Int)} (he : runW f (.app c t []) = some o) : o = .inr (t, c) := by
  cases f with
  | zero => simp [runW] at he
  | succ g => rw [runW.eq_def] at he; simp at he; exact he.symm
theorem TmL.tail {h : Snap} {b o : Nat} : ∀ {ts : List Tm} {i : Nat}, TmL h (some ⟨b, o, none⟩) (i + 1) ts → TmL h (some ⟨b, o + 4, none⟩) i ts
  | [], _, _ => trivial
  | t :: ts, i, ⟨⟨b', o', v0, v1, v2, v3, e, e0, e1, e2, e3, r⟩, rest⟩ => by
    cases e
    refine ⟨⟨b, o + 4, v0, v1, v2, v3, rfl, ?_, ?_, ?_, ?_, r⟩, rest.tail⟩
    · rw [← e0]; congr 2; omega
    · rw [← e1]; congr 2; omega
    · rw [← e2]; congr 2; omega
    · rw [← e3]; congr 2; omega
theorem TmS.tail {h : Snap} {y : Tm} {ys : List Tm} {b o L c : Nat} (hL : ys.length = L) (r : TmS h (y :: ys) (.slice (some ⟨b, o, none⟩) (L + 1) c)) : TmS h ys (.slice (if c = 1 then some ⟨b, o, none⟩ else some ⟨b, o + 4, none⟩) L (c - 1)) := by
  obtain ⟨A, cap, e, h1, h2, h3⟩ := r
  simp only [Value.slice.injEq, List.length_cons] at e h1 h2
  obtain ⟨rfl, _, rfl⟩ := e
  refine ⟨_, _, by rw [hL], by omega, by omega, ?_⟩
  split
  · have : ys = [] := List.eq_nil_of_length_eq_zero (by omega)
    subst this
    trivial
  · exact h3.2.tail
/-- The state of apply's loop. -/
structure ApS (w : World) (h : Snap) (bc : Nat) (u : Tm) (cj : Int) (ys : List Tm) (v : Value) (wr : World) (h' : Snap) : Prop where
  b1 : ∃ cu : List Value, wr.heap[w.heap.size]? = some (.cells cu.toArray 34) ∧ TmR h' u cu
  b2 : wr.heap[w.heap.size + 1]? = some (.cells #[.int .i64 0, .int .i64 0, .string ⟨#[]⟩, .slice none 0 0] 34)
  bcn : wr.heap[bc]? = some (.cells #[.int .i64 cj] 129)
  rs : TmS h' ys v
  made : Mk w h wr h'
  kp : Kp (fun q => q = bc) w wr
  off : Off h' (fun q => q = bc ∨ (w.heap.size ≤ q ∧ q < w.heap.size + 2))
set_option maxRecDepth 100000 in
set_option maxHeartbeats 8000000 in
theorem app_all (f : Nat) (IH : Hid (∀ g < f, SubOK g)) : AppOK f := by
  intro bc c t xs o cs sv w h H r rs ho hc he
  have r0 := r
  obtain ⟨A, cap, rfl, hl, hlm, hk1, hn1, hr⟩ := r.open_
  obtain ⟨A', cap', rfl, _⟩ := id rs
  have hu34 := Tryz.underlying34
  have hmf := run_made
  obtain ⟨a1, a2, ab⟩ := alloc2 w (.cells #[.int .i64 t.k, .int .i64 t.n, .string t.nm, .slice A t.ar.length cap] 34) (.cells #[.int .i64 0, .int .i64 0, .string ⟨#[]⟩, .slice none 0 0] 34)
  have he' := Lib.hid he
  clear he
  have lc := blk_lt hc
  go_enter Tryz.func100, Tryz.ntmps100
  go_wp2_with fail
  go_loopw [2] (fun v wr => ∃ u cj ys h' g, ApS w h bc u cj ys v wr h' ∧ Hid (g ≤ f ∧ runW g (.app cj u ys) = some o)) (fun v _ => lenV v)
  case atStart => exact ⟨t, c, xs, h, f, ⟨⟨_, a1, r0⟩, a2, box_below hc ab, rs, Mk.refl (H.below ab), Kp.of_below _ ab, ⟨fun a v e hq => by
      have := H.lt e
      rcases hq with hq | hq
      · exact ho.at_ a v e hq
      · omega⟩⟩, ⟨Nat.le_refl _, he'.out⟩⟩
  case round =>
    obtain ⟨u, cj, ys, h', g, hC, hI⟩ := hrel
    obtain ⟨A2, c2, rfl, hys, hyl, hyr⟩ := id hC.rs
    obtain ⟨cu, hcu, ru⟩ := hC.b1
    have ru0 := ru
    obtain ⟨A1, c1, rfl, hl1, hlm1, hk11, hn11, hr1⟩ := ru.open_
    have x1 := box4 hcu
    have lb2 := blk_lt hC.b2
    have lb1 := blk_lt hcu
    have xc := box1 hC.bcn
    have lcn := blk_lt hC.bcn
    have fc := blk_frozen hC.bcn
    cases ys with
    | nil =>
      have ho := run_app0 hI.out.2
      have x2 := box4 hC.b2
      have f2 := blk_frozen hC.b2
      have hys0 : ([] : List Tm).length = 0 := rfl
      simp only [hys0] at *
      go_wp2_with fail
      obtain ⟨W5, hW5, b5, kp5⟩ : ∃ W5, ((((wr.setCell ⟨w.heap.size + 1, 0, none⟩ (.int .i64 u.k)).setCell ⟨w.heap.size + 1, 1, none⟩ (.int .i64 u.n)).setCell ⟨w.heap.size + 1, 2, none⟩ (.string u.nm)).setCell ⟨w.heap.size + 1, 3, none⟩ (.slice A1 u.ar.length c1)) = W5 ∧
          W5.heap[w.heap.size + 1]? = some (.cells #[.int .i64 u.k, .int .i64 u.n, .string u.nm, .slice A1 u.ar.length c1] 34) ∧ Kp (fun q => q = w.heap.size + 1) wr W5 := ⟨_, rfl, (set4 hC.b2 _ _ _ _).1, (set4 hC.b2 _ _ _ _).2⟩
      rw [hW5]
      have x5 := box4 b5
      refine bodyPost_ret (v := .agg #[.int .i64 u.k, .int .i64 u.n, .string u.nm, .slice A1 u.ar.length c1]) (by simp [results, Tryz.results100, go_sem, x5]) rfl ?_
      subst ho
      exact ⟨(hC.kp.trans kp5 (fun q hq e => by omega)).mono (fun q e => .inl e), _, h', rfl, ru0, hC.made.world (hC.made.has.kp kp5 ⟨fun x v e hx => hC.off.at_ x v e (.inr (by omega))⟩), trivial, blk_kp hC.bcn kp5 (by omega)⟩
    | cons y ys =>
      obtain ⟨g1, rfl, hk5, hcr, hcase⟩ := run_app hI.out.2
      obtain ⟨L, hL⟩ : ∃ L, (y :: ys).length = L + 1 := ⟨_, rfl⟩
      have hL2 : ys.length = L := by simpa using hL
      have hcase' := Lib.hid hcase
      clear hcase
      simp only [hL] at *
      have hwr1 : IntKind.i64.wrap (cj + 1) = cj + 1 := IntWalk.i64_in _ (by omega)
      have q5 : (u.k != 5) = false := by simp [hk5]
      have hlen : (0 : Int) < ((L + 1 : Nat) : Int) := by omega
      have kpc : Kp (fun q => q = bc) wr (wr.setCell ⟨bc, 0, none⟩ (.int .i64 (cj + 1))) := (Kp.refl (fun q => q = bc) wr).set (p := ⟨bc, 0, none⟩) (.inl rfl) _
      have hasc : Has (wr.setCell ⟨bc, 0, none⟩ (.int .i64 (cj + 1))) h' := hC.made.has.kp kpc ⟨fun x v e hx => hC.off.at_ x v e (.inl hx)⟩
      have hbc1 : (wr.setCell ⟨bc, 0, none⟩ (.int .i64 (cj + 1))).heap[bc]? = some (.cells #[.int .i64 (cj + 1)] 129) := by simpa using blk_set hC.bcn 0 (.int .i64 (cj + 1))
      have hu1 := blk_kp hcu kpc (by omega)
      have hz1 := blk_kp hC.b2 kpc (by omega)
      by_cases q : cj + 1 ≤ 2000
      · obtain ⟨body, bs, har, o1, he1, hm1⟩ := (hcase'.out.resolve_left (fun h => by omega)).2
        obtain ⟨L1, hL1⟩ : ∃ L1, u.ar.length = L1 + 1 := ⟨bs.length, by rw [har]; simp⟩
        rw [har] at hr1
        obtain ⟨b', o', A3, c3, rfl, e0, e1, e2, e3, rt⟩ := hr1.get 0 (by simp)
        obtain ⟨b'', o'', A4, c4, rfl, g0, g1, g2, g3, rt2⟩ := hyr.get 0 (by simp)
        simp only [Nat.zero_mul, Nat.add_zero, List.getElem_cons_zero] at e0 e1 e2 e3 rt g0 g1 g2 g3 rt2
        have hc0 := hasc.cell _ _ e0
        have hc1 := hasc.cell _ _ e1
        have hc2 := hasc.cell _ _ e2
        have hc3 := hasc.cell _ _ e3
        have hd0 := hasc.cell _ _ g0
        have hd1 := hasc.cell _ _ g1
        have hd2 := hasc.cell _ _ g2
        have hd3 := hasc.cell _ _ g3
        have hm1' := Lib.hid hm1
        have hE := Lib.hid (And.intro (And.intro e0 (And.intro e1 (And.intro e2 e3))) (And.intro g0 (And.intro g1 (And.intro g2 g3))))
        have he1' := Lib.hid he1
        clear hm1 he1 hcase' hr1 hyr har e0 e1 e2 e3 g0 g1 g2 g3
        simp only [hL1] at *
        have hc9 := blk_cell hu1 3
        simp only [List.getElem?_toArray, List.getElem?_cons_succ, List.getElem?_cons_zero] at hc9
        go_wp2_with (first | (go_at_call 81; refine (must_ok _ _).mono ?_; rintro e w3 ⟨rfl, rfl⟩) | fail)
        obtain ⟨W1, hW1⟩ : ∃ W1, (wr.setCell ⟨bc, 0, none⟩ (.int .i64 (cj + 1))) = W1 := ⟨_, rfl⟩
        rw [hW1] at hc0 hc1 hc2 hc3 hd0 hd1 hd2 hd3 hc9 hasc kpc hbc1 hu1 hz1 ⊢
        refine rgs 10 (fun V => V.cell? ⟨w.heap.size, 3, none⟩ = some (.slice (some ⟨b', o', none⟩) (L1 + 1) c1) ∧ (V.cell? ⟨b', o', none⟩ = some (.int .i64 body.k) ∧ V.cell? ⟨b', o' + 1, none⟩ = some (.int .i64 body.n) ∧ V.cell? ⟨b', o' + 2, none⟩ = some (.string body.nm) ∧ V.cell? ⟨b', o' + 3, none⟩ = some (.slice A3 body.ar.length c3)) ∧
            (V.cell? ⟨b'', o'', none⟩ = some (.int .i64 y.k) ∧ V.cell? ⟨b'', o'' + 1, none⟩ = some (.int .i64 y.n) ∧ V.cell? ⟨b'', o'' + 2, none⟩ = some (.string y.nm) ∧ V.cell? ⟨b'', o'' + 3, none⟩ = some (.slice A4 y.ar.length c4))) [9] rfl ⟨hc9, ⟨hc0, hc1, hc2, hc3⟩, hd0, hd1, hd2, hd3⟩ (fun hS => ?_)
        refine rgt 0 (.func (.func 98) #[.pointer (some ⟨bc, 0, none⟩)] #[]) rfl (by kernel_rfl) (fun _ _ _ h => h) rfl hS (fun V hV => by go_simp) ?_
        refine rgt 1 (.pointer (some ⟨w.heap.size, 3, none⟩)) rfl (by kernel_rfl) (fun _ _ _ h => h) rfl hS (fun V hV => by go_simp) ?_
        refine rgt 2 (.slice (some ⟨b', o', none⟩) (L1 + 1) c1) rfl (by kernel_rfl) (fun _ _ _ h => h) rfl hS (fun V hV => by obtain ⟨q1, ⟨p0, p1, p2, p3⟩, r0, r1, r2, r3⟩ := hV; go_simp) ?_
        refine rgt 3 (.pointer (some ⟨b', o', none⟩)) rfl (by kernel_rfl) (fun _ _ _ h => h) rfl hS (fun V hV => by obtain ⟨q1, ⟨p0, p1, p2, p3⟩, r0, r1, r2, r3⟩ := hV; go_simp) ?_
        refine rgt 4 (.agg #[.int .i64 body.k, .int .i64 body.n, .string body.nm, .slice A3 body.ar.length c3]) rfl (by kernel_rfl) (fun _ _ _ h => h) rfl hS (fun V hV => by obtain ⟨q1, ⟨p0, p1, p2, p3⟩, r0, r1, r2, r3⟩ := hV; go_simp) ?_
        refine rgt 5 (.slice (some ⟨b'', o'', none⟩) (L + 1) c2) rfl (by kernel_rfl) (fun _ _ _ h => h) rfl hS (fun V hV => by obtain ⟨q1, ⟨p0, p1, p2, p3⟩, r0, r1, r2, r3⟩ := hV; go_simp) ?_
        refine rgt 6 (.pointer (some ⟨b'', o'', none⟩)) rfl (by kernel_rfl) (fun _ _ _ h => h) rfl hS (fun V hV => by obtain ⟨q1, ⟨p0, p1, p2, p3⟩, r0, r1, r2, r3⟩ := hV; go_simp) ?_
        refine rgt 7 (.agg #[.int .i64 y.k, .int .i64 y.n, .string y.nm, .slice A4 y.ar.length c4]) rfl (by kernel_rfl) (fun _ _ _ h => h) rfl hS (fun V hV => by obtain ⟨q1, ⟨p0, p1, p2, p3⟩, r0, r1, r2, r3⟩ := hV; go_simp) ?_
        refine rg1 8 rfl (by kernel_rfl) (by decide) rfl (fun K hK => ?_)
        go_simp
        refine (IH.out g1 (by have := hI.out.1; omega) bc (cj + 1) body y o1 _ _ W1.drew h' hasc.drew rt rt2 ⟨fun x v e hx => hC.off.at_ x v e (.inl hx)⟩ hbc1 he1'.out).mono ?_
        rintro e w2 ⟨k2, hm⟩
        have kw2 : Kp (fun q => q = bc) w w2 := (hC.kp.trans kpc.drew (fun q hq e => e)).trans k2 (fun q hq e => e.resolve_right (fun hf => hf))
        have k2' : Kp (fun q => q = bc) W1 w2 := ((Kp.refl (fun q => q = bc) W1).drew).trans k2 (fun q hq e => e.resolve_right (fun hf => hf))
        rcases o1 with x | ⟨u2, cj2⟩
        · subst hm
          refine ⟨rfl, kw2.mono (fun q e => .inl e), ?_⟩
          have := hm1'.out
          simp only [] at this
          rw [this]
        · obtain ⟨cs2, h2, rfl, r2, m2, _, hcn2⟩ := hm
          obtain ⟨hsz2, hm2⟩ := hm1'.out
          obtain ⟨A5, c5, rfl, _⟩ := r2.open_
          have d1 := blk_kp hu1 k2' (by omega)
          have d2 := blk_kp hz1 k2' (by omega)
          have hw2 := m2.has.sub m2.sub
          simp only []
          refine hK.out _ _ ?_ (fun hS => ?_)
          · obtain ⟨⟨e0, e1, e2, e3⟩, g0, g1, g2, g3⟩ := hE.out
            exact ⟨blk_cell d1 3, ⟨hw2.cell _ _ e0, hw2.cell _ _ e1, hw2.cell _ _ e2, hw2.cell _ _ e3⟩, hw2.cell _ _ g0, hw2.cell _ _ g1, hw2.cell _ _ g2, hw2.cell _ _ g3⟩
          refine rgl 9 rfl (by kernel_rfl) (by decide) rfl (fun K hK => ?_)
          have f1 := blk_frozen d1
          have l1 := blk_lt d1
          have x1 := box4 d1
          go_simp
          refine hK.out _ _ ?_
          refine rgd (by kernel_rfl) ?_
          obtain ⟨W4, hW4, b4, kp4⟩ : ∃ W4, ((((w2.setCell ⟨w.heap.size, 0, none⟩ (.int .i64 u2.k)).setCell ⟨w.heap.size, 1, none⟩ (.int .i64 u2.n)).setCell ⟨w.heap.size, 2, none⟩ (.string u2.nm)).setCell ⟨w.heap.size, 3, none⟩ (.slice A5 u2.ar.length c5)) = W4 ∧
              W4.heap[w.heap.size]? = some (.cells #[.int .i64 u2.k, .int .i64 u2.n, .string u2.nm, .slice A5 u2.ar.length c5] 34) ∧ Kp (fun q => q = w.heap.size) w2 W4 := ⟨_, rfl, (set4 d1 _ _ _ _).1, (set4 d1 _ _ _ _).2⟩
          rw [hW4]
          have z2 := blk_kp d2 kp4 (by omega)
          have zc := blk_kp hcn2 kp4 (by omega)
          have off2 : Off h2 (fun q => q = bc ∨ (w.heap.size ≤ q ∧ q < w.heap.size + 2)) := m2.off hC.off (fun q hq => by have := kpc.size; simp; omega)
          have has4 := m2.has.kp kp4 ⟨fun x v e hx => off2.at_ x v e (.inr (by omega))⟩
          have kw4 : Kp (fun q => q = bc) w W4 := kw2.trans kp4 (fun q hq e => by omega)
          have mm : Mk w h W4 h2 := (hC.made.trans (m2.from_ (w0 := wr) (by have := kpc.size; simp; omega)) (by have := hC.kp.size; omega)).world has4
          clear hW4 hK x1 hS hc0 hc1 hc2 hc3 hd0 hd1 hd2 hd3 hc9 l1 f1
          have y4 := box4 b4
          have l4 := blk_lt b4
          by_cases q6 : (measM u2).1 ≤ 4000
          · by_cases q7 : fitsP u2 = true
            · go_wp2_with (first | (go_at_call 81; refine (must_ok _ _).mono ?_; rintro e w3 ⟨rfl, rfl⟩) | (go_at_call 55; refine (Size_calls u2 _ _ h2 has4 r2).mono ?_; rintro e w5 ⟨rfl, k5⟩; have b5 := box_below b4 k5; have y5 := box4 b5; have l5 := blk_lt b5; have has5 := has4.below k5) | (go_at_call 164; refine (fits_calls u2 _ _ h2 has5 r2 hsz2).mono ?_; rintro e w6 ⟨rfl, k6⟩; have b6 := box_below b5 k6; have l6 := blk_lt b6; rw [q7]) | fail)
              have he3 : runW g1 (.app cj2 u2 ys) = some o := by
                rcases hm2 with ⟨_, _, e⟩ | ⟨e, _⟩
                · exact e
                · exact absurd ⟨q6, q7⟩ e
              have kb := below_then k5 k6 k5.size
              refine ⟨⟨u2, cj2, ys, h2, g1, ⟨⟨_, b6, r2⟩, box_below z2 kb, box_below zc kb, (hC.rs.sub m2.sub).tail hL2, mm.world (has5.below k6), kw4.below_step kb, off2⟩, ⟨by have := hI.out.1; omega, he3⟩⟩, by simp [lenV]⟩
            · have q8 : fitsP u2 = false := by simpa using q7
              have ho : o = .inl 2 := by
                rcases hm2 with ⟨_, e, _⟩ | ⟨_, e⟩
                · exact absurd e q7
                · exact e
              go_wp2_with (first | (go_at_call 81; refine (must_no _ _).mono ?_; rintro e w3 ⟨rfl, rfl⟩) | (go_at_call 55; refine (Size_calls u2 _ _ h2 has4 r2).mono ?_; rintro e w5 ⟨rfl, k5⟩; have b5 := box_below b4 k5; have y5 := box4 b5; have l5 := blk_lt b5; have has5 := has4.below k5) | (go_at_call 164; refine (fits_calls u2 _ _ h2 has5 r2 hsz2).mono ?_; rintro e w6 ⟨rfl, k6⟩; have b6 := box_below b5 k6; have l6 := blk_lt b6; rw [q8]) | fail)
              subst ho
              exact ⟨rfl, (kw4.below_step (below_then k5 k6 k5.size)).mono (fun q e => .inl e), rfl⟩
          · have ho : o = .inl 2 := by
              rcases hm2 with ⟨e, _⟩ | ⟨_, e⟩
              · exact absurd e q6
              · exact e
            go_wp2_with (first | (go_at_call 81; refine (must_no _ _).mono ?_; rintro e w3 ⟨rfl, rfl⟩) | (go_at_call 55; refine (Size_calls u2 _ _ h2 has4 r2).mono ?_; rintro e w5 ⟨rfl, k5⟩; have b5 := box_below b4 k5; have y5 := box4 b5; have l5 := blk_lt b5; have has5 := has4.below k5) | fail)
            subst ho
            exact ⟨rfl, (kw4.below_step k5).mono (fun q e => .inl e), rfl⟩
      · have ho : o = .inl 4 := by
          rcases hcase'.out with ⟨_, e⟩ | ⟨e, _⟩
          · exact e
          · exact absurd e q
        go_wp2_with (first | (go_at_call 81; refine (must_no _ _).mono ?_; rintro e w3 ⟨rfl, rfl⟩) | fail)
        subst ho
        exact ⟨rfl, (hC.kp.trans kpc (fun q hq e => e)).mono (fun q e => .inl e), rfl⟩
end Go.Proofs.YtpgbeapojjinmaaGreatDoor
namespace Go.Proofs.YtpgbeapojjinmaaGreatDoor
open Go.RowKit Go.Shelf Go.Proofs.YtpgbeapojjinmaaGreatDoorW.PrintLast
mutual
theorem bok_of {lo hi : Int} : ∀ (t : Tm) (b : Int), lo ≤ b → b + t.ld ≤ hi → bokT (fun b _ => decide (lo ≤ b ∧ b ≤ hi)) b t = true
  | .mk k n nm ar, b, h0, h1 => by
    rw [Tm.ld] at h1
    unfold Tm.one at h1
    rw [bokT, bok_ofL ar _ (by split <;> omega) (by split at h1 <;> rename_i q <;> simp only [q, if_true, if_false] <;> omega)]
    simp; omega
theorem bok_ofL {lo hi : Int} : ∀ (l : List Tm) (b : Int), lo ≤ b → b + Tm.ldL l ≤ hi → bokL (fun b _ => decide (lo ≤ b ∧ b ≤ hi)) b l = true
  | [], _, _, _ => rfl
  | t :: ts, b, h0, h1 => by
    rw [Tm.ldL] at h1
    rw [bokL, bok_of t b h0 (by omega), bok_ofL ts b h0 (by omega)]; rfl
end
theorem run_sub {f : Nat} {c : Int} {t s : Tm} {o : Sum Int (Tm × Int)} (he : runW (f + 1) (.sub c t s) = some o) : (allN smallN t = true ∧ t.ld ≤ 1000000000) ∧ (allN smallN s = true ∧ s.ld ≤ 1000000000) ∧ runW f (.rep (subHd s) c t 0) = some o := by
  rw [runW] at he
  by_cases q : (okS t && okS s) = true
  · rw [if_pos q] at he
    have hq : (allN smallN t = true ∧ t.ld ≤ 1000000000) ∧ allN smallN s = true ∧ s.ld ≤ 1000000000 := by simpa [okS] using q
    exact ⟨hq.1, hq.2, he⟩
  · rw [if_neg q] at he; cases he
set_option maxRecDepth 100000 in
set_option maxHeartbeats 8000000 in
theorem sub_step (f : Nat) (IH : Hid (RepOK f)) : SubOK (f + 1) := by
  intro bc c t s o ct cs w h H r rs ho hc he
  have hmf := run_mf
  have r0 := r
  have rs0 := rs
  obtain ⟨A, cap, rfl, hl, hlm, hk1, hn1, hr⟩ := r.open_
  obtain ⟨A', cap', rfl, _⟩ := rs.open_
  have hu34 := Tryz.underlying34
  obtain ⟨a1, a2, a3, ab⟩ := alloc3 w (.cells #[.int .i64 t.k, .int .i64 t.n, .string t.nm, .slice A t.ar.length cap] 34) (.cells #[.int .i64 s.k, .int .i64 s.n, .string s.nm, .slice A' s.ar.length cap'] 34) (.cells #[.int .i64 0, .int .i64 0, .string ⟨#[]⟩, .slice none 0 0] 34)
  obtain ⟨⟨_, hts⟩, ⟨hss, hsz⟩, he⟩ := run_sub he
  have he' := Lib.hid he
  clear he
  have lc := blk_lt hc
  go_enter Tryz.func98, Tryz.ntmps98
  go_wp2_with fail
  refine (raised_calls _).mono ?_
  rintro e w1 ⟨rfl, hw1⟩
  generalize hW0 : ((w.alloc (.cells #[.int .i64 t.k, .int .i64 t.n, .string t.nm, .slice A t.ar.length cap] 34)).alloc (.cells #[.int .i64 s.k, .int .i64 s.n, .string s.nm, .slice A' s.ar.length cap'] 34)).alloc (.cells #[.int .i64 0, .int .i64 0, .string ⟨#[]⟩, .slice none 0 0] 34) = W0 at *
  have sz0 : W0.heap.size = w.heap.size + 3 := by rw [← hW0]; simp
  clear hW0
  have ab1 : Below W0.heap.size W0 w1 := by rw [hw1]; exact ((Below.refl _ W0).alloc (Nat.le_refl _) _).alloc (by simp) _
  have m1 : w1.heap[w.heap.size + 3]? = some (.map #[] 0) := by rw [hw1, ← sz0]; exact blk_alloc (blk_new _ _) _
  have m2 : w1.heap[w.heap.size + 4]? = some (.cells #[.map (some (w.heap.size + 3))] 235) := by rw [hw1, ← sz0, show w.heap.size + 4 = (W0.alloc (.map #[] 0)).heap.size by simp; omega]; exact blk_new _ _
  have sz1 : w1.heap.size = w.heap.size + 5 := by rw [hw1]; simp; omega
  simp only [sz0]
  clear hw1
  have b1 := box_below a1 ab1
  have b2 := box_below a2 ab1
  have b3 := box_below a3 ab1
  have y1 := box4 b1
  have y2 := box4 b2
  have kk := below_then ab ab1 ab.size
  have l1 := blk_lt b1
  have has1 := H.below kk
  have hI : SubI s (w.heap.size + 1) w1.heap.size (w.heap.size + 4) (w.heap.size + 3) h (w1.alloc (.cells #[.func (.func 219) #[] #[.pointer (some ⟨w.heap.size + 4, 0, none⟩)]] 191)) :=
    ⟨⟨blk_alloc m2 _, #[], 0, blk_alloc m1 _, fun e he => by simp at he⟩, ⟨_, blk_alloc b2 _, rs0⟩, blk_new _ _⟩
  go_wp2_with fail
  rw [sz1] at hI
  have HW := subHd_calls s (w.heap.size + 1) (w.heap.size + 5) (w.heap.size + 4) (w.heap.size + 3) bc (w.heap.size + 6) (by omega) (by omega) (by omega) hss (by omega)
  refine (IH.out _ _ _ _ _ _ _ _ HW c t 0 o _ _ h (by simp; omega) (has1.alloc _) r0 ho hI (blk_alloc (box_below hc kk) _) (bok_of t 0 (by omega) (by omega)) (by omega) he'.out).mono ?_
  rintro e w2 ⟨k2, hm⟩
  have kp2 : Kp (fun q => q = bc) w w2 := ((Kp.of_below (fun q => q = bc) kk).alloc _).trans k2 (fun q hq e => by omega)
  rcases o with x | ⟨u, c2⟩
  · subst hm
    exact ⟨rfl, kp2.mono (fun q e => .inl e), rfl⟩
  · obtain ⟨cs', h', rfl, r', m', _, hcn⟩ := hm
    obtain ⟨A2, c3, rfl, _⟩ := r'.open_
    have d3 := blk_kp (blk_alloc b3 (.cells #[.func (.func 219) #[] #[.pointer (some ⟨w.heap.size + 4, 0, none⟩)]] 191)) k2 (by omega)
    have f3 := blk_frozen d3
    have l3 := blk_lt d3
    have x3 := box4 d3
    go_wp2_with fail
    obtain ⟨W5, hW5, b5, kp5⟩ : ∃ W5, ((((w2.setCell ⟨w.heap.size + 1 + 1, 0, none⟩ (.int .i64 u.k)).setCell ⟨w.heap.size + 1 + 1, 1, none⟩ (.int .i64 u.n)).setCell ⟨w.heap.size + 1 + 1, 2, none⟩ (.string u.nm)).setCell ⟨w.heap.size + 1 + 1, 3, none⟩ (.slice A2 u.ar.length c3)) = W5 ∧
        W5.heap[w.heap.size + 1 + 1]? = some (.cells #[.int .i64 u.k, .int .i64 u.n, .string u.nm, .slice A2 u.ar.length c3] 34) ∧ Kp (fun q => q = w.heap.size + 1 + 1) w2 W5 := ⟨_, rfl, (set4 d3 _ _ _ _).1, (set4 d3 _ _ _ _).2⟩
    rw [hW5]
    have x5 := box4 b5
    refine bodyPost_ret (v := .agg #[.int .i64 u.k, .int .i64 u.n, .string u.nm, .slice A2 u.ar.length c3]) (by simp [results, Tryz.results98, go_sem, x5]) rfl ?_
    exact ⟨(kp2.trans kp5 (fun q hq e => by omega)).mono (fun q e => .inl e), _, h', rfl, r', (m'.from_ (w0 := w) (by simp; omega)).world (m'.has.kp kp5 (m'.off (H.off_new (fun q e => by omega)) (fun q e => by simp; omega))), trivial, blk_kp hcn kp5 (by omega)⟩
theorem sub_zero : SubOK 0 := fun bc c t s o ct cs w h H r rs ho hc he => by simp [runW] at he
/-- replace, apply, subst are what runW says. -/
theorem worker_ok : ∀ f : Nat, (∀ g ≤ f, RepOK g ∧ SubOK g)
  | 0 => fun g hg => by
    have : g = 0 := by omega
    subst this
    exact ⟨rep_zero, sub_zero⟩
  | f + 1 => fun g hg => by
    have ih := worker_ok f
    by_cases q : g ≤ f
    · exact ih g q
    · have : g = f + 1 := by omega
      subst this
      exact ⟨rep_step f (ih f (Nat.le_refl _)).1 (app_all f (Lib.hid (fun g hg => (ih g (by omega)).2))), sub_step f (Lib.hid (ih f (Nat.le_refl _)).1)⟩
theorem rep_ok (f : Nat) : RepOK f := (worker_ok f f (Nat.le_refl _)).1
theorem sub_ok (f : Nat) : SubOK f := (worker_ok f f (Nat.le_refl _)).2
theorem app_ok (f : Nat) : AppOK f := app_all f (Lib.hid (fun g _ => sub_ok g))
end Go.Proofs.YtpgbeapojjinmaaGreatDoor
