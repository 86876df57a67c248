/- The document's shift and lift (package peculiumref04). · The document's shift and lift (package peculiumref04). No law is proved here. -/
import Derived.Test.YtpgbeapojjinmaaGreatDoorRR
import Derived.Test.YtpgbeapojjinmaaGreatDoorPM
set_option linter.unusedVariables false
set_option linter.unusedSimpArgs false
namespace Go.Proofs.YtpgbeapojjinmaaGreatDoor
open Go.RowKit Go.Shelf Go.Proofs.YtpgbeapojjinmaaGreatDoorW.PrintLast
set_option maxRecDepth 100000 in
set_option maxHeartbeats 8000000 in
theorem rshift_calls : ∀ (m : Nat) (t : Tm) (_ : t.sz ≤ m) (up k : Int) (_ : 0 ≤ up ∧ up ≤ 1000000000) (_ : 0 ≤ k ∧ k + m ≤ 4611686018427387904) (cs : List Value) (w : World) (h : Snap) (H : Has w h) (r : TmR h t cs) (_ : allN smallN t = true),
    Calls Tryz.prog 130 #[.agg cs.toArray, .int .i64 up, .int .i64 k] w (MadeTm w h (.inr (rsT up k t))) := by
  intro m
  induction m with
  | zero => intro t ht; have := t.sz_pos; omega
  | succ m ih =>
  rintro ⟨kk, nn, nm, ar⟩ ht up k hup hk cs w h H r hsm
  obtain ⟨A, cap', rfl, hl, hlm, hk1, hn1, hr⟩ := id r
  have hu34 := Tryz.underlying34
  have IH := Lib.hid ih
  clear ih
  have hnd : 0 ≤ nn ∧ nn ≤ 1000000000 := by rw [allN] at hsm; simp only [Bool.and_eq_true] at hsm; exact of_decide_eq_true hsm.1
  have hrl : allNL smallN ar = true := by rw [allN] at hsm; simp only [Bool.and_eq_true] at hsm; exact hsm.2
  have hnd' := Lib.hid hnd
  obtain ⟨n', hn'⟩ : ∃ n', (if kk = 2 ∧ k ≤ nn then nn + up else nn) = n' := ⟨_, rfl⟩
  obtain ⟨B1, hB1⟩ : ∃ B1 : Int, (if kk = 5 then k + 1 else k) = B1 := ⟨_, rfl⟩
  have hB2 : 0 ≤ B1 ∧ B1 + m ≤ 4611686018427387904 := by rw [← hB1]; split <;> omega
  have hrng : -9223372036854775808 ≤ n' ∧ n' ≤ 9223372036854775807 := by rw [← hn']; split <;> omega
  obtain ⟨R, hR⟩ : ∃ R, rsT up k (.mk kk nn nm ar) = R := ⟨_, rfl⟩
  have G : Hid (R = .mk kk n' nm (rsL up B1 ar)) := Lib.hid (by rw [← hR, rsT, hn', hB1])
  rw [hR]
  clear hR
  obtain ⟨a1, a2, a3, ab⟩ := alloc3 w (.cells #[.int .i64 kk, .int .i64 nn, .string nm, .slice A ar.length cap'] 34) (.cells #[.int .i64 0, .int .i64 0, .string ⟨#[]⟩, .slice none 0 0] 34) (.cells #[.int .i64 kk, .int .i64 n', .string nm, .slice none 0 0] 34)
  have hsz : (((w.alloc (.cells #[.int .i64 kk, .int .i64 nn, .string nm, .slice A ar.length cap'] 34)).alloc (.cells #[.int .i64 0, .int .i64 0, .string ⟨#[]⟩, .slice none 0 0] 34)).alloc (.cells #[.int .i64 kk, .int .i64 n', .string nm, .slice none 0 0] 34)).heap.size = w.heap.size + 3 := by simp
  obtain ⟨W0, hW0⟩ : ∃ W0, ((w.alloc (.cells #[.int .i64 kk, .int .i64 nn, .string nm, .slice A ar.length cap'] 34)).alloc (.cells #[.int .i64 0, .int .i64 0, .string ⟨#[]⟩, .slice none 0 0] 34)).alloc (.cells #[.int .i64 kk, .int .i64 n', .string nm, .slice none 0 0] 34) = W0 := ⟨_, rfl⟩
  rw [hW0] at a1 a2 a3 ab hsz
  have hW0' := Lib.hid hW0
  have hsz' := Lib.hid hsz
  have a1' := Lib.hid a1
  have a2' := Lib.hid a2
  have a3' := Lib.hid a3
  clear hW0 hsz a1 a2 a3
  have hn'' := Lib.hid hn'
  have hB1' := Lib.hid hB1
  clear hn' hB1 hsm
  have hcase : ((kk == 2) = true ∧ k ≤ nn ∧ n' = nn + up) ∨ ((kk == 2) = true ∧ nn < k ∧ nn = n') ∨ ((kk == 2) = false ∧ nn = n') := by
    by_cases c1 : kk = 2
    · by_cases c2 : k ≤ nn
      · exact .inl ⟨by simp [c1], c2, by rw [← hn''.out, if_pos ⟨c1, c2⟩]⟩
      · exact .inr (.inl ⟨by simp [c1], by omega, by rw [← hn''.out, if_neg (fun q => c2 q.2)]⟩)
    · exact .inr (.inr ⟨beq_eq_false_iff_ne.2 c1, by rw [← hn''.out, if_neg (fun q => c1 q.1)]⟩)
  have hcase5 : ((kk == 5) = true ∧ k + 1 = B1) ∨ ((kk == 5) = false ∧ B1 = k) := by
    by_cases c1 : kk = 5
    · exact .inl ⟨by simp [c1], by rw [← hB1'.out, if_pos c1]⟩
    · exact .inr ⟨beq_eq_false_iff_ne.2 c1, by rw [← hB1'.out, if_neg c1]⟩
  rcases hcase with ⟨t1, t2, rfl⟩ | ⟨t1, t2, rfl⟩ | ⟨t1, rfl⟩ <;> rcases hcase5 with ⟨t5, hB⟩ | ⟨t5, rfl⟩
  all_goals
    go_enter Tryz.func130, Tryz.ntmps130
    go_wp2_with fail
    rw [hW0'.out]
    clear hW0'
    try rw [hB]
    have b1 := a1'.out
    have b2 := a2'.out
    have b3 := a3'.out
    clear a1' a2' a3'
    go_loopw [8] (fun i wr => ∃ us sv xs h' n1, us.length ≤ ar.length ∧ i = .int .i64 us.length ∧ RebS w h #[.int .i64 kk, .int .i64 nn, .string nm, .slice A ar.length cap'] kk n1 nm (w.heap.size + 1 + 1) us sv xs wr h' ∧ Hid (us ++ rsL up B1 (ar.drop us.length) = rsL up B1 ar) ∧ Hid (R = .mk kk n1 nm (rsL up B1 ar)) ∧ (-9223372036854775808 ≤ n1 ∧ n1 ≤ 9223372036854775807)) (fun i _ => ar.length - (intOf i).toNat)
    case atStart => exact ⟨[], .slice none 0 0, [], h, _, by simp, rfl, ⟨b1, b2, b3, World.ownsRow_nil .., .nil, Mk.refl (H.below ab), ab, H.off_new (fun q hq => by
        rcases hq with hq | hq | hq | hq
        · omega
        · omega
        · omega
        · simp [Value.ownBlock] at hq)⟩, by show _ = _; simp, G, hrng⟩
    case round =>
      obtain ⟨us, sv, xs, h', n1, hj, rfl, hC, hI, G1, hr1⟩ := hrel
      have ls := blk_lt hC.b3
      obtain ⟨As, ks, rfl⟩ := own_form hC.own
      have z1 := box4 hC.b1
      have z3 := box4 hC.b3
      by_cases hlt : us.length < ar.length
      · obtain ⟨b', o, A', c', rfl, e0, e1, e2, e3, rt⟩ := hr.get us.length hlt
        have hw := hC.made.has.sub hC.made.sub
        have hc0 := hw.cell _ _ e0
        have hc1 := hw.cell _ _ e1
        have hc2 := hw.cell _ _ e2
        have hc3 := hw.cell _ _ e3
        have hlm2 : us.length + 1 ≤ 1073741824 := by unfold lim at hlm; omega
        have ht' := Lib.hid (show ar[us.length].sz ≤ m by have h1 := ht; have h2 := Tm.sz_at ar us.length hlt; simp only [Tm.sz] at h1; omega)
        have hrj := Lib.hid (allNL_at hrl us.length hlt)
        have rt' := Lib.hid (rt.sub hC.made.sub)
        have hI' : Hid ((us ++ [rsT up B1 ar[us.length]]) ++ rsL up B1 (ar.drop (us.length + 1)) = rsL up B1 ar) := by
          have := hI.out
          rw [List.drop_eq_getElem_cons hlt, rsL] at this
          show _ = _
          rw [← this]
          simp
        clear hI
        go_wp2_with fail
        refine rgs 14 (fun W => W.cell? ⟨w.heap.size, 3, none⟩ = some (.slice (some ⟨b', o, none⟩) ar.length cap') ∧ W.cell? ⟨w.heap.size + 1 + 1, 3, none⟩ = some (.slice As us.length ks) ∧ W.cell? ⟨b', o + us.length * 4, none⟩ = some (.int .i64 ar[us.length].k) ∧ W.cell? ⟨b', o + us.length * 4 + 1, none⟩ = some (.int .i64 ar[us.length].n) ∧ W.cell? ⟨b', o + us.length * 4 + 2, none⟩ = some (.string ar[us.length].nm) ∧ W.cell? ⟨b', o + us.length * 4 + 3, none⟩ = some (.slice A' ar[us.length].ar.length c')) [11, 13] rfl ?_ (fun hS => ?_)
        · go_simp
        refine rgt 0 (.pointer (some ⟨w.heap.size + 1 + 1, 3, none⟩)) rfl (by kernel_rfl) (fun _ _ _ h => h) rfl hS (fun W hW => by go_simp) ?_
        refine rgt 1 (.slice As us.length ks) rfl (by kernel_rfl) (fun _ _ _ h => h) rfl hS (fun W hW => by obtain ⟨q0, q1, q2, q3, q4, q5⟩ := hW; go_simp) ?_
        refine rgt 2 (.pointer (some ⟨w.heap.size, 3, none⟩)) rfl (by kernel_rfl) (fun _ _ _ h => h) rfl hS (fun W hW => by go_simp) ?_
        refine rgt 3 (.slice (some ⟨b', o, none⟩) ar.length cap') rfl (by kernel_rfl) (fun _ _ _ h => h) rfl hS (fun W hW => by obtain ⟨q0, q1, q2, q3, q4, q5⟩ := hW; go_simp) ?_
        refine rgt 4 (.int .i64 us.length) rfl (by kernel_rfl) (fun _ _ _ h => h) rfl hS (fun W hW => by go_simp) ?_
        refine rgt 5 (.pointer (some ⟨b', o + us.length * 4, none⟩)) rfl (by kernel_rfl) (fun _ _ _ h => h) rfl hS (fun W hW => by go_simp) ?_
        refine rgt 6 (.agg #[.int .i64 ar[us.length].k, .int .i64 ar[us.length].n, .string ar[us.length].nm, .slice A' ar[us.length].ar.length c']) rfl (by kernel_rfl) (fun _ _ _ h => h) rfl hS (fun W hW => by obtain ⟨q0, q1, q2, q3, q4, q5⟩ := hW; go_simp) ?_
        refine rgt 7 (.int .i64 up) rfl (by kernel_rfl) (fun _ _ _ h => h) rfl hS (fun W hW => by go_simp) ?_
        refine rgt 8 (.int .i64 B1) rfl (by kernel_rfl) (fun _ _ _ h => h) rfl hS (fun W hW => by go_simp) ?_
        refine rg1 9 rfl (by kernel_rfl) (by decide) rfl (fun K hK => ?_)
        go_simp
        refine (IH.out ar[us.length] ht'.out up B1 hup hB2 _ wr.drew h' hC.made.has.drew rt'.out hrj.out).mono ?_
        rintro e w1 ⟨k1, cs', h1, rfl, r1, m1⟩
        have kk6 : Below w.heap.size w w1 := below_then hC.bel (undrew k1) hC.bel.size
        obtain ⟨u, hu⟩ : ∃ u, rsT up B1 ar[us.length] = u := ⟨_, rfl⟩
        rw [hu] at r1 hI'
        clear hu
        obtain ⟨A1, c1, rfl, hl1, hl2, hk2, hn2, _⟩ := r1.open_
        simp only []
        refine hK.out _ _ ?_ (fun hS => ?_)
        · obtain ⟨q0, q1, q2, q3, q4, q5⟩ := hS
          exact ⟨cell_below q0 k1, cell_below q1 k1, cell_below q2 k1, cell_below q3 k1, cell_below q4 k1, cell_below q5 k1⟩
        refine rg1 10 rfl (by kernel_rfl) (by decide) rfl (fun K hK => ?_)
        go_simp
        refine hK.out _ _ ?_ (fun hS => ?_)
        · obtain ⟨q0, q1, q2, q3, q4, q5⟩ := hS
          exact ⟨cell_alloc q0 _, cell_alloc q1 _, cell_alloc q2 _, cell_alloc q3 _, cell_alloc q4 _, cell_alloc q5 _⟩
        refine rgl 11 rfl (by kernel_rfl) (by decide) rfl (fun K hK => ?_)
        have kp1 : Kp (fun _ => False) wr (w1.alloc (.cells #[.int .i64 u.k, .int .i64 u.n, .string u.nm, .slice A1 u.ar.length c1] 34)) := ((Kp.refl _ wr).drew.below_step k1).alloc _
        have ls1 := kp1.size
        simp only [World.size_alloc] at ls1
        refine app34 _ _ rfl rfl (own_kp hC.own kp1 (fun _ hf => hf.elim)) rfl (blk_new _ _) (by unfold lim at hlm ⊢; omega) (by simp; omega) ?_
        intro sv2 w2 hown2 hg2 hat
        obtain ⟨A2, c2, rfl⟩ := own_form hown2
        have kp2 := (kp1.mono (T := fun q => (Value.slice As us.length ks).ownBlock = some q) (fun _ hf => hf.elim)).grown hg2 (fun _ e => .inl e)
        have ne := own_ge hC.own (b := w.heap.size + 1 + 1) (by omega)
        have hb3 := blk_kp hC.b3 kp2 ne
        have hc3 := blk_cell hb3 3
        have hz3 := blk_frozen hb3 3
        refine hK.out _ _ ?_
        refine rgp 12 (.pointer (some ⟨w.heap.size + 1 + 1, 3, none⟩)) rfl (by kernel_rfl) (fun _ _ _ h => h) rfl (fun W => by go_simp) ?_
        refine rgl 13 rfl (by kernel_rfl) (by decide) rfl (fun K hK => ?_)
        go_simp
        refine hK.out _ _ ?_
        refine rgd (by kernel_rfl) ?_
        go_wp2_with fail
        have off1 : Off h1 (fun q => q = w.heap.size ∨ q = w.heap.size + 1 ∨ q = w.heap.size + 1 + 1 ∨ (Value.slice As us.length ks).ownBlock = some q) := m1.off hC.off (fun q hq => by
          show q < wr.heap.size
          rcases hq with hq | hq | hq | hq
          · omega
          · omega
          · omega
          · exact (hC.own.lt _ hq).2)
        have has2 : Has w2 h1 := (m1.has.alloc _).kp ((Kp.refl _ _).grown hg2 (fun q e => .inl e)) ⟨fun x v e hq => off1.at_ x v e (.inr (.inr (.inr hq)))⟩
        have hbel := hC.bel.size
        have kpw : Kp (fun q => w.heap.size ≤ q) w (w2.setCell ⟨w.heap.size + 1 + 1, 3, none⟩ (.slice A2 (us.length + 1) c2)) := ((Kp.of_below _ hC.bel).trans kp2 (fun i hi e => by have := own_ge hC.own (b := i) (by omega); exact absurd e this)).set (.inl (by simp; omega)) _
        refine ⟨⟨us ++ [u], .slice A2 (us.length + 1) c2, _, h1, n1, by simp; omega, by simp, ⟨blk_far (blk_kp hC.b1 kp2 (own_ge hC.own (by omega))) (by simp <;> omega) _, blk_far (blk_kp hC.b2 kp2 (own_ge hC.own (by omega))) (by simp <;> omega) _, by simpa using blk_set hb3 3 (.slice A2 (us.length + 1) c2),
          by rw [List.length_append]; exact own_far hown2 (by simp) _,
          .snoc (hC.ch.imp (fun _ _ q => q.sub m1.sub)) r1 rfl, (hC.made.trans (m1.from_ (by simp <;> omega)) (by omega)).world (has2.set (fun x v e hx => off1.at_ x v e (.inr (.inr (.inl (by rw [hx]))))) _), kpw.below (fun i hi => by omega), ?_⟩, by simpa using hI', G1, hr1⟩, by simp [intOf]; omega⟩
        exact ⟨fun x v e hq => by
          rcases hq with hq | hq | hq | hq
          · exact off1.at_ x v e (.inl hq)
          · exact off1.at_ x v e (.inr (.inl hq))
          · exact off1.at_ x v e (.inr (.inr (.inl hq)))
          · rcases hat _ hq with hq | hq
            · exact off1.at_ x v e (.inr (.inr (.inr hq)))
            · have := m1.has.lt e
              simp at hq
              omega⟩
      · have hje : us.length = ar.length := by omega
        have hje' := Lib.hid hje
        clear hje
        have hz2 := blk_frozen hC.b2
        have c2' := box4 hC.b2
        have l2 := blk_lt hC.b2
        have hfin : Hid (us = rsL up B1 ar) := by
          have := hI.out
          rw [hje'.out, List.drop_length, rsL, List.append_nil] at this
          exact this
        go_wp2_with fail
        obtain ⟨h2, A2, c2, e2, hk2, hc2', hr2, m2, hn2⟩ := own_Tm hC.made.has (w0 := w) (by omega) hC.own hC.ch
        cases e2
        obtain ⟨W5, hW5, b2', kp2⟩ : ∃ W5, ((((wr.setCell ⟨w.heap.size + 1, 0, none⟩ (.int .i64 kk)).setCell ⟨w.heap.size + 1, 1, none⟩ (.int .i64 n1)).setCell ⟨w.heap.size + 1, 2, none⟩ (.string nm)).setCell ⟨w.heap.size + 1, 3, none⟩ (.slice As us.length ks)) = W5 ∧
            W5.heap[w.heap.size + 1]? = some (.cells #[.int .i64 kk, .int .i64 n1, .string nm, .slice As us.length ks] 34) ∧ Kp (fun q => q = w.heap.size + 1) wr W5 := ⟨_, rfl, (set4 hC.b2 _ _ _ _).1, (set4 hC.b2 _ _ _ _).2⟩
        rw [hW5]
        have x2 := box4 b2'
        refine bodyPost_ret (v := .agg #[.int .i64 kk, .int .i64 n1, .string nm, .slice As us.length ks]) (by simp [results, Tryz.results130, go_sem, x2]) rfl ?_
        have off2 : Off h2 (fun q => q = w.heap.size + 1) := ⟨fun x v e hx => by
          rcases hn2 x v e with q | q
          · exact hC.off.at_ x v q (.inr (.inl hx))
          · exact own_ge hC.own (b := x.block) (by omega) q⟩
        rw [G1.out, ← hfin.out]
        refine ⟨((Kp.of_below (fun q => q = w.heap.size + 1) hC.bel).trans kp2 (fun i hi e => e)).below (fun i hi e => by omega), _, h2, rfl, ⟨As, ks, rfl, hc2', by rw [hje'.out]; exact hlm, hk1, hr1, hr2⟩, (hC.made.then_ m2).world (m2.has.kp kp2 off2)⟩
end Go.Proofs.YtpgbeapojjinmaaGreatDoor
namespace Go.Proofs.YtpgbeapojjinmaaGreatDoor
open Go.RowKit Go.Shelf Go.Proofs.YtpgbeapojjinmaaGreatDoorW.PrintLast
set_option maxRecDepth 100000 in
set_option maxHeartbeats 8000000 in
theorem rlift_calls : ∀ (m : Nat) (t : Tm) (_ : t.sz ≤ m) (up k : Int) (_ : 0 ≤ up ∧ up ≤ 1000000000) (_ : 0 ≤ k ∧ k + m ≤ 4611686018427387904) (cs : List Value) (w : World) (h : Snap) (H : Has w h) (r : TmR h t cs) (_ : allN smallN t = true),
    Calls Tryz.prog 132 #[.agg cs.toArray, .int .i64 up, .int .i64 k] w (MadeTm w h (.inr (rlT up k t))) := by
  intro m
  induction m with
  | zero => intro t ht; have := t.sz_pos; omega
  | succ m ih =>
  rintro ⟨kk, nn, nm, ar⟩ ht up k hup hk cs w h H r hsm
  obtain ⟨A, cap', rfl, hl, hlm, hk1, hn1, hr⟩ := id r
  have hu34 := Tryz.underlying34
  have IH := Lib.hid ih
  clear ih
  have hnd : 0 ≤ nn ∧ nn ≤ 1000000000 := by rw [allN] at hsm; simp only [Bool.and_eq_true] at hsm; exact of_decide_eq_true hsm.1
  have hrl : allNL smallN ar = true := by rw [allN] at hsm; simp only [Bool.and_eq_true] at hsm; exact hsm.2
  have hnd' := Lib.hid hnd
  obtain ⟨n', hn'⟩ : ∃ n', (if kk = 3 ∧ k ≤ nn then nn + up else nn) = n' := ⟨_, rfl⟩
  obtain ⟨B1, hB1⟩ : ∃ B1 : Int, k = B1 := ⟨_, rfl⟩
  have hB2 : 0 ≤ B1 ∧ B1 + m ≤ 4611686018427387904 := by rw [← hB1]; omega
  have hrng : -9223372036854775808 ≤ n' ∧ n' ≤ 9223372036854775807 := by rw [← hn']; split <;> omega
  obtain ⟨R, hR⟩ : ∃ R, rlT up k (.mk kk nn nm ar) = R := ⟨_, rfl⟩
  have G : Hid (R = .mk kk n' nm (rlL up B1 ar)) := Lib.hid (by rw [← hR, rlT, hn', hB1])
  rw [hR]
  clear hR
  obtain ⟨a1, a2, a3, ab⟩ := alloc3 w (.cells #[.int .i64 kk, .int .i64 nn, .string nm, .slice A ar.length cap'] 34) (.cells #[.int .i64 0, .int .i64 0, .string ⟨#[]⟩, .slice none 0 0] 34) (.cells #[.int .i64 kk, .int .i64 n', .string nm, .slice none 0 0] 34)
  have hsz : (((w.alloc (.cells #[.int .i64 kk, .int .i64 nn, .string nm, .slice A ar.length cap'] 34)).alloc (.cells #[.int .i64 0, .int .i64 0, .string ⟨#[]⟩, .slice none 0 0] 34)).alloc (.cells #[.int .i64 kk, .int .i64 n', .string nm, .slice none 0 0] 34)).heap.size = w.heap.size + 3 := by simp
  obtain ⟨W0, hW0⟩ : ∃ W0, ((w.alloc (.cells #[.int .i64 kk, .int .i64 nn, .string nm, .slice A ar.length cap'] 34)).alloc (.cells #[.int .i64 0, .int .i64 0, .string ⟨#[]⟩, .slice none 0 0] 34)).alloc (.cells #[.int .i64 kk, .int .i64 n', .string nm, .slice none 0 0] 34) = W0 := ⟨_, rfl⟩
  rw [hW0] at a1 a2 a3 ab hsz
  have hW0' := Lib.hid hW0
  have hsz' := Lib.hid hsz
  have a1' := Lib.hid a1
  have a2' := Lib.hid a2
  have a3' := Lib.hid a3
  clear hW0 hsz a1 a2 a3
  have hn'' := Lib.hid hn'
  have hB1' := Lib.hid hB1
  clear hn' hB1 hsm
  have hcase : ((kk == 3) = true ∧ k ≤ nn ∧ n' = nn + up) ∨ ((kk == 3) = true ∧ nn < k ∧ nn = n') ∨ ((kk == 3) = false ∧ nn = n') := by
    by_cases c1 : kk = 3
    · by_cases c2 : k ≤ nn
      · exact .inl ⟨by simp [c1], c2, by rw [← hn''.out, if_pos ⟨c1, c2⟩]⟩
      · exact .inr (.inl ⟨by simp [c1], by omega, by rw [← hn''.out, if_neg (fun q => c2 q.2)]⟩)
    · exact .inr (.inr ⟨beq_eq_false_iff_ne.2 c1, by rw [← hn''.out, if_neg (fun q => c1 q.1)]⟩)
  have hBk : B1 = k := hB1'.out.symm
  subst hBk
  rcases hcase with ⟨t1, t2, rfl⟩ | ⟨t1, t2, rfl⟩ | ⟨t1, rfl⟩
  all_goals
    go_enter Tryz.func132, Tryz.ntmps132
    go_wp2_with fail
    rw [hW0'.out]
    clear hW0'
    have b1 := a1'.out
    have b2 := a2'.out
    have b3 := a3'.out
    clear a1' a2' a3'
    go_loopw [8] (fun i wr => ∃ us sv xs h' n1, us.length ≤ ar.length ∧ i = .int .i64 us.length ∧ RebS w h #[.int .i64 kk, .int .i64 nn, .string nm, .slice A ar.length cap'] kk n1 nm (w.heap.size + 1 + 1) us sv xs wr h' ∧ Hid (us ++ rlL up B1 (ar.drop us.length) = rlL up B1 ar) ∧ Hid (R = .mk kk n1 nm (rlL up B1 ar)) ∧ (-9223372036854775808 ≤ n1 ∧ n1 ≤ 9223372036854775807)) (fun i _ => ar.length - (intOf i).toNat)
    case atStart => exact ⟨[], .slice none 0 0, [], h, _, by simp, rfl, ⟨b1, b2, b3, World.ownsRow_nil .., .nil, Mk.refl (H.below ab), ab, H.off_new (fun q hq => by
        rcases hq with hq | hq | hq | hq
        · omega
        · omega
        · omega
        · simp [Value.ownBlock] at hq)⟩, by show _ = _; simp, G, hrng⟩
    case round =>
      obtain ⟨us, sv, xs, h', n1, hj, rfl, hC, hI, G1, hr1⟩ := hrel
      have ls := blk_lt hC.b3
      obtain ⟨As, ks, rfl⟩ := own_form hC.own
      have z1 := box4 hC.b1
      have z3 := box4 hC.b3
      by_cases hlt : us.length < ar.length
      · obtain ⟨b', o, A', c', rfl, e0, e1, e2, e3, rt⟩ := hr.get us.length hlt
        have hw := hC.made.has.sub hC.made.sub
        have hc0 := hw.cell _ _ e0
        have hc1 := hw.cell _ _ e1
        have hc2 := hw.cell _ _ e2
        have hc3 := hw.cell _ _ e3
        have hlm2 : us.length + 1 ≤ 1073741824 := by unfold lim at hlm; omega
        have ht' := Lib.hid (show ar[us.length].sz ≤ m by have h1 := ht; have h2 := Tm.sz_at ar us.length hlt; simp only [Tm.sz] at h1; omega)
        have hrj := Lib.hid (allNL_at hrl us.length hlt)
        have rt' := Lib.hid (rt.sub hC.made.sub)
        have hI' : Hid ((us ++ [rlT up B1 ar[us.length]]) ++ rlL up B1 (ar.drop (us.length + 1)) = rlL up B1 ar) := by
          have := hI.out
          rw [List.drop_eq_getElem_cons hlt, rlL] at this
          show _ = _
          rw [← this]
          simp
        clear hI
        go_wp2_with fail
        refine rgs 14 (fun W => W.cell? ⟨w.heap.size, 3, none⟩ = some (.slice (some ⟨b', o, none⟩) ar.length cap') ∧ W.cell? ⟨w.heap.size + 1 + 1, 3, none⟩ = some (.slice As us.length ks) ∧ W.cell? ⟨b', o + us.length * 4, none⟩ = some (.int .i64 ar[us.length].k) ∧ W.cell? ⟨b', o + us.length * 4 + 1, none⟩ = some (.int .i64 ar[us.length].n) ∧ W.cell? ⟨b', o + us.length * 4 + 2, none⟩ = some (.string ar[us.length].nm) ∧ W.cell? ⟨b', o + us.length * 4 + 3, none⟩ = some (.slice A' ar[us.length].ar.length c')) [11, 13] rfl ?_ (fun hS => ?_)
        · go_simp
        refine rgt 0 (.pointer (some ⟨w.heap.size + 1 + 1, 3, none⟩)) rfl (by kernel_rfl) (fun _ _ _ h => h) rfl hS (fun W hW => by go_simp) ?_
        refine rgt 1 (.slice As us.length ks) rfl (by kernel_rfl) (fun _ _ _ h => h) rfl hS (fun W hW => by obtain ⟨q0, q1, q2, q3, q4, q5⟩ := hW; go_simp) ?_
        refine rgt 2 (.pointer (some ⟨w.heap.size, 3, none⟩)) rfl (by kernel_rfl) (fun _ _ _ h => h) rfl hS (fun W hW => by go_simp) ?_
        refine rgt 3 (.slice (some ⟨b', o, none⟩) ar.length cap') rfl (by kernel_rfl) (fun _ _ _ h => h) rfl hS (fun W hW => by obtain ⟨q0, q1, q2, q3, q4, q5⟩ := hW; go_simp) ?_
        refine rgt 4 (.int .i64 us.length) rfl (by kernel_rfl) (fun _ _ _ h => h) rfl hS (fun W hW => by go_simp) ?_
        refine rgt 5 (.pointer (some ⟨b', o + us.length * 4, none⟩)) rfl (by kernel_rfl) (fun _ _ _ h => h) rfl hS (fun W hW => by go_simp) ?_
        refine rgt 6 (.agg #[.int .i64 ar[us.length].k, .int .i64 ar[us.length].n, .string ar[us.length].nm, .slice A' ar[us.length].ar.length c']) rfl (by kernel_rfl) (fun _ _ _ h => h) rfl hS (fun W hW => by obtain ⟨q0, q1, q2, q3, q4, q5⟩ := hW; go_simp) ?_
        refine rgt 7 (.int .i64 up) rfl (by kernel_rfl) (fun _ _ _ h => h) rfl hS (fun W hW => by go_simp) ?_
        refine rgt 8 (.int .i64 B1) rfl (by kernel_rfl) (fun _ _ _ h => h) rfl hS (fun W hW => by go_simp) ?_
        refine rg1 9 rfl (by kernel_rfl) (by decide) rfl (fun K hK => ?_)
        go_simp
        refine (IH.out ar[us.length] ht'.out up B1 hup hB2 _ wr.drew h' hC.made.has.drew rt'.out hrj.out).mono ?_
        rintro e w1 ⟨k1, cs', h1, rfl, r1, m1⟩
        have kk6 : Below w.heap.size w w1 := below_then hC.bel (undrew k1) hC.bel.size
        obtain ⟨u, hu⟩ : ∃ u, rlT up B1 ar[us.length] = u := ⟨_, rfl⟩
        rw [hu] at r1 hI'
        clear hu
        obtain ⟨A1, c1, rfl, hl1, hl2, hk2, hn2, _⟩ := r1.open_
        simp only []
        refine hK.out _ _ ?_ (fun hS => ?_)
        · obtain ⟨q0, q1, q2, q3, q4, q5⟩ := hS
          exact ⟨cell_below q0 k1, cell_below q1 k1, cell_below q2 k1, cell_below q3 k1, cell_below q4 k1, cell_below q5 k1⟩
        refine rg1 10 rfl (by kernel_rfl) (by decide) rfl (fun K hK => ?_)
        go_simp
        refine hK.out _ _ ?_ (fun hS => ?_)
        · obtain ⟨q0, q1, q2, q3, q4, q5⟩ := hS
          exact ⟨cell_alloc q0 _, cell_alloc q1 _, cell_alloc q2 _, cell_alloc q3 _, cell_alloc q4 _, cell_alloc q5 _⟩
        refine rgl 11 rfl (by kernel_rfl) (by decide) rfl (fun K hK => ?_)
        have kp1 : Kp (fun _ => False) wr (w1.alloc (.cells #[.int .i64 u.k, .int .i64 u.n, .string u.nm, .slice A1 u.ar.length c1] 34)) := ((Kp.refl _ wr).drew.below_step k1).alloc _
        have ls1 := kp1.size
        simp only [World.size_alloc] at ls1
        refine app34 _ _ rfl rfl (own_kp hC.own kp1 (fun _ hf => hf.elim)) rfl (blk_new _ _) (by unfold lim at hlm ⊢; omega) (by simp; omega) ?_
        intro sv2 w2 hown2 hg2 hat
        obtain ⟨A2, c2, rfl⟩ := own_form hown2
        have kp2 := (kp1.mono (T := fun q => (Value.slice As us.length ks).ownBlock = some q) (fun _ hf => hf.elim)).grown hg2 (fun _ e => .inl e)
        have ne := own_ge hC.own (b := w.heap.size + 1 + 1) (by omega)
        have hb3 := blk_kp hC.b3 kp2 ne
        have hc3 := blk_cell hb3 3
        have hz3 := blk_frozen hb3 3
        refine hK.out _ _ ?_
        refine rgp 12 (.pointer (some ⟨w.heap.size + 1 + 1, 3, none⟩)) rfl (by kernel_rfl) (fun _ _ _ h => h) rfl (fun W => by go_simp) ?_
        refine rgl 13 rfl (by kernel_rfl) (by decide) rfl (fun K hK => ?_)
        go_simp
        refine hK.out _ _ ?_
        refine rgd (by kernel_rfl) ?_
        go_wp2_with fail
        have off1 : Off h1 (fun q => q = w.heap.size ∨ q = w.heap.size + 1 ∨ q = w.heap.size + 1 + 1 ∨ (Value.slice As us.length ks).ownBlock = some q) := m1.off hC.off (fun q hq => by
          show q < wr.heap.size
          rcases hq with hq | hq | hq | hq
          · omega
          · omega
          · omega
          · exact (hC.own.lt _ hq).2)
        have has2 : Has w2 h1 := (m1.has.alloc _).kp ((Kp.refl _ _).grown hg2 (fun q e => .inl e)) ⟨fun x v e hq => off1.at_ x v e (.inr (.inr (.inr hq)))⟩
        have hbel := hC.bel.size
        have kpw : Kp (fun q => w.heap.size ≤ q) w (w2.setCell ⟨w.heap.size + 1 + 1, 3, none⟩ (.slice A2 (us.length + 1) c2)) := ((Kp.of_below _ hC.bel).trans kp2 (fun i hi e => by have := own_ge hC.own (b := i) (by omega); exact absurd e this)).set (.inl (by simp; omega)) _
        refine ⟨⟨us ++ [u], .slice A2 (us.length + 1) c2, _, h1, n1, by simp; omega, by simp, ⟨blk_far (blk_kp hC.b1 kp2 (own_ge hC.own (by omega))) (by simp <;> omega) _, blk_far (blk_kp hC.b2 kp2 (own_ge hC.own (by omega))) (by simp <;> omega) _, by simpa using blk_set hb3 3 (.slice A2 (us.length + 1) c2),
          by rw [List.length_append]; exact own_far hown2 (by simp) _,
          .snoc (hC.ch.imp (fun _ _ q => q.sub m1.sub)) r1 rfl, (hC.made.trans (m1.from_ (by simp <;> omega)) (by omega)).world (has2.set (fun x v e hx => off1.at_ x v e (.inr (.inr (.inl (by rw [hx]))))) _), kpw.below (fun i hi => by omega), ?_⟩, by simpa using hI', G1, hr1⟩, by simp [intOf]; omega⟩
        exact ⟨fun x v e hq => by
          rcases hq with hq | hq | hq | hq
          · exact off1.at_ x v e (.inl hq)
          · exact off1.at_ x v e (.inr (.inl hq))
          · exact off1.at_ x v e (.inr (.inr (.inl hq)))
          · rcases hat _ hq with hq | hq
            · exact off1.at_ x v e (.inr (.inr (.inr hq)))
            · have := m1.has.lt e
              simp at hq
              omega⟩
      · have hje : us.length = ar.length := by omega
        have hje' := Lib.hid hje
        clear hje
        have hz2 := blk_frozen hC.b2
        have c2' := box4 hC.b2
        have l2 := blk_lt hC.b2
        have hfin : Hid (us = rlL up B1 ar) := by
          have := hI.out
          rw [hje'.out, List.drop_length, rlL, List.append_nil] at this
          exact this
        go_wp2_with fail
        obtain ⟨h2, A2, c2, e2, hk2, hc2', hr2, m2, hn2⟩ := own_Tm hC.made.has (w0 := w) (by omega) hC.own hC.ch
        cases e2
        obtain ⟨W5, hW5, b2', kp2⟩ : ∃ W5, ((((wr.setCell ⟨w.heap.size + 1, 0, none⟩ (.int .i64 kk)).setCell ⟨w.heap.size + 1, 1, none⟩ (.int .i64 n1)).setCell ⟨w.heap.size + 1, 2, none⟩ (.string nm)).setCell ⟨w.heap.size + 1, 3, none⟩ (.slice As us.length ks)) = W5 ∧
            W5.heap[w.heap.size + 1]? = some (.cells #[.int .i64 kk, .int .i64 n1, .string nm, .slice As us.length ks] 34) ∧ Kp (fun q => q = w.heap.size + 1) wr W5 := ⟨_, rfl, (set4 hC.b2 _ _ _ _).1, (set4 hC.b2 _ _ _ _).2⟩
        rw [hW5]
        have x2 := box4 b2'
        refine bodyPost_ret (v := .agg #[.int .i64 kk, .int .i64 n1, .string nm, .slice As us.length ks]) (by simp [results, Tryz.results132, go_sem, x2]) rfl ?_
        have off2 : Off h2 (fun q => q = w.heap.size + 1) := ⟨fun x v e hx => by
          rcases hn2 x v e with q | q
          · exact hC.off.at_ x v q (.inr (.inl hx))
          · exact own_ge hC.own (b := x.block) (by omega) q⟩
        rw [G1.out, ← hfin.out]
        refine ⟨((Kp.of_below (fun q => q = w.heap.size + 1) hC.bel).trans kp2 (fun i hi e => e)).below (fun i hi e => by omega), _, h2, rfl, ⟨As, ks, rfl, hc2', by rw [hje'.out]; exact hlm, hk1, hr1, hr2⟩, (hC.made.then_ m2).world (m2.has.kp kp2 off2)⟩
end Go.Proofs.YtpgbeapojjinmaaGreatDoor
