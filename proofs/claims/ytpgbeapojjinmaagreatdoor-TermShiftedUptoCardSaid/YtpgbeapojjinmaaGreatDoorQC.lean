/- term.compared. No law is proved here. -/
import Derived.Test.YtpgbeapojjinmaaGreatDoorQB
set_option linter.unusedVariables false
set_option linter.unusedSimpArgs false
namespace Go.Proofs.YtpgbeapojjinmaaGreatDoor
open Go.RowKit Go.Shelf Go.Proofs.YtpgbeapojjinmaaGreatDoorW.PrintLast
theorem CompareI_below (a b : Int) (w : World) : Calls Tryz.prog 182 #[.int .i64 a, .int .i64 b] w fun e w' => e = .returned (.int .i64 (cmpI a b)) ∧ Below w.heap.size w w' :=
  (CompareI_calls a b w).mono (by rintro e w' ⟨rfl, rfl⟩; exact ⟨rfl, Below.refl _ _⟩)
theorem CompareS_below (a b : ByteArray) (w : World) : Calls Tryz.prog 183 #[.string a, .string b] w fun e w' => e = .returned (.int .i64 (cmpS a b)) ∧ Below w.heap.size w w' :=
  (CompareS_calls a b w).mono (by rintro e w' ⟨rfl, rfl⟩; exact ⟨rfl, Below.refl _ _⟩)
theorem orI_right (a : Int) : orI a 0 = a := by unfold orI; split <;> omega
theorem orL_head (s t : Tm) : orL [cmpI s.k t.k, cmpI s.n t.n, cmpS s.nm t.nm, cmpI s.ar.length t.ar.length] = cmpH s t := by
  simp only [orL, orI_right]; rfl
set_option maxRecDepth 100000 in
set_option maxHeartbeats 4000000 in
theorem CompareFunc_calls (m : Nat) (l k : List Tm) (v u : Value) (w : World) (h : Snap) (H : Has w h) (r : TmS h l v) (q : TmS h k u) (hs : ∀ j (hj : j < l.length), l[j].sz ≤ m)
    (ih : ∀ (t u : Tm) (_ : t.sz ≤ m) (cs ds : List Value) (w : World) (h : Snap) (H : Has w h) (r : TmR h t cs) (q : TmR h u ds), Calls Tryz.prog 133 #[.agg cs.toArray, .agg ds.toArray] w fun e w' => e = .returned (.int .i64 (cmpT t u)) ∧ Below w.heap.size w w') :
    Calls Tryz.prog 184 #[v, u, .func (.func 133) #[] #[]] w fun e w' => e = .returned (.int .i64 (cmpTL l k)) ∧ Below w.heap.size w w' := by
  obtain ⟨A, cap, rfl, hl, hm, hr⟩ := r
  obtain ⟨B, dap, rfl, gl, gm, gr⟩ := q
  have hu34 := Tryz.underlying34
  have IH := Lib.hid ih
  have hs' := Lib.hid hs
  clear ih hs
  unfold lim at hm gm
  go_enter Tryz.func184, Tryz.ntmps184
  go_wp2_with fail
  go_loopw [13] (fun i wr => ∃ j : Nat, j ≤ l.length ∧ j ≤ k.length ∧ i = .int .i64 j ∧ Hid (cmpTL (l.drop j) (k.drop j) = cmpTL l k) ∧ Below w.heap.size w wr) (fun i _ => l.length - (intOf i).toNat)
  case atStart => exact ⟨0, by omega, by omega, rfl, by show cmpTL _ _ = _; simp, Below.refl _ _⟩
  case round =>
    obtain ⟨j, hj, hjk, rfl, hI, hbel⟩ := hrel
    by_cases hlt : j < l.length
    · obtain ⟨b, o, A', cap', rfl, e0, e1, e2, e3, rt⟩ := hr.get j hlt
      have hw := H.below hbel
      have hc0 := hw.cell _ _ e0
      have hc1 := hw.cell _ _ e1
      have hc2 := hw.cell _ _ e2
      have hc3 := hw.cell _ _ e3
      have lb := hw.lt e0
      by_cases hlt' : j < k.length
      · obtain ⟨b', o', B', dap', rfl, f0, f1, f2, f3, rq⟩ := gr.get j hlt'
        have hd0 := hw.cell _ _ f0
        have hd1 := hw.cell _ _ f1
        have hd2 := hw.cell _ _ f2
        have hd3 := hw.cell _ _ f3
        have lb' := hw.lt f0
        have hI' : Hid (orI (cmpT l[j] k[j]) (cmpTL (l.drop (j + 1)) (k.drop (j + 1))) = cmpTL l k) := by
          have := hI.out
          rw [List.drop_eq_getElem_cons hlt, List.drop_eq_getElem_cons hlt', cmpTL] at this
          exact this
        clear hI
        go_wp2_with fail
        refine (IH.out l[j] k[j] (hs'.out j hlt) _ _ _ h ((hw.alloc _).alloc _) rt rq).mono ?_
        rintro e w1 ⟨rfl, b1⟩
        have hb1 := below_then ((hbel.alloc hbel.size (.cells #[.int .i64 l[j].k, .int .i64 l[j].n, .string l[j].nm, .slice A' l[j].ar.length cap'] 34)).alloc (by have := hbel.size; simp <;> omega) (.cells #[.int .i64 k[j].k, .int .i64 k[j].n, .string k[j].nm, .slice B' k[j].ar.length dap'] 34)) b1 (by have := hbel.size; simp <;> omega)
        obtain ⟨c, hc⟩ : ∃ c, cmpT l[j] k[j] = c := ⟨_, rfl⟩
        rw [hc] at hI' ⊢
        clear hc
        by_cases hz : c = 0
        · have hI2 : Hid (cmpTL (l.drop (j + 1)) (k.drop (j + 1)) = cmpTL l k) := by have := hI'.out; rw [orI, if_pos hz] at this; exact this
          subst hz
          clear hI'
          go_wp2_with fail
          exact ⟨⟨j + 1, by omega, by omega, by go_num, hI2, hb1⟩, by simp [intOf]; omega⟩
        · have hI2 : Hid (cmpTL l k = c) := by have := hI'.out; rw [orI, if_neg hz] at this; exact this.symm
          clear hI'
          go_wp2_with fail
          go_ret
          exact ⟨by rw [hI2.out]; rfl, hb1⟩
      · have hI2 : Hid (cmpTL l k = 1) := by
          have := hI.out
          rw [List.drop_eq_getElem_cons hlt, List.drop_eq_nil_of_le (show k.length ≤ j by omega), cmpTL] at this
          exact this.symm
        clear hI
        have hb0 := hbel.alloc hbel.size (.cells #[.int .i64 l[j].k, .int .i64 l[j].n, .string l[j].nm, .slice A' l[j].ar.length cap'] 34)
        go_wp2_with fail
        go_ret
        exact ⟨by rw [hI2.out]; rfl, hb0⟩
    · have hjl : j = l.length := by omega
      by_cases hlk : l.length < k.length
      · have hI2 : Hid (cmpTL l k = -1) := by
          have := hI.out
          rw [List.drop_eq_nil_of_le (show l.length ≤ j by omega), List.drop_eq_getElem_cons (show j < k.length by omega), cmpTL] at this
          exact this.symm
        clear hI
        go_wp2_with fail
        go_ret
        exact ⟨by rw [hI2.out]; rfl, hbel⟩
      · have hI2 : Hid (cmpTL l k = 0) := by
          have := hI.out
          rw [List.drop_eq_nil_of_le (show l.length ≤ j by omega), List.drop_eq_nil_of_le (show k.length ≤ j by omega), cmpTL] at this
          exact this.symm
        clear hI
        go_wp2_with fail
        go_ret
        exact ⟨by rw [hI2.out]; rfl, hbel⟩
set_option maxRecDepth 100000 in
set_option maxHeartbeats 4000000 in
theorem compared_calls : ∀ (m : Nat) (t u : Tm) (_ : t.sz ≤ m) (cs ds : List Value) (w : World) (h : Snap) (H : Has w h) (r : TmR h t cs) (q : TmR h u ds),
    Calls Tryz.prog 133 #[.agg cs.toArray, .agg ds.toArray] w fun e w' => e = .returned (.int .i64 (cmpT t u)) ∧ Below w.heap.size w w' := by
  intro m
  induction m with
  | zero => intro t u ht; have := t.sz_pos; omega
  | succ m ih =>
  intro t u ht cs ds w h H r q
  have hs := Lib.hid (show ∀ j (hj : j < t.ar.length), t.ar[j].sz ≤ m from fun j hj => by cases t with | mk k n nm ar => have h2 := Tm.sz_at ar j hj; simp only [Tm.sz] at ht; simp only [Tm.ar] at *; omega)
  obtain ⟨A, cap, rfl, hl, hm, hk1, hn1, hr⟩ := r.open_
  obtain ⟨B, dap, rfl, gl, gm, gk1, gn1, gr⟩ := q.open_
  have hu34 := Tryz.underlying34
  have hu85 := Tryz.underlying85
  have IH := Lib.hid ih
  clear ih
  obtain ⟨p1, p2, hb⟩ := alloc2 w (.cells #[.int .i64 t.k, .int .i64 t.n, .string t.nm, .slice A t.ar.length cap] 34) (.cells #[.int .i64 u.k, .int .i64 u.n, .string u.nm, .slice B u.ar.length dap] 34)
  have rA' : Hid (TmS h t.ar (.slice A t.ar.length cap)) := Lib.hid ⟨A, cap, rfl, hl, hm, hr⟩
  have rB' : Hid (TmS h u.ar (.slice B u.ar.length dap)) := Lib.hid ⟨B, dap, rfl, gl, gm, gr⟩
  have G := Lib.hid (cmpT_eq t u)
  have GH := Lib.hid (orL_head t u)
  unfold lim at hm gm
  clear r q hr gr hk1 hn1 gk1 gn1 hl gl ht
  go_enter Tryz.func133, Tryz.ntmps133
  go_wp2_with fail
  obtain ⟨W2, hW2⟩ : ∃ W2, (w.alloc (.cells #[.int .i64 t.k, .int .i64 t.n, .string t.nm, .slice A t.ar.length cap] 34)).alloc (.cells #[.int .i64 u.k, .int .i64 u.n, .string u.nm, .slice B u.ar.length dap] 34) = W2 := ⟨_, rfl⟩
  rw [hW2] at p1 p2 hb ⊢
  clear hW2
  have x0 := (box4 p1).1
  have x1 := (box4 p1).2.1
  have x2 := (box4 p1).2.2.1
  have x3 := (box4 p1).2.2.2
  have y0 := (box4 p2).1
  have y1 := (box4 p2).2.1
  have y2 := (box4 p2).2.2.1
  have y3 := (box4 p2).2.2.2
  refine rgs 25 (fun V => Below W2.heap.size W2 V) [] rfl ((Below.refl _ _).drew) (fun hS => ?_)
  refine rgt 0 (.pointer (some ⟨w.heap.size, 0, none⟩)) rfl (by kernel_rfl) (fun _ _ _ h => h) (by kernel_rfl) hS (fun V hV => by go_simp) ?_
  refine rgt 1 (.int .i64 t.k) rfl (by kernel_rfl) (fun _ _ _ h => h) (by kernel_rfl) hS (fun V hV => by have q0 := cell_below x0 hV; go_simp) ?_
  refine rgt 2 (.pointer (some ⟨w.heap.size + 1, 0, none⟩)) rfl (by kernel_rfl) (fun _ _ _ h => h) (by kernel_rfl) hS (fun V hV => by go_simp) ?_
  refine rgt 3 (.int .i64 u.k) rfl (by kernel_rfl) (fun _ _ _ h => h) (by kernel_rfl) hS (fun V hV => by have q0 := cell_below y0 hV; go_simp) ?_
  refine rgt 5 (.pointer (some ⟨w.heap.size, 1, none⟩)) rfl (by kernel_rfl) (fun _ _ _ h => h) (by kernel_rfl) hS (fun V hV => by go_simp) ?_
  refine rgt 6 (.int .i64 t.n) rfl (by kernel_rfl) (fun _ _ _ h => h) (by kernel_rfl) hS (fun V hV => by have q0 := cell_below x1 hV; go_simp) ?_
  refine rgt 7 (.pointer (some ⟨w.heap.size + 1, 1, none⟩)) rfl (by kernel_rfl) (fun _ _ _ h => h) (by kernel_rfl) hS (fun V hV => by go_simp) ?_
  refine rgt 8 (.int .i64 u.n) rfl (by kernel_rfl) (fun _ _ _ h => h) (by kernel_rfl) hS (fun V hV => by have q0 := cell_below y1 hV; go_simp) ?_
  refine rgt 10 (.pointer (some ⟨w.heap.size, 2, none⟩)) rfl (by kernel_rfl) (fun _ _ _ h => h) (by kernel_rfl) hS (fun V hV => by go_simp) ?_
  refine rgt 11 (.string t.nm) rfl (by kernel_rfl) (fun _ _ _ h => h) (by kernel_rfl) hS (fun V hV => by have q0 := cell_below x2 hV; go_simp) ?_
  refine rgt 12 (.pointer (some ⟨w.heap.size + 1, 2, none⟩)) rfl (by kernel_rfl) (fun _ _ _ h => h) (by kernel_rfl) hS (fun V hV => by go_simp) ?_
  refine rgt 13 (.string u.nm) rfl (by kernel_rfl) (fun _ _ _ h => h) (by kernel_rfl) hS (fun V hV => by have q0 := cell_below y2 hV; go_simp) ?_
  refine rgt 15 (.pointer (some ⟨w.heap.size, 3, none⟩)) rfl (by kernel_rfl) (fun _ _ _ h => h) (by kernel_rfl) hS (fun V hV => by go_simp) ?_
  refine rgt 16 (.slice A t.ar.length cap) rfl (by kernel_rfl) (fun _ _ _ h => h) (by kernel_rfl) hS (fun V hV => by have q0 := cell_below x3 hV; go_simp) ?_
  refine rgt 17 (.int .i64 t.ar.length) rfl (by kernel_rfl) (fun _ _ _ h => h) (by kernel_rfl) hS (fun V hV => by go_simp) ?_
  refine rgt 18 (.pointer (some ⟨w.heap.size + 1, 3, none⟩)) rfl (by kernel_rfl) (fun _ _ _ h => h) (by kernel_rfl) hS (fun V hV => by go_simp) ?_
  refine rgt 19 (.slice B u.ar.length dap) rfl (by kernel_rfl) (fun _ _ _ h => h) (by kernel_rfl) hS (fun V hV => by have q0 := cell_below y3 hV; go_simp) ?_
  refine rgt 20 (.int .i64 u.ar.length) rfl (by kernel_rfl) (fun _ _ _ h => h) (by kernel_rfl) hS (fun V hV => by go_simp) ?_
  refine rg1 4 rfl (by kernel_rfl) (by decide) (by kernel_rfl) (fun K hK => ?_)
  have hS0 := hS
  go_simp
  refine (CompareI_below t.k u.k _).mono ?_
  rintro e WN ⟨rfl, kN⟩
  simp only []
  refine hK.out _ _ (below_then hS0 kN hS0.size) (fun hS => ?_)
  refine rg1 9 rfl (by kernel_rfl) (by decide) (by kernel_rfl) (fun K hK => ?_)
  have hS0 := hS
  go_simp
  refine (CompareI_below t.n u.n _).mono ?_
  rintro e WN ⟨rfl, kN⟩
  simp only []
  refine hK.out _ _ (below_then hS0 kN hS0.size) (fun hS => ?_)
  refine rg1 14 rfl (by kernel_rfl) (by decide) (by kernel_rfl) (fun K hK => ?_)
  have hS0 := hS
  go_simp
  refine (CompareS_below t.nm u.nm _).mono ?_
  rintro e WN ⟨rfl, kN⟩
  simp only []
  refine hK.out _ _ (below_then hS0 kN hS0.size) (fun hS => ?_)
  refine rg1 21 rfl (by kernel_rfl) (by decide) (by kernel_rfl) (fun K hK => ?_)
  have hS0 := hS
  go_simp
  refine (CompareI_below t.ar.length u.ar.length _).mono ?_
  rintro e WN ⟨rfl, kN⟩
  simp only []
  refine hK.out _ _ (below_then hS0 kN hS0.size) (fun hS => ?_)
  refine rg1 22 rfl (by kernel_rfl) (by decide) (by kernel_rfl) (fun K hK => ?_)
  have hS0 := hS
  go_simp
  have b5 := box4 (blk_new WN (.cells #[.int .i64 (cmpI t.k u.k), .int .i64 (cmpI t.n u.n), .int .i64 (cmpS t.nm u.nm), .int .i64 (cmpI t.ar.length u.ar.length)] 3))
  obtain ⟨W5, hW5⟩ : ∃ W5, WN.alloc (.cells #[.int .i64 (cmpI t.k u.k), .int .i64 (cmpI t.n u.n), .int .i64 (cmpS t.nm u.nm), .int .i64 (cmpI t.ar.length u.ar.length)] 3) = W5 := ⟨_, rfl⟩
  rw [hW5] at b5 ⊢
  have hS5 : Below W2.heap.size W2 W5 := by rw [← hW5]; exact hS0.alloc hS0.size _
  clear hW5
  refine hK.out _ _ hS5 (fun hS => ?_)
  refine rg1 23 rfl (by kernel_rfl) (by decide) (by kernel_rfl) (fun K hK => ?_)
  have hS0 := hS
  go_simp
  refine (Or_calls [cmpI t.k u.k, cmpI t.n u.n, cmpS t.nm u.nm, cmpI t.ar.length u.ar.length] WN.heap.size _ (fun j hj => by
    match j, hj with
    | 0, _ => exact b5.1
    | 1, _ => exact b5.2.1
    | 2, _ => exact b5.2.2.1
    | 3, _ => exact b5.2.2.2
    | n + 4, h => simp at h; omega) rfl).mono ?_
  rintro e W6 ⟨rfl, k6⟩
  rw [GH.out]
  simp only []
  refine hK.out _ _ (below_then hS0 k6 hS0.size) (fun hS => ?_)
  refine rgt 24 (.int .i64 (cmpH t u)) rfl (by kernel_rfl) (fun _ _ _ h => h) (by kernel_rfl) hS (fun V hV => by go_simp) ?_
  refine rgd (by kernel_rfl) ?_
  have kE := below_then hb hS hb.size
  have z3 := cell_below x3 hS
  have z4 := cell_below y3 hS
  obtain ⟨c, hc⟩ : ∃ c, cmpH t u = c := ⟨_, rfl⟩
  have G' : Hid (cmpT t u = orI c (cmpTL t.ar u.ar)) := Lib.hid (by rw [← hc]; exact G.out)
  rw [hc]
  clear hc G GH b5 x0 x1 x2 x3 y0 y1 y2 y3 p1 p2 hS0 hS5 k6
  by_cases hz : c = 0
  · subst hz
    go_wp2_with fail
    refine (CompareFunc_calls m t.ar u.ar _ _ _ h (H.below kE) rA'.out rB'.out hs.out IH.out).mono ?_
    rintro e w7 ⟨rfl, k7⟩
    have kF := below_then kE k7 kE.size
    go_wp2_with fail
    go_ret
    exact ⟨by rw [G'.out, orI, if_pos rfl]; rfl, kF⟩
  · go_wp2_with fail
    go_ret
    exact ⟨by rw [G'.out, orI, if_neg hz]; rfl, kE⟩
end Go.Proofs.YtpgbeapojjinmaaGreatDoor
