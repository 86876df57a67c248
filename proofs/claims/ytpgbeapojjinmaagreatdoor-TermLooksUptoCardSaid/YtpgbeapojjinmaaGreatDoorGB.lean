/- The document's compare, Compare, Same (package peculiumref04). No law is proved here. -/
import Derived.Test.YtpgbeapojjinmaaGreatDoorGA
import Derived.Test.YtpgbeapojjinmaaGreatDoorFB
set_option linter.unusedVariables false
set_option linter.unusedSimpArgs false
namespace Go.Proofs.YtpgbeapojjinmaaGreatDoor
open Go.RowKit Go.Shelf Go.Proofs.YtpgbeapojjinmaaGreatDoorW.PrintLast
def orM : List Int → Int
  | [] => 0
  | x :: l => if x = 0 then orM l else x
theorem orM_four (a b c d : Int) : orM [a, b, c, d] = orI a (orI b (orI c d)) := by
  unfold orI
  simp only [orM]
  by_cases h1 : a = 0
  · by_cases h2 : b = 0
    · by_cases h3 : c = 0
      · by_cases h4 : d = 0 <;> simp [h1, h2, h3, h4]
      · simp [h1, h2, h3]
    · simp [h1, h2]
  · simp [h1]
set_option maxRecDepth 100000 in
set_option maxHeartbeats 8000000 in
theorem rcompare_calls : ∀ (m : Nat) (t u : Tm) (_ : t.sz ≤ m) (cs ds : List Value) (w : World) (h : Snap) (H : Has w h) (r : TmR h t cs) (q : TmR h u ds),
    Calls Tryz.prog 143 #[.agg cs.toArray, .agg ds.toArray] w fun e w' => e = .returned (.int .i64 (cmpT t u)) ∧ Below w.heap.size w w' := by
  intro m
  induction m with
  | zero => intro t u ht; have := t.sz_pos; omega
  | succ m ih =>
  rintro ⟨kk, nn, nm, ar⟩ ⟨ku, nu, mu, br⟩ ht cs ds w h H ⟨A, cap, rfl, hl, hm, _, _, hr⟩ ⟨B, dap, rfl, gl, gm, _, _, gr⟩
  have hu34 := Tryz.underlying34
  have IH := Lib.hid ih
  clear ih
  unfold lim at hm gm
  obtain ⟨a1, a2, ab⟩ := alloc2 w (.cells #[.int .i64 kk, .int .i64 nn, .string nm, .slice A ar.length cap] 34) (.cells #[.int .i64 ku, .int .i64 nu, .string mu, .slice B br.length dap] 34)
  obtain ⟨R, hR⟩ : ∃ R, cmpT (.mk kk nn nm ar) (.mk ku nu mu br) = R := ⟨_, rfl⟩
  rw [hR]
  rw [cmpT_eq] at hR
  unfold cmpH at hR
  rw [← orM_four] at hR
  simp only [Tm.k, Tm.n, Tm.nm, Tm.ar] at hR
  replace hR := Lib.hid hR
  go_enter Tryz.func143, Tryz.ntmps143
  go_wp2_with fail
  obtain ⟨W2, hW2⟩ : ∃ W2, (w.alloc (.cells #[.int .i64 kk, .int .i64 nn, .string nm, .slice A ar.length cap] 34)).alloc (.cells #[.int .i64 ku, .int .i64 nu, .string mu, .slice B br.length dap] 34) = W2 := ⟨_, rfl⟩
  have hsz : W2.heap.size = w.heap.size + 2 := by rw [← hW2]; simp
  rw [hW2] at a1 a2 ab ⊢
  clear hW2
  obtain ⟨x0, x1, x2, x3⟩ := box4 a1
  obtain ⟨y0, y1, y2, y3⟩ := box4 a2
  have hlA : (-9223372036854775808 : Int) ≤ ar.length := by omega
  refine rgs 24 (fun V => Below W2.heap.size W2 V) [] rfl ((Below.refl _ _).drew) (fun hS => ?_)
  refine rgnf 0 9 (.pointer (some ⟨w.heap.size, 0, none⟩)) rfl rfl (by kernel_rfl) (fun _ _ _ h => h) (by kernel_rfl) hS (fun V hV => by go_simp) ?_
  refine rgnf 1 10 (.int .i64 kk) rfl rfl (by kernel_rfl) (fun _ _ _ h => h) (by kernel_rfl) hS (fun V hV => by have q0 := cell_below x0 hV; go_simp) ?_
  refine rgnf 2 11 (.pointer (some ⟨w.heap.size + 1, 0, none⟩)) rfl rfl (by kernel_rfl) (fun _ _ _ h => h) (by kernel_rfl) hS (fun V hV => by go_simp) ?_
  refine rgnf 3 12 (.int .i64 ku) rfl rfl (by kernel_rfl) (fun _ _ _ h => h) (by kernel_rfl) hS (fun V hV => by have q0 := cell_below y0 hV; go_simp) ?_
  refine rgnf 5 14 (.pointer (some ⟨w.heap.size, 1, none⟩)) rfl rfl (by kernel_rfl) (fun _ _ _ h => h) (by kernel_rfl) hS (fun V hV => by go_simp) ?_
  refine rgnf 6 15 (.int .i64 nn) rfl rfl (by kernel_rfl) (fun _ _ _ h => h) (by kernel_rfl) hS (fun V hV => by have q0 := cell_below x1 hV; go_simp) ?_
  refine rgnf 7 16 (.pointer (some ⟨w.heap.size + 1, 1, none⟩)) rfl rfl (by kernel_rfl) (fun _ _ _ h => h) (by kernel_rfl) hS (fun V hV => by go_simp) ?_
  refine rgnf 8 17 (.int .i64 nu) rfl rfl (by kernel_rfl) (fun _ _ _ h => h) (by kernel_rfl) hS (fun V hV => by have q0 := cell_below y1 hV; go_simp) ?_
  refine rgnf 10 19 (.pointer (some ⟨w.heap.size, 2, none⟩)) rfl rfl (by kernel_rfl) (fun _ _ _ h => h) (by kernel_rfl) hS (fun V hV => by go_simp) ?_
  refine rgnf 11 20 (.string nm) rfl rfl (by kernel_rfl) (fun _ _ _ h => h) (by kernel_rfl) hS (fun V hV => by have q0 := cell_below x2 hV; go_simp) ?_
  refine rgnf 12 21 (.pointer (some ⟨w.heap.size + 1, 2, none⟩)) rfl rfl (by kernel_rfl) (fun _ _ _ h => h) (by kernel_rfl) hS (fun V hV => by go_simp) ?_
  refine rgnf 13 22 (.string mu) rfl rfl (by kernel_rfl) (fun _ _ _ h => h) (by kernel_rfl) hS (fun V hV => by have q0 := cell_below y2 hV; go_simp) ?_
  refine rgnf 15 24 (.pointer (some ⟨w.heap.size, 3, none⟩)) rfl rfl (by kernel_rfl) (fun _ _ _ h => h) (by kernel_rfl) hS (fun V hV => by go_simp) ?_
  refine rgnf 16 25 (.slice A ar.length cap) rfl rfl (by kernel_rfl) (fun _ _ _ h => h) (by kernel_rfl) hS (fun V hV => by have q0 := cell_below x3 hV; go_simp) ?_
  refine rgnf 17 26 (.int .i64 ar.length) rfl rfl (by kernel_rfl) (fun _ _ _ h => h) (by kernel_rfl) hS (fun V hV => by go_simp) ?_
  refine rgnf 18 27 (.pointer (some ⟨w.heap.size + 1, 3, none⟩)) rfl rfl (by kernel_rfl) (fun _ _ _ h => h) (by kernel_rfl) hS (fun V hV => by go_simp) ?_
  refine rgnf 19 28 (.slice B br.length dap) rfl rfl (by kernel_rfl) (fun _ _ _ h => h) (by kernel_rfl) hS (fun V hV => by have q0 := cell_below y3 hV; go_simp) ?_
  refine rgnf 20 29 (.int .i64 br.length) rfl rfl (by kernel_rfl) (fun _ _ _ h => h) (by kernel_rfl) hS (fun V hV => by go_simp) ?_
  try simp only [Act.put, List.setIfInBounds_toArray, List.set_cons_zero, List.set_cons_succ]
  refine rg1 4 rfl (by kernel_rfl) (by decide) (by kernel_rfl) (fun K hK => ?_)
  have hS0 := hS
  go_simp
  refine (Order_calls kk ku _).mono ?_
  rintro e W7 ⟨rfl, k7⟩
  simp only []
  refine hK.out _ _ (below_then hS0 k7 hS0.size) (fun hS => ?_)
  try simp only [Act.put, List.setIfInBounds_toArray, List.set_cons_zero, List.set_cons_succ]
  refine rg1 9 rfl (by kernel_rfl) (by decide) (by kernel_rfl) (fun K hK => ?_)
  have hS0 := hS
  go_simp
  refine (Order_calls nn nu _).mono ?_
  rintro e W7 ⟨rfl, k7⟩
  simp only []
  refine hK.out _ _ (below_then hS0 k7 hS0.size) (fun hS => ?_)
  try simp only [Act.put, List.setIfInBounds_toArray, List.set_cons_zero, List.set_cons_succ]
  refine rg1 14 rfl (by kernel_rfl) (by decide) (by kernel_rfl) (fun K hK => ?_)
  have hS0 := hS
  go_simp
  refine (Strings_calls nm mu _).mono ?_
  rintro e W7 ⟨rfl, k7⟩
  simp only []
  refine hK.out _ _ (below_then hS0 k7 hS0.size) (fun hS => ?_)
  try simp only [Act.put, List.setIfInBounds_toArray, List.set_cons_zero, List.set_cons_succ]
  refine rg1 21 rfl (by kernel_rfl) (by decide) (by kernel_rfl) (fun K hK => ?_)
  have hS0 := hS
  go_simp
  refine (Order_calls ar.length br.length _).mono ?_
  rintro e W7 ⟨rfl, k7⟩
  simp only []
  refine hK.out _ _ (below_then hS0 k7 hS0.size) (fun hS => ?_)
  obtain ⟨v1, hv1⟩ : ∃ v, cmpI kk ku = v := ⟨_, rfl⟩
  obtain ⟨v2, hv2⟩ : ∃ v, cmpI nn nu = v := ⟨_, rfl⟩
  obtain ⟨v3, hv3⟩ : ∃ v, cmpS nm mu = v := ⟨_, rfl⟩
  obtain ⟨v4, hv4⟩ : ∃ v, cmpI ar.length br.length = v := ⟨_, rfl⟩
  rw [hv1, hv2, hv3, hv4] at hR ⊢
  clear hv1 hv2 hv3
  refine rg1 22 rfl (by kernel_rfl) (by decide) (by kernel_rfl) (fun K hK => ?_)
  have hS0 := hS
  go_simp
  obtain ⟨c1, d1⟩ := alloc1 W7 (.cells #[.int .i64 v1, .int .i64 v2, .int .i64 v3, .int .i64 v4] 3)
  refine hK.out _ _ (below_then hS0 d1 hS0.size) (fun hS => ?_)
  refine rgnf 23 5 (.slice (some ⟨W7.heap.size, 0, none⟩) 4 4) rfl rfl (by kernel_rfl) (fun _ _ _ h => h) (by kernel_rfl) hS (fun V hV => by go_simp) ?_
  refine rgd (by kernel_rfl) ?_
  simp only [Act.put, List.setIfInBounds_toArray, List.set_cons_zero, List.set_cons_succ]
  obtain ⟨W8, hW8⟩ : ∃ W, W7.alloc (.cells #[.int .i64 v1, .int .i64 v2, .int .i64 v3, .int .i64 v4] 3) = W := ⟨_, rfl⟩
  rw [hW8] at hS c1 d1 ⊢
  obtain ⟨g, hg⟩ : ∃ g, W7.heap.size = g := ⟨_, rfl⟩
  rw [hg] at c1 ⊢
  have kb := below_then ab hS ab.size
  have E1 := box_below a1 hS
  have E2 := box_below a2 hS
  clear hW8 hg hS hS0 d1 k7 x0 x1 x2 x3 y0 y1 y2 y3 a1 a2 ab hK
  obtain ⟨cl, hcl⟩ : ∃ cl, [v1, v2, v3, v4] = cl := ⟨_, rfl⟩
  have hlen : Hid (cl.length = 4) := Lib.hid (by rw [← hcl]; rfl)
  have hcell : ∀ j, j < 4 → W8.cell? ⟨g, j, none⟩ = some (.int .i64 (cl.getD j 0)) := fun j hj => by
    rw [blk_cell c1 j, ← hcl]
    match j, hj with
    | 0, _ => rfl
    | 1, _ => rfl
    | 2, _ => rfl
    | 3, _ => rfl
  have hz4 : Hid (orM cl = 0 → ar.length = br.length) := Lib.hid (fun e => by
    rw [← hcl] at e
    simp only [orM] at e
    have h4 : v4 = 0 := by
      by_cases q1 : v1 = 0
      · rw [if_pos q1] at e
        by_cases q2 : v2 = 0
        · rw [if_pos q2] at e
          by_cases q3 : v3 = 0
          · rw [if_pos q3] at e
            by_cases q4 : v4 = 0
            · exact q4
            · rw [if_neg q4] at e; exact absurd e q4
          · rw [if_neg q3] at e; exact absurd e q3
        · rw [if_neg q2] at e; exact absurd e q2
      · rw [if_neg q1] at e; exact absurd e q1
    rw [h4] at hv4
    unfold cmpI at hv4
    split at hv4
    · omega
    · split at hv4 <;> omega)
  rw [hcl] at hR
  clear hcl hv4
  have lg := blk_lt c1
  have l1 := blk_lt E1
  have l2 := blk_lt E2
  have hcell' := Lib.hid hcell
  clear hcell
  go_wp2_with fail
  go_loopw [6] (fun i wr => ∃ j : Nat, j ≤ 4 ∧ i = .int .i64 j ∧ wr = W8 ∧ Hid (orM (cl.drop j) = orM cl)) (fun i _ => 4 - (intOf i).toNat)
  case atStart => exact ⟨0, by omega, rfl, rfl, by show _ = _; simp⟩
  case round =>
    obtain ⟨j, hj, rfl, rfl, hI⟩ := hrel
    by_cases hlt : j < 4
    · have hcj := hcell'.out j hlt
      have hltI : (j : Int) < 4 := by omega
      have hI' : Hid (orM cl = if cl.getD j 0 = 0 then orM (cl.drop (j + 1)) else cl.getD j 0) := by
        have := hI.out
        have hj2 : j < cl.length := by rw [hlen.out]; exact hlt
        rw [List.drop_eq_getElem_cons hj2, orM] at this
        show _ = _
        rw [← this]
        simp [hj2]
      clear hI
      generalize cl.getD j 0 = z at *
      by_cases hz : z = 0
      · have hzb : (z != 0) = false := by simp [hz]
        rw [if_pos hz] at hI'
        clear hz
        go_wp2_with fail
        exact ⟨⟨j + 1, by omega, by go_num, by first | rfl | trivial, Lib.hid hI'.out.symm⟩, by simp [intOf]; omega⟩
      · have hzb : (z != 0) = true := by simpa using hz
        rw [if_neg hz] at hI'
        go_wp2_with fail
        go_ret
        have hG : R = z := by rw [← hR.out, hI'.out]; unfold orI; rw [if_neg hz]
        exact ⟨ret_int hG.symm, kb⟩
    · have hj4 := Lib.hid (show j = 4 by omega)
      have hz0 : Hid (orM cl = 0) := by
        have := hI.out
        rw [hj4.out, List.drop_eq_nil_of_le (by rw [hlen.out]; exact Nat.le_refl _)] at this
        exact this.symm
      have hlenE := hz4.out hz0.out
      have hltI : ¬ (j : Int) < 4 := by omega
      have hR2 : Hid (cmpTL ar br = R) := Lib.hid (by rw [← hR.out, hz0.out]; unfold orI; rw [if_pos rfl])
      clear hI hz0 hz4 hR hj4
      have hle1 : ar.length ≤ br.length := by omega
      have hle2 : br.length ≤ ar.length := by omega
      clear hlenE
      go_wp2_with fail
      go_loopw [7] (fun i wr => ∃ k : Nat, k ≤ ar.length ∧ i = .int .i64 k ∧ Hid (cmpTL (ar.drop k) (br.drop k) = R) ∧ wr.heap[w.heap.size]? = some (.cells #[.int .i64 kk, .int .i64 nn, .string nm, .slice A ar.length cap] 34) ∧ wr.heap[w.heap.size + 1]? = some (.cells #[.int .i64 ku, .int .i64 nu, .string mu, .slice B br.length dap] 34) ∧ Below w.heap.size w wr) (fun i _ => ar.length - (intOf i).toNat)
      case atStart => exact ⟨0, by omega, rfl, by show cmpTL _ _ = _; simpa using hR2.out, E1, E2, kb⟩
      case round =>
        obtain ⟨k, hk, rfl, hI, hBr, hDr, hbel⟩ := hrel
        have x' := box4 hBr
        have y' := box4 hDr
        have ls := blk_lt hDr
        by_cases hlt : k < ar.length
        · have hlt' : k < br.length := by omega
          obtain ⟨b, o, A', cap', rfl, e0, e1, e2, e3, rt⟩ := hr.get k hlt
          obtain ⟨b', o', B', dap', rfl, f0, f1, f2, f3, rq⟩ := gr.get k hlt'
          have hw := H.below hbel
          have hc0 := hw.cell _ _ e0
          have hc1 := hw.cell _ _ e1
          have hc2 := hw.cell _ _ e2
          have hc3 := hw.cell _ _ e3
          have hd0 := hw.cell _ _ f0
          have hd1 := hw.cell _ _ f1
          have hd2 := hw.cell _ _ f2
          have hd3 := hw.cell _ _ f3
          have hI' : Hid (orI (cmpT ar[k] br[k]) (cmpTL (ar.drop (k + 1)) (br.drop (k + 1))) = R) := by
            have := hI.out
            rw [List.drop_eq_getElem_cons hlt, List.drop_eq_getElem_cons hlt', cmpTL] at this
            exact this
          have ht' := Lib.hid (show ar[k].sz ≤ m by have h1 := ht; have h2 := Tm.sz_at ar k hlt; simp only [Tm.sz] at h1; omega)
          clear ht hI
          go_wp2_with fail
          refine rgs 12 (fun V => Below wr.heap.size wr V) [] rfl ((Below.refl _ _).drew) (fun hS => ?_)
          refine rgnf 0 54 (.pointer (some ⟨w.heap.size, 3, none⟩)) rfl rfl (by kernel_rfl) (fun _ _ _ h => h) (by kernel_rfl) hS (fun V hV => by go_simp) ?_
          refine rgnf 1 55 (.slice (some ⟨b, o, none⟩) ar.length cap) rfl rfl (by kernel_rfl) (fun _ _ _ h => h) (by kernel_rfl) hS (fun V hV => by have q0 := cell_below x'.2.2.2 hV; go_simp) ?_
          refine rgnf 2 56 (.int .i64 k) rfl rfl (by kernel_rfl) (fun _ _ _ h => h) (by kernel_rfl) hS (fun V hV => by go_simp) ?_
          refine rgnf 3 57 (.pointer (some ⟨b, o + k * 4, none⟩)) rfl rfl (by kernel_rfl) (fun _ _ _ h => h) (by kernel_rfl) hS (fun V hV => by go_simp) ?_
          refine rgnf 4 58 (.agg #[.int .i64 ar[k].k, .int .i64 ar[k].n, .string ar[k].nm, .slice A' ar[k].ar.length cap']) rfl rfl (by kernel_rfl) (fun _ _ _ h => h) (by kernel_rfl) hS (fun V hV => by have q0 := cell_below hc0 hV; have q1 := cell_below hc1 hV; have q2 := cell_below hc2 hV; have q3 := cell_below hc3 hV; go_simp) ?_
          refine rgnf 5 59 (.pointer (some ⟨w.heap.size + 1, 3, none⟩)) rfl rfl (by kernel_rfl) (fun _ _ _ h => h) (by kernel_rfl) hS (fun V hV => by go_simp) ?_
          refine rgnf 6 60 (.slice (some ⟨b', o', none⟩) br.length dap) rfl rfl (by kernel_rfl) (fun _ _ _ h => h) (by kernel_rfl) hS (fun V hV => by have q0 := cell_below y'.2.2.2 hV; go_simp) ?_
          refine rgnf 7 61 (.int .i64 k) rfl rfl (by kernel_rfl) (fun _ _ _ h => h) (by kernel_rfl) hS (fun V hV => by go_simp) ?_
          refine rgnf 8 62 (.pointer (some ⟨b', o' + k * 4, none⟩)) rfl rfl (by kernel_rfl) (fun _ _ _ h => h) (by kernel_rfl) hS (fun V hV => by go_simp) ?_
          refine rgnf 9 63 (.agg #[.int .i64 br[k].k, .int .i64 br[k].n, .string br[k].nm, .slice B' br[k].ar.length dap']) rfl rfl (by kernel_rfl) (fun _ _ _ h => h) (by kernel_rfl) hS (fun V hV => by have q0 := cell_below hd0 hV; have q1 := cell_below hd1 hV; have q2 := cell_below hd2 hV; have q3 := cell_below hd3 hV; go_simp) ?_
          simp only [Act.put, List.setIfInBounds_toArray, List.set_cons_zero, List.set_cons_succ]
          refine rg1 10 rfl (by kernel_rfl) (by decide) (by kernel_rfl) (fun K hK => ?_)
          have hS0 := hS
          go_simp
          refine (IH.out ar[k] br[k] ht'.out _ _ _ h hw.drew rt rq).mono ?_
          rintro e w1 ⟨rfl, k1⟩
          simp only []
          refine hK.out _ _ (below_then hS0 k1 hS0.size) (fun hS => ?_)
          have b1' := undrew k1
          have hB1 := box_below hBr b1'
          have hD1 := box_below hDr b1'
          have hbel1 := below_then hbel b1' hbel.size
          generalize cmpT ar[k] br[k] = z at *
          refine rgnf 11 8 (.int .i64 z) rfl rfl (by kernel_rfl) (fun _ _ _ h => h) (by kernel_rfl) hS (fun V hV => by go_simp) ?_
          refine rgd (by kernel_rfl) ?_
          simp only [Act.put, List.setIfInBounds_toArray, List.set_cons_zero, List.set_cons_succ]
          by_cases hz : z = 0
          · have hzb : (z != 0) = false := by simp [hz]
            have hI2 : Hid (cmpTL (ar.drop (k + 1)) (br.drop (k + 1)) = R) := by
              have := hI'.out
              unfold orI at this
              rw [if_pos hz] at this
              exact this
            clear hz hI'
            go_wp2_with fail
            exact ⟨⟨k + 1, by omega, by go_num, hI2, hB1, hD1, hbel1⟩, by simp [intOf]; omega⟩
          · have hzb : (z != 0) = true := by simpa using hz
            have hI2 : Hid (z = R) := by
              have := hI'.out
              unfold orI at this
              rw [if_neg hz] at this
              exact this
            clear hz hI'
            go_wp2_with fail
            go_ret
            exact ⟨ret_int hI2.out, hbel1⟩
        · have hI2 : Hid ((0 : Int) = R) := by
            have := hI.out
            rw [List.drop_eq_nil_of_le (by omega), List.drop_eq_nil_of_le (by omega), cmpTL] at this
            exact this
          clear hI
          go_wp2_with fail
          go_ret
          exact ⟨ret_int hI2.out, hbel⟩
set_option maxRecDepth 100000 in
set_option maxHeartbeats 4000000 in
theorem RCompare_calls (a b : Tm) (ca cb : List Value) (w : World) (h : Snap) (H : Has w h) (ra : TmR h a ca) (rb : TmR h b cb) :
    Calls Tryz.prog 68 #[.agg ca.toArray, .agg cb.toArray] w fun e w' => e = .returned (.int .i64 (cmpV a b)) ∧ Below w.heap.size w w' := by
  have ra0 := Lib.hid ra
  have rb0 := Lib.hid rb
  obtain ⟨A, cap, rfl, hl, hm, hk1, hn1, hr⟩ := ra.open_
  obtain ⟨B, dap, rfl, gl, gm, gk1, gn1, gr⟩ := rb.open_
  have hu34 := Tryz.underlying34
  obtain ⟨p1, p2, hb⟩ := alloc2 w (.cells #[.int .i64 a.k, .int .i64 a.n, .string a.nm, .slice A a.ar.length cap] 34) (.cells #[.int .i64 b.k, .int .i64 b.n, .string b.nm, .slice B b.ar.length dap] 34)
  have G := Lib.hid (show cmpV a b = cmpP (rawP a == 0) (rawP b == 0) a b from rfl)
  go_enter Tryz.func68, Tryz.ntmps68
  go_wp2_with fail
  refine (RRaw_calls a _ _ h (H.below hb) ra0.out).mono ?_
  rintro e w1 ⟨rfl, k1⟩
  have kb1 := below_then hb k1 hb.size
  have q1 := box_below p1 k1
  have q2 := box_below p2 k1
  have y := box4 q2
  have ly := blk_lt q2
  go_wp2_with fail
  refine (RRaw_calls b _ _ h (H.below kb1) rb0.out).mono ?_
  rintro e w2 ⟨rfl, k2⟩
  have kb2 := below_then kb1 k2 kb1.size
  have d1 := box_below q1 k2
  have d2 := box_below q2 k2
  clear y ly q1 q2 p1 p2 k1 k2
  obtain ⟨x, y, l1, l2⟩ : (_ ∧ _) ∧ (_ ∧ _) ∧ _ ∧ _ := ⟨box4 d1, box4 d2, blk_lt d1, blk_lt d2⟩
  cases ha : rawP a == 0 <;> cases hbq : rawP b == 0
  · have G1 : Hid (cmpV a b = 0) := Lib.hid (by rw [G.out, ha, hbq]; rfl)
    go_wp2_with fail
    go_ret
    exact ⟨ret_int G1.out.symm, kb2⟩
  · have G1 : Hid (cmpV a b = -1) := Lib.hid (by rw [G.out, ha, hbq]; rfl)
    go_wp2_with fail
    go_ret
    exact ⟨ret_int G1.out.symm, kb2⟩
  · have G1 : Hid (cmpV a b = 1) := Lib.hid (by rw [G.out, ha, hbq]; rfl)
    go_wp2_with fail
    go_ret
    exact ⟨ret_int G1.out.symm, kb2⟩
  · have G1 : Hid (cmpV a b = cmpT a b) := Lib.hid (by rw [G.out, ha, hbq]; rfl)
    go_wp2_with fail
    refine (rcompare_calls a.sz a b (Nat.le_refl _) _ _ _ h (H.below kb2) ra0.out rb0.out).mono ?_
    rintro e w3 ⟨rfl, k3⟩
    go_wp2_with fail
    go_ret
    exact ⟨ret_int G1.out.symm, below_then kb2 k3 kb2.size⟩
end Go.Proofs.YtpgbeapojjinmaaGreatDoor
