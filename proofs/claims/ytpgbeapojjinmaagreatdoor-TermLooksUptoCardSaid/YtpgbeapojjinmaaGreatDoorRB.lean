/- The document's Raw, greatest, Equal, Shift and Lift (package peculiumref04). No law is proved here. -/
import Derived.Test.YtpgbeapojjinmaaGreatDoorRR
import Derived.Test.YtpgbeapojjinmaaGreatDoorPM
set_option linter.unusedVariables false
set_option linter.unusedSimpArgs false
namespace Go.Proofs.YtpgbeapojjinmaaGreatDoor
open Go.RowKit Go.Shelf Go.Proofs.YtpgbeapojjinmaaGreatDoorW.PrintLast
set_option maxRecDepth 100000 in
set_option maxHeartbeats 4000000 in
theorem RDepth_calls (t : Tm) (cs : List Value) (w : World) (h : Snap) (H : Has w h) (r : TmR h t cs) :
    Calls Tryz.prog 58 #[.agg cs.toArray] w fun e w' => e = .returned (.int .i64 (teD t 101)) ∧ Below w.heap.size w w' := by
  obtain ⟨A, cap, rfl, hl, hm, _, _, hr⟩ := r.open_
  have hu34 := Tryz.underlying34
  obtain ⟨b1, ab⟩ := alloc1 w (.cells #[.int .i64 t.k, .int .i64 t.n, .string t.nm, .slice A t.ar.length cap] 34)
  go_enter Tryz.func58, Tryz.ntmps58
  go_wp2_with fail
  refine (termDepth_calls t.sz t (Nat.le_refl _) _ _ h (H.below ab) r 101 (by omega) (by omega)).mono ?_
  rintro e w1 ⟨rfl, k1⟩
  go_wp2_with fail
  go_ret
  exact ⟨rfl, below_then ab k1 ab.size⟩
set_option maxRecDepth 100000 in
set_option maxHeartbeats 4000000 in
theorem RRaw_calls (t : Tm) (cs : List Value) (w : World) (h : Snap) (H : Has w h) (r : TmR h t cs) :
    Calls Tryz.prog 21 #[.agg cs.toArray] w fun e w' => e = .returned (.int .i64 (rawP t)) ∧ Below w.heap.size w w' := by
  have r0 := Lib.hid r
  obtain ⟨A, cap, rfl, hl, hm, _, _, hr⟩ := r.open_
  have hu34 := Tryz.underlying34
  have G := Lib.hid (rawP_doc t)
  obtain ⟨b1, ab⟩ := alloc1 w (.cells #[.int .i64 t.k, .int .i64 t.n, .string t.nm, .slice A t.ar.length cap] 34)
  go_enter Tryz.func21, Tryz.ntmps21
  go_wp2_with fail
  refine (termNodes_calls t.sz t (Nat.le_refl _) _ _ h (H.below ab) r0.out 0 4000 101 (by omega) (by omega) (by omega) (by omega) (by omega)).mono ?_
  rintro e w1 ⟨rfl, k1⟩
  have ab1 := below_then ab k1 ab.size
  have b2 := box_below b1 k1
  have x2 := box4 b2
  have l2 := blk_lt b2
  obtain ⟨x, hx⟩ : ∃ x, teN 4000 t 0 101 = x := ⟨_, rfl⟩
  rw [hx] at G ⊢
  clear hx
  by_cases c1 : 4000 < x
  · have G1 : Hid (rawP t = 2) := Lib.hid (by rw [G.out, if_pos c1])
    go_wp2_with fail
    go_ret
    rw [G1.out]
    exact ⟨rfl, ab1⟩
  · have G1 : Hid (rawP t = if 100 < teD t 101 then 5 else if rawN t then 0 else 6) := Lib.hid (by rw [G.out, if_neg c1])
    clear G
    go_wp2_with fail
    refine (RDepth_calls t _ _ h (H.below ab1) r0.out).mono ?_
    rintro e w2 ⟨rfl, k2⟩
    have ab2 := below_then ab1 k2 ab1.size
    have b3 := box_below b2 k2
    have x3 := box4 b3
    have l3 := blk_lt b3
    obtain ⟨y, hy⟩ : ∃ x, teD t 101 = x := ⟨_, rfl⟩
    rw [hy] at G1 ⊢
    clear hy
    by_cases c2 : 100 < y
    · have G2 : Hid (rawP t = 5) := Lib.hid (by rw [G1.out, if_pos c2])
      go_wp2_with fail
      go_ret
      rw [G2.out]
      exact ⟨rfl, ab2⟩
    · have G2 : Hid (rawP t = if rawN t then 0 else 6) := Lib.hid (by rw [G1.out, if_neg c2])
      clear G1
      go_wp2_with fail
      refine (shaped_calls t.sz t (Nat.le_refl _) _ _ h (H.below ab2) r0.out).mono ?_
      rintro e w3 ⟨rfl, k3⟩
      have ab3 := below_then ab2 k3 ab2.size
      cases hb : rawN t
      · have G3 : Hid (rawP t = 6) := Lib.hid (by rw [G2.out, hb]; rfl)
        clear G2 hb
        go_wp2_with fail
        go_ret
        rw [G3.out]
        exact ⟨rfl, ab3⟩
      · have G3 : Hid (rawP t = 0) := Lib.hid (by rw [G2.out, hb]; rfl)
        clear G2 hb
        go_wp2_with fail
        go_ret
        rw [G3.out]
        exact ⟨rfl, ab3⟩
set_option maxRecDepth 100000 in
set_option maxHeartbeats 4000000 in
theorem greatest_calls : ∀ (m : Nat) (t : Tm) (_ : t.sz ≤ m) (cs : List Value) (w : World) (h : Snap) (H : Has w h) (r : TmR h t cs),
    Calls Tryz.prog 131 #[.agg cs.toArray] w fun e w' => e = .returned (.int .i64 (grT t)) ∧ Below w.heap.size w w' := by
  intro m
  induction m with
  | zero => intro t ht; have := t.sz_pos; omega
  | succ m ih =>
  rintro ⟨kk, nn, nm, ar⟩ ht cs w h H ⟨A, cap, rfl, hl, hm, hkk, hnn, hr⟩
  have hu34 := Tryz.underlying34
  have IH := Lib.hid ih
  clear ih
  unfold lim at hm
  obtain ⟨b1, ab⟩ := alloc1 w (.cells #[.int .i64 kk, .int .i64 nn, .string nm, .slice A ar.length cap] 34)
  have x := box4 b1
  have G : Hid (grT (.mk kk nn nm ar) = grL ar nn) := Lib.hid (by rw [grT])
  go_enter Tryz.func131, Tryz.ntmps131
  go_wp2_with fail
  go_loopw [3, 4] (fun v i wr => ∃ (k : Nat) (q : Int), k ≤ ar.length ∧ i = .int .i64 k ∧ v = .int .i64 q ∧ Hid (grL (ar.drop k) q = grL ar nn) ∧ wr.heap[w.heap.size]? = some (.cells #[.int .i64 kk, .int .i64 nn, .string nm, .slice A ar.length cap] 34) ∧ Below w.heap.size w wr) (fun _ i _ => ar.length - (intOf i).toNat)
  case atStart => exact ⟨0, nn, by omega, rfl, rfl, by show grL _ _ = _; simp, b1, ab⟩
  case round =>
    obtain ⟨k, q, hk, rfl, rfl, hI, hB, hbel⟩ := hrel
    have ls := blk_lt hB
    have y := box4 hB
    by_cases hlt : k < ar.length
    · obtain ⟨b, o, A', cap', rfl, e0, e1, e2, e3, rt⟩ := hr.get k hlt
      have hw := H.below hbel
      have hc2 := hw.cell _ _ e0
      have hc3 := hw.cell _ _ e1
      have hc4 := hw.cell _ _ e2
      have hc5 := hw.cell _ _ e3
      have ht' := Lib.hid (show ar[k].sz ≤ m by have h1 := ht; have h2 := Tm.sz_at ar k hlt; simp only [Tm.sz] at h1; omega)
      have hI' : Hid (grL (ar.drop (k + 1)) (max q (grT ar[k])) = grL ar nn) := by
        have := hI.out
        rw [List.drop_eq_getElem_cons hlt, grL] at this
        exact this
      clear ht hI
      go_wp2_with fail
      refine (IH.out ar[k] ht'.out _ _ h hw rt).mono ?_
      rintro e w1 ⟨rfl, k1⟩
      have hB1 := box_below hB k1
      have hbel1 := below_then hbel k1 hbel.size
      generalize grT ar[k] = z at *
      go_wp2_with fail
      exact ⟨⟨k + 1, _, by omega, by go_num, rfl, hI', hB1, hbel1⟩, by simp [intOf]; omega⟩
    · have hI' : Hid (q = grL ar nn) := by
        have := hI.out
        rw [List.drop_eq_nil_of_le (by omega), grL] at this
        exact this
      clear hI
      go_wp2_with fail
      go_ret
      rw [G.out, ← hI'.out]
      exact ⟨rfl, hbel⟩
theorem Tm.eta (t : Tm) : t = .mk t.k t.n t.nm t.ar := by cases t; rfl
theorem eqT_mk (k n : Int) (nm : ByteArray) (ar : List Tm) (k' n' : Int) (nm' : ByteArray) (ar' : List Tm) : eqT (.mk k n nm ar) (.mk k' n' nm' ar') = (k == k' && (n == n' && (nm.toList == nm'.toList && (ar.length == ar'.length && eqTL ar ar')))) := by rw [eqT]; rfl
set_option maxRecDepth 100000 in
set_option maxHeartbeats 8000000 in
theorem Equal_calls : ∀ (m : Nat) (t u : Tm) (_ : t.sz ≤ m) (cs ds : List Value) (w : World) (h : Snap) (H : Has w h) (r : TmR h t cs) (q : TmR h u ds),
    Calls Tryz.prog 27 #[.agg cs.toArray, .agg ds.toArray] w fun e w' => e = .returned (.bool (eqT t u)) ∧ Below w.heap.size w w' := by
  intro m
  induction m with
  | zero => intro t u ht; have := t.sz_pos; omega
  | succ m ih =>
  rintro ⟨kk, nn, nm, ar⟩ ⟨ku, nu, mu, br⟩ ht cs ds w h H ⟨A, cap, rfl, hl, hm, _, _, hr⟩ ⟨B, dap, rfl, gl, gm, _, _, gr⟩
  have hu34 := Tryz.underlying34
  have IH := Lib.hid ih
  clear ih
  unfold lim at hm gm
  obtain ⟨hB, hD, hb⟩ := alloc2 w (.cells #[.int .i64 kk, .int .i64 nn, .string nm, .slice A ar.length cap] 34) (.cells #[.int .i64 ku, .int .i64 nu, .string mu, .slice B br.length dap] 34)
  have x := box4 hB
  have y := box4 hD
  have hmk := eqT_mk kk nn nm ar ku nu mu br
  cases c1 : kk == ku
  · have d1 : (kk != ku) = true := by simp at c1 ⊢; exact c1
    have G : Hid (eqT (.mk kk nn nm ar) (.mk ku nu mu br) = false) := Lib.hid (by rw [hmk, c1]; rfl)
    clear c1 hmk
    go_enter Tryz.func27, Tryz.ntmps27
    go_wp2_with fail
    go_ret
    exact ⟨ret_bool G.out.symm, hb⟩
  have d1 : (kk != ku) = false := by simp at c1 ⊢; exact c1
  cases c2 : nn == nu
  · have d2 : (nn != nu) = true := by simp at c2 ⊢; exact c2
    have G : Hid (eqT (.mk kk nn nm ar) (.mk ku nu mu br) = false) := Lib.hid (by rw [hmk, c1, c2]; rfl)
    clear c1 c2 hmk
    go_enter Tryz.func27, Tryz.ntmps27
    go_wp2_with fail
    go_ret
    exact ⟨ret_bool G.out.symm, hb⟩
  have d2 : (nn != nu) = false := by simp at c2 ⊢; exact c2
  cases c3 : nm.toList == mu.toList
  · have d3 : (nm.toList != mu.toList) = true := by simp at c3 ⊢; exact c3
    have G : Hid (eqT (.mk kk nn nm ar) (.mk ku nu mu br) = false) := Lib.hid (by rw [hmk, c1, c2, c3]; rfl)
    clear c1 c2 hmk
    go_enter Tryz.func27, Tryz.ntmps27
    go_wp2_with fail
    go_ret
    exact ⟨ret_bool G.out.symm, hb⟩
  have d3 : (nm.toList != mu.toList) = false := by simp at c3 ⊢; exact c3
  cases c4 : ar.length == br.length
  · have d4 : ((ar.length : Int) != br.length) = true := by simp at c4 ⊢; omega
    have G : Hid (eqT (.mk kk nn nm ar) (.mk ku nu mu br) = false) := Lib.hid (by rw [hmk, c1, c2, c3, c4]; rfl)
    clear c1 c2 c4 hmk
    go_enter Tryz.func27, Tryz.ntmps27
    go_wp2_with fail
    go_ret
    exact ⟨ret_bool G.out.symm, hb⟩
  have d4 : ((ar.length : Int) != br.length) = false := by simp at c4 ⊢; omega
  have hlenI : (br.length : Int) ≤ ar.length ∧ (ar.length : Int) ≤ br.length := by simp at c4; omega
  obtain ⟨l1, l2⟩ := hlenI
  have G : Hid (eqT (.mk kk nn nm ar) (.mk ku nu mu br) = eqTL ar br) := Lib.hid (by rw [hmk, c1, c2, c3, c4]; rfl)
  clear c1 c2 c4 hmk
  go_enter Tryz.func27, Tryz.ntmps27
  go_wp2_with fail
  go_loopw [5] (fun i wr => ∃ k : Nat, k ≤ ar.length ∧ i = .int .i64 k ∧ Hid (eqTL (ar.drop k) (br.drop k) = eqTL ar br) ∧ wr.heap[w.heap.size]? = some (.cells #[.int .i64 kk, .int .i64 nn, .string nm, .slice A ar.length cap] 34) ∧ wr.heap[w.heap.size + 1]? = some (.cells #[.int .i64 ku, .int .i64 nu, .string mu, .slice B br.length dap] 34) ∧ Below w.heap.size w wr) (fun i _ => ar.length - (intOf i).toNat)
  case atStart => exact ⟨0, by omega, rfl, by show eqTL _ _ = _; simp, hB, hD, hb⟩
  case round =>
    obtain ⟨k, hk, rfl, hI, hBr, hDr, hbel⟩ := hrel
    have x' := box4 hBr
    have y' := box4 hDr
    have ls := blk_lt hDr
    by_cases hlt : k < ar.length
    · have hlt' : k < br.length := by omega
      obtain ⟨b, o, A', cap', rfl, e0, e1, e2, e3, rt⟩ := hr.get k hlt
      obtain ⟨b', o', B', dap', rfl, f0, f1, f2, f3, rq⟩ := gr.get k hlt'
      have hw := H.below hbel
      have hc0 := hw.cell _ _ e0
      have hc1 := hw.cell _ _ e1
      have hc2 := hw.cell _ _ e2
      have hc3 := hw.cell _ _ e3
      have hd0 := hw.cell _ _ f0
      have hd1 := hw.cell _ _ f1
      have hd2 := hw.cell _ _ f2
      have hd3 := hw.cell _ _ f3
      have hI' : Hid ((eqT ar[k] br[k] && eqTL (ar.drop (k + 1)) (br.drop (k + 1))) = eqTL ar br) := by
        have := hI.out
        rw [List.drop_eq_getElem_cons hlt, List.drop_eq_getElem_cons hlt', eqTL] at this
        exact this
      have ht' := Lib.hid (show ar[k].sz ≤ m by have h1 := ht; have h2 := Tm.sz_at ar k hlt; simp only [Tm.sz] at h1; omega)
      clear ht hI
      go_wp2_with fail
      refine rgs 12 (fun V => Below wr.heap.size wr V) [] rfl ((Below.refl _ _).drew) (fun hS => ?_)
      refine rgt 0 (.pointer (some ⟨w.heap.size, 3, none⟩)) rfl (by kernel_rfl) (fun _ _ _ h => h) (by kernel_rfl) hS (fun V hV => by go_simp) ?_
      refine rgt 1 (.slice (some ⟨b, o, none⟩) ar.length cap) rfl (by kernel_rfl) (fun _ _ _ h => h) (by kernel_rfl) hS (fun V hV => by have q0 := cell_below x'.2.2.2 hV; go_simp) ?_
      refine rgt 2 (.int .i64 k) rfl (by kernel_rfl) (fun _ _ _ h => h) (by kernel_rfl) hS (fun V hV => by go_simp) ?_
      refine rgt 3 (.pointer (some ⟨b, o + k * 4, none⟩)) rfl (by kernel_rfl) (fun _ _ _ h => h) (by kernel_rfl) hS (fun V hV => by go_simp) ?_
      refine rgt 4 (.agg #[.int .i64 ar[k].k, .int .i64 ar[k].n, .string ar[k].nm, .slice A' ar[k].ar.length cap']) rfl (by kernel_rfl) (fun _ _ _ h => h) (by kernel_rfl) hS (fun V hV => by have q0 := cell_below hc0 hV; have q1 := cell_below hc1 hV; have q2 := cell_below hc2 hV; have q3 := cell_below hc3 hV; go_simp) ?_
      refine rgt 5 (.pointer (some ⟨w.heap.size + 1, 3, none⟩)) rfl (by kernel_rfl) (fun _ _ _ h => h) (by kernel_rfl) hS (fun V hV => by go_simp) ?_
      refine rgt 6 (.slice (some ⟨b', o', none⟩) br.length dap) rfl (by kernel_rfl) (fun _ _ _ h => h) (by kernel_rfl) hS (fun V hV => by have q0 := cell_below y'.2.2.2 hV; go_simp) ?_
      refine rgt 7 (.int .i64 k) rfl (by kernel_rfl) (fun _ _ _ h => h) (by kernel_rfl) hS (fun V hV => by go_simp) ?_
      refine rgt 8 (.pointer (some ⟨b', o' + k * 4, none⟩)) rfl (by kernel_rfl) (fun _ _ _ h => h) (by kernel_rfl) hS (fun V hV => by go_simp) ?_
      refine rgt 9 (.agg #[.int .i64 br[k].k, .int .i64 br[k].n, .string br[k].nm, .slice B' br[k].ar.length dap']) rfl (by kernel_rfl) (fun _ _ _ h => h) (by kernel_rfl) hS (fun V hV => by have q0 := cell_below hd0 hV; have q1 := cell_below hd1 hV; have q2 := cell_below hd2 hV; have q3 := cell_below hd3 hV; go_simp) ?_
      refine rg1 10 rfl (by kernel_rfl) (by decide) (by kernel_rfl) (fun K hK => ?_)
      have hS0 := hS
      go_simp
      refine (IH.out ar[k] br[k] ht'.out _ _ _ h hw.drew rt rq).mono ?_
      rintro e w1 ⟨rfl, k1⟩
      simp only []
      refine hK.out _ _ (below_then hS0 k1 hS0.size) (fun hS => ?_)
      have b1' := undrew k1
      have hB1 := box_below hBr b1'
      have hD1 := box_below hDr b1'
      have hbel1 := below_then hbel b1' hbel.size
      cases hs : eqT ar[k] br[k]
      · have hI2 : Hid (eqTL ar br = false) := by have := hI'.out; rw [hs] at this; exact this.symm
        clear hs hI'
        refine rgt 11 (.bool true) rfl (by kernel_rfl) (fun _ _ _ h => h) (by kernel_rfl) hS (fun V hV => by go_simp) ?_
        refine rgd (by kernel_rfl) ?_
        go_wp2_with fail
        go_ret
        exact ⟨ret_bool (by rw [G.out, hI2.out]), hbel1⟩
      · have hI2 : Hid (eqTL (ar.drop (k + 1)) (br.drop (k + 1)) = eqTL ar br) := by have := hI'.out; rw [hs] at this; exact this
        clear hs hI'
        refine rgt 11 (.bool false) rfl (by kernel_rfl) (fun _ _ _ h => h) (by kernel_rfl) hS (fun V hV => by go_simp) ?_
        refine rgd (by kernel_rfl) ?_
        go_wp2_with fail
        exact ⟨⟨k + 1, by omega, by go_num, hI2, hB1, hD1, hbel1⟩, by simp [intOf]; omega⟩
    · have hI2 : Hid (eqTL ar br = true) := by
        have := hI.out
        rw [List.drop_eq_nil_of_le (by omega), eqTL] at this
        exact this.symm
      clear hI
      go_wp2_with fail
      go_ret
      exact ⟨ret_bool (by rw [G.out, hI2.out]), hbel⟩
end Go.Proofs.YtpgbeapojjinmaaGreatDoor
