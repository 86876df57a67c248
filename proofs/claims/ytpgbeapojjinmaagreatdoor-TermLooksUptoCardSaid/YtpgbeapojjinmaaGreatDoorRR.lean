/- The document's shaped and Raw (package peculiumref04). No law is proved here. -/
import Derived.Test.YtpgbeapojjinmaaGreatDoorRS
set_option linter.unusedVariables false
set_option linter.unusedSimpArgs false
namespace Go.Proofs.YtpgbeapojjinmaaGreatDoor
open Go.RowKit Go.Shelf Go.Proofs.YtpgbeapojjinmaaGreatDoorW.PrintLast
theorem nodeP_as (k n : Int) (nm : ByteArray) (ar : List Tm) : nodeP (.mk k n nm ar) = if k = 1 then n == 0 && (isTok nm 1 && decide (ar.length ≤ 8))
    else if k = 2 ∨ (k = 3 ∨ k = 4) then decide (0 ≤ n) && (decide (n ≤ 100000) && (nm.toList == [] && decide (ar.length ≤ 8)))
    else k == 5 && (n == 0 && (nm.toList == [] && ar.length == 1)) := rfl
theorem rawN_mk (k n : Int) (nm : ByteArray) (ar : List Tm) : rawN (.mk k n nm ar) = (nodeP (.mk k n nm ar) && rawNL ar) := by rw [rawN]
set_option maxRecDepth 100000 in
set_option maxHeartbeats 8000000 in
theorem shaped_calls : ∀ (m : Nat) (t : Tm) (_ : t.sz ≤ m) (cs : List Value) (w : World) (h : Snap) (H : Has w h) (r : TmR h t cs),
    Calls Tryz.prog 84 #[.agg cs.toArray] w fun e w' => e = .returned (.bool (rawN t)) ∧ Below w.heap.size w w' := by
  intro m
  induction m with
  | zero => intro t ht; have := t.sz_pos; omega
  | succ m ih =>
  rintro ⟨kk, nn, nm, ar⟩ ht cs w h H ⟨A, cap, rfl, hl, hm, hkk, hnn, hr⟩
  have hu34 := Tryz.underlying34
  have IH := Lib.hid ih
  clear ih
  unfold lim at hm
  obtain ⟨b1, ab⟩ := alloc1 w (.cells #[.int .i64 kk, .int .i64 nn, .string nm, .slice A ar.length cap] 34)
  have x := box4 b1
  have hmk := rawN_mk kk nn nm ar
  rw [nodeP_as] at hmk
  by_cases q1 : kk = 1
  · subst q1
    rw [if_pos rfl] at hmk
    by_cases en : nn = 0
    · subst en
      cases it : isTok nm 1
      · rw [it] at hmk
        have hit := Lib.hid it
        clear it
        have G : Hid (rawN (.mk 1 0 nm ar) = false) := Lib.hid (by rw [hmk]; rfl)
        clear hmk
        go_enter Tryz.func84, Tryz.ntmps84
        go_wp2_with fail
        refine ((RIsName_calls nm _ h (H.below ab))).mono ?_
        rintro e w1 ⟨rfl, k1⟩
        rw [hit.out]
        have x1 := box4 (box_below b1 k1)
        have ab1 := below_then ab k1 ab.size
        go_wp2_with fail
        go_ret
        rw [G.out]
        exact ⟨rfl, ab1⟩
      · rw [it] at hmk
        have hit := Lib.hid it
        clear it
        by_cases l8 : ar.length ≤ 8
        · have l8' : ¬ (8 < (ar.length : Int)) := by omega
          have G : Hid (rawN (.mk 1 0 nm ar) = rawNL ar) := Lib.hid (by rw [hmk]; simp [l8])
          clear hmk
          go_enter Tryz.func84, Tryz.ntmps84
          go_wp2_with fail
          refine ((RIsName_calls nm _ h (H.below ab))).mono ?_
          rintro e w1 ⟨rfl, k1⟩
          rw [hit.out]
          have x1 := box4 (box_below b1 k1)
          have ab1 := below_then ab k1 ab.size
          have b2 := box_below b1 k1
          go_wp2_with fail
          go_loopw [3] (fun i wr => ∃ k : Nat, k ≤ ar.length ∧ i = .int .i64 k ∧ Hid (rawNL (ar.drop k) = rawNL ar) ∧ wr.heap[w.heap.size]? = some (.cells #[.int .i64 1, .int .i64 0, .string nm, .slice A ar.length cap] 34) ∧ Below w.heap.size w wr) (fun i _ => ar.length - (intOf i).toNat)
          case atStart => exact ⟨0, by omega, rfl, by show rawNL _ = _; simp, b2, ab1⟩
          case round =>
            obtain ⟨k, hk, rfl, hI, hBr, hbel⟩ := hrel
            have ls := blk_lt hBr
            have y := box4 hBr
            by_cases hlt : k < ar.length
            · obtain ⟨b, o, A', cap', rfl, e0, e1, e2, e3, rt⟩ := hr.get k hlt
              have hw := H.below hbel
              have hc0 := hw.cell _ _ e0
              have hc1 := hw.cell _ _ e1
              have hc2 := hw.cell _ _ e2
              have hc3 := hw.cell _ _ e3
              have hI' : Hid ((rawN ar[k] && rawNL (ar.drop (k + 1))) = rawNL ar) := by
                have := hI.out
                rw [List.drop_eq_getElem_cons hlt, rawNL] at this
                exact this
              have ht' := Lib.hid (show ar[k].sz ≤ m by have h1 := ht; have h2 := Tm.sz_at ar k hlt; simp only [Tm.sz] at h1; omega)
              go_wp2_with fail
              refine (IH.out ar[k] ht'.out _ _ h hw rt).mono ?_
              rintro e w2 ⟨rfl, k2⟩
              have hB2 := box_below hBr k2
              have hbel2 := below_then hbel k2 hbel.size
              cases hrr : rawN ar[k]
              · have hI2 : Hid (rawNL ar = false) := Lib.hid (by rw [← hI'.out, hrr]; rfl)
                clear hI' hrr
                go_wp2_with fail
                go_ret
                rw [G.out, hI2.out]
                exact ⟨rfl, hbel2⟩
              · have hI2 : Hid (rawNL (ar.drop (k + 1)) = rawNL ar) := Lib.hid (by rw [← hI'.out, hrr]; rfl)
                clear hI' hrr
                go_wp2_with fail
                exact ⟨⟨k + 1, by omega, by go_num, hI2, hB2, hbel2⟩, by simp [intOf]; omega⟩
            · have hI2 : Hid (rawNL ar = true) := Lib.hid (by
                have := hI.out
                rw [List.drop_eq_nil_of_le (by omega), rawNL] at this
                exact this.symm)
              go_wp2_with fail
              go_ret
              rw [G.out, hI2.out]
              exact ⟨rfl, hbel⟩
        · have l8' : (8 < (ar.length : Int)) := by omega
          have G : Hid (rawN (.mk 1 0 nm ar) = false) := Lib.hid (by rw [hmk]; simp [l8])
          clear hmk
          go_enter Tryz.func84, Tryz.ntmps84
          go_wp2_with fail
          refine ((RIsName_calls nm _ h (H.below ab))).mono ?_
          rintro e w1 ⟨rfl, k1⟩
          rw [hit.out]
          have x1 := box4 (box_below b1 k1)
          have ab1 := below_then ab k1 ab.size
          go_wp2_with fail
          go_ret
          rw [G.out]
          exact ⟨rfl, ab1⟩
    · have en1 : (nn != 0) = true := by simp [en]
      have en0 : (nn == 0) = false := beq_eq_false_iff_ne.2 en
      rw [en0] at hmk
      clear en
      have G : Hid (rawN (.mk 1 nn nm ar) = false) := Lib.hid (by rw [hmk]; rfl)
      clear hmk
      go_enter Tryz.func84, Tryz.ntmps84
      go_wp2_with fail
      go_ret
      rw [G.out]
      exact ⟨rfl, ab⟩
  · rw [if_neg q1] at hmk
    by_cases q2 : kk = 2 ∨ (kk = 3 ∨ kk = 4)
    · rw [if_pos q2] at hmk
      clear q1
      have hnm : ∀ b, (nm.toList == []) = b → nm.toList.isEmpty = b := fun b hb => by rw [← hb]; simp
      by_cases n0 : 0 ≤ nn
      · by_cases n1 : nn ≤ 100000
        · cases e0 : nm.toList == []
          · have e1 := hnm _ e0
            rw [e0] at hmk
            have G : Hid (rawN (.mk kk nn nm ar) = false) := Lib.hid (by rw [hmk]; simp)
            clear hmk hnm e0
            rcases q2 with rfl | rfl | rfl
            all_goals
              go_enter Tryz.func84, Tryz.ntmps84
              go_wp2_with fail
              go_ret
              rw [G.out]
              exact ⟨rfl, ab⟩
          · have e1 := hnm _ e0
            rw [e0] at hmk
            clear hnm e0
            by_cases l8 : ar.length ≤ 8
            · have l8' : ¬ (8 < (ar.length : Int)) := by omega
              have G : Hid (rawN (.mk kk nn nm ar) = rawNL ar) := Lib.hid (by rw [hmk]; simp [l8, n0, n1])
              clear hmk
              rcases q2 with rfl | rfl | rfl
              · go_enter Tryz.func84, Tryz.ntmps84
                go_wp2_with fail
                go_loopw [3] (fun i wr => ∃ k : Nat, k ≤ ar.length ∧ i = .int .i64 k ∧ Hid (rawNL (ar.drop k) = rawNL ar) ∧ wr.heap[w.heap.size]? = some (.cells #[.int .i64 2, .int .i64 nn, .string nm, .slice A ar.length cap] 34) ∧ Below w.heap.size w wr) (fun i _ => ar.length - (intOf i).toNat)
                case atStart => exact ⟨0, by omega, rfl, by show rawNL _ = _; simp, b1, ab⟩
                case round =>
                  obtain ⟨k, hk, rfl, hI, hBr, hbel⟩ := hrel
                  have ls := blk_lt hBr
                  have y := box4 hBr
                  by_cases hlt : k < ar.length
                  · obtain ⟨b, o, A', cap', rfl, e0, e1, e2, e3, rt⟩ := hr.get k hlt
                    have hw := H.below hbel
                    have hc0 := hw.cell _ _ e0
                    have hc1 := hw.cell _ _ e1
                    have hc2 := hw.cell _ _ e2
                    have hc3 := hw.cell _ _ e3
                    have hI' : Hid ((rawN ar[k] && rawNL (ar.drop (k + 1))) = rawNL ar) := by
                      have := hI.out
                      rw [List.drop_eq_getElem_cons hlt, rawNL] at this
                      exact this
                    have ht' := Lib.hid (show ar[k].sz ≤ m by have h1 := ht; have h2 := Tm.sz_at ar k hlt; simp only [Tm.sz] at h1; omega)
                    go_wp2_with fail
                    refine (IH.out ar[k] ht'.out _ _ h hw rt).mono ?_
                    rintro e w2 ⟨rfl, k2⟩
                    have hB2 := box_below hBr k2
                    have hbel2 := below_then hbel k2 hbel.size
                    cases hrr : rawN ar[k]
                    · have hI2 : Hid (rawNL ar = false) := Lib.hid (by rw [← hI'.out, hrr]; rfl)
                      clear hI' hrr
                      go_wp2_with fail
                      go_ret
                      rw [G.out, hI2.out]
                      exact ⟨rfl, hbel2⟩
                    · have hI2 : Hid (rawNL (ar.drop (k + 1)) = rawNL ar) := Lib.hid (by rw [← hI'.out, hrr]; rfl)
                      clear hI' hrr
                      go_wp2_with fail
                      exact ⟨⟨k + 1, by omega, by go_num, hI2, hB2, hbel2⟩, by simp [intOf]; omega⟩
                  · have hI2 : Hid (rawNL ar = true) := Lib.hid (by
                      have := hI.out
                      rw [List.drop_eq_nil_of_le (by omega), rawNL] at this
                      exact this.symm)
                    go_wp2_with fail
                    go_ret
                    rw [G.out, hI2.out]
                    exact ⟨rfl, hbel⟩
              · go_enter Tryz.func84, Tryz.ntmps84
                go_wp2_with fail
                go_loopw [3] (fun i wr => ∃ k : Nat, k ≤ ar.length ∧ i = .int .i64 k ∧ Hid (rawNL (ar.drop k) = rawNL ar) ∧ wr.heap[w.heap.size]? = some (.cells #[.int .i64 3, .int .i64 nn, .string nm, .slice A ar.length cap] 34) ∧ Below w.heap.size w wr) (fun i _ => ar.length - (intOf i).toNat)
                case atStart => exact ⟨0, by omega, rfl, by show rawNL _ = _; simp, b1, ab⟩
                case round =>
                  obtain ⟨k, hk, rfl, hI, hBr, hbel⟩ := hrel
                  have ls := blk_lt hBr
                  have y := box4 hBr
                  by_cases hlt : k < ar.length
                  · obtain ⟨b, o, A', cap', rfl, e0, e1, e2, e3, rt⟩ := hr.get k hlt
                    have hw := H.below hbel
                    have hc0 := hw.cell _ _ e0
                    have hc1 := hw.cell _ _ e1
                    have hc2 := hw.cell _ _ e2
                    have hc3 := hw.cell _ _ e3
                    have hI' : Hid ((rawN ar[k] && rawNL (ar.drop (k + 1))) = rawNL ar) := by
                      have := hI.out
                      rw [List.drop_eq_getElem_cons hlt, rawNL] at this
                      exact this
                    have ht' := Lib.hid (show ar[k].sz ≤ m by have h1 := ht; have h2 := Tm.sz_at ar k hlt; simp only [Tm.sz] at h1; omega)
                    go_wp2_with fail
                    refine (IH.out ar[k] ht'.out _ _ h hw rt).mono ?_
                    rintro e w2 ⟨rfl, k2⟩
                    have hB2 := box_below hBr k2
                    have hbel2 := below_then hbel k2 hbel.size
                    cases hrr : rawN ar[k]
                    · have hI2 : Hid (rawNL ar = false) := Lib.hid (by rw [← hI'.out, hrr]; rfl)
                      clear hI' hrr
                      go_wp2_with fail
                      go_ret
                      rw [G.out, hI2.out]
                      exact ⟨rfl, hbel2⟩
                    · have hI2 : Hid (rawNL (ar.drop (k + 1)) = rawNL ar) := Lib.hid (by rw [← hI'.out, hrr]; rfl)
                      clear hI' hrr
                      go_wp2_with fail
                      exact ⟨⟨k + 1, by omega, by go_num, hI2, hB2, hbel2⟩, by simp [intOf]; omega⟩
                  · have hI2 : Hid (rawNL ar = true) := Lib.hid (by
                      have := hI.out
                      rw [List.drop_eq_nil_of_le (by omega), rawNL] at this
                      exact this.symm)
                    go_wp2_with fail
                    go_ret
                    rw [G.out, hI2.out]
                    exact ⟨rfl, hbel⟩
              · go_enter Tryz.func84, Tryz.ntmps84
                go_wp2_with fail
                go_loopw [3] (fun i wr => ∃ k : Nat, k ≤ ar.length ∧ i = .int .i64 k ∧ Hid (rawNL (ar.drop k) = rawNL ar) ∧ wr.heap[w.heap.size]? = some (.cells #[.int .i64 4, .int .i64 nn, .string nm, .slice A ar.length cap] 34) ∧ Below w.heap.size w wr) (fun i _ => ar.length - (intOf i).toNat)
                case atStart => exact ⟨0, by omega, rfl, by show rawNL _ = _; simp, b1, ab⟩
                case round =>
                  obtain ⟨k, hk, rfl, hI, hBr, hbel⟩ := hrel
                  have ls := blk_lt hBr
                  have y := box4 hBr
                  by_cases hlt : k < ar.length
                  · obtain ⟨b, o, A', cap', rfl, e0, e1, e2, e3, rt⟩ := hr.get k hlt
                    have hw := H.below hbel
                    have hc0 := hw.cell _ _ e0
                    have hc1 := hw.cell _ _ e1
                    have hc2 := hw.cell _ _ e2
                    have hc3 := hw.cell _ _ e3
                    have hI' : Hid ((rawN ar[k] && rawNL (ar.drop (k + 1))) = rawNL ar) := by
                      have := hI.out
                      rw [List.drop_eq_getElem_cons hlt, rawNL] at this
                      exact this
                    have ht' := Lib.hid (show ar[k].sz ≤ m by have h1 := ht; have h2 := Tm.sz_at ar k hlt; simp only [Tm.sz] at h1; omega)
                    go_wp2_with fail
                    refine (IH.out ar[k] ht'.out _ _ h hw rt).mono ?_
                    rintro e w2 ⟨rfl, k2⟩
                    have hB2 := box_below hBr k2
                    have hbel2 := below_then hbel k2 hbel.size
                    cases hrr : rawN ar[k]
                    · have hI2 : Hid (rawNL ar = false) := Lib.hid (by rw [← hI'.out, hrr]; rfl)
                      clear hI' hrr
                      go_wp2_with fail
                      go_ret
                      rw [G.out, hI2.out]
                      exact ⟨rfl, hbel2⟩
                    · have hI2 : Hid (rawNL (ar.drop (k + 1)) = rawNL ar) := Lib.hid (by rw [← hI'.out, hrr]; rfl)
                      clear hI' hrr
                      go_wp2_with fail
                      exact ⟨⟨k + 1, by omega, by go_num, hI2, hB2, hbel2⟩, by simp [intOf]; omega⟩
                  · have hI2 : Hid (rawNL ar = true) := Lib.hid (by
                      have := hI.out
                      rw [List.drop_eq_nil_of_le (by omega), rawNL] at this
                      exact this.symm)
                    go_wp2_with fail
                    go_ret
                    rw [G.out, hI2.out]
                    exact ⟨rfl, hbel⟩
            · have l8' : (8 < (ar.length : Int)) := by omega
              have G : Hid (rawN (.mk kk nn nm ar) = false) := Lib.hid (by rw [hmk]; simp [l8])
              clear hmk
              rcases q2 with rfl | rfl | rfl
              all_goals
                go_enter Tryz.func84, Tryz.ntmps84
                go_wp2_with fail
                go_ret
                rw [G.out]
                exact ⟨rfl, ab⟩
        · have n1' : 100000 < nn := by omega
          have G : Hid (rawN (.mk kk nn nm ar) = false) := Lib.hid (by rw [hmk]; simp [n1])
          clear hmk hnm
          rcases q2 with rfl | rfl | rfl
          all_goals
            go_enter Tryz.func84, Tryz.ntmps84
            go_wp2_with fail
            go_ret
            rw [G.out]
            exact ⟨rfl, ab⟩
      · have n0' : nn < 0 := by omega
        have G : Hid (rawN (.mk kk nn nm ar) = false) := Lib.hid (by rw [hmk]; simp [n0])
        clear hmk hnm
        rcases q2 with rfl | rfl | rfl
        all_goals
          go_enter Tryz.func84, Tryz.ntmps84
          go_wp2_with fail
          go_ret
          rw [G.out]
          exact ⟨rfl, ab⟩
    · rw [if_neg q2] at hmk
      by_cases q5 : kk = 5
      · subst q5
        rw [show ((5 : Int) == 5) = true from rfl] at hmk
        clear q1 q2
        by_cases en : nn = 0
        · subst en
          have hnm : ∀ b, (nm.toList == []) = b → nm.toList.isEmpty = b := fun b hb => by rw [← hb]; simp
          cases e0 : nm.toList == []
          · have e1 := hnm _ e0
            rw [e0] at hmk
            have G : Hid (rawN (.mk 5 0 nm ar) = false) := Lib.hid (by rw [hmk]; rfl)
            clear hmk
            clear hnm e0
            go_enter Tryz.func84, Tryz.ntmps84
            go_wp2_with fail
            go_ret
            rw [G.out]
            exact ⟨rfl, ab⟩
          · have e1 := hnm _ e0
            rw [e0] at hmk
            clear hnm e0
            cases l1 : ar.length == 1
            · have l1' : ((ar.length : Int) != 1) = true := by have := beq_eq_false_iff_ne.1 l1; simp; omega
              rw [l1] at hmk
              clear l1
              have G : Hid (rawN (.mk 5 0 nm ar) = false) := Lib.hid (by rw [hmk]; rfl)
              clear hmk
              go_enter Tryz.func84, Tryz.ntmps84
              go_wp2_with fail
              go_ret
              rw [G.out]
              exact ⟨rfl, ab⟩
            · have l1' : ((ar.length : Int) != 1) = false := by have := beq_iff_eq.1 l1; simp; omega
              have l8' : ¬ (8 < (ar.length : Int)) := by have := beq_iff_eq.1 l1; omega
              rw [l1] at hmk
              clear l1
              have G : Hid (rawN (.mk 5 0 nm ar) = rawNL ar) := Lib.hid (by rw [hmk]; simp)
              clear hmk
              go_enter Tryz.func84, Tryz.ntmps84
              go_wp2_with fail
              go_loopw [3] (fun i wr => ∃ k : Nat, k ≤ ar.length ∧ i = .int .i64 k ∧ Hid (rawNL (ar.drop k) = rawNL ar) ∧ wr.heap[w.heap.size]? = some (.cells #[.int .i64 5, .int .i64 0, .string nm, .slice A ar.length cap] 34) ∧ Below w.heap.size w wr) (fun i _ => ar.length - (intOf i).toNat)
              case atStart => exact ⟨0, by omega, rfl, by show rawNL _ = _; simp, b1, ab⟩
              case round =>
                obtain ⟨k, hk, rfl, hI, hBr, hbel⟩ := hrel
                have ls := blk_lt hBr
                have y := box4 hBr
                by_cases hlt : k < ar.length
                · obtain ⟨b, o, A', cap', rfl, e0, e1, e2, e3, rt⟩ := hr.get k hlt
                  have hw := H.below hbel
                  have hc0 := hw.cell _ _ e0
                  have hc1 := hw.cell _ _ e1
                  have hc2 := hw.cell _ _ e2
                  have hc3 := hw.cell _ _ e3
                  have hI' : Hid ((rawN ar[k] && rawNL (ar.drop (k + 1))) = rawNL ar) := by
                    have := hI.out
                    rw [List.drop_eq_getElem_cons hlt, rawNL] at this
                    exact this
                  have ht' := Lib.hid (show ar[k].sz ≤ m by have h1 := ht; have h2 := Tm.sz_at ar k hlt; simp only [Tm.sz] at h1; omega)
                  go_wp2_with fail
                  refine (IH.out ar[k] ht'.out _ _ h hw rt).mono ?_
                  rintro e w2 ⟨rfl, k2⟩
                  have hB2 := box_below hBr k2
                  have hbel2 := below_then hbel k2 hbel.size
                  cases hrr : rawN ar[k]
                  · have hI2 : Hid (rawNL ar = false) := Lib.hid (by rw [← hI'.out, hrr]; rfl)
                    clear hI' hrr
                    go_wp2_with fail
                    go_ret
                    rw [G.out, hI2.out]
                    exact ⟨rfl, hbel2⟩
                  · have hI2 : Hid (rawNL (ar.drop (k + 1)) = rawNL ar) := Lib.hid (by rw [← hI'.out, hrr]; rfl)
                    clear hI' hrr
                    go_wp2_with fail
                    exact ⟨⟨k + 1, by omega, by go_num, hI2, hB2, hbel2⟩, by simp [intOf]; omega⟩
                · have hI2 : Hid (rawNL ar = true) := Lib.hid (by
                    have := hI.out
                    rw [List.drop_eq_nil_of_le (by omega), rawNL] at this
                    exact this.symm)
                  go_wp2_with fail
                  go_ret
                  rw [G.out, hI2.out]
                  exact ⟨rfl, hbel⟩
        · have en1 : (nn != 0) = true := by simp [en]
          have en0 : (nn == 0) = false := beq_eq_false_iff_ne.2 en
          rw [en0] at hmk
          clear en
          have G : Hid (rawN (.mk 5 nn nm ar) = false) := Lib.hid (by rw [hmk]; rfl)
          clear hmk
          go_enter Tryz.func84, Tryz.ntmps84
          go_wp2_with fail
          go_ret
          rw [G.out]
          exact ⟨rfl, ab⟩
      · have p1 : (kk == 1) = false := beq_eq_false_iff_ne.2 q1
        have p2 : (kk == 2) = false := beq_eq_false_iff_ne.2 (by omega)
        have p3 : (kk == 3) = false := beq_eq_false_iff_ne.2 (by omega)
        have p4 : (kk == 4) = false := beq_eq_false_iff_ne.2 (by omega)
        have p5 : (kk == 5) = false := beq_eq_false_iff_ne.2 q5
        rw [p5] at hmk
        clear q1 q2 q5
        have G : Hid (rawN (.mk kk nn nm ar) = false) := Lib.hid (by rw [hmk]; rfl)
        clear hmk
        go_enter Tryz.func84, Tryz.ntmps84
        go_wp2_with fail
        go_ret
        rw [G.out]
        exact ⟨rfl, ab⟩
theorem rawP_doc (t : Tm) : rawP t = if 4000 < teN 4000 t 0 101 then 2 else if 100 < teD t 101 then 5 else if rawN t then 0 else 6 := by
  unfold rawP
  rw [sizedM_eq]
  by_cases c1 : 4000 < teN 4000 t 0 101
  · simp [c1]
  · by_cases c2 : 100 < teD t 101
    · simp [c1, c2]
    · simp [c1, c2]
end Go.Proofs.YtpgbeapojjinmaaGreatDoor
