/- term.node, Raw. · term.Raw. · term.Size, Depth, asked. No law is proved here. -/
import Derived.Test.YtpgbeapojjinmaaGreatDoorZ
set_option linter.unusedVariables false
set_option linter.unusedSimpArgs false
namespace Go.Proofs.YtpgbeapojjinmaaGreatDoor
open Go.RowKit Go.Shelf Go.Proofs.YtpgbeapojjinmaaGreatDoorW.PrintLast
/-- A node of a raw term is as it has to be. -/
def nodeP (t : Tm) : Bool :=
  if t.k = 1 then t.n == 0 && (isTok t.nm 1 && decide (t.ar.length ≤ 8))
  else if t.k = 2 ∨ (t.k = 3 ∨ t.k = 4) then decide (0 ≤ t.n) && (decide (t.n ≤ 100000) && (t.nm.toList == [] && decide (t.ar.length ≤ 8)))
  else t.k == 5 && (t.n == 0 && (t.nm.toList == [] && t.ar.length == 1))
set_option maxRecDepth 100000 in
set_option maxHeartbeats 4000000 in
theorem node_calls (t : Tm) (cs : List Value) (w : World) (h : Snap) (r : TmR h t cs) : Calls Tryz.prog 82 #[.agg cs.toArray] w fun e w' => e = .returned (.bool (nodeP t)) ∧ Below w.heap.size w w' := by
  obtain ⟨A, cap, rfl, hl, hm, hk, hn, hr⟩ := r.open_
  unfold lim at hm
  have ha := alloc1 w (.cells #[.int .i64 t.k, .int .i64 t.n, .string t.nm, .slice A t.ar.length cap] 34)
  have hv : nodeP t = (if t.k = 1 then t.n == 0 && (isTok t.nm 1 && decide (t.ar.length ≤ 8))
    else if t.k = 2 ∨ (t.k = 3 ∨ t.k = 4) then decide (0 ≤ t.n) && (decide (t.n ≤ 100000) && (t.nm.toList == [] && decide (t.ar.length ≤ 8)))
    else t.k == 5 && (t.n == 0 && (t.nm.toList == [] && t.ar.length == 1))) := rfl
  obtain ⟨bb, hbb⟩ : ∃ b, nodeP t = b := ⟨_, rfl⟩
  rw [hbb] at hv ⊢
  obtain ⟨it, hit⟩ : ∃ b, isTok t.nm 1 = b := ⟨_, rfl⟩
  have hnc := isName_calls t.nm (w.alloc (.cells #[.int .i64 t.k, .int .i64 t.n, .string t.nm, .slice A t.ar.length cap] 34))
  rw [hit] at hv hnc
  clear hit hbb
  have hv' := Lib.hid hv
  clear hv
  generalize t.k = k at *
  generalize t.n = n at *
  generalize t.nm = nm at *
  generalize t.ar.length = len at *
  go_enter Tryz.func82, Tryz.ntmps82
  have hk1 : (k == 1) = decide (k = 1) := by by_cases h : k = 1 <;> simp [h]
  by_cases q1 : k = 1
  · subst q1
    simp only [if_true] at hv'
    by_cases en : n = 0
    · subst en
      cases it with
      | false =>
        go_wp2_with fail
        refine hnc.mono ?_
        rintro e w1 ⟨rfl, k1⟩
        have c1 := box4 (box_below ha.1 k1)
        go_wp2_with fail
        go_ret
        exact ⟨ret_bool (by rw [hv'.out]; rfl), below_then ha.2 k1 ha.2.size⟩
      | true =>
        go_wp2_with fail
        refine hnc.mono ?_
        rintro e w1 ⟨rfl, k1⟩
        have c1 := box4 (box_below ha.1 k1)
        go_wp2_with fail
        go_ret
        exact ⟨ret_bool (by rw [hv'.out]; simp <;> omega), below_then ha.2 k1 ha.2.size⟩
    · have en' : (n == 0) = false := beq_eq_false_iff_ne.2 en
      rw [en'] at hv'
      go_wp2_with fail
      go_ret
      exact ⟨ret_bool (by rw [hv'.out]; rfl), ha.2⟩
  · rw [if_neg q1] at hv'
    have q1' : (k == 1) = false := beq_eq_false_iff_ne.2 q1
    by_cases q2 : k = 2 ∨ (k = 3 ∨ k = 4)
    · rw [if_pos q2] at hv'
      rcases q2 with rfl | rfl | rfl
      all_goals
        go_wp2_with fail
        all_goals go_ret
        all_goals refine ⟨ret_bool ?_, ha.2⟩
        all_goals rw [hv'.out]
        all_goals simp [*]
        all_goals first | omega | (intros; omega) | trivial
    · rw [if_neg q2] at hv'
      have z2 : (k == 2) = false := beq_eq_false_iff_ne.2 (fun h => q2 (.inl h))
      have z3 : (k == 3) = false := beq_eq_false_iff_ne.2 (fun h => q2 (.inr (.inl h)))
      have z4 : (k == 4) = false := beq_eq_false_iff_ne.2 (fun h => q2 (.inr (.inr h)))
      by_cases q5 : k = 5
      · subst q5
        have hl1 : ((len : Int) == 1) = (len == 1) := by rw [Bool.eq_iff_iff]; simp <;> omega
        by_cases en : n = 0
        · subst en
          go_wp2_with fail
          all_goals go_ret
          all_goals refine ⟨ret_bool ?_, ha.2⟩
          all_goals rw [hv'.out]
          all_goals simp [*]
        · have en' : (n == 0) = false := beq_eq_false_iff_ne.2 en
          rw [en'] at hv'
          go_wp2_with fail
          all_goals go_ret
          all_goals refine ⟨ret_bool ?_, ha.2⟩
          all_goals rw [hv'.out]
          all_goals rfl
      · have z5 : (k == 5) = false := beq_eq_false_iff_ne.2 q5
        rw [z5] at hv'
        go_wp2_with fail
        all_goals go_ret
        all_goals exact ⟨ret_bool (by rw [hv'.out]; rfl), ha.2⟩
end Go.Proofs.YtpgbeapojjinmaaGreatDoor
namespace Go.Proofs.YtpgbeapojjinmaaGreatDoor
open Go.RowKit Go.Shelf Go.Proofs.YtpgbeapojjinmaaGreatDoorW.PrintLast
mutual
/-- All nodes are as they have to be. -/
def rawN : Tm → Bool
  | .mk k n nm ar => nodeP (.mk k n nm ar) && rawNL ar
def rawNL : List Tm → Bool
  | [] => true
  | t :: ts => rawN t && rawNL ts
end
def endR : Bool → Ending
  | true => .returned (.tuple #[])
  | false => .panicked (faultC 6)
/-- 'Raw' of the program. -/
def rawP (t : Tm) : Int := if sizedM t = 0 then (if rawN t then 0 else 6) else sizedM t
set_option maxRecDepth 100000 in
set_option maxHeartbeats 8000000 in
theorem walkR_calls (bw : Nat) : ∀ (k : Nat) (t : Tm) (_ : t.sz ≤ k) (cs : List Value) (w : World) (h : Snap) (H : Has w h) (r : TmR h t cs) (hw : w.heap[bw]? = some (.cells #[.func (.func 80) #[] #[.pointer (some ⟨bw, 0, none⟩)]] 111)),
    Calls Tryz.prog 80 #[.agg cs.toArray, .pointer (some ⟨bw, 0, none⟩)] w fun e w' => e = endR (rawN t) ∧ Below w.heap.size w w' := by
  intro k
  induction k with
  | zero => intro t ht; have := t.sz_pos; omega
  | succ k ih =>
  rintro ⟨kk, nn, nm, ar⟩ ht cs w h H r hw
  obtain ⟨A, cap, rfl, hl, hlm, hk1, hn1, hr⟩ := id r
  have hu34 := Tryz.underlying34
  have IH := Lib.hid ih
  clear ih
  unfold lim at hlm
  obtain ⟨hB, hb⟩ := alloc1 w (.cells #[.int .i64 kk, .int .i64 nn, .string nm, .slice A ar.length cap] 34)
  have hnd := node_calls _ _ (w.alloc (.cells #[.int .i64 kk, .int .i64 nn, .string nm, .slice A ar.length cap] 34)) h r
  cases hok : nodeP (.mk kk nn nm ar)
  · have G := Lib.hid (show rawN (.mk kk nn nm ar) = false by rw [rawN, hok]; rfl)
    rw [hok] at hnd
    clear hok
    go_enter Tryz.func80, Tryz.ntmps80
    go_wp2_with fail
    refine hnd.mono ?_
    rintro e w1 ⟨rfl, k1⟩
    go_wp2_with fail
    refine (must_no 6 _).mono ?_
    rintro e w2 ⟨rfl, rfl⟩
    exact ⟨rfl, by rw [G.out]; rfl, below_then hb k1 hb.size⟩
  · have G := Lib.hid (show rawN (.mk kk nn nm ar) = rawNL ar by rw [rawN, hok]; rfl)
    rw [hok] at hnd
    clear hok
    go_enter Tryz.func80, Tryz.ntmps80
    go_wp2_with fail
    refine hnd.mono ?_
    rintro e w1 ⟨rfl, k1⟩
    have kb1 := below_then hb k1 hb.size
    have b1 := box_below hB k1
    have x1 := box4 b1
    go_wp2_with fail
    refine (must_ok 6 _).mono ?_
    rintro e w2 ⟨rfl, rfl⟩
    go_wp2_with fail
    go_loopw [11] (fun i wr => ∃ (j : Nat), j ≤ ar.length ∧ i = .int .i64 j ∧ Hid (rawNL (ar.drop j) = rawNL ar) ∧ Below w.heap.size w wr) (fun i _ => ar.length - (intOf i).toNat)
    case atStart => exact ⟨0, by omega, rfl, by show _ = _; simp, kb1⟩
    case round =>
      obtain ⟨j, hj, rfl, hI, kq⟩ := hrel
      have hwq := box_below hw kq
      have xw := box1 hwq
      have lwq := blk_lt hwq
      by_cases hlt : j < ar.length
      · obtain ⟨b, o, A', cap', rfl, e0, e1, e2, e3, rt⟩ := hr.get j hlt
        have hwr := H.below kq
        have hc0 := hwr.cell _ _ e0
        have hc1 := hwr.cell _ _ e1
        have hc2 := hwr.cell _ _ e2
        have hc3 := hwr.cell _ _ e3
        have ht' := Lib.hid (show ar[j].sz ≤ k by have h1 := ht; have h2 := Tm.sz_at ar j hlt; simp only [Tm.sz] at h1; omega)
        clear ht
        have hwa := blk_alloc hwq (.cells #[.int .i64 ar[j].k, .int .i64 ar[j].n, .string ar[j].nm, .slice A' ar[j].ar.length cap'] 34)
        go_wp2_with fail
        refine (IH.out ar[j] ht'.out _ _ h (hwr.alloc _) rt hwa).mono ?_
        rintro e w5 ⟨rfl, k5⟩
        have k6 := below_then (kq.alloc kq.size _) k5 (by have := kq.size; simp; omega)
        have hI' : Hid ((rawN ar[j] && rawNL (ar.drop (j + 1))) = rawNL ar) := by
          have := hI.out
          rw [List.drop_eq_getElem_cons hlt, rawNL] at this
          exact this
        cases hck : rawN ar[j] with
        | false =>
          rw [hck] at hI'
          simp only [endR]
          exact ⟨rfl, by rw [G.out, ← hI'.out]; rfl, k6⟩
        | true =>
          rw [hck] at hI'
          simp only [endR]
          clear hck hwa hI k5
          go_wp2_with fail
          exact ⟨⟨j + 1, by omega, by go_num, hI', k6⟩, by simp [intOf]; omega⟩
      · have hI' : true = rawNL ar := by
          have := hI.out
          rw [List.drop_eq_nil_of_le (by omega), rawNL] at this
          exact this
        go_wp2_with fail
        go_end0
        rw [G.out, ← hI']
        exact ⟨rfl, kq⟩
set_option maxRecDepth 100000 in
set_option maxHeartbeats 4000000 in
theorem rawfn_calls (bt : Nat) (t : Tm) (cs : List Value) (w : World) (h : Snap) (H : Has w h) (r : TmR h t cs) (ht : w.heap[bt]? = some (.cells cs.toArray 34)) :
    Calls Tryz.prog 79 #[.pointer (some ⟨bt, 0, none⟩)] w fun e w' => e = endR (rawN t) ∧ Below w.heap.size w w' := by
  obtain ⟨A, cap, rfl, hl, hm, hk1, hn1, hr⟩ := r.open_
  have hu34 := Tryz.underlying34
  have hmf := run_mf
  have x0 := box4 ht
  have lt := blk_lt ht
  go_enter Tryz.func79, Tryz.ntmps79
  go_wp2_with fail
  refine (walkR_calls w.heap.size _ t (Nat.le_refl _) _ _ h (H.alloc _) r (blk_new _ _)).mono ?_
  rintro e w1 ⟨rfl, k1⟩
  have kk := below_then (alloc1 w (.cells #[.func (.func 80) #[] #[.pointer (some ⟨w.heap.size, 0, none⟩)]] 111)).2 k1 (by simp)
  cases hck : rawN t with
  | false =>
    simp only [endR]
    exact ⟨rfl, by rw [hck]; rfl, kk⟩
  | true =>
    simp only [endR]
    go_wp2_with fail
    go_end0
    exact ⟨by rw [hck]; rfl, kk⟩
set_option maxRecDepth 100000 in
set_option maxHeartbeats 4000000 in
theorem Raw_calls (t : Tm) (cs : List Value) (w : World) (h : Snap) (H : Has w h) (r : TmR h t cs) :
    Calls Tryz.prog 20 #[.agg cs.toArray] w fun e w' => e = .returned (.int .i64 (rawP t)) ∧ Below w.heap.size w w' := by
  obtain ⟨A, cap, rfl, hl, hm, hk1, hn1, hr⟩ := r.open_
  have hu34 := Tryz.underlying34
  have hmf := run_mf
  obtain ⟨p1, hb⟩ := alloc1 w (.cells #[.int .i64 t.k, .int .i64 t.n, .string t.nm, .slice A t.ar.length cap] 34)
  go_enter Tryz.func20, Tryz.ntmps20
  go_wp2_with fail
  refine (sizedM_calls t _ _ h (H.below hb) r).mono ?_
  rintro e w1 ⟨rfl, b1⟩
  have hb1 := below_then hb b1 hb.size
  have g1 := box_below p1 b1
  by_cases c0 : sizedM t = 0
  · have G := Lib.hid (show rawP t = (if rawN t then 0 else 6) by rw [rawP, if_pos c0])
    have cq : (sizedM t != 0) = false := by simp [c0]
    clear c0
    go_wp2_with fail
    refine (guarded_calls 79 _ _ (fun _ => False) (fun o W => o = if rawN t then none else some 6) (enters_ Tryz.func79 (by kernel_rfl) rfl) ?_ (fun _ hf => hf.elim)).mono ?_
    · rintro W rfl
      refine (rawfn_calls _ t _ _ h ((H.below hb1).alloc _) r (blk_alloc g1 _)).mono ?_
      rintro e w2 ⟨rfl, k2⟩
      exact ⟨if rawN t then none else some 6, by cases rawN t <;> rfl, Kp.of_below _ k2, rfl⟩
    rintro e w3 ⟨o, w2, rfl, rfl, k2, k3⟩
    have hb3 : Below w.heap.size w w3 := ((Kp.of_below (fun _ => False) hb1).trans k2 (fun _ _ hf => hf)).below (fun _ _ hf => hf)
    have G2 := Lib.hid (show codeG (if rawN t then none else some 6) = rawP t by rw [G.out]; cases rawN t <;> rfl)
    generalize codeG (if rawN t then none else some 6) = cg at G2 ⊢
    go_wp2_with fail
    go_ret
    exact ⟨ret_int G2.out, hb3⟩
  · have G := Lib.hid (show sizedM t = rawP t by rw [rawP, if_neg c0])
    have cq : (sizedM t != 0) = true := by simp [c0]
    clear c0
    go_wp2_with fail
    go_ret
    exact ⟨ret_int G.out, hb1⟩
end Go.Proofs.YtpgbeapojjinmaaGreatDoor
namespace Go.Proofs.YtpgbeapojjinmaaGreatDoor
open Go.RowKit Go.Shelf Go.Proofs.YtpgbeapojjinmaaGreatDoorW.PrintLast
set_option maxRecDepth 100000 in
set_option maxHeartbeats 4000000 in
theorem Size_calls (t : Tm) (cs : List Value) (w : World) (h : Snap) (H : Has w h) (r : TmR h t cs) : Calls Tryz.prog 55 #[.agg cs.toArray] w fun e w' => e = .returned (.int .i64 (measM t).1) ∧ Below w.heap.size w w' := by
  obtain ⟨A, cap, rfl, hl, hm, hk1, hn1, hr⟩ := r.open_
  have hu34 := Tryz.underlying34
  have hb := (alloc1 w (.cells #[.int .i64 t.k, .int .i64 t.n, .string t.nm, .slice A t.ar.length cap] 34)).2
  go_enter Tryz.func55, Tryz.ntmps55
  go_wp2_with fail
  refine (measuredM_calls t _ _ h (H.below hb) r).mono ?_
  rintro e w1 ⟨rfl, b1⟩
  go_wp2_with fail
  go_ret
  exact ⟨rfl, below_then hb b1 hb.size⟩
set_option maxRecDepth 100000 in
set_option maxHeartbeats 4000000 in
theorem Depth_calls (t : Tm) (cs : List Value) (w : World) (h : Snap) (H : Has w h) (r : TmR h t cs) : Calls Tryz.prog 57 #[.agg cs.toArray] w fun e w' => e = .returned (.int .i64 (measM t).2) ∧ Below w.heap.size w w' := by
  obtain ⟨A, cap, rfl, hl, hm, hk1, hn1, hr⟩ := r.open_
  have hu34 := Tryz.underlying34
  have hb := (alloc1 w (.cells #[.int .i64 t.k, .int .i64 t.n, .string t.nm, .slice A t.ar.length cap] 34)).2
  go_enter Tryz.func57, Tryz.ntmps57
  go_wp2_with fail
  refine (measuredM_calls t _ _ h (H.below hb) r).mono ?_
  rintro e w1 ⟨rfl, b1⟩
  go_wp2_with fail
  go_ret
  exact ⟨rfl, below_then hb b1 hb.size⟩
/-- What Shift and Lift ask of their arguments. -/
def askedP (t : Tm) (n m : Int) : Int := if rawP t = 0 then (if n < 0 ∨ (100000 < n ∨ (m < 0 ∨ 100000 < m)) then 1 else 0) else rawP t
set_option maxRecDepth 100000 in
set_option maxHeartbeats 4000000 in
theorem asked_calls (t : Tm) (n m : Int) (cs : List Value) (w : World) (h : Snap) (H : Has w h) (r : TmR h t cs) : Calls Tryz.prog 124 #[.agg cs.toArray, .int .i64 n, .int .i64 m] w fun e w' => e = .returned (.int .i64 (askedP t n m)) ∧ Below w.heap.size w w' := by
  obtain ⟨A, cap, rfl, hl, hm, hk1, hn1, hr⟩ := r.open_
  have hu34 := Tryz.underlying34
  have hb := (alloc1 w (.cells #[.int .i64 t.k, .int .i64 t.n, .string t.nm, .slice A t.ar.length cap] 34)).2
  have hv : askedP t n m = if rawP t = 0 then (if n < 0 ∨ (100000 < n ∨ (m < 0 ∨ 100000 < m)) then 1 else 0) else rawP t := rfl
  obtain ⟨q, hq⟩ : ∃ q, askedP t n m = q := ⟨_, rfl⟩
  rw [hq] at hv ⊢
  clear hq
  go_enter Tryz.func124, Tryz.ntmps124
  go_wp2_with fail
  refine (Raw_calls t _ _ h (H.below hb) r).mono ?_
  rintro e w1 ⟨rfl, b1⟩
  have hb1 := below_then hb b1 hb.size
  generalize rawP t = rp at *
  by_cases c0 : rp = 0
  · subst c0
    rw [if_pos rfl] at hv
    have hv := Lib.hid hv
    go_wp2_with fail
    all_goals go_ret
    all_goals refine ⟨ret_int ?_, hb1⟩
    all_goals have := hv.out
    all_goals (split at this <;> omega)
  · rw [if_neg c0] at hv
    have hv := Lib.hid hv
    have cq : (rp != 0) = true := by simp [c0]
    go_wp2_with fail
    go_ret
    exact ⟨ret_int hv.out.symm, hb1⟩
end Go.Proofs.YtpgbeapojjinmaaGreatDoor
