/- The document's Same, closed, Closed; term.Closed. No law is proved here. -/
import Derived.Test.YtpgbeapojjinmaaGreatDoorGB
set_option linter.unusedVariables false
set_option linter.unusedSimpArgs false
namespace Go.Proofs.YtpgbeapojjinmaaGreatDoor
open Go.RowKit Go.Shelf Go.Proofs.YtpgbeapojjinmaaGreatDoorW.PrintLast
theorem cmpI_eq (a b : Int) : (cmpI a b == 0) = (a == b) := by
  unfold cmpI
  by_cases h1 : a < b
  · rw [if_pos h1]
    have : a ≠ b := by omega
    simp [this]
  · rw [if_neg h1]
    by_cases h2 : b < a
    · rw [if_pos h2]
      have : a ≠ b := by omega
      simp [this]
    · rw [if_neg h2]
      have : a = b := by omega
      simp [this]
theorem cmpS_eq (a b : ByteArray) : (cmpS a b == 0) = (a.toList == b.toList) := by
  have hG : cmpS a b = Lib.compareBytes a.toList b.toList := by unfold cmpS; rw [ByteArray.toList_eq, ByteArray.toList_eq]
  rw [hG]
  by_cases e : Lib.compareBytes a.toList b.toList = 0
  · rw [cmp_zero _ _ e]
    simp [bytes_self]
  · have h2 : a.toList ≠ b.toList := fun h => by
      rw [h, bytes_self] at e
      exact e rfl
    rw [beq_eq_false_iff_ne.2 e, beq_eq_false_iff_ne.2 h2]
theorem orI_eq (a b : Int) : (orI a b == 0) = (a == 0 && b == 0) := by
  unfold orI
  by_cases h : a = 0
  · simp [h]
  · simp [h]
mutual
theorem cmp_eqT : ∀ a b : Tm, (cmpT a b == 0) = eqT a b
  | .mk k n nm ar, .mk k' n' nm' ar' => by
    rw [cmpT_eq, eqT_mk]
    unfold cmpH
    simp only [orI_eq, cmpI_eq, cmpS_eq, Tm.k, Tm.n, Tm.nm, Tm.ar]
    by_cases hl : ar.length = ar'.length
    · rw [cmp_eqTL ar ar' hl]
      have h1 : ((ar.length : Int) == ar'.length) = true := by simp [hl]
      have h2 : (ar.length == ar'.length) = true := by simp [hl]
      rw [h1, h2]
      cases (k == k') <;> cases (n == n') <;> cases (nm.toList == nm'.toList) <;> rfl
    · have h1 : ((ar.length : Int) == ar'.length) = false := by simp; omega
      have h2 : (ar.length == ar'.length) = false := by simp [hl]
      rw [h1, h2]
      cases (k == k') <;> cases (n == n') <;> cases (nm.toList == nm'.toList) <;> rfl
theorem cmp_eqTL : ∀ a b : List Tm, a.length = b.length → (cmpTL a b == 0) = eqTL a b
  | [], [], _ => by rw [cmpTL, eqTL]; rfl
  | [], _ :: _, h => by simp at h
  | _ :: _, [], h => by simp at h
  | x :: xs, y :: ys, h => by
    rw [cmpTL, orI_eq, cmp_eqT x y, cmp_eqTL xs ys (by simpa using h), eqTL]
end
set_option maxRecDepth 100000 in
set_option maxHeartbeats 4000000 in
theorem RSame_calls (a b : Tm) (ca cb : List Value) (w : World) (h : Snap) (H : Has w h) (ra : TmR h a ca) (rb : TmR h b cb) :
    Calls Tryz.prog 67 #[.agg ca.toArray, .agg cb.toArray] w fun e w' => e = .returned (.bool (sameV a b)) ∧ Below w.heap.size w w' := by
  have ra0 := Lib.hid ra
  have rb0 := Lib.hid rb
  obtain ⟨A, cap, rfl, hl, hm, hk1, hn1, hr⟩ := ra.open_
  obtain ⟨B, dap, rfl, gl, gm, gk1, gn1, gr⟩ := rb.open_
  have hu34 := Tryz.underlying34
  obtain ⟨p1, p2, hb⟩ := alloc2 w (.cells #[.int .i64 a.k, .int .i64 a.n, .string a.nm, .slice A a.ar.length cap] 34) (.cells #[.int .i64 b.k, .int .i64 b.n, .string b.nm, .slice B b.ar.length dap] 34)
  have G := Lib.hid (show sameV a b = (rawP a == 0 && (rawP b == 0 && cmpT a b == 0)) from rfl)
  go_enter Tryz.func67, Tryz.ntmps67
  go_wp2_with fail
  refine (RRaw_calls a _ _ h (H.below hb) ra0.out).mono ?_
  rintro e w1 ⟨rfl, k1⟩
  have kb1 := below_then hb k1 hb.size
  have q1 := box_below p1 k1
  have q2 := box_below p2 k1
  have y := box4 q2
  have ly := blk_lt q2
  cases ha : rawP a == 0
  · have G1 : Hid (sameV a b = false) := Lib.hid (by rw [G.out, ha]; rfl)
    go_wp2_with fail
    go_ret
    exact ⟨ret_bool G1.out.symm, kb1⟩
  go_wp2_with fail
  refine (RRaw_calls b _ _ h (H.below kb1) rb0.out).mono ?_
  rintro e w2 ⟨rfl, k2⟩
  have kb2 := below_then kb1 k2 kb1.size
  have d1 := box_below q1 k2
  have d2 := box_below q2 k2
  clear y ly q1 q2 p1 p2 k1 k2
  obtain ⟨x, y, l1, l2⟩ : (_ ∧ _) ∧ (_ ∧ _) ∧ _ ∧ _ := ⟨box4 d1, box4 d2, blk_lt d1, blk_lt d2⟩
  cases hbq : rawP b == 0
  · have G1 : Hid (sameV a b = false) := Lib.hid (by rw [G.out, ha, hbq]; rfl)
    go_wp2_with fail
    go_ret
    exact ⟨ret_bool G1.out.symm, kb2⟩
  · have G1 : Hid (sameV a b = eqT a b) := Lib.hid (by rw [G.out, ha, hbq, cmp_eqT]; rfl)
    go_wp2_with fail
    refine (Equal_calls a.sz a b (Nat.le_refl _) _ _ _ h (H.below kb2) ra0.out rb0.out).mono ?_
    rintro e w3 ⟨rfl, k3⟩
    go_wp2_with fail
    go_ret
    exact ⟨ret_bool G1.out.symm, below_then kb2 k3 kb2.size⟩
/-! ### closed -/
mutual
/-- No bound variable is free below some binders. -/
def clT : Int → Tm → Bool
  | b, .mk k n nm ar => (!(k == 2 && decide (b ≤ n))) && clL (if k = 5 then b + 1 else b) ar
def clL : Int → List Tm → Bool
  | _, [] => true
  | b, t :: ts => clT b t && clL b ts
end
mutual
theorem each_cl : ∀ (t : Tm) (s : Bool) (b : Int), eachT (fun s u b => s && (!(u.k == 2) || decide (u.n < b))) s b t = (s && clT b t)
  | .mk k n nm ar, s, b => by
    rw [eachT, clT, each_clL ar]
    have h1 : (!(k == 2) || decide (n < b)) = !(k == 2 && decide (b ≤ n)) := by
      by_cases h : b ≤ n
      · rw [decide_eq_true h, decide_eq_false (by omega)]
        cases (k == 2) <;> rfl
      · rw [decide_eq_false h, decide_eq_true (by omega)]
        cases (k == 2) <;> rfl
    show (s && (!(k == 2) || decide (n < b)) && _) = _
    rw [h1]
    cases s <;> cases (k == 2 && decide (b ≤ n)) <;> rfl
theorem each_clL : ∀ (l : List Tm) (s : Bool) (b : Int), eachL (fun s u b => s && (!(u.k == 2) || decide (u.n < b))) s b l = (s && clL b l)
  | [], s, b => by rw [eachL, clL]; cases s <;> rfl
  | t :: ts, s, b => by
    rw [eachL, clL, each_clL ts, each_cl t]
    cases s <;> cases clT b t <;> rfl
end
def closedV (t : Tm) : Bool := rawP t == 0 && clT 0 t
set_option maxRecDepth 100000 in
set_option maxHeartbeats 4000000 in
theorem closed_calls : ∀ (m : Nat) (t : Tm) (_ : t.sz ≤ m) (b : Int) (_ : 0 ≤ b ∧ b + m ≤ 4611686018427387904) (cs : List Value) (w : World) (h : Snap) (H : Has w h) (r : TmR h t cs),
    Calls Tryz.prog 138 #[.agg cs.toArray, .int .i64 b] w fun e w' => e = .returned (.bool (clT b t)) ∧ Below w.heap.size w w' := by
  intro m
  induction m with
  | zero => intro t ht; have := t.sz_pos; omega
  | succ m ih =>
  rintro ⟨kk, nn, nm, ar⟩ ht b hb cs w h H ⟨A, cap, rfl, hl, hm, hkk, hnn, hr⟩
  have hu34 := Tryz.underlying34
  have IH := Lib.hid ih
  clear ih
  unfold lim at hm
  obtain ⟨b1, ab⟩ := alloc1 w (.cells #[.int .i64 kk, .int .i64 nn, .string nm, .slice A ar.length cap] 34)
  have x := box4 b1
  obtain ⟨B1, hB1⟩ : ∃ B1 : Int, (if kk = 5 then b + 1 else b) = B1 := ⟨_, rfl⟩
  obtain ⟨R, hR⟩ : ∃ R, clT b (.mk kk nn nm ar) = R := ⟨_, rfl⟩
  rw [hR]
  rw [clT, hB1] at hR
  have hB2 : 0 ≤ B1 ∧ B1 + m ≤ 4611686018427387904 := by rw [← hB1]; split <;> omega
  have hcase : ((kk == 2) = true ∧ b ≤ nn ∧ R = false) ∨ ((kk == 2) = true ∧ nn < b ∧ R = clL B1 ar) ∨ ((kk == 2) = false ∧ True ∧ R = clL B1 ar) := by
    cases h2 : kk == 2
    · rw [h2] at hR
      exact .inr (.inr ⟨rfl, trivial, hR.symm⟩)
    · rw [h2] at hR
      by_cases h3 : b ≤ nn
      · rw [decide_eq_true h3] at hR
        exact .inl ⟨rfl, h3, hR.symm⟩
      · rw [decide_eq_false h3] at hR
        exact .inr (.inl ⟨rfl, by omega, hR.symm⟩)
  have hcase5 : ((kk == 5) = true ∧ b + 1 = B1) ∨ ((kk == 5) = false ∧ B1 = b) := by
    by_cases c1 : kk = 5
    · exact .inl ⟨by simp [c1], by rw [← hB1, if_pos c1]⟩
    · exact .inr ⟨beq_eq_false_iff_ne.2 c1, by rw [← hB1, if_neg c1]⟩
  clear hR hB1
  rcases hcase with ⟨t1, t2, hR⟩ | hcase
  · subst hR
    clear hcase5
    go_enter Tryz.func138, Tryz.ntmps138
    go_wp2_with fail
    go_ret
    exact ⟨rfl, ab⟩
  have hR : Hid (R = clL B1 ar) := Lib.hid (by rcases hcase with ⟨_, _, h⟩ | ⟨_, _, h⟩ <;> exact h)
  have hc2 : ((kk == 2) = true ∧ nn < b) ∨ ((kk == 2) = false ∧ True) := by
    rcases hcase with ⟨h1, h2, _⟩ | ⟨h1, h2, _⟩
    · exact .inl ⟨h1, h2⟩
    · exact .inr ⟨h1, h2⟩
  clear hcase
  rcases hc2 with ⟨t1, t2⟩ | ⟨t1, t2⟩ <;> rcases hcase5 with ⟨t5, hB⟩ | ⟨t5, rfl⟩
  all_goals
    go_enter Tryz.func138, Tryz.ntmps138
    go_wp2_with fail
    try rw [hB]
    go_loopw [5] (fun i wr => ∃ k : Nat, k ≤ ar.length ∧ i = .int .i64 k ∧ Hid (clL B1 (ar.drop k) = R) ∧ wr.heap[w.heap.size]? = some (.cells #[.int .i64 kk, .int .i64 nn, .string nm, .slice A ar.length cap] 34) ∧ Below w.heap.size w wr) (fun i _ => ar.length - (intOf i).toNat)
    case atStart => exact ⟨0, by omega, rfl, by show clL _ _ = _; simpa using hR.out.symm, b1, ab⟩
    case round =>
      obtain ⟨k, hk, rfl, hI, hB0, hbel⟩ := hrel
      have ls := blk_lt hB0
      have y := box4 hB0
      by_cases hlt : k < ar.length
      · obtain ⟨bb, o, A', cap', rfl, e0, e1, e2, e3, rt⟩ := hr.get k hlt
        have hw := H.below hbel
        have hc2 := hw.cell _ _ e0
        have hc3 := hw.cell _ _ e1
        have hc4 := hw.cell _ _ e2
        have hc5 := hw.cell _ _ e3
        have ht' := Lib.hid (show ar[k].sz ≤ m by have h1 := ht; have h2 := Tm.sz_at ar k hlt; simp only [Tm.sz] at h1; omega)
        have hI' : Hid ((clT B1 ar[k] && clL B1 (ar.drop (k + 1))) = R) := by
          have := hI.out
          rw [List.drop_eq_getElem_cons hlt, clL] at this
          exact this
        clear ht hI
        go_wp2_with fail
        refine (IH.out ar[k] ht'.out B1 hB2 _ _ h hw rt).mono ?_
        rintro e w1 ⟨rfl, k1⟩
        have hB1 := box_below hB0 k1
        have hbel1 := below_then hbel k1 hbel.size
        cases hz : clT B1 ar[k]
        · have hI2 : Hid (R = false) := Lib.hid (by rw [← hI'.out, hz]; rfl)
          go_wp2_with fail
          go_ret
          exact ⟨ret_bool hI2.out.symm, hbel1⟩
        · have hI2 : Hid (clL B1 (ar.drop (k + 1)) = R) := Lib.hid (by rw [← hI'.out, hz]; rfl)
          clear hI' hz
          go_wp2_with fail
          exact ⟨⟨k + 1, by omega, by go_num, hI2, hB1, hbel1⟩, by simp [intOf]; omega⟩
      · have hI2 : Hid (true = R) := by
          have := hI.out
          rw [List.drop_eq_nil_of_le (by omega), clL] at this
          exact this
        clear hI
        go_wp2_with fail
        go_ret
        exact ⟨ret_bool hI2.out, hbel⟩
set_option maxRecDepth 100000 in
set_option maxHeartbeats 4000000 in
theorem RClosed_calls (t : Tm) (cs : List Value) (w : World) (h : Snap) (H : Has w h) (r : TmR h t cs) :
    Calls Tryz.prog 60 #[.agg cs.toArray] w fun e w' => e = .returned (.bool (closedV t)) ∧ Below w.heap.size w w' := by
  have r0 := Lib.hid r
  obtain ⟨A, cap, rfl, hl, hm, _, _, hr⟩ := r.open_
  have hu34 := Tryz.underlying34
  obtain ⟨b1, ab⟩ := alloc1 w (.cells #[.int .i64 t.k, .int .i64 t.n, .string t.nm, .slice A t.ar.length cap] 34)
  have G : Hid (closedV t = (rawP t == 0 && clT 0 t)) := Lib.hid rfl
  go_enter Tryz.func60, Tryz.ntmps60
  go_wp2_with fail
  refine (RRaw_calls t _ _ h (H.below ab) r0.out).mono ?_
  rintro e w1 ⟨rfl, k1⟩
  have ab1 := below_then ab k1 ab.size
  have b2 := box_below b1 k1
  have x2 := box4 b2
  have l2 := blk_lt b2
  cases ha : rawP t == 0
  · have G1 : Hid (closedV t = false) := Lib.hid (by rw [G.out, ha]; rfl)
    go_wp2_with fail
    go_ret
    exact ⟨ret_bool G1.out.symm, ab1⟩
  · have hz : rawP t = 0 := by simpa using ha
    have hsz := ((rawP_zero t).1 hz).1.1
    have G1 : Hid (closedV t = clT 0 t) := Lib.hid (by rw [G.out, ha]; rfl)
    clear hz
    go_wp2_with fail
    refine (closed_calls t.sz t (Nat.le_refl _) 0 (by omega) _ _ h (H.below ab1) r0.out).mono ?_
    rintro e w2 ⟨rfl, k2⟩
    go_wp2_with fail
    go_ret
    exact ⟨ret_bool G1.out.symm, below_then ab1 k2 ab1.size⟩
set_option maxRecDepth 100000 in
set_option maxHeartbeats 4000000 in
theorem closedfn_calls (bo : Nat) (t : Tm) (cs : List Value) (b : Int) (W : World) (h : Snap) (s : Bool) (H : Has W h) (r : TmR h t cs) (hb : W.heap[bo]? = some (.cells #[.bool s] 4)) :
    Calls Tryz.prog 137 (#[.agg cs.toArray, .int .i64 b] ++ #[.pointer (some ⟨bo, 0, none⟩)]) W fun e w' => e = .returned (.tuple #[]) ∧ Kp (fun q => q = bo) W w' ∧ w'.heap[bo]? = some (.cells #[.bool (s && (!(t.k == 2) || decide (t.n < b)))] 4) := by
  obtain ⟨A, cap, rfl, hl, hlm, hk1, hn1, hr⟩ := r.open_
  have hu34 := Tryz.underlying34
  have xb := box1 hb
  have lb := blk_lt hb
  have hba := blk_alloc hb (.cells #[.int .i64 t.k, .int .i64 t.n, .string t.nm, .slice A t.ar.length cap] 34)
  have fb := blk_frozen hba
  have xa := box1 hba
  generalize t.k = k at *
  generalize t.n = n at *
  go_enter Tryz.func137, Tryz.ntmps137
  cases s with
  | false =>
    go_wp2_with fail
    go_end0
    exact ⟨rfl, ((Kp.refl (fun q => q = bo) W).set (p := ⟨bo, 0, none⟩) (.inl rfl) _).alloc _, by simpa using blk_alloc (blk_set hb 0 (.bool _)) _⟩
  | true =>
    cases c : k == 2
    · have c' : (k != 2) = true := by simp [bne, c]
      go_wp2_with fail
      go_end0
      exact ⟨rfl, ((Kp.refl (fun q => q = bo) W).set (p := ⟨bo, 0, none⟩) (.inl rfl) _).alloc _, by simpa using blk_alloc (blk_set hb 0 (.bool _)) _⟩
    · have c' : (k != 2) = false := by simp [bne, c]
      go_wp2_with fail
      go_end0
      exact ⟨rfl, ((Kp.refl (fun q => q = bo) W).set (p := ⟨bo, 0, none⟩) (.inl rfl) _).alloc _, by simpa using blk_alloc (blk_set hb 0 (.bool _)) _⟩
set_option maxRecDepth 100000 in
set_option maxHeartbeats 4000000 in
theorem Closed_calls (t : Tm) (cs : List Value) (w : World) (h : Snap) (H : Has w h) (r : TmR h t cs) :
    Calls Tryz.prog 59 #[.agg cs.toArray] w fun e w' => e = .returned (.bool (closedV t)) ∧ Below w.heap.size w w' := by
  have r0 := Lib.hid r
  obtain ⟨A, cap, rfl, hl, hlm, hk1, hn1, hr⟩ := r.open_
  have hu34 := Tryz.underlying34
  have hmf := run_mf
  obtain ⟨a1, ab⟩ := alloc1 w (.cells #[.int .i64 t.k, .int .i64 t.n, .string t.nm, .slice A t.ar.length cap] 34)
  have G : Hid (closedV t = (rawP t == 0 && clT 0 t)) := Lib.hid rfl
  go_enter Tryz.func59, Tryz.ntmps59
  go_wp2_with fail
  refine (Raw_calls t _ _ h (H.below ab) r0.out).mono ?_
  rintro e w1 ⟨rfl, k1⟩
  have ab1 := below_then ab k1 ab.size
  have b2 := box_below a1 k1
  have x2 := box4 b2
  have l2 := blk_lt b2
  by_cases q : rawP t = 0
  rotate_left
  · have q' : (rawP t != 0) = true := by simpa using q
    have G1 : Hid (closedV t = false) := Lib.hid (by rw [G.out, beq_eq_false_iff_ne.2 q]; rfl)
    go_wp2_with fail
    go_ret
    exact ⟨ret_bool G1.out.symm, ab1⟩
  have q' : (rawP t != 0) = false := by simp [q]
  have hsz := ((rawP_zero t).1 q).1.1
  have hld := Tm.ld_sz t
  have G1 : Hid (closedV t = clT 0 t) := Lib.hid (by rw [G.out, q]; rfl)
  clear q G
  go_wp2_with fail
  obtain ⟨c1, cb⟩ := alloc1 w1 (.cells #[.bool true] 4)
  refine (each_calls (fun q => q = w1.heap.size) 137 #[.pointer (some ⟨w1.heap.size, 0, none⟩)] (fun s u b => s && (!(u.k == 2) || decide (u.n < b))) (fun s W => W.heap[w1.heap.size]? = some (.cells #[.bool s] 4)) (fun _ => true) _ (fun k hk => by rw [hk]; exact blk_lt c1) (enters_ Tryz.func137 (by kernel_rfl) rfl)
    (fun s W W' hs hb _ => box_below hs hb) (fun t cs b W h s _ H r hs => closedfn_calls _ t cs b W h s H r hs) t.sz t (Nat.le_refl _) 0 (by omega) _ _ h (Nat.le_refl _) ((H.below ab1).below cb) ((H.below ab1).off_new (fun k hk => by rw [hk]; exact Nat.le_refl _)) r0.out true c1).mono ?_
  rintro e w2 ⟨rfl, k2, i2⟩
  rw [each_cl] at i2
  have x1 := box1 i2
  have s1 := ab1.size
  have kk : Below w.heap.size w w2 := ((Kp.of_below (fun q => q = w1.heap.size) (below_then ab1 cb ab1.size)).trans k2 (fun i hi e => e)).below (fun i hi e => by omega)
  go_wp2_with fail
  go_ret
  exact ⟨ret_bool (by rw [G1.out]), kk⟩
end Go.Proofs.YtpgbeapojjinmaaGreatDoor
