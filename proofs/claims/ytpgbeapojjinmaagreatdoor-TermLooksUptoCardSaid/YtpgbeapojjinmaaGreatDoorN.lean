/- Own text: types: Contains, CheckType (the program's). · Own text: types: CheckType, formed, equal, SameType, Parts, Arity (the program's). No law is proved here. -/
import Derived.Test.YtpgbeapojjinmaaGreatDoorK
import Derived.LoopN
set_option linter.unusedVariables false
set_option linter.unusedSimpArgs false
namespace Go.Proofs.YtpgbeapojjinmaaGreatDoor
open Go.RowKit Go.Proofs.YtpgbeapojjinmaaGreatDoorW.PrintLast
/-- The first place of a string, or -1 (compared the other way round). -/
def idxR : List ByteArray → ByteArray → Int → Int
  | [], _, _ => -1
  | x :: l, s, i => if s.toList = x.toList then i else idxR l s (i + 1)
theorem idxR_ge : ∀ (l : List ByteArray) (s : ByteArray) (i : Int), 0 ≤ i → (0 ≤ idxR l s i ↔ l.any (fun x => x.toList == s.toList) = true)
  | [], s, i, h => by simp [idxR]
  | x :: l, s, i, h => by
    rw [idxR]
    by_cases c : s.toList = x.toList
    · rw [if_pos c]; simp [c, h]
    · rw [if_neg c, idxR_ge l s (i + 1) (by omega)]
      have : (x.toList == s.toList) = false := by simp; exact fun e => c e.symm
      simp [this]
set_option maxRecDepth 100000 in
set_option maxHeartbeats 4000000 in
theorem sIndex_calls (ss : List ByteArray) (s : ByteArray) (v : Value) (w : World) (h : Snap) (H : Has w h) (r : StS h ss v) :
    Calls Tryz.prog 177 #[v, .string s] w fun e w' => e = .returned (.int .i64 (idxR ss s 0)) ∧ w' = w := by
  obtain ⟨A, cap, rfl, hl, hm, hr⟩ := r
  unfold lim at hm
  go_enter Tryz.func177, Tryz.ntmps177
  go_wp2_with fail
  go_loop [8] (fun i => ∃ k : Nat, k ≤ ss.length ∧ i = .int .i64 k ∧ Hid (idxR (ss.drop k) s k = idxR ss s 0)) (fun i => ss.length - (intOf i).toNat)
  case atStart => exact ⟨0, by omega, rfl, by show idxR _ _ _ = _; simp⟩
  case round =>
    obtain ⟨k, hk, rfl, hI⟩ := hrel
    by_cases hlt : k < ss.length
    · obtain ⟨b, o, rfl, e0⟩ := hr k hlt
      have hc0 := H.cell _ _ e0
      by_cases hs : s.toList = ss[k].toList
      · have hI' : Hid ((k : Int) = idxR ss s 0) := by
          have := hI.out
          rw [List.drop_eq_getElem_cons hlt, idxR, if_pos hs] at this
          exact this
        have hb : (s.toList == ss[k].toList) = true := by simp [hs]
        clear hs hI
        go_wp2_with fail
        go_ret
        exact ⟨ret_int hI'.out, rfl⟩
      · have hI' : Hid (idxR (ss.drop (k + 1)) s ((k + 1 : Nat) : Int) = idxR ss s 0) := by
          have := hI.out
          rw [List.drop_eq_getElem_cons hlt, idxR, if_neg hs] at this
          exact this
        have hb : (s.toList == ss[k].toList) = false := by simp [hs]
        clear hs hI
        go_wp2_with fail
        go_round
        case rel => exact ⟨k + 1, by omega, by go_num, hI'⟩
        case measure => simp [intOf]; omega
    · have hI' : Hid (-1 = idxR ss s 0) := by
        have := hI.out
        rw [List.drop_eq_nil_of_le (by omega), idxR] at this
        exact this
      go_wp2_with fail
      go_ret
      exact ⟨ret_int hI'.out, rfl⟩
set_option maxRecDepth 100000 in
set_option maxHeartbeats 4000000 in
theorem Contains_calls (ss : List ByteArray) (s : ByteArray) (v : Value) (w : World) (h : Snap) (H : Has w h) (r : StS h ss v) :
    Calls Tryz.prog 117 #[v, .string s] w fun e w' => e = .returned (.bool (baseIn ss s)) ∧ w' = w := by
  obtain ⟨A, cap, rfl, _⟩ := id r
  have r' := Lib.hid r
  clear r
  have G := Lib.hid (show decide (0 ≤ idxR ss s 0) = baseIn ss s by rw [baseIn, Bool.eq_iff_iff, decide_eq_true_iff]; exact idxR_ge ss s 0 (by omega))
  go_enter Tryz.func117, Tryz.ntmps117
  go_wp2_with fail
  refine (sIndex_calls ss s _ _ h H r'.out).mono ?_
  rintro e w1 ⟨rfl, rfl⟩
  generalize idxR ss s 0 = z at *
  go_wp2_with fail
  go_ret
  exact ⟨ret_bool G.out, rfl⟩
def okNode (nm : ByteArray) (n : Nat) : Bool := (arrB nm == (n == 2)) && (arrB nm || n == 0)
mutual
/-- CheckType's walk: the error of the bases so far; none: a node is not formed. -/
def ckT (ss : List ByteArray) : Ty → Int → Option Int
  | .mk nm l, b => if okNode nm l.length then ckTL ss l (if !arrB nm && !baseIn ss nm then 40 else b) else none
def ckTL (ss : List ByteArray) : List Ty → Int → Option Int
  | [], b => some b
  | t :: ts, b => (ckT ss t b).bind (fun b' => ckTL ss ts b')
end
/-- The captured variables of CheckType's walk: the program, the error, the walk. -/
structure CkW (h : Snap) (p : Pg) (w : World) (bp bb bw : Nat) (x : Int) : Prop where
  p : ∃ v0 v1 v2 v3 v4, w.heap[bp]? = some (.cells #[v0, v1, v2, v3, v4] 28) ∧ StS h p.types v0
  b : w.heap[bb]? = some (.cells #[.int .i64 x] 42)
  w : w.heap[bw]? = some (.cells #[.func (.func 116) #[] #[.pointer (some ⟨bp, 0, none⟩), .pointer (some ⟨bb, 0, none⟩), .pointer (some ⟨bw, 0, none⟩)]] 147)
theorem CkW.kp {S : Nat → Prop} {h : Snap} {p : Pg} {w w' : World} {bp bb bw : Nat} {x : Int} (m : CkW h p w bp bb bw x) (k : Kp S w w') (h1 : ¬ S bp) (h2 : ¬ S bb) (h3 : ¬ S bw) : CkW h p w' bp bb bw x := by
  obtain ⟨⟨v0, v1, v2, v3, v4, q, r⟩, b, c⟩ := m
  exact ⟨⟨v0, v1, v2, v3, v4, blk_kp q k h1, r⟩, blk_kp b k h2, blk_kp c k h3⟩
/-- How a walk of 'must' ends. -/
def endC (c : Int) : Option Int → Ending
  | some _ => .returned (.tuple #[])
  | none => .panicked (faultC c)
theorem okNode_bool {nm : ByteArray} {n : Nat} : okNode nm n = ((arrB nm == (n == 2)) && (arrB nm || n == 0)) := rfl
set_option maxRecDepth 100000 in
set_option maxHeartbeats 8000000 in
theorem walkC_calls (p : Pg) (bp bb bw : Nat) (hne : bp ≠ bb ∧ bw ≠ bb) : ∀ (k : Nat) (t : Ty) (_ : t.sz ≤ k) (cs : List Value) (x : Int) (w : World) (h : Snap) (H : Has w h) (ho : Off h (fun q => q = bb)) (r : TyR h t cs) (hm : CkW h p w bp bb bw x),
    Calls Tryz.prog 116 #[.agg cs.toArray, .pointer (some ⟨bp, 0, none⟩), .pointer (some ⟨bb, 0, none⟩), .pointer (some ⟨bw, 0, none⟩)] w fun e w' =>
      e = endC 6 (ckT p.types t x) ∧ Kp (fun q => q = bb) w w' ∧ ∀ x', ckT p.types t x = some x' → CkW h p w' bp bb bw x' := by
  intro k
  induction k with
  | zero => intro t ht; have := t.sz_pos; omega
  | succ k ih =>
  rintro ⟨nm, ar⟩ ht cs x w h H ho ⟨A, cap, rfl, hl, hlm, hr⟩ hm
  obtain ⟨n1, n2⟩ := hne
  have hu36 := Tryz.underlying36
  have hu28 := Tryz.underlying28
  have IH := Lib.hid ih
  clear ih
  unfold lim at hlm
  obtain ⟨hB, hb⟩ := alloc1 w (.cells #[.string nm, .slice A ar.length cap] 36)
  have m1 := hm.kp (Kp.of_below (fun _ => False) hb) (fun hf => hf) (fun hf => hf) (fun hf => hf)
  obtain ⟨v0, v1, v2, v3, v4, hP, hT⟩ := hm.p
  obtain ⟨At, kt, rfl, _⟩ := id hT
  have hT' := Lib.hid hT
  have lb := blk_lt hm.b
  have lp := blk_lt hP
  have lw := blk_lt hm.w
  have xp := (blk_cell hP 0).trans rfl
  have zb := blk_frozen hm.b 0
  have xb := box1 hm.b
  clear hT
  by_cases hok : okNode nm ar.length = true
  · cases ha : arrB nm
    · have hn0 : ar = [] := by rw [okNode, ha] at hok; simp at hok; exact hok.2
      subst hn0
      obtain ⟨q1, q2⟩ := arr_f ha
      cases hbi : baseIn p.types nm
      · have G := Lib.hid (show ckT p.types (.mk nm []) x = some 40 by rw [ckT, if_pos hok, ha, hbi, ckTL]; rfl)
        clear hok
        go_enter Tryz.func116, Tryz.ntmps116
        go_wp2_with fail
        refine (must_ok 6 _).mono ?_
        rintro e w1 ⟨rfl, rfl⟩
        go_wp2_with fail
        refine (Contains_calls p.types nm _ _ h (H.below hb) hT'.out).mono ?_
        rintro e w1 ⟨rfl, rfl⟩
        go_wp2_with fail
        refine wp_loop_rounds 1 ?_
        rw [rounds_succ]
        go_wp2_with fail
        go_end0
        rw [G.out]
        refine ⟨rfl, (Kp.set1 w ⟨bb, 0, none⟩ _).alloc _, fun x' e => ?_⟩
        cases e
        exact ⟨⟨_, v1, v2, v3, v4, blk_alloc (blk_far hP (by simp; omega) _) _, hT'.out⟩, blk_alloc (by simpa using blk_set hm.b 0 (.int .i64 40)) _, blk_alloc (blk_far hm.w (by simp; omega) _) _⟩
      · have G := Lib.hid (show ckT p.types (.mk nm []) x = some x by rw [ckT, if_pos hok, ha, hbi, ckTL]; rfl)
        clear hok
        go_enter Tryz.func116, Tryz.ntmps116
        go_wp2_with fail
        refine (must_ok 6 _).mono ?_
        rintro e w1 ⟨rfl, rfl⟩
        go_wp2_with fail
        refine (Contains_calls p.types nm _ _ h (H.below hb) hT'.out).mono ?_
        rintro e w1 ⟨rfl, rfl⟩
        go_wp2_with fail
        refine wp_loop_rounds 1 ?_
        rw [rounds_succ]
        go_wp2_with fail
        go_end0
        rw [G.out]
        refine ⟨rfl, (Kp.refl _ w).alloc _, fun x' e => ?_⟩
        cases e
        exact m1
    · obtain ⟨q1, q2⟩ := arr_t ha
      have hn2 : ar.length = 2 := by rw [okNode, ha] at hok; simpa using hok
      have hnn : ((ar.length : Int) == 2) = true := by simp [hn2]
      have G := Lib.hid (show ckT p.types (.mk nm ar) x = ckTL p.types ar x by rw [ckT, if_pos hok, ha]; rfl)
      clear hok hn2
      go_enter Tryz.func116, Tryz.ntmps116
      go_wp2_with fail
      refine (must_ok 6 _).mono ?_
      rintro e w1 ⟨rfl, rfl⟩
      go_wp2_with fail
      go_loopw [41] (fun i wr => ∃ (j : Nat) (y : Int), j ≤ ar.length ∧ i = .int .i64 j ∧ Hid (ckTL p.types (ar.drop j) y = ckTL p.types ar x) ∧ CkW h p wr bp bb bw y ∧ Kp (fun q => q = bb) w wr) (fun i _ => ar.length - (intOf i).toNat)
      case atStart => exact ⟨0, x, by omega, rfl, by show _ = _; simp, m1, (Kp.refl _ w).alloc _⟩
      case round =>
        obtain ⟨j, y, hj, rfl, hI, hq, kq⟩ := hrel
        have xw := box1 hq.w
        have lw := blk_lt hq.w
        by_cases hlt : j < ar.length
        · obtain ⟨b, o, A', cap', rfl, e0, e1, rt⟩ := hr.get j hlt
          have hw := H.kp kq ho
          have hc0 := hw.cell _ _ e0
          have hc1 := hw.cell _ _ e1
          have lb := hw.lt e0
          have ht' := Lib.hid (show ar[j].sz ≤ k by have h1 := ht; have h2 := Ty.sz_at ar j hlt; simp only [Ty.sz] at h1; omega)
          clear ht
          have hqa := hq.kp ((Kp.refl (fun _ => False) wr).alloc (.cells #[.string ar[j].nm, .slice A' ar[j].ar.length cap'] 36)) (fun hf => hf) (fun hf => hf) (fun hf => hf)
          go_wp2_with fail
          refine (IH.out ar[j] ht'.out _ y _ h (hw.alloc _) ho rt hqa).mono ?_
          rintro e w5 ⟨rfl, k5, m5⟩
          have k6 := (kq.alloc _).trans k5 (fun i _ e => e)
          have hI' : Hid ((ckT p.types ar[j] y).bind (fun b' => ckTL p.types (ar.drop (j + 1)) b') = ckTL p.types ar x) := by
            have := hI.out
            rw [List.drop_eq_getElem_cons hlt, ckTL] at this
            exact this
          cases hck : ckT p.types ar[j] y with
          | none =>
            rw [hck] at hI'
            have hI2 : none = ckTL p.types ar x := hI'.out
            simp only [endC]
            refine ⟨rfl, ?_⟩
            rw [G.out, ← hI2]
            exact ⟨rfl, k6, by simp⟩
          | some z =>
            rw [hck] at hI'
            have m6 := m5 z hck
            simp only [endC]
            clear hck m5 hqa hI k5
            go_wp2_with fail
            exact ⟨⟨j + 1, z, by omega, by go_num, hI', m6, k6⟩, by simp [intOf]; omega⟩
        · have hI' : some y = ckTL p.types ar x := by
            have := hI.out
            rw [List.drop_eq_nil_of_le (by omega), ckTL] at this
            exact this
          go_wp2_with fail
          go_end0
          rw [G.out, ← hI']
          exact ⟨rfl, kq, fun x' e => by cases e; exact hq⟩
  · have G := Lib.hid (show ckT p.types (.mk nm ar) x = none by rw [ckT, if_neg hok])
    have hb0 : okNode nm ar.length = false := by simpa using hok
    rw [okNode] at hb0
    clear hok
    have fin : ∀ e w', e = .panicked (faultC 6) → w' = w.alloc (.cells #[.string nm, .slice A ar.length cap] 36) → (e = endC 6 (ckT p.types (.mk nm ar) x) ∧ Kp (fun q => q = bb) w w' ∧ ∀ x', ckT p.types (.mk nm ar) x = some x' → CkW h p w' bp bb bw x') := by
      rintro e w' rfl rfl
      rw [G.out]
      exact ⟨rfl, (Kp.refl _ w).alloc _, by simp⟩
    have fin' := Lib.hid fin
    clear fin G
    cases ha : arrB nm
    · obtain ⟨q1, q2⟩ := arr_f ha
      rw [ha] at hb0
      by_cases h2 : ar.length = 2
      · have c2 : ((ar.length : Int) == 2) = true := by simp [h2]
        clear hb0 h2
        go_enter Tryz.func116, Tryz.ntmps116
        go_wp2_with fail
        refine (must_no 6 _).mono ?_
        rintro e w1 ⟨rfl, rfl⟩
        exact ⟨rfl, fin'.out _ _ rfl rfl⟩
      · have c2 : ((ar.length : Int) == 2) = false := by simp; omega
        have c3 : ((ar.length : Int) == 0) = false := by
          have : ar.length ≠ 0 := fun e => by rw [e] at hb0; simp at hb0
          simp; intro e; rw [e] at this; simp at this
        clear hb0 h2
        go_enter Tryz.func116, Tryz.ntmps116
        go_wp2_with fail
        refine (must_no 6 _).mono ?_
        rintro e w1 ⟨rfl, rfl⟩
        exact ⟨rfl, fin'.out _ _ rfl rfl⟩
    · obtain ⟨q1, q2⟩ := arr_t ha
      rw [ha] at hb0
      have c2 : ((ar.length : Int) == 2) = false := by
        have : ar.length ≠ 2 := fun e => by rw [e] at hb0; simp at hb0
        simp; omega
      clear hb0
      go_enter Tryz.func116, Tryz.ntmps116
      go_wp2_with fail
      refine (must_no 6 _).mono ?_
      rintro e w1 ⟨rfl, rfl⟩
      exact ⟨rfl, fin'.out _ _ rfl rfl⟩
/-- 'CheckType' of the program. -/
def checkP (ss : List ByteArray) (t : Ty) : Int := if sizedT t = 0 then (ckT ss t 0).getD 6 else sizedT t
set_option maxRecDepth 100000 in
set_option maxHeartbeats 4000000 in
theorem ckfn_calls (p : Pg) (bp bb bt : Nat) (hne : bp ≠ bb) (t : Ty) (cs : List Value) (w : World) (h : Snap) (H : Has w h) (ho : Off h (fun q => q = bb)) (r : TyR h t cs)
    (hp : ∃ v0 v1 v2 v3 v4, w.heap[bp]? = some (.cells #[v0, v1, v2, v3, v4] 28) ∧ StS h p.types v0) (hb : w.heap[bb]? = some (.cells #[.int .i64 0] 42)) (ht : w.heap[bt]? = some (.cells cs.toArray 36)) :
    Calls Tryz.prog 115 #[.pointer (some ⟨bp, 0, none⟩), .pointer (some ⟨bb, 0, none⟩), .pointer (some ⟨bt, 0, none⟩)] w fun e w' => e = endC 6 (ckT p.types t 0) ∧ Kp (fun q => q = bb) w w' ∧ ∀ x', ckT p.types t 0 = some x' → w'.heap[bb]? = some (.cells #[.int .i64 x'] 42) := by
  obtain ⟨A, cap, rfl, hl, hm, hr⟩ := r.open_
  obtain ⟨v0, v1, v2, v3, v4, hP, hT⟩ := hp
  have hT' := Lib.hid hT
  clear hT
  have hu36 := Tryz.underlying36
  have hmf := run_mf
  obtain ⟨x0, x1⟩ := box2 ht
  have lb := blk_lt hb
  have lp := blk_lt hP
  have lt := blk_lt ht
  go_enter Tryz.func115, Tryz.ntmps115
  go_wp2_with fail
  refine (walkC_calls p bp bb w.heap.size ⟨hne, by omega⟩ _ t (Nat.le_refl _) _ 0 _ h (H.alloc _) ho r ⟨⟨v0, v1, v2, v3, v4, blk_alloc hP _, hT'.out⟩, blk_alloc hb _, blk_new _ _⟩).mono ?_
  rintro e w1 ⟨rfl, k1, m1⟩
  have kk := ((Kp.refl (fun q => q = bb) w).alloc (.cells #[.func (.func 116) #[] #[.pointer (some ⟨bp, 0, none⟩), .pointer (some ⟨bb, 0, none⟩), .pointer (some ⟨w.heap.size, 0, none⟩)]] 147)).trans k1 (fun i _ e => e)
  have m2 := Lib.hid (show ∀ x', ckT p.types t 0 = some x' → w1.heap[bb]? = some (.cells #[.int .i64 x'] 42) from fun x' e => (m1 x' e).b)
  clear m1
  cases hck : ckT p.types t 0 with
  | none =>
    simp only [endC]
    exact ⟨rfl, by rw [hck]; rfl, kk, fun x' e => by rw [hck] at e; cases e⟩
  | some b =>
    have m3 := m2.out b hck
    simp only [endC]
    go_wp2_with fail
    go_end0
    exact ⟨by rw [hck]; rfl, kk, fun x' e => by rw [hck] at e; cases e; exact m3⟩
end Go.Proofs.YtpgbeapojjinmaaGreatDoor
namespace Go.Proofs.YtpgbeapojjinmaaGreatDoor
open Go.RowKit Go.Proofs.YtpgbeapojjinmaaGreatDoorW.PrintLast
set_option maxRecDepth 100000 in
set_option maxHeartbeats 4000000 in
theorem CheckType_calls (p : Pg) (t : Ty) (ps cs : List Value) (w : World) (h : Snap) (H : Has w h) (rp : PgR h p ps) (r : TyR h t cs) :
    Calls Tryz.prog 40 #[.agg ps.toArray, .agg cs.toArray] w fun e w' => e = .returned (.int .i64 (checkP p.types t)) ∧ Below w.heap.size w w' := by
  obtain ⟨A, cap, rfl, hl, hm, hr⟩ := r.open_
  obtain ⟨v0, v1, A2, n2, c2, A3, n3, c3, A4, n4, c4, rfl, rt, rc⟩ := rp
  obtain ⟨At, kt, rfl, _⟩ := id rt
  obtain ⟨Ac, kc, rfl, _⟩ := id rc
  have rt' := Lib.hid rt
  clear rt rc
  have hu36 := Tryz.underlying36
  have hu28 := Tryz.underlying28
  have hmf := run_mf
  obtain ⟨p1, p2, hb⟩ := alloc2 w (.cells #[.slice At p.types.length kt, .slice Ac p.consts.length kc, .slice A2 n2 c2, .slice A3 n3 c3, .slice A4 n4 c4] 28) (.cells #[.string t.nm, .slice A t.ar.length cap] 36)
  go_enter Tryz.func40, Tryz.ntmps40
  go_wp2_with fail
  refine (sizedT_calls t _ _ h (H.below hb) r).mono ?_
  rintro e w1 ⟨rfl, b1⟩
  have hb1 := below_then hb b1 hb.size
  have g1 := box_below p1 b1
  have g2 := box_below p2 b1
  have l2 := blk_lt g2
  by_cases c0 : sizedT t = 0
  · have G := Lib.hid (show checkP p.types t = (ckT p.types t 0).getD 6 by rw [checkP, if_pos c0])
    have cq : (sizedT t != 0) = false := by simp [c0]
    clear c0
    go_wp2_with fail
    refine (guarded_calls 115 _ _ (fun q => q = w1.heap.size) (fun o W => (o = match ckT p.types t 0 with | none => some 6 | some _ => none) ∧ ∀ x', ckT p.types t 0 = some x' → W.heap[w1.heap.size]? = some (.cells #[.int .i64 x'] 42)) (enters_ Tryz.func115 (by kernel_rfl) rfl) ?_ ?_).mono ?_
    · rintro W rfl
      refine (ckfn_calls p _ _ _ (by omega) t _ _ h (((H.below hb1).alloc _).alloc _) ((H.below hb1).off_new (fun q hq => by omega)) r ⟨_, _, _, _, _, blk_alloc (blk_alloc g1 _) _, rt'.out⟩ (blk_alloc (blk_new _ _) _) (blk_alloc (blk_alloc g2 _) _)).mono ?_
      rintro e w2 ⟨rfl, k2, m2⟩
      refine ⟨match ckT p.types t 0 with | none => some 6 | some _ => none, ?_, k2, rfl, m2⟩
      cases ckT p.types t 0 <;> rfl
    · intro q hq; simp; omega
    rintro e w3 ⟨o, w2, rfl, ⟨q1, q2⟩, k2, k3⟩
    have hb3 : Below w.heap.size w w3 := ((((Kp.of_below (fun _ => False) hb1).alloc (.cells #[.int .i64 0] 42)).trans k2 (fun i hi hq => by omega))).below (fun _ _ hf => hf)
    cases hck : ckT p.types t 0 with
    | none =>
      rw [hck] at q1 G
      subst q1
      simp only [codeG]
      clear q2
      go_wp2_with fail
      go_ret
      exact ⟨ret_int G.out.symm, hb3⟩
    | some b =>
      have q3 := q2 b hck
      rw [hck] at q1 G
      subst q1
      simp only [codeG]
      have q4 := blk_kp q3 k3 (by simp <;> omega)
      have x4 := box1 q4
      clear q2
      go_wp2_with fail
      go_ret
      exact ⟨ret_int G.out.symm, hb3⟩
  · have G := Lib.hid (show sizedT t = checkP p.types t by rw [checkP, if_neg c0])
    have cq : (sizedT t != 0) = true := by simp [c0]
    clear c0
    go_wp2_with fail
    go_ret
    exact ⟨ret_int G.out, hb1⟩
/-- A program without anything. -/
def pg0 : Pg := ⟨[], []⟩
theorem pg0_R (h : Snap) : PgR h pg0 [.slice none 0 0, .slice none 0 0, .slice none 0 0, .slice none 0 0, .slice none 0 0] :=
  ⟨_, _, none, 0, 0, none, 0, 0, none, 0, 0, rfl, ⟨none, 0, rfl, by simp [pg0], by simp [pg0], fun j hj => by simp [pg0] at hj⟩, ⟨none, 0, rfl, by simp [pg0], by simp [pg0], fun j hj => by simp [pg0] at hj⟩⟩
/-- 'formed' of the program. -/
def formP (t : Ty) : Bool := checkP [] t == 0 || checkP [] t == 40
set_option maxRecDepth 100000 in
set_option maxHeartbeats 4000000 in
theorem formedP_calls (t : Ty) (cs : List Value) (w : World) (h : Snap) (H : Has w h) (r : TyR h t cs) :
    Calls Tryz.prog 109 #[.agg cs.toArray] w fun e w' => e = .returned (.bool (formP t)) ∧ Below w.heap.size w w' := by
  obtain ⟨A, cap, rfl, hl, hm, hr⟩ := r.open_
  have hu36 := Tryz.underlying36
  have hu28 := Tryz.underlying28
  obtain ⟨p1, hb⟩ := alloc1 w (.cells #[.string t.nm, .slice A t.ar.length cap] 36)
  have G := Lib.hid (show formP t = (checkP [] t == 0 || checkP [] t == 40) from rfl)
  go_enter Tryz.func109, Tryz.ntmps109
  go_wp2_with fail
  refine (CheckType_calls pg0 t _ _ _ h (H.below hb) (pg0_R h) r).mono ?_
  rintro e w1 ⟨rfl, b1⟩
  have hb1 := below_then hb b1 hb.size
  have e0 : pg0.types = [] := rfl
  rw [e0]
  generalize checkP [] t = z at *
  cases c1 : (z == 0)
  · have G' := Lib.hid (show formP t = (z == 40) by rw [G.out, c1]; rfl)
    clear G
    go_wp2_with fail
    go_ret
    exact ⟨ret_bool G'.out.symm, hb1⟩
  · have G' := Lib.hid (show formP t = true by rw [G.out, c1]; rfl)
    clear G
    go_wp2_with fail
    go_ret
    exact ⟨ret_bool G'.out.symm, hb1⟩
set_option maxRecDepth 100000 in
set_option maxHeartbeats 4000000 in
/-- 'EqualFunc' of two rows of types, by 'equal', which is known of smaller types. -/
theorem EqualFunc_calls (m : Nat) (l k : List Ty) (v u : Value) (w : World) (h : Snap) (H : Has w h) (r : TyS h l v) (q : TyS h k u) (hs : ∀ j (hj : j < l.length), l[j].sz ≤ m)
    (ih : ∀ (t u : Ty) (_ : t.sz ≤ m) (cs ds : List Value) (w : World) (h : Snap) (H : Has w h) (r : TyR h t cs) (q : TyR h u ds), Calls Tryz.prog 119 #[.agg cs.toArray, .agg ds.toArray] w fun e w' => e = .returned (.bool (sameT t u)) ∧ Below w.heap.size w w') :
    Calls Tryz.prog 179 #[v, u, .func (.func 119) #[] #[]] w fun e w' => e = .returned (.bool (l.length == k.length && sameTL l k)) ∧ Below w.heap.size w w' := by
  obtain ⟨A, cap, rfl, hl, hm, hr⟩ := r
  obtain ⟨B, dap, rfl, gl, gm, gr⟩ := q
  have hu36 := Tryz.underlying36
  have IH := Lib.hid ih
  have hs' := Lib.hid hs
  clear ih hs
  unfold lim at hm gm
  by_cases hlen : l.length = k.length
  · have hlnq : ((l.length : Int) != k.length) = false := by simp [hlen]
    have hl1 : l.length ≤ k.length := by omega
    have hl2 : k.length ≤ l.length := by omega
    have G := Lib.hid (show (l.length == k.length && sameTL l k) = sameTL l k by simp [hlen])
    clear hlen
    go_enter Tryz.func179, Tryz.ntmps179
    go_wp2_with fail
    go_loopw [17] (fun i wr => ∃ j : Nat, j ≤ l.length ∧ i = .int .i64 j ∧ Hid (sameTL (l.drop j) (k.drop j) = sameTL l k) ∧ Below w.heap.size w wr) (fun i _ => l.length - (intOf i).toNat)
    case atStart => exact ⟨0, by omega, rfl, by show sameTL _ _ = _; simp, Below.refl _ _⟩
    case round =>
      obtain ⟨j, hj, rfl, hI, hbel⟩ := hrel
      by_cases hlt : j < l.length
      · have hlt' : j < k.length := by omega
        obtain ⟨b, o, A', cap', rfl, e0, e1, rt⟩ := hr.get j hlt
        obtain ⟨b', o', B', dap', rfl, f0, f1, rq⟩ := gr.get j hlt'
        have hw := H.below hbel
        have hc0 := hw.cell _ _ e0
        have hc1 := hw.cell _ _ e1
        have hd0 := hw.cell _ _ f0
        have hd1 := hw.cell _ _ f1
        have lb := hw.lt e0
        have lb' := hw.lt f0
        have hI' : Hid ((sameT l[j] k[j] && sameTL (l.drop (j + 1)) (k.drop (j + 1))) = sameTL l k) := by
          have := hI.out
          rw [List.drop_eq_getElem_cons hlt, List.drop_eq_getElem_cons hlt', sameTL] at this
          exact this
        clear hI
        go_wp2_with fail
        refine (IH.out l[j] k[j] (hs'.out j hlt) _ _ _ h ((hw.alloc _).alloc _) rt rq).mono ?_
        rintro e w1 ⟨rfl, b1⟩
        have hb1 := below_then ((hbel.alloc hbel.size (.cells #[.string l[j].nm, .slice A' l[j].ar.length cap'] 36)).alloc (by have := hbel.size; simp <;> omega) (.cells #[.string k[j].nm, .slice B' k[j].ar.length dap'] 36)) b1 (by have := hbel.size; simp <;> omega)
        cases hs : sameT l[j] k[j]
        · have hI2 : Hid (sameTL l k = false) := by have := hI'.out; rw [hs] at this; exact this.symm
          clear hs hI'
          go_wp2_with fail
          go_ret
          exact ⟨ret_bool (by rw [G.out, hI2.out]), hb1⟩
        · have hI2 : Hid (sameTL (l.drop (j + 1)) (k.drop (j + 1)) = sameTL l k) := by have := hI'.out; rw [hs] at this; exact this
          clear hs hI'
          go_wp2_with fail
          exact ⟨⟨j + 1, by omega, by go_num, hI2, hb1⟩, by simp [intOf]; omega⟩
      · have hI2 : Hid (sameTL l k = true) := by
          have := hI.out
          rw [List.drop_eq_nil_of_le (by omega), List.drop_eq_nil_of_le (by omega)] at this
          exact this.symm
        clear hI
        go_wp2_with fail
        go_ret
        exact ⟨ret_bool (by rw [G.out, hI2.out]), hbel⟩
  · have hlnq : ((l.length : Int) != k.length) = true := by simp; omega
    have G := Lib.hid (show (l.length == k.length && sameTL l k) = false by simp [hlen])
    clear hlen
    go_enter Tryz.func179, Tryz.ntmps179
    go_wp2_with fail
    go_ret
    exact ⟨ret_bool G.out.symm, Below.refl _ _⟩
set_option maxRecDepth 100000 in
set_option maxHeartbeats 4000000 in
theorem equal_calls : ∀ (m : Nat) (t u : Ty) (_ : t.sz ≤ m) (cs ds : List Value) (w : World) (h : Snap) (H : Has w h) (r : TyR h t cs) (q : TyR h u ds),
    Calls Tryz.prog 119 #[.agg cs.toArray, .agg ds.toArray] w fun e w' => e = .returned (.bool (sameT t u)) ∧ Below w.heap.size w w' := by
  intro m
  induction m with
  | zero => intro t u ht; have := t.sz_pos; omega
  | succ m ih =>
  rintro ⟨nm, ar⟩ ⟨nu, br⟩ ht cs ds w h H ⟨A, cap, rfl, hl, hm, hr⟩ ⟨B, dap, rfl, gl, gm, gr⟩
  have hu36 := Tryz.underlying36
  have IH := Lib.hid ih
  clear ih
  obtain ⟨p1, p2, hb⟩ := alloc2 w (.cells #[.string nm, .slice A ar.length cap] 36) (.cells #[.string nu, .slice B br.length dap] 36)
  have rA : TyS h ar (.slice A ar.length cap) := ⟨A, cap, rfl, hl, hm, hr⟩
  have rB : TyS h br (.slice B br.length dap) := ⟨B, dap, rfl, gl, gm, gr⟩
  have rA' := Lib.hid rA
  have rB' := Lib.hid rB
  clear rA rB
  have hs := Lib.hid (show ∀ j (hj : j < ar.length), ar[j].sz ≤ m from fun j hj => by have h2 := Ty.sz_at ar j hj; simp only [Ty.sz] at ht; omega)
  by_cases hn : nm.toList = nu.toList
  · have G := Lib.hid (show sameT (.mk nm ar) (.mk nu br) = (ar.length == br.length && sameTL ar br) by rw [sameT]; simp [hn])
    have hbeq : (nm.toList == nu.toList) = true := by simp [hn]
    clear hn
    go_enter Tryz.func119, Tryz.ntmps119
    go_wp2_with fail
    refine (EqualFunc_calls m ar br _ _ _ h (H.below hb) rA'.out rB'.out hs.out IH.out).mono ?_
    rintro e w1 ⟨rfl, b1⟩
    go_wp2_with fail
    go_ret
    exact ⟨ret_bool G.out.symm, below_then hb b1 hb.size⟩
  · have G := Lib.hid (show sameT (.mk nm ar) (.mk nu br) = false by rw [sameT]; simp [hn])
    have hbeq : (nm.toList == nu.toList) = false := by simp [hn]
    clear hn
    go_enter Tryz.func119, Tryz.ntmps119
    go_wp2_with fail
    go_ret
    exact ⟨ret_bool G.out.symm, hb⟩
end Go.Proofs.YtpgbeapojjinmaaGreatDoor
