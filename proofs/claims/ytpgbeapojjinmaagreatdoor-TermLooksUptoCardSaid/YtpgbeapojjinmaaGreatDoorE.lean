/- Own text: types: the reference's FormType, same, SameType, Index, based, CheckType, SameTypes. · Own text: types: the reference's Index, based, CheckType, SameTypes, split, Parts, Arity. No law is proved here. -/
import Derived.Test.YtpgbeapojjinmaaGreatDoorD
set_option linter.unusedVariables false
set_option linter.unusedSimpArgs false
namespace Go.Proofs.YtpgbeapojjinmaaGreatDoor
open Go.RowKit Go.Proofs.YtpgbeapojjinmaaGreatDoorW.PrintLast
def formTy (t : Ty) : Int := if 4000 < tyN 4000 t 0 101 then 2 else if 100 < tyD t 101 then 5 else if formedT t then 0 else 6
set_option maxRecDepth 100000 in
set_option maxHeartbeats 4000000 in
theorem FormType_calls (t : Ty) (cs : List Value) (w : World) (h : Snap) (H : Has w h) (r : TyR h t cs) :
    Calls Tryz.prog 44 #[.agg cs.toArray] w fun e w' => e = .returned (.int .i64 (formTy t)) ∧ Below w.heap.size w w' := by
  obtain ⟨A, cap, rfl, hl, hm, hr⟩ := r.open_
  have hu36 := Tryz.underlying36
  have hb := (Below.refl w.heap.size w).alloc (Nat.le_refl _) (.cells #[.string t.nm, .slice A t.ar.length cap] 36)
  have hB := blk_new w (.cells #[.string t.nm, .slice A t.ar.length cap] 36)
  have G := Lib.hid (show formTy t = if 4000 < tyN 4000 t 0 101 then 2 else if 100 < tyD t 101 then 5 else if formedT t then 0 else 6 from rfl)
  go_enter Tryz.func44, Tryz.ntmps44
  go_wp2_with fail
  refine (typeNodes_calls _ t (Nat.le_refl _) _ _ h (H.alloc _) r 0 4000 101 (by omega) (by omega) (by omega) (by omega) (by omega)).mono ?_
  rintro e w1 ⟨rfl, b1⟩
  have hb1 := below_then hb b1 (by simp)
  have hB1 := box_below hB b1
  obtain ⟨x0, x1⟩ := box2 hB1
  by_cases c1 : 4000 < tyN 4000 t 0 101
  · have G' := Lib.hid (G.out.trans (if_pos c1))
    clear G
    go_wp2_with fail
    go_ret
    exact ⟨ret_int G'.out.symm, hb1⟩
  have G' := Lib.hid (G.out.trans (if_neg c1))
  clear G
  go_wp2_with fail
  refine (typeDepth_calls _ t (Nat.le_refl _) _ _ h (H.below hb1) r 101 (by omega) (by omega)).mono ?_
  rintro e w2 ⟨rfl, b2⟩
  have hb2 := below_then hb1 b2 (by have := hb1.size; omega)
  have hB2 := box_below hB1 b2
  obtain ⟨y0, y1⟩ := box2 hB2
  by_cases c2 : 100 < tyD t 101
  · have G := Lib.hid (G'.out.trans (if_pos c2))
    clear G'
    go_wp2_with fail
    go_ret
    exact ⟨ret_int G.out.symm, hb2⟩
  have G := Lib.hid (G'.out.trans (if_neg c2))
  clear G'
  go_wp2_with fail
  refine (formed_calls _ t (Nat.le_refl _) _ _ h (H.below hb2) r).mono ?_
  rintro e w3 ⟨rfl, b3⟩
  have hb3 := below_then hb2 b3 (by have := hb2.size; omega)
  cases c3 : formedT t
  · have G' := Lib.hid (G.out.trans (if_neg (by rw [c3]; simp)))
    clear G
    go_wp2_with fail
    go_ret
    exact ⟨ret_int G'.out.symm, hb3⟩
  · have G' := Lib.hid (G.out.trans (if_pos c3))
    clear G
    go_wp2_with fail
    go_ret
    exact ⟨ret_int G'.out.symm, hb3⟩
mutual
def sameT : Ty → Ty → Bool
  | .mk n l, .mk m k => n.toList == m.toList && l.length == k.length && sameTL l k
def sameTL : List Ty → List Ty → Bool
  | a :: l, b :: k => sameT a b && sameTL l k
  | _, _ => true
end
set_option maxRecDepth 100000 in
set_option maxHeartbeats 4000000 in
theorem same_calls : ∀ (m : Nat) (t u : Ty) (_ : t.sz ≤ m) (cs ds : List Value) (w : World) (h : Snap) (H : Has w h) (r : TyR h t cs) (q : TyR h u ds),
    Calls Tryz.prog 120 #[.agg cs.toArray, .agg ds.toArray] w fun e w' => e = .returned (.bool (sameT t u)) ∧ Below w.heap.size w w' := by
  intro m
  induction m with
  | zero => intro t u ht; have := t.sz_pos; omega
  | succ m ih =>
  rintro ⟨nm, ar⟩ ⟨nu, br⟩ ht cs ds w h H ⟨A, cap, rfl, hl, hm, hr⟩ ⟨B, dap, rfl, gl, gm, gr⟩
  have hu36 := Tryz.underlying36
  have IH := Lib.hid ih
  clear ih
  unfold lim at hm gm
  have hb := ((Below.refl w.heap.size w).alloc (Nat.le_refl _) (.cells #[.string nm, .slice A ar.length cap] 36)).alloc (by simp) (.cells #[.string nu, .slice B br.length dap] 36)
  have hB := blk_alloc (blk_new w (.cells #[.string nm, .slice A ar.length cap] 36)) (.cells #[.string nu, .slice B br.length dap] 36)
  have hD := blk_new (w.alloc (.cells #[.string nm, .slice A ar.length cap] 36)) (.cells #[.string nu, .slice B br.length dap] 36)
  simp only [World.size_alloc] at hD
  by_cases hn : nm.toList = nu.toList
  · by_cases hlen : ar.length = br.length
    · have hlen' := Lib.hid hlen
      have hlenI : (br.length : Int) ≤ ar.length ∧ (ar.length : Int) ≤ br.length := by omega
      obtain ⟨l1, l2⟩ := hlenI
      have hbeq : (nm.toList == nu.toList) = true := by simp [hn]
      have G := Lib.hid (show sameT (.mk nm ar) (.mk nu br) = sameTL ar br by rw [sameT]; simp [hn, hlen])
      have hlq : (ar.length == br.length) = true := by simp [hlen]
      have hlnq : ((ar.length : Int) != br.length) = false := by simp [hlen]
      have hnq : (nm.toList != nu.toList) = false := by simp [hn]
      clear hn hlen
      go_enter Tryz.func120, Tryz.ntmps120
      go_wp2_with fail
      go_loopw [5] (fun i wr => ∃ k : Nat, k ≤ ar.length ∧ i = .int .i64 k ∧ Hid (sameTL (ar.drop k) (br.drop k) = sameTL ar br) ∧ wr.heap[w.heap.size]? = some (.cells #[.string nm, .slice A ar.length cap] 36) ∧ wr.heap[w.heap.size + 1]? = some (.cells #[.string nu, .slice B br.length dap] 36) ∧ Below w.heap.size w wr) (fun i _ => ar.length - (intOf i).toNat)
      case atStart => exact ⟨0, by omega, rfl, by show sameTL _ _ = _; simp, hB, hD, hb⟩
      case round =>
        obtain ⟨k, hk, rfl, hI, hBr, hDr, hbel⟩ := hrel
        obtain ⟨x0, x1⟩ := box2 hBr
        obtain ⟨y0, y1⟩ := box2 hDr
        have ls := blk_lt hDr
        by_cases hlt : k < ar.length
        · have hlt' : k < br.length := by omega
          obtain ⟨b, o, A', cap', rfl, e0, e1, rt⟩ := hr.get k hlt
          obtain ⟨b', o', B', dap', rfl, f0, f1, rq⟩ := gr.get k hlt'
          have hw := H.below hbel
          have hc0 := hw.cell _ _ e0
          have hc1 := hw.cell _ _ e1
          have hd0 := hw.cell _ _ f0
          have hd1 := hw.cell _ _ f1
          have hI' : Hid ((sameT ar[k] br[k] && sameTL (ar.drop (k + 1)) (br.drop (k + 1))) = sameTL ar br) := by
            have := hI.out
            rw [List.drop_eq_getElem_cons hlt, List.drop_eq_getElem_cons hlt', sameTL] at this
            exact this
          have ht' := Lib.hid (show ar[k].sz ≤ m by have h1 := ht; have h2 := Ty.sz_at ar k hlt; simp only [Ty.sz] at h1; omega)
          clear ht hI
          go_wp2_with fail
          go_region_held3 (fun W => W.cell? ⟨w.heap.size, 1, none⟩ = some (.slice (some ⟨b, o, none⟩) ar.length cap) ∧ W.cell? ⟨w.heap.size + 1, 1, none⟩ = some (.slice (some ⟨b', o', none⟩) br.length dap) ∧ W.cell? ⟨b, o + k * 2, none⟩ = some (.string ar[k].nm) ∧ W.cell? ⟨b, o + k * 2 + 1, none⟩ = some (.slice A' ar[k].ar.length cap') ∧ W.cell? ⟨b', o' + k * 2, none⟩ = some (.string br[k].nm) ∧ W.cell? ⟨b', o' + k * 2 + 1, none⟩ = some (.slice B' br[k].ar.length dap'))
            (first | go_keep | (go_split_ands; exact ⟨cell_below ‹_› b1, cell_below ‹_› b1, cell_below ‹_› b1, cell_below ‹_› b1, cell_below ‹_› b1, cell_below ‹_› b1⟩) | fail)
            (first | (go_at_call 120; refine (IH.out ar[k] br[k] ht'.out _ _ _ h hw.drew rt rq).mono ?_; rintro e w1 ⟨rfl, b1⟩) | fail)
          have b1' := undrew b1
          have hB1 := box_below hBr b1'
          have hD1 := box_below hDr b1'
          cases hs : sameT ar[k] br[k]
          · have hI2 : Hid (sameTL ar br = false) := by have := hI'.out; rw [hs] at this; exact this.symm
            clear hs hI'
            go_wp2_with fail
            go_ret
            exact ⟨ret_bool (by rw [G.out, hI2.out]), below_then hbel b1' (by omega)⟩
          · have hI2 : Hid (sameTL (ar.drop (k + 1)) (br.drop (k + 1)) = sameTL ar br) := by have := hI'.out; rw [hs] at this; exact this
            clear hs hI'
            go_wp2_with fail
            exact ⟨⟨k + 1, by omega, by go_num, hI2, hB1, hD1, below_then hbel b1' (by omega)⟩, by simp [intOf]; omega⟩
        · have hI2 : Hid (sameTL ar br = true) := by
            have := hI.out
            rw [List.drop_eq_nil_of_le (by omega), List.drop_eq_nil_of_le (by omega)] at this
            exact this.symm
          clear hI
          go_wp2_with fail
          go_ret
          exact ⟨ret_bool (by rw [G.out, hI2.out]), hbel⟩
    · have G := Lib.hid (show sameT (.mk nm ar) (.mk nu br) = false by rw [sameT]; simp [hlen])
      have hbeq : (nm.toList == nu.toList) = true := by simp [hn]
      have hnq : (nm.toList != nu.toList) = false := by simp [hn]
      have hlnq : ((ar.length : Int) != br.length) = true := by simp; omega
      clear hn hlen
      go_enter Tryz.func120, Tryz.ntmps120
      go_wp2_with fail
      go_ret
      exact ⟨ret_bool G.out.symm, hb⟩
  · have G := Lib.hid (show sameT (.mk nm ar) (.mk nu br) = false by rw [sameT]; simp [hn])
    have hnq : (nm.toList != nu.toList) = true := by simp [hn]
    have hbeq : (nm.toList == nu.toList) = false := by simp [hn]
    clear hn
    go_enter Tryz.func120, Tryz.ntmps120
    go_wp2_with fail
    go_ret
    exact ⟨ret_bool G.out.symm, hb⟩
def sameTy (t u : Ty) : Bool := formTy t == 0 && formTy u == 0 && sameT t u
set_option maxRecDepth 100000 in
set_option maxHeartbeats 4000000 in
theorem SameType_calls (t u : Ty) (cs ds : List Value) (w : World) (h : Snap) (H : Has w h) (r : TyR h t cs) (q : TyR h u ds) :
    Calls Tryz.prog 43 #[.agg cs.toArray, .agg ds.toArray] w fun e w' => e = .returned (.bool (sameTy t u)) ∧ Below w.heap.size w w' := by
  obtain ⟨A, cap, rfl, hl, hm, hr⟩ := r.open_
  obtain ⟨B, dap, rfl, gl, gm, gr⟩ := q.open_
  have hu36 := Tryz.underlying36
  have hb := ((Below.refl w.heap.size w).alloc (Nat.le_refl _) (.cells #[.string t.nm, .slice A t.ar.length cap] 36)).alloc (by simp) (.cells #[.string u.nm, .slice B u.ar.length dap] 36)
  have hB := blk_alloc (blk_new w (.cells #[.string t.nm, .slice A t.ar.length cap] 36)) (.cells #[.string u.nm, .slice B u.ar.length dap] 36)
  have hD := blk_new (w.alloc (.cells #[.string t.nm, .slice A t.ar.length cap] 36)) (.cells #[.string u.nm, .slice B u.ar.length dap] 36)
  simp only [World.size_alloc] at hD
  have G := Lib.hid (show sameTy t u = (formTy t == 0 && formTy u == 0 && sameT t u) from rfl)
  go_enter Tryz.func43, Tryz.ntmps43
  go_wp2_with fail
  refine (FormType_calls t _ _ h (H.below hb) r).mono ?_
  rintro e w1 ⟨rfl, b1⟩
  have hb1 := below_then hb b1 (by simp <;> omega)
  have hB1 := box_below hB b1
  have hD1 := box_below hD b1
  obtain ⟨x0, x1⟩ := box2 hB1
  obtain ⟨x2, x3⟩ := box2 hD1
  cases c1 : (formTy t == 0)
  · have G' := Lib.hid (show sameTy t u = false by rw [G.out, c1]; rfl)
    clear G
    go_wp2_with fail
    go_ret
    exact ⟨ret_bool G'.out.symm, hb1⟩
  have G' := Lib.hid (show sameTy t u = (formTy u == 0 && sameT t u) by rw [G.out, c1]; rfl)
  clear G
  go_wp2_with fail
  refine (FormType_calls u _ _ h (H.below hb1) q).mono ?_
  rintro e w2 ⟨rfl, b2⟩
  have hb2 := below_then hb1 b2 (by have := hb1.size; omega)
  have hB2 := box_below hB1 b2
  have hD2 := box_below hD1 b2
  obtain ⟨y0, y1⟩ := box2 hB2
  obtain ⟨y2, y3⟩ := box2 hD2
  cases c2 : (formTy u == 0)
  · have G := Lib.hid (show sameTy t u = false by rw [G'.out, c2]; rfl)
    clear G'
    go_wp2_with fail
    go_ret
    exact ⟨ret_bool G.out.symm, hb2⟩
  have G := Lib.hid (show sameTy t u = sameT t u by rw [G'.out, c2]; rfl)
  clear G'
  go_wp2_with fail
  refine (same_calls _ t u (Nat.le_refl _) _ _ _ h (H.below hb2) r q).mono ?_
  rintro e w3 ⟨rfl, b3⟩
  have hb3 := below_then hb2 b3 (by have := hb2.size; omega)
  go_wp2_with fail
  go_ret
  exact ⟨ret_bool G.out.symm, hb3⟩
end Go.Proofs.YtpgbeapojjinmaaGreatDoor
namespace Go.Proofs.YtpgbeapojjinmaaGreatDoor
open Go.RowKit Go.Proofs.YtpgbeapojjinmaaGreatDoorW.PrintLast
/-- The first place of a string, or -1. -/
def idxS : List ByteArray → ByteArray → Int → Int
  | [], _, _ => -1
  | x :: l, s, i => if x.toList = s.toList then i else idxS l s (i + 1)
set_option maxRecDepth 100000 in
set_option maxHeartbeats 4000000 in
theorem Index_calls (ss : List ByteArray) (s : ByteArray) (v : Value) (w : World) (h : Snap) (H : Has w h) (r : StS h ss v) :
    Calls Tryz.prog 178 #[v, .string s] w fun e w' => e = .returned (.int .i64 (idxS ss s 0)) ∧ w' = w := by
  obtain ⟨A, cap, rfl, hl, hm, hr⟩ := r
  unfold lim at hm
  go_enter Tryz.func178, Tryz.ntmps178
  go_wp2_with fail
  go_loop [5] (fun i => ∃ k : Nat, k ≤ ss.length ∧ i = .int .i64 k ∧ Hid (idxS (ss.drop k) s k = idxS ss s 0)) (fun i => ss.length - (intOf i).toNat)
  case atStart => exact ⟨0, by omega, rfl, by show idxS _ _ _ = _; simp⟩
  case round =>
    obtain ⟨k, hk, rfl, hI⟩ := hrel
    by_cases hlt : k < ss.length
    · obtain ⟨b, o, rfl, e0⟩ := hr k hlt
      have hc0 := H.cell _ _ e0
      by_cases hs : ss[k].toList = s.toList
      · have hI' : Hid ((k : Int) = idxS ss s 0) := by
          have := hI.out
          rw [List.drop_eq_getElem_cons hlt, idxS, if_pos hs] at this
          exact this
        have hb : (ss[k].toList == s.toList) = true := by simp [hs]
        clear hs hI
        go_wp2_with fail
        go_ret
        exact ⟨ret_int hI'.out, rfl⟩
      · have hI' : Hid (idxS (ss.drop (k + 1)) s ((k + 1 : Nat) : Int) = idxS ss s 0) := by
          have := hI.out
          rw [List.drop_eq_getElem_cons hlt, idxS, if_neg hs] at this
          exact this
        have hb : (ss[k].toList == s.toList) = false := by simp [hs]
        clear hs hI
        go_wp2_with fail
        go_round
        case rel => exact ⟨k + 1, by omega, by go_num, hI'⟩
        case measure => simp [intOf]; omega
    · have hI' : Hid (-1 = idxS ss s 0) := by
        have := hI.out
        rw [List.drop_eq_nil_of_le (by omega), idxS] at this
        exact this
      go_wp2_with fail
      go_ret
      exact ⟨ret_int hI'.out, rfl⟩
theorem idxS_ge : ∀ (l : List ByteArray) (s : ByteArray) (i : Int), 0 ≤ i → (0 ≤ idxS l s i ↔ l.any (fun x => x.toList == s.toList) = true)
  | [], s, i, h => by simp [idxS]
  | x :: l, s, i, h => by
    rw [idxS]
    by_cases c : x.toList = s.toList
    · rw [if_pos c]; simp [c, h]
    · rw [if_neg c, idxS_ge l s (i + 1) (by omega)]; simp [c]
def baseIn (ss : List ByteArray) (s : ByteArray) : Bool := ss.any (fun x => x.toList == s.toList)
/-- 'based', of a formed type. -/
def basedT (ss : List ByteArray) : Ty → Bool
  | .mk nm l => if arrB nm then (match l with | [a, b] => basedT ss a && basedT ss b | _ => false) else baseIn ss nm
theorem basedT_two {ss : List ByteArray} {nm : ByteArray} {a b : Ty} (h : arrB nm = true) : basedT ss (.mk nm [a, b]) = (basedT ss a && basedT ss b) := by rw [basedT, if_pos h]
theorem basedT_leaf {ss : List ByteArray} {nm : ByteArray} {l : List Ty} (h : arrB nm = false) : basedT ss (.mk nm l) = baseIn ss nm := by unfold basedT; simp [h]
theorem formedT_inv {nm : ByteArray} {l : List Ty} (h : arrB nm = true) (hf : formedT (.mk nm l) = true) : ∃ a b, l = [a, b] ∧ formedT a = true ∧ formedT b = true := by
  match l with
  | [] => simp [formedT, h] at hf
  | [a] => simp [formedT, h] at hf
  | [a, b] => rw [formedT_two h, Bool.and_eq_true] at hf; exact ⟨a, b, rfl, hf.1, hf.2⟩
  | a :: b :: c :: d => simp [formedT, h] at hf
set_option maxRecDepth 100000 in
set_option maxHeartbeats 4000000 in
theorem based_calls (ss : List ByteArray) (v : Value) : ∀ (n : Nat) (t : Ty) (_ : t.sz ≤ n) (cs : List Value) (w : World) (h : Snap) (H : Has w h) (rs : StS h ss v) (r : TyR h t cs) (hf : formedT t = true),
    Calls Tryz.prog 118 #[v, .agg cs.toArray] w fun e w' => e = .returned (.bool (basedT ss t)) ∧ Below w.heap.size w w' := by
  intro n
  induction n with
  | zero => intro t ht; have := t.sz_pos; omega
  | succ n ih =>
  rintro ⟨nm, ar⟩ ht cs w h H rs ⟨A, cap, rfl, hl, hm, hr⟩ hf
  have hu36 := Tryz.underlying36
  have IH := Lib.hid ih
  clear ih
  unfold lim at hm
  have hb := (Below.refl w.heap.size w).alloc (Nat.le_refl _) (.cells #[.string nm, .slice A ar.length cap] 36)
  obtain ⟨As, ks, rfl, _⟩ := id rs
  have rs' := Lib.hid rs
  cases ha : arrB nm
  · obtain ⟨q1, q2⟩ := arr_f ha
    have G := Lib.hid (show decide (0 ≤ idxS ss nm 0) = basedT ss (.mk nm ar) by rw [basedT_leaf ha, baseIn, Bool.eq_iff_iff, decide_eq_true_iff]; exact idxS_ge ss nm 0 (by omega))
    clear rs
    go_enter Tryz.func118, Tryz.ntmps118
    go_wp2_with fail
    refine (Index_calls ss nm _ _ h (H.below hb) rs'.out).mono ?_
    rintro e w1 ⟨rfl, rfl⟩
    generalize idxS ss nm 0 = z at *
    go_wp2_with fail
    go_ret
    exact ⟨ret_bool G.out, hb⟩
  · obtain ⟨q1, q2⟩ := arr_t ha
    obtain ⟨a, b, rfl, fa, fb⟩ := formedT_inv ha hf
    have fa' := Lib.hid fa
    have fb' := Lib.hid fb
    clear hf fa fb rs
    obtain ⟨b0, o, A0, c0, A1, c1, rfl, e0, e1, e2, e3, r0, r1⟩ := hr.two
    have hc0 := H.cell _ _ e0
    have hc1 := H.cell _ _ e1
    have hc2 := H.cell _ _ e2
    have hc3 := H.cell _ _ e3
    have lb := H.lt e0
    go_enter Tryz.func118, Tryz.ntmps118
    go_wp2_with fail
    refine (IH.out a ?_ _ _ h (H.alloc _) rs'.out r0 fa'.out).mono ?_
    · simp only [Ty.sz, Ty.szL] at ht; omega
    rintro e w1 ⟨rfl, b1⟩
    obtain ⟨hq, hz⟩ := bcell b1
    cases hfa : basedT ss a
    · go_wp2_with fail
      go_ret
      exact ⟨by rw [basedT_two ha, hfa]; rfl, below_then hb b1 (by simp)⟩
    go_wp2_with fail
    refine (IH.out b ?_ _ _ h ((H.alloc _).below b1) rs'.out r1 fb'.out).mono ?_
    · simp only [Ty.sz, Ty.szL] at ht; omega
    rintro e w2 ⟨rfl, b2⟩
    go_wp2_with fail
    go_ret
    exact ⟨by rw [basedT_two ha, hfa]; rfl, below_then (below_then hb b1 (by simp)) b2 (by have := b1.size; simp at this; omega)⟩
/-- A program, as it is read: its base types and its constants (the rest is not looked into). -/
structure Pg where
  types : List ByteArray
  consts : List (ByteArray × Ty)
def CoL (h : Snap) (A : Option Addr) (cs : List (ByteArray × Ty)) : Prop := ∀ j (hj : j < cs.length), ∃ b o A' cap', A = some ⟨b, o, none⟩ ∧ h ⟨b, o + j * 3, none⟩ = some (.string cs[j].1) ∧ h ⟨b, o + j * 3 + 1, none⟩ = some (.string cs[j].2.nm) ∧ h ⟨b, o + j * 3 + 2, none⟩ = some (.slice A' cs[j].2.ar.length cap') ∧
  TyR h cs[j].2 [.string cs[j].2.nm, .slice A' cs[j].2.ar.length cap']
def CoS (h : Snap) (cs : List (ByteArray × Ty)) (v : Value) : Prop := ∃ A cap, v = .slice A cs.length cap ∧ cs.length ≤ cap ∧ cs.length ≤ lim ∧ CoL h A cs
/-- The cells of a program. -/
def PgR (h : Snap) (p : Pg) (cs : List Value) : Prop := ∃ v0 v1 A2 n2 c2 A3 n3 c3 A4 n4 c4, cs = [v0, v1, .slice A2 n2 c2, .slice A3 n3 c3, .slice A4 n4 c4] ∧ StS h p.types v0 ∧ CoS h p.consts v1
theorem PgR.sub {h h' : Snap} {p : Pg} {cs : List Value} (r : PgR h p cs) (s : Sub h h') : PgR h' p cs := by
  obtain ⟨v0, v1, A2, n2, c2, A3, n3, c3, A4, n4, c4, rfl, r0, A, c, rfl, l, m, k⟩ := r
  exact ⟨v0, _, A2, n2, c2, A3, n3, c3, A4, n4, c4, rfl, r0.sub s, A, c, rfl, l, m, fun j hj => by
    obtain ⟨b, o, A', c', e, q0, q1, q2, q⟩ := k j hj
    exact ⟨b, o, A', c', e, s.at_ _ _ q0, s.at_ _ _ q1, s.at_ _ _ q2, q.sub s⟩⟩
def checkTy (ss : List ByteArray) (t : Ty) : Int := if formTy t = 0 then (if basedT ss t then 0 else 40) else formTy t
theorem formTy_formed {t : Ty} (h : formTy t = 0) : formedT t = true := by
  unfold formTy at h
  split at h
  · cases h
  · split at h
    · cases h
    · split at h
      · assumption
      · cases h
set_option maxRecDepth 100000 in
set_option maxHeartbeats 4000000 in
theorem RCheckType_calls (p : Pg) (t : Ty) (ps cs : List Value) (w : World) (h : Snap) (H : Has w h) (rp : PgR h p ps) (r : TyR h t cs) :
    Calls Tryz.prog 41 #[.agg ps.toArray, .agg cs.toArray] w fun e w' => e = .returned (.int .i64 (checkTy p.types t)) ∧ Below w.heap.size w w' := by
  obtain ⟨A, cap, rfl, hl, hm, hr⟩ := r.open_
  obtain ⟨v0, v1, A2, n2, c2, A3, n3, c3, A4, n4, c4, rfl, rt, rc⟩ := rp
  obtain ⟨At, kt, rfl, _⟩ := id rt
  obtain ⟨Ac, kc, rfl, _⟩ := id rc
  have rt' := Lib.hid rt
  clear rt rc
  have hu36 := Tryz.underlying36
  have hu28 := Tryz.underlying28
  obtain ⟨o1, ho1⟩ : ∃ o, o = Obj.cells #[.slice At p.types.length kt, .slice Ac p.consts.length kc, .slice A2 n2 c2, .slice A3 n3 c3, .slice A4 n4 c4] 28 := ⟨_, rfl⟩
  have hb := ((Below.refl w.heap.size w).alloc (Nat.le_refl _) o1).alloc (by simp) (.cells #[.string t.nm, .slice A t.ar.length cap] 36)
  have hB := blk_alloc (blk_new w o1) (.cells #[.string t.nm, .slice A t.ar.length cap] 36)
  have hD := blk_new (w.alloc o1) (.cells #[.string t.nm, .slice A t.ar.length cap] 36)
  simp only [World.size_alloc] at hD
  subst ho1
  go_enter Tryz.func41, Tryz.ntmps41
  go_wp2_with fail
  refine (FormType_calls t _ _ h (H.below hb) r).mono ?_
  rintro e w1 ⟨rfl, b1⟩
  have hb1 := below_then hb b1 (by simp <;> omega)
  have x1 := (blk_cell (box_below hB b1) 0).trans rfl
  obtain ⟨x2, x3⟩ := box2 (box_below hD b1)
  by_cases c1 : formTy t = 0
  · have ff := Lib.hid (formTy_formed c1)
    have G := Lib.hid (show checkTy p.types t = if basedT p.types t then 0 else 40 by rw [checkTy, if_pos c1])
    have cq : (formTy t == 0) = true := by simp [c1]
    have G0 := Lib.hid c1
    clear c1
    go_wp2_with fail
    refine (based_calls p.types _ _ t (Nat.le_refl _) _ _ h (H.below hb1) rt'.out r ff.out).mono ?_
    rintro e w2 ⟨rfl, b2⟩
    have hb2 := below_then hb1 b2 (by have := hb1.size; omega)
    cases cb : basedT p.types t
    · have G' := Lib.hid (show checkTy p.types t = 40 by rw [G.out, cb]; rfl)
      go_wp2_with fail
      go_ret
      exact ⟨ret_int G'.out.symm, hb2⟩
    · have G' := Lib.hid (show formTy t = checkTy p.types t by rw [G.out, cb, G0.out]; rfl)
      go_wp2_with fail
      go_ret
      exact ⟨ret_int G'.out, hb2⟩
  · have G := Lib.hid (show formTy t = checkTy p.types t by rw [checkTy, if_neg c1])
    have cq : (formTy t == 0) = false := by simp [c1]
    clear c1
    go_wp2_with fail
    go_ret
    exact ⟨ret_int G.out, hb1⟩
def sameTys : List Ty → List Ty → Bool
  | a :: l, b :: k => sameTy a b && sameTys l k
  | _, _ => true
set_option maxRecDepth 100000 in
set_option maxHeartbeats 4000000 in
theorem SameTypes_calls (l k : List Ty) (v u : Value) (w : World) (h : Snap) (H : Has w h) (r : TyS h l v) (q : TyS h k u) :
    Calls Tryz.prog 36 #[v, u] w fun e w' => e = .returned (.bool (l.length == k.length && sameTys l k)) ∧ Below w.heap.size w w' := by
  obtain ⟨A, cap, rfl, hl, hm, hr⟩ := r
  obtain ⟨B, dap, rfl, gl, gm, gr⟩ := q
  have hu36 := Tryz.underlying36
  unfold lim at hm gm
  by_cases hlen : l.length = k.length
  · have hlnq : ((l.length : Int) != k.length) = false := by simp [hlen]
    have hl1 : l.length ≤ k.length := by omega
    have hl2 : k.length ≤ l.length := by omega
    have G := Lib.hid (show (l.length == k.length && sameTys l k) = sameTys l k by simp [hlen])
    clear hlen
    go_enter Tryz.func36, Tryz.ntmps36
    go_wp2_with fail
    go_loopw [5] (fun i wr => ∃ j : Nat, j ≤ l.length ∧ i = .int .i64 j ∧ Hid (sameTys (l.drop j) (k.drop j) = sameTys l k) ∧ Below w.heap.size w wr) (fun i _ => l.length - (intOf i).toNat)
    case atStart => exact ⟨0, by omega, rfl, by show sameTys _ _ = _; simp, Below.refl _ _⟩
    case round =>
      obtain ⟨j, hj, rfl, hI, hbel⟩ := hrel
      by_cases hlt : j < l.length
      · have hlt' : j < k.length := by omega
        obtain ⟨b, o, A', cap', rfl, e0, e1, rt⟩ := hr.get j hlt
        obtain ⟨b', o', B', dap', rfl, f0, f1, rq⟩ := gr.get j hlt'
        have hw := H.below hbel
        have hc0 := hw.cell _ _ e0
        have hc1 := hw.cell _ _ e1
        have hd0 := hw.cell _ _ f0
        have hd1 := hw.cell _ _ f1
        have hI' : Hid ((sameTy l[j] k[j] && sameTys (l.drop (j + 1)) (k.drop (j + 1))) = sameTys l k) := by
          have := hI.out
          rw [List.drop_eq_getElem_cons hlt, List.drop_eq_getElem_cons hlt', sameTys] at this
          exact this
        clear hI
        go_wp2_with fail
        go_region_held3 (fun W => W.cell? ⟨b, o + j * 2, none⟩ = some (.string l[j].nm) ∧ W.cell? ⟨b, o + j * 2 + 1, none⟩ = some (.slice A' l[j].ar.length cap') ∧ W.cell? ⟨b', o' + j * 2, none⟩ = some (.string k[j].nm) ∧ W.cell? ⟨b', o' + j * 2 + 1, none⟩ = some (.slice B' k[j].ar.length dap'))
          (first | go_keep | (go_split_ands; exact ⟨cell_below ‹_› b1, cell_below ‹_› b1, cell_below ‹_› b1, cell_below ‹_› b1⟩) | fail)
          (first | (go_at_call 43; refine (SameType_calls l[j] k[j] _ _ _ h hw.drew rt rq).mono ?_; rintro e w1 ⟨rfl, b1⟩) | fail)
        have b1' := undrew b1
        cases hs : sameTy l[j] k[j]
        · have hI2 : Hid (sameTys l k = false) := by have := hI'.out; rw [hs] at this; exact this.symm
          clear hs hI'
          go_wp2_with fail
          go_ret
          exact ⟨ret_bool (by rw [G.out, hI2.out]), below_then hbel b1' hbel.size⟩
        · have hI2 : Hid (sameTys (l.drop (j + 1)) (k.drop (j + 1)) = sameTys l k) := by have := hI'.out; rw [hs] at this; exact this
          clear hs hI'
          go_wp2_with fail
          exact ⟨⟨j + 1, by omega, by go_num, hI2, below_then hbel b1' hbel.size⟩, by simp [intOf]; omega⟩
      · have hI2 : Hid (sameTys l k = true) := by
          have := hI.out
          rw [List.drop_eq_nil_of_le (by omega), List.drop_eq_nil_of_le (by omega)] at this
          exact this.symm
        clear hI
        go_wp2_with fail
        go_ret
        exact ⟨ret_bool (by rw [G.out, hI2.out]), hbel⟩
  · have hlnq : ((l.length : Int) != k.length) = true := by simp; omega
    have G := Lib.hid (show (l.length == k.length && sameTys l k) = false by simp [hlen])
    clear hlen
    go_enter Tryz.func36, Tryz.ntmps36
    go_wp2_with fail
    go_ret
    exact ⟨ret_bool G.out.symm, Below.refl _ _⟩
end Go.Proofs.YtpgbeapojjinmaaGreatDoor
