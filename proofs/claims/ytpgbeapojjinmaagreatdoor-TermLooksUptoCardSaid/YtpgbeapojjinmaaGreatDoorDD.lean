/- term.rebuilt. No law is proved here. -/
import Derived.Test.YtpgbeapojjinmaaGreatDoorCC
set_option linter.unusedVariables false
set_option linter.unusedSimpArgs false
namespace Go.Proofs.YtpgbeapojjinmaaGreatDoor
open Go.RowKit Go.Shelf Go.Proofs.YtpgbeapojjinmaaGreatDoorW.PrintLast
mutual
/-- A term with other heads; none where the function leaves with a fault. -/
def rebT (g : Int → Int → Int → Option Int) : Int → Tm → Option Tm
  | b, .mk k n nm ar => (g k n b).bind (fun n' => (rebL g (if k = 5 then b + 1 else b) ar).map (fun l => .mk k n' nm l))
def rebL (g : Int → Int → Int → Option Int) : Int → List Tm → Option (List Tm)
  | _, [] => some []
  | b, t :: ts => (rebT g b t).bind (fun t' => (rebL g b ts).map (fun l => t' :: l))
end
/-- How a function ends that leaves with the fault 2 or returns a number. -/
def endF : Option Int → Ending
  | some n => .returned (.int .i64 n)
  | none => .panicked (faultC 2)
/-- What a function that makes a term returns: it is left with a fault, or it makes one. -/
def MadeTm (w : World) (h : Snap) (o : Sum Int Tm) (e : Ending) (w' : World) : Prop := Below w.heap.size w w' ∧ match o with
  | .inl c => e = .panicked (faultC c)
  | .inr u => ∃ cs' h', e = .returned (.agg cs'.toArray) ∧ TmR h' u cs' ∧ Mk w h w' h'
def sumO (c : Int) : Option Tm → Sum Int Tm
  | none => .inl c
  | some u => .inr u
mutual
/-- All nodes are such. -/
def allN (p : Tm → Bool) : Tm → Bool
  | .mk k n nm ar => p (.mk k n nm ar) && allNL p ar
def allNL (p : Tm → Bool) : List Tm → Bool
  | [] => true
  | t :: ts => allN p t && allNL p ts
end
mutual
theorem allN_raw : ∀ t : Tm, allN nodeP t = rawN t
  | .mk k n nm ar => by rw [allN, rawN, allNL_raw ar]
theorem allNL_raw : ∀ l : List Tm, allNL nodeP l = rawNL l
  | [] => rfl
  | t :: ts => by rw [allNL, rawNL, allN_raw t, allNL_raw ts]
end
mutual
theorem allN_true : ∀ t : Tm, allN (fun _ => true) t = true
  | .mk k n nm ar => by rw [allN, allNL_true ar]; rfl
theorem allNL_true : ∀ l : List Tm, allNL (fun _ => true) l = true
  | [] => rfl
  | t :: ts => by rw [allNL, allN_true t, allNL_true ts]; rfl
end
/-- What is asked of the function that makes the heads, in all worlds behind w0. -/
def HeadFn (p : Tm → Bool) (w0 : World) (F : Nat) (cap : Array Value) (g : Int → Int → Int → Option Int) : Prop :=
  ∀ (t : Tm) (cs : List Value) (b : Int) (W : World) (h : Snap), Below w0.heap.size w0 W → Has W h → TmR h t cs → p t = true → 0 ≤ b → b ≤ 4611686018427387904 →
    Calls Tryz.prog F (#[.agg cs.toArray, .int .i64 b] ++ cap) W fun e w' => e = endF (g t.k t.n b) ∧ Below W.heap.size W w'
/-- Two operations may come up. -/
theorem rg2 {ops : Array Oper} {Q : Exit → Act → World → Prop} {S : World → Prop} {ds : List Nat} {a : Act} {w : World} {l : Array Bool} {fuel : Nat} (i j : Nat) {oi oj : Oper} (hi : ops[i]? = some oi) (hj : ops[j]? = some oj) (hc : (Region.ready .any ops l == [i, j]) = true) (hdi : i ∉ ds) (hdj : j ∉ ds)
    (hwi : Region.wanted oi (yielded ops a.tmps) = true) (hwj : Region.wanted oj (yielded ops a.tmps) = true)
    (h1 : ∀ K : Act → World → Prop, Shut (∀ a' w', S w' → (S w' → wpAnyLast Tryz.prog .any ops Q S ds fuel (l.setIfInBounds i true) a' w') → K a' w') → Oper.wp Tryz.prog oi a w K Q)
    (h2 : ∀ K : Act → World → Prop, Shut (∀ a' w', S w' → (S w' → wpAnyLast Tryz.prog .any ops Q S ds fuel (l.setIfInBounds j true) a' w') → K a' w') → Oper.wp Tryz.prog oj a w K Q) :
    wpAnyLast Tryz.prog .any ops Q S ds (fuel + 1) l a w :=
  two_ (l.setIfInBounds i true) (l.setIfInBounds j true) hi hj rfl rfl (by rw [hc]; simp) hdi hdj (fun K hK => by rw [if_pos hwi]; exact h1 K hK) (fun K hK => by rw [if_pos hwj]; exact h2 K hK)
theorem set4 {w : World} {b : Nat} {x0 x1 x2 x3 : Value} {T : TypeId} (hb : w.heap[b]? = some (.cells #[x0, x1, x2, x3] T)) (y0 y1 y2 y3 : Value) :
    ((((w.setCell ⟨b, 0, none⟩ y0).setCell ⟨b, 1, none⟩ y1).setCell ⟨b, 2, none⟩ y2).setCell ⟨b, 3, none⟩ y3).heap[b]? = some (.cells #[y0, y1, y2, y3] T) ∧
      Kp (fun q => q = b) w ((((w.setCell ⟨b, 0, none⟩ y0).setCell ⟨b, 1, none⟩ y1).setCell ⟨b, 2, none⟩ y2).setCell ⟨b, 3, none⟩ y3) :=
  ⟨by have := blk_set (blk_set (blk_set (blk_set hb 0 y0) 1 y1) 2 y2) 3 y3; simpa using this, (((((Kp.refl (fun q => q = b) w).set (p := ⟨b, 0, none⟩) (.inl rfl) y0).set (p := ⟨b, 1, none⟩) (.inl rfl) y1).set (p := ⟨b, 2, none⟩) (.inl rfl) y2).set (p := ⟨b, 3, none⟩) (.inl rfl) y3)⟩
theorem rebL_cons (g : Int → Int → Int → Option Int) (b : Int) (t : Tm) (ts us : List Tm) : (rebL g b (t :: ts)).map (us ++ ·) = (rebT g b t).bind (fun t' => (rebL g b ts).map ((us ++ [t']) ++ ·)) := by
  rw [rebL]
  cases rebT g b t with
  | none => rfl
  | some t' => cases rebL g b ts <;> simp
theorem allNL_at {p : Tm → Bool} : ∀ {l : List Tm}, allNL p l = true → ∀ j (hj : j < l.length), allN p l[j] = true
  | t :: ts, h, 0, _ => by rw [allNL] at h; simp at h; exact h.1
  | t :: ts, h, j + 1, hj => by rw [allNL] at h; simp at h; exact allNL_at h.2 j (by simpa using hj)
/-- How many binders stand one within the other. -/
def Tm.one (k : Int) : Nat := if k = 5 then 1 else 0
mutual
def Tm.ld : Tm → Nat | .mk k _ _ l => Tm.one k + Tm.ldL l
def Tm.ldL : List Tm → Nat | [] => 0 | t :: ts => max (Tm.ld t) (Tm.ldL ts)
end
theorem Tm.ld_at : ∀ (l : List Tm) (j : Nat) (hj : j < l.length), l[j].ld ≤ Tm.ldL l
  | t :: ts, 0, _ => by simp only [Tm.ldL, List.getElem_cons_zero]; omega
  | t :: ts, j + 1, hj => by have := Tm.ld_at ts j (by simpa using hj); simp only [Tm.ldL, List.getElem_cons_succ]; omega
theorem Tm.one_le (k : Int) : Tm.one k ≤ 1 := by unfold Tm.one; split <;> omega
mutual
theorem Tm.ld_sz : ∀ t : Tm, t.ld ≤ t.sz
  | .mk k n nm l => by have := Tm.ldL_sz l; have := Tm.one_le k; simp only [Tm.ld, Tm.sz]; omega
theorem Tm.ldL_sz : ∀ l : List Tm, Tm.ldL l ≤ Tm.szL l
  | [] => Nat.le_refl _
  | t :: ts => by have := Tm.ld_sz t; have := Tm.ldL_sz ts; simp only [Tm.ldL, Tm.szL]; omega
end
theorem Tm.ld_step {k n b : Int} {nm : ByteArray} {ar : List Tm} {B : Int} (hb : 0 ≤ b ∧ b + (Tm.mk k n nm ar).ld ≤ B) : 0 ≤ (if k = 5 then b + 1 else b) ∧ (if k = 5 then b + 1 else b) + Tm.ldL ar ≤ B := by
  have h := hb.2
  rw [Tm.ld] at h
  unfold Tm.one at h
  split at h <;> rename_i q <;> simp only [q, if_true, if_false] <;> omega
/-- The state of rebuilt's loop behind j rounds. -/
structure RebS (w : World) (h : Snap) (cs : Array Value) (kk n' : Int) (nm : ByteArray) (bo : Nat) (us : List Tm) (sv : Value) (xs : List Value) (wr : World) (h' : Snap) : Prop where
  b1 : wr.heap[w.heap.size]? = some (.cells cs 34)
  b2 : wr.heap[w.heap.size + 1]? = some (.cells #[.int .i64 0, .int .i64 0, .string ⟨#[]⟩, .slice none 0 0] 34)
  b3 : wr.heap[bo]? = some (.cells #[.int .i64 kk, .int .i64 n', .string nm, sv] 34)
  own : wr.ownsRow (bo + 1) 34 4 sv us.length xs
  ch : Chunks (TmR h') 4 us xs
  made : Mk w h wr h'
  bel : Below w.heap.size w wr
  off : Off h' (fun q => q = w.heap.size ∨ q = w.heap.size + 1 ∨ q = bo ∨ sv.ownBlock = some q)
set_option maxRecDepth 100000 in
set_option maxHeartbeats 8000000 in
theorem rebuilt_calls (p : Tm → Bool) (w0 : World) (F : Nat) (cap : Array Value) (g : Int → Int → Int → Option Int) (he : ∀ (args : Array Value) (w : World), (callFunc F args).run Tryz.prog w = .ok (.enter F args) w) (hF : HeadFn p w0 F cap g)
    (hg : ∀ (t : Tm) (b n' : Int), p t = true → -9223372036854775808 ≤ t.n ∧ t.n ≤ 9223372036854775807 → g t.k t.n b = some n' → -9223372036854775808 ≤ n' ∧ n' ≤ 9223372036854775807) :
    ∀ (m : Nat) (t : Tm) (_ : t.sz ≤ m) (b : Int) (_ : 0 ≤ b ∧ b + t.ld ≤ 4611686018427387904) (cs : List Value) (w : World) (_ : Below w0.heap.size w0 w) (h : Snap) (H : Has w h) (r : TmR h t cs) (_ : allN p t = true),
    Calls Tryz.prog 128 #[.agg cs.toArray, .int .i64 b, .func (.func F) #[] cap] w (MadeTm w h (sumO 2 (rebT g b t))) := by
  intro m
  induction m with
  | zero => intro t ht; have := t.sz_pos; omega
  | succ m ih =>
  rintro ⟨kk, nn, nm, ar⟩ ht b hb cs w hw0 h H r hraw
  obtain ⟨A, cap', rfl, hl, hlm, hk1, hn1, hr⟩ := id r
  have hu34 := Tryz.underlying34
  have IH := Lib.hid ih
  clear ih
  have hnd : p (.mk kk nn nm ar) = true := by rw [allN] at hraw; simp at hraw; exact hraw.1
  have hrl : allNL p ar = true := by rw [allN] at hraw; simp at hraw; exact hraw.2
  have ha := alloc2 w (.cells #[.int .i64 kk, .int .i64 nn, .string nm, .slice A ar.length cap'] 34) (.cells #[.int .i64 0, .int .i64 0, .string ⟨#[]⟩, .slice none 0 0] 34)
  go_enter Tryz.func128, Tryz.ntmps128
  go_wp2_with fail
  obtain ⟨W0, hW0⟩ : ∃ W0, (w.alloc (.cells #[.int .i64 kk, .int .i64 nn, .string nm, .slice A ar.length cap'] 34)).alloc (.cells #[.int .i64 0, .int .i64 0, .string ⟨#[]⟩, .slice none 0 0] 34) = W0 := ⟨_, rfl⟩
  have hsz : W0.heap.size = w.heap.size + 2 := by rw [← hW0]; simp
  rw [hW0] at ha ⊢
  clear hW0
  have hsz' := Lib.hid hsz
  clear hsz
  obtain ⟨a1, a2, ab⟩ := ha
  have c := box4 a1
  have hb2 : b ≤ 4611686018427387904 := by omega
  have hw0W := below_then hw0 ab hw0.size
  have hnewb := (alloc1 W0 (.cells #[.int .i64 0, .int .i64 0, .string ⟨#[]⟩, .slice none 0 0] 34))
  cases hgv : g kk nn b with
  | none =>
    have hreb := Lib.hid (show rebT g b (.mk kk nn nm ar) = none by rw [rebT, hgv]; rfl)
    have hgv := Lib.hid hgv
    refine rgs 11 (fun W => W.cell? ⟨w.heap.size, 0, none⟩ = some (.int .i64 kk) ∧ W.cell? ⟨w.heap.size, 1, none⟩ = some (.int .i64 nn) ∧ W.cell? ⟨w.heap.size, 2, none⟩ = some (.string nm) ∧ W.cell? ⟨w.heap.size, 3, none⟩ = some (.slice A ar.length cap')) [10] rfl ?_ (fun hS => ?_)
    · go_simp
    refine rgt 0 (.pointer (some ⟨w.heap.size, 0, none⟩)) rfl (by kernel_rfl) (fun _ _ _ h => h) rfl hS (fun W hW => by go_simp) ?_
    refine rgt 1 (.int .i64 kk) rfl (by kernel_rfl) (fun _ _ _ h => h) rfl hS (fun W hW => by obtain ⟨q1, q2, q3, q4⟩ := hW; go_simp) ?_
    refine rgt 2 (.func (.func F) #[] cap) rfl (by kernel_rfl) (fun _ _ _ h => h) rfl hS (fun W hW => by go_simp) ?_
    refine rgt 3 (.agg #[.int .i64 kk, .int .i64 nn, .string nm, .slice A ar.length cap']) rfl (by kernel_rfl) (fun _ _ _ h => h) rfl hS (fun W hW => by obtain ⟨q1, q2, q3, q4⟩ := hW; go_simp) ?_
    refine rgt 4 (.int .i64 b) rfl (by kernel_rfl) (fun _ _ _ h => h) rfl hS (fun W hW => by go_simp) ?_
    refine rgt 6 (.pointer (some ⟨w.heap.size, 2, none⟩)) rfl (by kernel_rfl) (fun _ _ _ h => h) rfl hS (fun W hW => by go_simp) ?_
    refine rgt 7 (.string nm) rfl (by kernel_rfl) (fun _ _ _ h => h) rfl hS (fun W hW => by obtain ⟨q1, q2, q3, q4⟩ := hW; go_simp) ?_
    refine rg2 5 9 rfl rfl (by kernel_rfl) (by decide) (by decide) rfl rfl (fun K hK => ?_) (fun K hK => ?_)
    · go_simp
      refine (hF (.mk kk nn nm ar) _ b W0.drew h hw0W.drew (H.below ab.drew) r hnd hb.1 hb2).mono ?_
      rintro e w1 ⟨rfl, k1⟩
      rw [show g (Tm.mk kk nn nm ar).k (Tm.mk kk nn nm ar).n b = none from hgv.out]
      exact ⟨rfl, below_then ab (undrew k1) ab.size, by rw [hreb.out]; rfl⟩
    · go_simp
      refine hK.out _ _ ?_ (fun hS => ?_)
      · obtain ⟨q1, q2, q3, q4⟩ := hS
        exact ⟨cell_alloc q1 _, cell_alloc q2 _, cell_alloc q3 _, cell_alloc q4 _⟩
      refine rg1 5 rfl (by kernel_rfl) (by decide) rfl (fun K hK => ?_)
      go_simp
      refine (hF (.mk kk nn nm ar) _ b (W0.alloc (.cells #[.int .i64 0, .int .i64 0, .string ⟨#[]⟩, .slice none 0 0] 34)).drew h (below_then hw0W hnewb.2.drew hw0W.size) ((H.below ab).below hnewb.2.drew) r hnd hb.1 hb2).mono ?_
      rintro e w1 ⟨rfl, k1⟩
      rw [show g (Tm.mk kk nn nm ar).k (Tm.mk kk nn nm ar).n b = none from hgv.out]
      exact ⟨rfl, below_then (below_then ab hnewb.2 ab.size) (undrew k1) (below_then ab hnewb.2 ab.size).size, by rw [hreb.out]; rfl⟩
  | some n' =>
    have hreb := Lib.hid (show rebT g b (.mk kk nn nm ar) = (rebL g (if kk = 5 then b + 1 else b) ar).map (fun l => .mk kk n' nm l) by rw [rebT, hgv]; rfl)
    have hn' := hg (.mk kk nn nm ar) b n' hnd hn1 hgv
    have hgv := Lib.hid hgv
    refine rgs 11 (fun W => W.cell? ⟨w.heap.size, 0, none⟩ = some (.int .i64 kk) ∧ W.cell? ⟨w.heap.size, 1, none⟩ = some (.int .i64 nn) ∧ W.cell? ⟨w.heap.size, 2, none⟩ = some (.string nm) ∧ W.cell? ⟨w.heap.size, 3, none⟩ = some (.slice A ar.length cap')) [10] rfl ?_ (fun hS => ?_)
    · go_simp
    refine rgt 0 (.pointer (some ⟨w.heap.size, 0, none⟩)) rfl (by kernel_rfl) (fun _ _ _ h => h) rfl hS (fun W hW => by go_simp) ?_
    refine rgt 1 (.int .i64 kk) rfl (by kernel_rfl) (fun _ _ _ h => h) rfl hS (fun W hW => by obtain ⟨q1, q2, q3, q4⟩ := hW; go_simp) ?_
    refine rgt 2 (.func (.func F) #[] cap) rfl (by kernel_rfl) (fun _ _ _ h => h) rfl hS (fun W hW => by go_simp) ?_
    refine rgt 3 (.agg #[.int .i64 kk, .int .i64 nn, .string nm, .slice A ar.length cap']) rfl (by kernel_rfl) (fun _ _ _ h => h) rfl hS (fun W hW => by obtain ⟨q1, q2, q3, q4⟩ := hW; go_simp) ?_
    refine rgt 4 (.int .i64 b) rfl (by kernel_rfl) (fun _ _ _ h => h) rfl hS (fun W hW => by go_simp) ?_
    refine rgt 6 (.pointer (some ⟨w.heap.size, 2, none⟩)) rfl (by kernel_rfl) (fun _ _ _ h => h) rfl hS (fun W hW => by go_simp) ?_
    refine rgt 7 (.string nm) rfl (by kernel_rfl) (fun _ _ _ h => h) rfl hS (fun W hW => by obtain ⟨q1, q2, q3, q4⟩ := hW; go_simp) ?_
    refine join_ (σ := Nat) 1 #[true, true, true, true, true, true, true, true, true, true, false] (fun bo => [(15, .int .i64 n'), (18, .agg #[.int .i64 kk, .int .i64 n', .string nm, .slice none 0 0]), (7, .pointer (some ⟨bo, 0, none⟩))])
      (fun bo W => W.heap[w.heap.size]? = some (.cells #[.int .i64 kk, .int .i64 nn, .string nm, .slice A ar.length cap'] 34) ∧ W.heap[w.heap.size + 1]? = some (.cells #[.int .i64 0, .int .i64 0, .string ⟨#[]⟩, .slice none 0 0] 34) ∧ W.heap[bo]? = some (.cells #[.int .i64 0, .int .i64 0, .string ⟨#[]⟩, .slice none 0 0] 34) ∧ w.heap.size + 2 ≤ bo ∧ Below w.heap.size w W ∧ Has W h) ?_ (fun hcont => ?_)
    · rintro bo W ⟨a1, a2, a3, hbo, bel, hasW⟩
      refine norm_ (a' := ?_) ?_ ?_
      rotate_left
      · simp only [putAll, Act.put, List.setIfInBounds_toArray, List.set_cons_zero, List.set_cons_succ]
        rfl
      refine rgl 10 rfl (by kernel_rfl) (by decide) rfl (fun K hK => ?_)
      have c3 := box4 a3
      have f3 := blk_frozen a3
      have l3 := blk_lt a3
      go_simp
      refine hK.out _ _ ?_
      refine rgd (by kernel_rfl) ?_
      obtain ⟨W4, hW4, b3, kp4⟩ : ∃ W4, ((((W.setCell ⟨bo, 0, none⟩ (.int .i64 kk)).setCell ⟨bo, 1, none⟩ (.int .i64 n')).setCell ⟨bo, 2, none⟩ (.string nm)).setCell ⟨bo, 3, none⟩ (.slice none 0 0)) = W4 ∧
          W4.heap[bo]? = some (.cells #[.int .i64 kk, .int .i64 n', .string nm, .slice none 0 0] 34) ∧ Kp (fun q => q = bo) W W4 := ⟨_, rfl, (set4 a3 _ _ _ _).1, (set4 a3 _ _ _ _).2⟩
      rw [hW4]
      have b1 := blk_kp a1 kp4 (by omega)
      have b2 := blk_kp a2 kp4 (by omega)
      have bel4 : Below w.heap.size w W4 := ((Kp.of_below (fun q => q = bo) bel).trans kp4 (fun i hi e => e)).below (fun i hi e => by omega)
      have has4 := H.below bel4
      have l3 := blk_lt b3
      have hoff : Off h (fun q => q = w.heap.size ∨ q = w.heap.size + 1 ∨ q = bo ∨ (Value.slice none 0 0).ownBlock = some q) := H.off_new (fun q hq => by
        rcases hq with hq | hq | hq | hq
        · omega
        · omega
        · omega
        · simp [Value.ownBlock] at hq)
      clear hW4 hK c3 f3 a1 a2 a3 bel hasW kp4 hS c hnewb ab hw0W H
      obtain ⟨B1, hB1⟩ : ∃ B1 : Int, (if kk = 5 then b + 1 else b) = B1 := ⟨_, rfl⟩
      have G := Lib.hid (hB1 ▸ hreb.out)
      have hB2 : 0 ≤ B1 ∧ B1 + Tm.ldL ar ≤ 4611686018427387904 := by rw [← hB1]; exact Tm.ld_step hb
      have hq : ((kk == 5) = true ∧ b + 1 = B1) ∨ ((kk == 5) = false ∧ B1 = b) := by
        by_cases q : kk = 5
        · rw [if_pos q] at hB1; exact .inl ⟨by simp [q], hB1⟩
        · rw [if_neg q] at hB1; exact .inr ⟨by simp [q], hB1.symm⟩
      clear hB1 hreb hgv
      obtain ⟨f, hf1, hf2, hf3⟩ : ∃ f : List Tm → List Tm → Option (List Tm), Hid (∀ us, f [] us = some us) ∧ Hid (∀ t ts us, f (t :: ts) us = (rebT g B1 t).bind (fun t' => f ts (us ++ [t']))) ∧
          Hid (rebT g b (.mk kk nn nm ar) = (f ar []).map (fun l => .mk kk n' nm l)) := ⟨fun ts us => (rebL g B1 ts).map (us ++ ·), by show ∀ _, _; intro us; simp [rebL], by show ∀ _ _ _, _; intro t ts us; exact rebL_cons g B1 t ts us, by show _ = _; rw [G.out]; show _ = Option.map _ (Option.map _ (rebL g B1 ar)); generalize rebL g B1 ar = q; cases q <;> rfl⟩
      clear G
      rcases hq with ⟨q5, hB1⟩ | ⟨q5, rfl⟩
      all_goals (have hb1 : B1 + 1 ≤ 4611686018427387904 + 1 := by omega)
      all_goals (have x1 := box4 b1)
      all_goals (go_wp2_with fail)
      all_goals
        go_loopw [27] (fun i wr => ∃ us sv xs h', us.length ≤ ar.length ∧ i = .int .i64 us.length ∧ RebS w h #[.int .i64 kk, .int .i64 nn, .string nm, .slice A ar.length cap'] kk n' nm bo us sv xs wr h' ∧ Hid (f (ar.drop us.length) us = f ar [])) (fun i _ => ar.length - (intOf i).toNat)
        case atStart => exact ⟨[], .slice none 0 0, [], h, by simp, rfl, ⟨b1, b2, b3, World.ownsRow_nil .., .nil, Mk.refl has4, bel4, hoff⟩, by show _ = _; simp⟩
        case round =>
          obtain ⟨us, sv, xs, h', hj, rfl, hC, hI⟩ := hrel
          have ls := blk_lt hC.b3
          obtain ⟨As, ks, rfl⟩ := own_form hC.own
          by_cases hlt : us.length < ar.length
          · obtain ⟨b', o, A', c', rfl, e0, e1, e2, e3, rt⟩ := hr.get us.length hlt
            have hw := hC.made.has.sub hC.made.sub
            have hc0 := hw.cell _ _ e0
            have hc1 := hw.cell _ _ e1
            have hc2 := hw.cell _ _ e2
            have hc3 := hw.cell _ _ e3
            have hcs := blk_cell hC.b3 3
            have hlm2 : us.length + 1 ≤ 1073741824 := by unfold lim at hlm; omega
            have ht' := Lib.hid (show ar[us.length].sz ≤ m by have h1 := ht; have h2 := Tm.sz_at ar us.length hlt; simp only [Tm.sz] at h1; omega)
            have hrj := Lib.hid (allNL_at hrl us.length hlt)
            have hB3 := Lib.hid (show 0 ≤ B1 ∧ B1 + ar[us.length].ld ≤ 4611686018427387904 by have := Tm.ld_at ar us.length hlt; omega)
            have rt' := Lib.hid (rt.sub hC.made.sub)
            go_wp2_with fail
            have hasW := hC.made.has.alloc (.cells #[.int .i64 ar[us.length].k, .int .i64 ar[us.length].n, .string ar[us.length].nm, .slice A' ar[us.length].ar.length c'] 34)
            refine rgs 10 (fun W => W.cell? ⟨bo, 3, none⟩ = some (.slice As us.length ks) ∧ W.cell? ⟨wr.heap.size, 0, none⟩ = some (.int .i64 ar[us.length].k) ∧ W.cell? ⟨wr.heap.size, 1, none⟩ = some (.int .i64 ar[us.length].n) ∧ W.cell? ⟨wr.heap.size, 2, none⟩ = some (.string ar[us.length].nm) ∧ W.cell? ⟨wr.heap.size, 3, none⟩ = some (.slice A' ar[us.length].ar.length c')) [7, 9] rfl ?_ (fun hS => ?_)
            · go_simp
            refine rgt 0 (.pointer (some ⟨bo, 3, none⟩)) rfl (by kernel_rfl) (fun _ _ _ h => h) rfl hS (fun W hW => by go_simp) ?_
            refine rgt 1 (.slice As us.length ks) rfl (by kernel_rfl) (fun _ _ _ h => h) rfl hS (fun W hW => by obtain ⟨q1, q2, q3, q4, q5⟩ := hW; go_simp) ?_
            refine rgt 2 (.agg #[.int .i64 ar[us.length].k, .int .i64 ar[us.length].n, .string ar[us.length].nm, .slice A' ar[us.length].ar.length c']) rfl (by kernel_rfl) (fun _ _ _ h => h) rfl hS (fun W hW => by obtain ⟨q1, q2, q3, q4, q5⟩ := hW; go_simp) ?_
            refine rgt 3 (.int .i64 B1) rfl (by kernel_rfl) (fun _ _ _ h => h) rfl hS (fun W hW => by go_simp) ?_
            refine rgt 4 (.func (.func F) #[] cap) rfl (by kernel_rfl) (fun _ _ _ h => h) rfl hS (fun W hW => by go_simp) ?_
            refine rg1 5 rfl (by kernel_rfl) (by decide) rfl (fun K hK => ?_)
            go_simp
            have hbw := below_then hw0 hC.bel hw0.size
            refine (IH.out ar[us.length] ht'.out B1 hB3.out _ _ (hbw.alloc hbw.size _).drew h' hasW.drew rt'.out hrj.out).mono ?_
            rintro e w1 ⟨k1, hm⟩
            have kk6 : Below w.heap.size w w1 := below_then (hC.bel.alloc hC.bel.size (.cells #[.int .i64 ar[us.length].k, .int .i64 ar[us.length].n, .string ar[us.length].nm, .slice A' ar[us.length].ar.length c'] 34)) (undrew k1) (by have := hC.bel.size; simp; omega)
            have hI' : Hid ((rebT g B1 ar[us.length]).bind (fun t' => f (ar.drop (us.length + 1)) (us ++ [t'])) = f ar []) := by
              have := hI.out
              rw [List.drop_eq_getElem_cons hlt, hf2.out] at this
              exact this
            cases hx : rebT g B1 ar[us.length] with
            | none =>
              rw [hx] at hm hI'
              subst hm
              simp only []
              refine ⟨rfl, ?_⟩
              rw [hf3.out, ← hI'.out]
              exact ⟨kk6, rfl⟩
            | some u =>
              rw [hx] at hm hI'
              obtain ⟨cs', h1, rfl, r1, m1⟩ := hm
              clear hx
              obtain ⟨A1, c1, rfl, hl1, hl2, hk2, hn2, _⟩ := r1.open_
              simp only []
              refine hK.out _ _ ?_ (fun hS => ?_)
              · obtain ⟨q1, q2, q3, q4, q5⟩ := hS
                exact ⟨cell_below q1 k1, cell_below q2 k1, cell_below q3 k1, cell_below q4 k1, cell_below q5 k1⟩
              refine rg1 6 rfl (by kernel_rfl) (by decide) rfl (fun K hK => ?_)
              go_simp
              refine hK.out _ _ ?_ (fun hS => ?_)
              · obtain ⟨q1, q2, q3, q4, q5⟩ := hS
                exact ⟨cell_alloc q1 _, cell_alloc q2 _, cell_alloc q3 _, cell_alloc q4 _, cell_alloc q5 _⟩
              refine rgl 7 rfl (by kernel_rfl) (by decide) rfl (fun K hK => ?_)
              have kp1 : Kp (fun _ => False) wr (w1.alloc (.cells #[.int .i64 u.k, .int .i64 u.n, .string u.nm, .slice A1 u.ar.length c1] 34)) := (((Kp.refl _ wr).alloc _).drew.below_step k1).alloc _
              have ls1 := kp1.size
              simp only [World.size_alloc] at ls1
              refine app34 _ _ rfl rfl (own_kp hC.own kp1 (fun _ hf => hf.elim)) rfl (blk_new _ _) (by unfold lim at hlm ⊢; omega) (by simp; omega) ?_
              intro sv2 w2 hown2 hg2 hat
              obtain ⟨A2, c2, rfl⟩ := own_form hown2
              have kp2 := (kp1.mono (T := fun q => (Value.slice As us.length ks).ownBlock = some q) (fun _ hf => hf.elim)).grown hg2 (fun _ e => .inl e)
              have ne := own_ge hC.own (b := bo) (by omega)
              have hb3 := blk_kp hC.b3 kp2 ne
              have hc3 := blk_cell hb3 3
              have hz3 := blk_frozen hb3 3
              refine hK.out _ _ ?_
              refine rgp 8 (.pointer (some ⟨bo, 3, none⟩)) rfl (by kernel_rfl) (fun _ _ _ h => h) rfl (fun W => by go_simp) ?_
              refine rgl 9 rfl (by kernel_rfl) (by decide) rfl (fun K hK => ?_)
              go_simp
              refine hK.out _ _ ?_
              refine rgd (by kernel_rfl) ?_
              go_wp2_with fail
              have hs1 : (wr.alloc (.cells #[.int .i64 ar[us.length].k, .int .i64 ar[us.length].n, .string ar[us.length].nm, .slice A' ar[us.length].ar.length c'] 34)).drew.heap.size = wr.heap.size + 1 := by simp
              have off1 : Off h1 (fun q => q = w.heap.size ∨ q = w.heap.size + 1 ∨ q = bo ∨ (Value.slice As us.length ks).ownBlock = some q) := m1.off hC.off (fun q hq => by
                rw [hs1]
                rcases hq with hq | hq | hq | hq
                · omega
                · omega
                · omega
                · have := hC.own.lt _ hq; omega)
              have has2 : Has w2 h1 := (m1.has.alloc _).kp ((Kp.refl _ _).grown hg2 (fun q e => .inl e)) ⟨fun x v e hq => off1.at_ x v e (.inr (.inr (.inr hq)))⟩
              have hbel := hC.bel.size
              have kpw : Kp (fun q => w.heap.size ≤ q) w (w2.setCell ⟨bo, 3, none⟩ (.slice A2 (us.length + 1) c2)) := ((Kp.of_below _ hC.bel).trans kp2 (fun i hi e => by have := own_ge hC.own (b := i) (by omega); exact absurd e this)).set (.inl (by simp; omega)) _
              refine ⟨⟨us ++ [u], .slice A2 (us.length + 1) c2, _, h1, by simp; omega, by simp, ⟨blk_far (blk_kp hC.b1 kp2 (own_ge hC.own (by omega))) (by simp; omega) _, blk_far (blk_kp hC.b2 kp2 (own_ge hC.own (by omega))) (by simp; omega) _, by simpa using blk_set hb3 3 (.slice A2 (us.length + 1) c2),
                by rw [List.length_append]; exact own_far hown2 (by simp) _,
                .snoc (hC.ch.imp (fun _ _ q => q.sub m1.sub)) r1 rfl, (hC.made.trans (m1.from_ (by omega)) (by omega)).world (has2.set (fun x v e hx => off1.at_ x v e (.inr (.inr (.inl (by rw [hx]))))) _), kpw.below (fun i hi => by omega), ?_⟩, by simpa using hI'⟩, by simp [intOf]; omega⟩
              exact ⟨fun x v e hq => by
                rcases hq with hq | hq | hq | hq
                · exact off1.at_ x v e (.inl hq)
                · exact off1.at_ x v e (.inr (.inl hq))
                · exact off1.at_ x v e (.inr (.inr (.inl hq)))
                · rcases hat _ hq with hq | hq
                  · exact off1.at_ x v e (.inr (.inr (.inr hq)))
                  · have := m1.has.lt e
                    simp at hq
                    omega⟩
          · have hje : us.length = ar.length := by omega
            have hje' := Lib.hid hje
            clear hje
            have hc3 := box4 hC.b3
            have hc2 := box4 hC.b2
            have hz2 := blk_frozen hC.b2
            have l2 := blk_lt hC.b2
            have hfin : Hid (some us = f ar []) := by
              have := hI.out
              rw [hje'.out, List.drop_length, hf1.out] at this
              exact this
            go_wp2_with fail
            obtain ⟨h2, A2, c2, e2, hk2, hc2', hr2, m2, hn2⟩ := own_Tm hC.made.has (w0 := w) (by omega) hC.own hC.ch
            cases e2
            obtain ⟨W5, hW5, b2', kp2⟩ : ∃ W5, ((((wr.setCell ⟨w.heap.size + 1, 0, none⟩ (.int .i64 kk)).setCell ⟨w.heap.size + 1, 1, none⟩ (.int .i64 n')).setCell ⟨w.heap.size + 1, 2, none⟩ (.string nm)).setCell ⟨w.heap.size + 1, 3, none⟩ (.slice As us.length ks)) = W5 ∧
                W5.heap[w.heap.size + 1]? = some (.cells #[.int .i64 kk, .int .i64 n', .string nm, .slice As us.length ks] 34) ∧ Kp (fun q => q = w.heap.size + 1) wr W5 := ⟨_, rfl, (set4 hC.b2 _ _ _ _).1, (set4 hC.b2 _ _ _ _).2⟩
            rw [hW5]
            have x2 := box4 b2'
            refine bodyPost_ret (v := .agg #[.int .i64 kk, .int .i64 n', .string nm, .slice As us.length ks]) (by simp [results, Tryz.results128, go_sem, x2]) rfl ?_
            have off2 : Off h2 (fun q => q = w.heap.size + 1) := ⟨fun x v e hx => by
              rcases hn2 x v e with q | q
              · exact hC.off.at_ x v q (.inr (.inl hx))
              · exact own_ge hC.own (b := x.block) (by omega) q⟩
            rw [hf3.out, ← hfin.out]
            refine ⟨((Kp.of_below (fun q => q = w.heap.size + 1) hC.bel).trans kp2 (fun i hi e => e)).below (fun i hi e => by omega), _, h2, rfl, ⟨As, ks, rfl, hc2', by rw [hje'.out]; exact hlm, hk1, hn', hr2⟩, (hC.made.then_ m2).world (m2.has.kp kp2 off2)⟩
    refine rg2 5 9 rfl rfl (by kernel_rfl) (by decide) (by decide) rfl rfl (fun K hK => ?_) (fun K hK => ?_)
    · go_simp
      refine (hF (.mk kk nn nm ar) _ b W0.drew h hw0W.drew (H.below ab.drew) r hnd hb.1 hb2).mono ?_
      rintro e w1 ⟨rfl, k1⟩
      rw [show g (Tm.mk kk nn nm ar).k (Tm.mk kk nn nm ar).n b = some n' from hgv.out]
      simp only [endF]
      have k1' := undrew k1
      refine hK.out _ _ ?_ (fun hS => ?_)
      · obtain ⟨q1, q2, q3, q4⟩ := hS
        exact ⟨cell_below q1 k1, cell_below q2 k1, cell_below q3 k1, cell_below q4 k1⟩
      refine rgt 8 (.agg #[.int .i64 kk, .int .i64 n', .string nm, .slice none 0 0]) rfl (by kernel_rfl) (fun _ _ _ h => h) rfl hS (fun W hW => by go_simp) ?_
      refine rg1 9 rfl (by kernel_rfl) (by decide) rfl (fun K hK => ?_)
      go_simp
      refine hK.out _ _ ?_ (fun hS => ?_)
      · obtain ⟨q1, q2, q3, q4⟩ := hS
        exact ⟨cell_alloc q1 _, cell_alloc q2 _, cell_alloc q3 _, cell_alloc q4 _⟩
      have kk1 := below_then ab k1' ab.size
      exact norm_ (by kernel_rfl) (hcont w1.heap.size _ ⟨blk_alloc (box_below a1 k1') _, blk_alloc (box_below a2 k1') _, blk_new _ _, by have := k1'.size; have := hsz'.out; omega, kk1.alloc kk1.size _, H.below (kk1.alloc kk1.size _)⟩)
    · go_simp
      refine hK.out _ _ ?_ (fun hS => ?_)
      · obtain ⟨q1, q2, q3, q4⟩ := hS
        exact ⟨cell_alloc q1 _, cell_alloc q2 _, cell_alloc q3 _, cell_alloc q4 _⟩
      refine rg1 5 rfl (by kernel_rfl) (by decide) rfl (fun K hK => ?_)
      go_simp
      refine (hF (.mk kk nn nm ar) _ b (W0.alloc (.cells #[.int .i64 0, .int .i64 0, .string ⟨#[]⟩, .slice none 0 0] 34)).drew h (below_then hw0W hnewb.2.drew hw0W.size) ((H.below ab).below hnewb.2.drew) r hnd hb.1 hb2).mono ?_
      rintro e w1 ⟨rfl, k1⟩
      rw [show g (Tm.mk kk nn nm ar).k (Tm.mk kk nn nm ar).n b = some n' from hgv.out]
      simp only [endF]
      have k1' := undrew k1
      refine hK.out _ _ ?_ (fun hS => ?_)
      · obtain ⟨q1, q2, q3, q4⟩ := hS
        exact ⟨cell_below q1 k1, cell_below q2 k1, cell_below q3 k1, cell_below q4 k1⟩
      refine rgt 8 (.agg #[.int .i64 kk, .int .i64 n', .string nm, .slice none 0 0]) rfl (by kernel_rfl) (fun _ _ _ h => h) rfl hS (fun W hW => by go_simp) ?_
      have kk1 := below_then (below_then ab hnewb.2 ab.size) k1' (below_then ab hnewb.2 ab.size).size
      exact norm_ (by kernel_rfl) (hcont W0.heap.size _ ⟨box_below (blk_alloc a1 _) k1', box_below (blk_alloc a2 _) k1', box_below hnewb.1 k1', by have := hsz'.out; omega, kk1, H.below kk1⟩)
end Go.Proofs.YtpgbeapojjinmaaGreatDoor
