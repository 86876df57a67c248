/- Lists of ints: slices.Index, slices.Contains, the document's Has and SameInts; appending. · term.numbers. · term.numbers, Vars, Pars, Occurs. · The document's numbers. · The document's Size, Numbers and Occurs. No law is proved here. -/
import Derived.Test.YtpgbeapojjinmaaGreatDoorB
import Derived.Test.YtpgbeapojjinmaaGreatDoorFB
import Derived.Test.YtpgbeapojjinmaaGreatDoorHH
import Derived.Test.YtpgbeapojjinmaaGreatDoorPS
import Derived.Laws.MakeOwn
import Derived.Test.YtpgbeapojjinmaaGreatDoorRB
set_option linter.unusedVariables false
set_option linter.unusedSimpArgs false
namespace Go.Proofs.YtpgbeapojjinmaaGreatDoor
open Go.RowKit Go.Shelf Go.Proofs.YtpgbeapojjinmaaGreatDoorW.PrintLast
def ints (l : List Int) : List Value := l.map (.int .i64)
/-- A slice of ints, as it is read. -/
def IntS (h : Snap) (l : List Int) (v : Value) : Prop := ∃ A cap, v = .slice A l.length cap ∧ l.length ≤ cap ∧ l.length ≤ lim ∧ ∀ j (hj : j < l.length), ∃ b o, A = some ⟨b, o, none⟩ ∧ h ⟨b, o + j, none⟩ = some (.int .i64 l[j])
theorem IntS.sub {h h' : Snap} {l : List Int} {v : Value} (r : IntS h l v) (s : Sub h h') : IntS h' l v := by
  obtain ⟨A, cap, e, h1, h2, h3⟩ := r
  exact ⟨A, cap, e, h1, h2, fun j hj => by
    obtain ⟨b, o, e', q⟩ := h3 j hj
    exact ⟨b, o, e', s.at_ _ _ q⟩⟩
theorem IntS.nil (h : Snap) : IntS h [] (.slice none 0 0) := ⟨none, 0, rfl, Nat.le_refl _, by simp [lim], fun j hj => by simp at hj⟩
theorem own_ints {w0 w : World} {B : Nat} {h : Snap} {v : Value} {l : List Int} (H : Has w h) (hB : w0.heap.size ≤ B) (ho : w.ownsRow B 3 1 v l.length (ints l)) (hl : l.length ≤ lim) :
    ∃ h', IntS h' l v ∧ Mk w0 h w h' := by
  rcases ho.2 with ⟨rfl, h0⟩ | ⟨g, cap, cur, rfl, hb, hh, hnc, hcm, hsz, htk⟩
  · have : l = [] := List.eq_nil_of_length_eq_zero h0
    subst this
    exact ⟨h, IntS.nil h, Mk.refl H⟩
  · have hcell : ∀ j (hj : j < l.length), w.cell? ⟨g, j, none⟩ = some (.int .i64 l[j]) := fun j hj => by
      rw [cell_of_row w g j cur 3 (0, 0) hh]
      have hu : (ints l)[j]? = some (.int .i64 l[j]) := by simp [ints, hj]
      rw [← htk, List.getElem?_take, if_pos (by omega)] at hu
      simpa using hu
    refine ⟨withRow h w g l.length, ⟨some ⟨g, 0, none⟩, cap, rfl, hnc, hl, fun j hj => ⟨g, 0, rfl, ?_⟩⟩, ⟨withRow.sub .., withRow.has H .., fun a u e => (withRow.new e).imp_right (fun k => by omega)⟩⟩
    rw [Nat.zero_add]
    exact withRow.at_ H (by omega) (hcell j hj)
theorem info3 : (Tryz.prog.info? 3).map (fun i => (i.zero, i.size, i.bytes)) = some (some (.int .i64 0), 1, 8) := by kernel_rfl
theorem app3 {o : Oper} {a : Act} {w : World} {K : Act → World → Prop} {Q : Exit → Act → World → Prop} (s x : Operand) (ho : o.op = .call { callee := .builtin .append, args := #[s, x], argTypes := #[85, 85] })
    {B n g : Nat} {sv : Value} {xs : List Value} {k : Int} (hs : a.eval s = sv) (hown : w.ownsRow B 3 1 sv n xs) (hx : a.eval x = .slice (some ⟨g, 0, none⟩) 1 1)
    (hg : w.heap[g]? = some (.cells #[.int .i64 k] 3)) (hn : n < lim) (hB : B ≤ w.heap.size)
    (h : ∀ sv' w', w'.ownsRow B 3 1 sv' (n + 1) (xs ++ [.int .i64 k]) → w.grownBy w' sv.ownBlock → (∀ q, sv'.ownBlock = some q → sv.ownBlock = some q ∨ w.heap.size ≤ q) → K (a.put o.dst sv') w') : Oper.wp Tryz.prog o a w K Q := by
  obtain ⟨i0, hi0, hz0, hz1, hz2⟩ := info_parts info3
  unfold lim at hn
  exact wp_append_lies w s x 85 ho B 3 i0 _ 1 8 Tryz.underlying85 hi0 hz0 hz1 hz2 rfl (by omega) sv n xs hs hown ⟨g, 0, none⟩ 1 1 [.int .i64 k] hx rfl (World.news_of_block hg) (by simp [Value.oneCell']) (by omega) (by simp [maxLen]; omega) (by omega) hB _ rfl
    (fun g' cap w' h1 h2 h3 _ => h _ w' h1 h2 (fun q e => by
      simp only [Value.ownBlock, Option.some.injEq] at e
      subst e
      exact h3.imp id (fun e => by omega)))
theorem app3L {ops : Array Oper} {rest : List Oper} {o : Oper} {a : Act} {w : World} {Q : Exit → Act → World → Prop} (hgd : o.guard = none) (s x : Operand) (ho : o.op = .call { callee := .builtin .append, args := #[s, x], argTypes := #[85, 85] })
    {B n g : Nat} {sv : Value} {xs : List Value} {k : Int} (hs : a.eval s = sv) (hown : w.ownsRow B 3 1 sv n xs) (hx : a.eval x = .slice (some ⟨g, 0, none⟩) 1 1)
    (hg : w.heap[g]? = some (.cells #[.int .i64 k] 3)) (hn : n < lim) (hB : B ≤ w.heap.size)
    (h : ∀ sv' w', w'.ownsRow B 3 1 sv' (n + 1) (xs ++ [.int .i64 k]) → w.grownBy w' sv.ownBlock → (∀ q, sv'.ownBlock = some q → sv.ownBlock = some q ∨ w.heap.size ≤ q) → wpList Tryz.prog ops Q rest (a.put o.dst sv') w') : wpList Tryz.prog ops Q (o :: rest) a w :=
  wpList_plain hgd (fun K hK => app3 s x ho hs hown hx hg hn hB (fun sv' w' h1 h2 h3 => hK _ _ (h sv' w' h1 h2 h3)))
/-- Whether a number is in a list. -/
def hasI : List Int → Int → Bool
  | [], _ => false
  | x :: l, n => x == n || hasI l n
set_option maxRecDepth 100000 in
set_option maxHeartbeats 4000000 in
theorem Has_calls (l : List Int) (n : Int) (sv : Value) (w : World) (h : Snap) (H : Has w h) (r : IntS h l sv) :
    Calls Tryz.prog 140 #[sv, .int .i64 n] w fun e w' => e = .returned (.bool (hasI l n)) ∧ w' = w := by
  obtain ⟨A, cap, rfl, hc, hlm, hr⟩ := r
  unfold lim at hlm
  go_enter Tryz.func140, Tryz.ntmps140
  go_wp2_with fail
  go_loopw [5] (fun i wr => ∃ j : Nat, j ≤ l.length ∧ i = .int .i64 j ∧ wr = w ∧ Hid (hasI (l.drop j) n = hasI l n)) (fun i _ => l.length - (intOf i).toNat)
  case atStart => exact ⟨0, by omega, rfl, rfl, by show _ = _; simp⟩
  case round =>
    obtain ⟨j, hj, rfl, rfl, hI⟩ := hrel
    by_cases hlt : j < l.length
    · obtain ⟨b, o, rfl, e0⟩ := hr j hlt
      have hc0 := H.cell _ _ e0
      have hI' := hI.out
      rw [List.drop_eq_getElem_cons hlt, hasI] at hI'
      replace hI' := Lib.hid hI'
      generalize l[j] = z at *
      cases hz : z == n
      · have hI2 : Hid (hasI (l.drop (j + 1)) n = hasI l n) := Lib.hid (by rw [← hI'.out, hz]; rfl)
        clear hI hI'
        go_wp2_with fail
        exact ⟨⟨j + 1, by omega, by go_num, by first | rfl | trivial, hI2⟩, by simp [intOf]; omega⟩
      · have hI2 : Hid (hasI l n = true) := Lib.hid (by rw [← hI'.out, hz]; rfl)
        clear hI hI'
        go_wp2_with fail
        go_ret
        exact ⟨ret_bool hI2.out.symm, rfl⟩
    · have hI2 : Hid (hasI l n = false) := by
        have := hI.out
        rw [List.drop_eq_nil_of_le (by omega), hasI] at this
        exact this.symm
      clear hI
      go_wp2_with fail
      go_ret
      exact ⟨ret_bool hI2.out.symm, rfl⟩
set_option maxRecDepth 100000 in
set_option maxHeartbeats 4000000 in
theorem IndexI_calls (l : List Int) (n : Int) (sv : Value) (w : World) (h : Snap) (H : Has w h) (r : IntS h l sv) :
    Calls Tryz.prog 188 #[sv, .int .i64 n] w fun e w' => ∃ i : Int, e = .returned (.int .i64 i) ∧ decide (0 ≤ i) = hasI l n ∧ w' = w := by
  obtain ⟨A, cap, rfl, hc, hlm, hr⟩ := r
  unfold lim at hlm
  go_enter Tryz.func188, Tryz.ntmps188
  go_wp2_with fail
  go_loopw [8] (fun i wr => ∃ j : Nat, j ≤ l.length ∧ i = .int .i64 j ∧ wr = w ∧ Hid (hasI (l.drop j) n = hasI l n)) (fun i _ => l.length - (intOf i).toNat)
  case atStart => exact ⟨0, by omega, rfl, rfl, by show _ = _; simp⟩
  case round =>
    obtain ⟨j, hj, rfl, rfl, hI⟩ := hrel
    by_cases hlt : j < l.length
    · obtain ⟨b, o, rfl, e0⟩ := hr j hlt
      have hc0 := H.cell _ _ e0
      have hI' := hI.out
      rw [List.drop_eq_getElem_cons hlt, hasI] at hI'
      replace hI' := Lib.hid hI'
      generalize l[j] = z at *
      cases hz : z == n
      · have hI2 : Hid (hasI (l.drop (j + 1)) n = hasI l n) := Lib.hid (by rw [← hI'.out, hz]; rfl)
        have hz2 : (n == z) = false := by simp at hz ⊢; exact fun e => hz e.symm
        clear hI hI'
        go_wp2_with fail
        exact ⟨⟨j + 1, by omega, by go_num, by first | rfl | trivial, hI2⟩, by simp [intOf]; omega⟩
      · have hI2 : Hid (hasI l n = true) := Lib.hid (by rw [← hI'.out, hz]; rfl)
        have hz2 : (n == z) = true := by simp at hz ⊢; exact hz.symm
        clear hI hI'
        go_wp2_with fail
        go_ret
        exact ⟨_, rfl, by rw [hI2.out]; simp, rfl⟩
    · have hI2 : Hid (hasI l n = false) := by
        have := hI.out
        rw [List.drop_eq_nil_of_le (by omega), hasI] at this
        exact this.symm
      clear hI
      go_wp2_with fail
      go_ret
      exact ⟨_, rfl, by rw [hI2.out]; rfl, rfl⟩
set_option maxRecDepth 100000 in
set_option maxHeartbeats 4000000 in
theorem ContainsI_calls (l : List Int) (n : Int) (sv : Value) (w : World) (h : Snap) (H : Has w h) (r : IntS h l sv) :
    Calls Tryz.prog 139 #[sv, .int .i64 n] w fun e w' => e = .returned (.bool (hasI l n)) ∧ w' = w := by
  go_enter Tryz.func139, Tryz.ntmps139
  go_wp2_with fail
  refine (IndexI_calls l n sv w h H r).mono ?_
  rintro e w1 ⟨i, rfl, hi, rfl⟩
  replace hi := Lib.hid hi
  go_wp2_with fail
  go_ret
  exact ⟨ret_bool (by rw [← hi.out]), rfl⟩
set_option maxRecDepth 100000 in
set_option maxHeartbeats 4000000 in
theorem SameInts_calls (l : List Int) (sv sv' : Value) (w : World) (h : Snap) (H : Has w h) (r : IntS h l sv) (r' : IntS h l sv') :
    Calls Tryz.prog 63 #[sv, sv'] w fun e w' => e = .returned (.bool true) ∧ Below w.heap.size w w' := by
  obtain ⟨A, cap, rfl, hc, hlm, hr⟩ := r
  obtain ⟨B, dap, rfl, gc, glm, gr⟩ := r'
  unfold lim at hlm
  have q1 : ((l.length : Int) != l.length) = false := by simp
  go_enter Tryz.func63, Tryz.ntmps63
  go_wp2_with fail
  go_loopw [5] (fun i wr => ∃ j : Nat, j ≤ l.length ∧ i = .int .i64 j ∧ Below w.heap.size w wr) (fun i _ => l.length - (intOf i).toNat)
  case atStart => exact ⟨0, by omega, rfl, Below.refl _ w⟩
  case round =>
    obtain ⟨j, hj, rfl, hb⟩ := hrel
    by_cases hlt : j < l.length
    · obtain ⟨b, o, rfl, e0⟩ := hr j hlt
      obtain ⟨b', o', rfl, f0⟩ := gr j hlt
      have hw := H.below hb
      have hc0 := hw.cell _ _ e0
      have hd0 := hw.cell _ _ f0
      generalize l[j] = z at *
      have q2 : (z != z) = false := by simp
      go_wp2_with fail
      refine rgs 9 (fun V => Below wr.heap.size wr V) [] rfl ((Below.refl _ _).drew) (fun hS => ?_)
      refine rgnf 0 17 (.slice (some ⟨b, o, none⟩) l.length cap) rfl rfl (by kernel_rfl) (fun _ _ _ h => h) (by kernel_rfl) hS (fun V hV => by go_simp) ?_
      refine rgnf 1 18 (.int .i64 j) rfl rfl (by kernel_rfl) (fun _ _ _ h => h) (by kernel_rfl) hS (fun V hV => by go_simp) ?_
      refine rgnf 2 19 (.pointer (some ⟨b, o + j, none⟩)) rfl rfl (by kernel_rfl) (fun _ _ _ h => h) (by kernel_rfl) hS (fun V hV => by go_simp) ?_
      refine rgnf 3 20 (.int .i64 z) rfl rfl (by kernel_rfl) (fun _ _ _ h => h) (by kernel_rfl) hS (fun V hV => by have q0 := cell_below hc0 hV; go_simp) ?_
      refine rgnf 4 21 (.slice (some ⟨b', o', none⟩) l.length dap) rfl rfl (by kernel_rfl) (fun _ _ _ h => h) (by kernel_rfl) hS (fun V hV => by go_simp) ?_
      refine rgnf 5 22 (.int .i64 j) rfl rfl (by kernel_rfl) (fun _ _ _ h => h) (by kernel_rfl) hS (fun V hV => by go_simp) ?_
      refine rgnf 6 23 (.pointer (some ⟨b', o' + j, none⟩)) rfl rfl (by kernel_rfl) (fun _ _ _ h => h) (by kernel_rfl) hS (fun V hV => by go_simp) ?_
      refine rgnf 7 24 (.int .i64 z) rfl rfl (by kernel_rfl) (fun _ _ _ h => h) (by kernel_rfl) hS (fun V hV => by have q0 := cell_below hd0 hV; go_simp) ?_
      refine rgnf 8 25 (.bool false) rfl rfl (by kernel_rfl) (fun _ _ _ h => h) (by kernel_rfl) hS (fun V hV => by go_simp) ?_
      refine rgd (by kernel_rfl) ?_
      simp only [Act.put, List.setIfInBounds_toArray, List.set_cons_zero, List.set_cons_succ]
      go_wp2_with fail
      exact ⟨⟨j + 1, by omega, by go_num, hb.drew⟩, by simp [intOf]; omega⟩
    · go_wp2_with fail
      go_ret
      exact ⟨rfl, hb⟩
end Go.Proofs.YtpgbeapojjinmaaGreatDoor
namespace Go.Proofs.YtpgbeapojjinmaaGreatDoor
open Go.RowKit Go.Shelf Go.Proofs.YtpgbeapojjinmaaGreatDoorW.PrintLast
/-! ### Lists without repetition -/
theorem hasI_iff {l : List Int} {n : Int} : hasI l n = true ↔ n ∈ l := by
  induction l with
  | nil => simp [hasI]
  | cons x l ih =>
    rw [hasI, Bool.or_eq_true, ih, List.mem_cons, beq_iff_eq]
    exact ⟨fun h => h.imp Eq.symm id, fun h => h.imp Eq.symm id⟩
theorem flen (p : Int → Bool) : ∀ l : List Int, l.length = (l.filter p).length + (l.filter (fun x => !p x)).length
  | [] => rfl
  | x :: l => by
    have := flen p l
    cases h : p x <;> simp [List.filter_cons, h] <;> omega
theorem same_len {c : Int} : ∀ l : List Int, l.Nodup → (∀ x ∈ l, x = c) → l.length ≤ 1
  | [], _, _ => by simp
  | [x], _, _ => by simp
  | x :: y :: l, h, he => by
    rw [List.nodup_cons] at h
    have h1 := he x (by simp)
    have h2 := he y (by simp)
    exact absurd (by rw [h1, ← h2]; simp) h.1
theorem nodup_len : ∀ (N : Nat) (l : List Int), l.Nodup → (∀ x ∈ l, 0 ≤ x ∧ x < N) → l.length ≤ N
  | 0, l, _, h => by
    cases l with
    | nil => simp
    | cons x l => have := h x (by simp); omega
  | N + 1, l, hn, h => by
    have h1 := nodup_len N (l.filter (fun x => decide (x < N))) (hn.filter _) (fun x hx => by
      have := List.mem_filter.1 hx
      have h2 := h x this.1
      have h3 : x < N := of_decide_eq_true this.2
      exact ⟨h2.1, h3⟩)
    have h2 := same_len (c := N) (l.filter (fun x => !decide (x < N))) (hn.filter _) (fun x hx => by
      have := List.mem_filter.1 hx
      have h2 := h x this.1
      have h3 : ¬ x < N := by simpa using this.2
      omega)
    have := flen (fun x => decide (x < N)) l
    omega
/-! ### each, where a row of the call's own grows -/
set_option maxRecDepth 100000 in
set_option maxHeartbeats 8000000 in
theorem each2_calls {σ : Type} (S : Nat → Prop) (F : Nat) (cap : Array Value) (step : σ → Tm → Int → σ) (I : σ → (Nat → Prop) → World → Prop) (hp : Tm → Bool) (w0 : World) (hS : ∀ k, S k → k < w0.heap.size) (he : ∀ (args : Array Value) (w : World), (callFunc F args).run Tryz.prog w = .ok (.enter F args) w)
    (hI : ∀ s o W W', I s o W → Below W.heap.size W W' → w0.heap.size ≤ W.heap.size → I s o W')
    (hO : ∀ s o W, I s o W → ∀ q, o q → w0.heap.size ≤ q ∧ q < W.heap.size)
    (hF : ∀ (t : Tm) (cs : List Value) (b : Int) (W : World) (h : Snap) (s : σ) (o : Nat → Prop), w0.heap.size ≤ W.heap.size → Has W h → TmR h t cs → hp t = true → I s o W →
      Calls Tryz.prog F (#[.agg cs.toArray, .int .i64 b] ++ cap) W fun e w' => e = .returned (.tuple #[]) ∧ ∃ o', Kp (fun q => S q ∨ o q) W w' ∧ (∀ q, o' q → o q ∨ W.heap.size ≤ q) ∧ I (step s t b) o' w') :
    ∀ (m : Nat) (t : Tm) (_ : t.sz ≤ m) (_ : allN hp t = true) (b : Int) (_ : 0 ≤ b ∧ b + t.ld ≤ 4611686018427387904) (cs : List Value) (w : World) (h : Snap) (_ : w0.heap.size ≤ w.heap.size) (H : Has w h) (hoS : Off h S) (hoB : Off h (fun q => w0.heap.size ≤ q)) (r : TmR h t cs) (s : σ) (o : Nat → Prop) (hs : I s o w),
    Calls Tryz.prog 136 #[.agg cs.toArray, .int .i64 b, .func (.func F) #[] cap] w fun e w' => e = .returned (.tuple #[]) ∧ ∃ o', Kp (fun q => S q ∨ o q) w w' ∧ (∀ q, o' q → o q ∨ w.heap.size ≤ q) ∧ I (eachT step s b t) o' w' := by
  intro m
  induction m with
  | zero => intro t ht; have := t.sz_pos; omega
  | succ m ih =>
  rintro ⟨kk, nn, nm, ar⟩ ht hsm b hb cs w h hw0 H hoS hoB r s o hs
  obtain ⟨A, cap', rfl, hl, hlm, hk1, hn1, hr⟩ := id r
  have hu34 := Tryz.underlying34
  have IH := Lib.hid ih
  clear ih
  unfold lim at hlm
  obtain ⟨hB, hab⟩ := alloc1 w (.cells #[.int .i64 kk, .int .i64 nn, .string nm, .slice A ar.length cap'] 34)
  have hsz := Lib.hid hw0
  have hos := Lib.hid (hO s o w hs)
  have ho : Off h (fun q => S q ∨ o q) := ⟨fun x v e hx => by
    rcases hx with hx | hx
    · exact hoS.at_ x v e hx
    · exact hoB.at_ x v e (hos.out _ hx).1⟩
  have hsn := Lib.hid (show hp (.mk kk nn nm ar) = true by rw [allN] at hsm; simp only [Bool.and_eq_true] at hsm; exact hsm.1)
  have hrl := Lib.hid (show allNL hp ar = true by rw [allN] at hsm; simp only [Bool.and_eq_true] at hsm; exact hsm.2)
  clear hw0 hsm
  obtain ⟨B1, hB1⟩ : ∃ B1 : Int, (if kk = 5 then b + 1 else b) = B1 := ⟨_, rfl⟩
  have G := Lib.hid (show eachT step s b (.mk kk nn nm ar) = eachL step (step s (.mk kk nn nm ar) b) B1 ar by rw [eachT, hB1])
  have hB2 : 0 ≤ B1 ∧ B1 + Tm.ldL ar ≤ 4611686018427387904 := by rw [← hB1]; exact Tm.ld_step hb
  have hB3 := Lib.hid (show ∀ j (hj : j < ar.length), 0 ≤ B1 ∧ B1 + (ar[j].ld : Int) ≤ 4611686018427387904 from fun j hj => by have := Tm.ld_at ar j hj; omega)
  go_enter Tryz.func136, Tryz.ntmps136
  go_wp2_with fail
  have hff := hF (.mk kk nn nm ar) _ b (w.alloc (.cells #[.int .i64 kk, .int .i64 nn, .string nm, .slice A ar.length cap'] 34)) h s o (by have := hsz.out; simp; omega) (H.below hab) r hsn.out (hI _ _ _ _ hs hab hsz.out)
  refine hff.mono ?_
  rintro e w1 ⟨rfl, o1, k1, s1o, i1⟩
  have kb1 := (Kp.of_below (fun q => S q ∨ o q) hab).trans k1 (fun i hi hh => hh)
  have b1 := blk_kp hB k1 (fun hh => by
    rcases hh with hh | hh
    · have := hS _ hh; have := hsz.out; omega
    · have := (hos.out _ hh).2; omega)
  have x1 := box4 b1
  have s1 := kb1.size
  have i1' := Lib.hid i1
  have s1o' := Lib.hid (show ∀ q, o1 q → o q ∨ w.heap.size ≤ q from fun q hq => (s1o q hq).imp id (fun h => by simp at h; omega))
  clear i1 hff s1o
  have hq : (kk = 5 ∧ b + 1 = B1) ∨ (kk ≠ 5 ∧ b = B1) := by
    by_cases q : kk = 5
    · rw [if_pos q] at hB1; exact .inl ⟨q, hB1⟩
    · rw [if_neg q] at hB1; exact .inr ⟨q, hB1⟩
  clear hB1
  obtain ⟨f, hf0, hfs, hfe⟩ : ∃ f : List Tm → σ, Hid (f [] = step s (.mk kk nn nm ar) b) ∧ Hid (∀ l t, f (l ++ [t]) = eachT step (f l) B1 t) ∧ Hid (f ar = eachT step s b (.mk kk nn nm ar)) := ⟨fun l => eachL step (step s (.mk kk nn nm ar) b) B1 l, by show _ = _; simp [eachL], by show ∀ _ _, _; intro l t; exact eachL_snoc step B1 t l _, G.out.symm⟩
  clear G
  rcases hq with ⟨rfl, hB1⟩ | ⟨q5, rfl⟩
  all_goals (have hb1 : b + 1 ≤ 4611686018427387905 := by omega)
  all_goals (try have q5' := beq_eq_false_iff_ne.2 q5)
  all_goals (go_wp2_with fail)
  all_goals
    go_loopw [20] (fun i wr => ∃ j : Nat, j ≤ ar.length ∧ i = .int .i64 j ∧ Kp (fun q => S q ∨ o q) w wr ∧ ∃ s' oj, Hid (∀ q, oj q → o q ∨ w.heap.size ≤ q) ∧ Hid (f (ar.take j) = s') ∧ I s' oj wr) (fun i _ => ar.length - (intOf i).toNat)
    case atStart => exact ⟨0, by omega, rfl, kb1, _, o1, s1o', hf0, i1'.out⟩
    case round =>
      obtain ⟨j, hj, rfl, kq, s', oj, hoj, hs', is⟩ := hrel
      have hwr := H.kp kq ho
      have sq := kq.size
      by_cases hlt : j < ar.length
      · obtain ⟨bb, o', A', c', rfl, e0, e1, e2, e3, rt⟩ := hr.get j hlt
        have hc0 := hwr.cell _ _ e0
        have hc1 := hwr.cell _ _ e1
        have hc2 := hwr.cell _ _ e2
        have hc3 := hwr.cell _ _ e3
        have ht' := Lib.hid (show ar[j].sz ≤ m by have h1 := ht; have h2 := Tm.sz_at ar j hlt; simp only [Tm.sz] at h1; omega)
        have hrj := Lib.hid (allNL_at hrl.out j hlt)
        obtain ⟨hBa, haa⟩ := alloc1 wr (.cells #[.int .i64 ar[j].k, .int .i64 ar[j].n, .string ar[j].nm, .slice A' ar[j].ar.length c'] 34)
        have ia := Lib.hid (hI _ _ _ _ is haa (by have := hsz.out; omega))
        clear is
        go_wp2_with fail
        refine (IH.out ar[j] ht'.out hrj.out _ (hB3.out j hlt) _ _ h (by have := hsz.out; simp; omega) (hwr.alloc _) hoS hoB rt s' oj ia.out).mono ?_
        rintro e w5 ⟨rfl, o5, k5, s5, i5⟩
        have k6 : Kp (fun q => S q ∨ o q) w w5 := (kq.alloc (.cells #[.int .i64 ar[j].k, .int .i64 ar[j].n, .string ar[j].nm, .slice A' ar[j].ar.length c'] 34)).trans k5 (fun i hi hh => by
          rcases hh with hh | hh
          · exact .inl hh
          · rcases hoj.out i hh with hh | hh
            · exact .inr hh
            · omega)
        have i5' := Lib.hid i5
        have s5' : Hid (∀ q, o5 q → o q ∨ w.heap.size ≤ q) := Lib.hid (fun q hq => by
          rcases s5 q hq with hh | hh
          · exact hoj.out q hh
          · exact .inr (by simp at hh; omega))
        clear i5 s5
        go_wp2_with fail
        exact ⟨⟨j + 1, by omega, by go_num, k6, _, o5, s5', by show _ = _; rw [take_snoc ar j hlt, hfs.out, hs'.out], i5'.out⟩, by simp [intOf]; omega⟩
      · obtain rfl : j = ar.length := by omega
        go_wp2_with fail
        go_end0
        exact ⟨rfl, oj, kq, hoj.out, by have := hs'.out; rw [List.take_length, hfe.out] at this; rw [this]; exact is⟩
/-! ### numbers -/
def stepN (kd : Int) (l : List Int) (u : Tm) (_ : Int) : List Int := if u.k = kd ∧ hasI l u.n = false then l ++ [u.n] else l
/-- The numbers of the heads of a kind, in the order of their first occurrence. -/
def numsV (kd : Int) (t : Tm) : List Int := if rawP t = 0 then eachT (stepN kd) [] 0 t else []
theorem zero4 (w : World) : (zeroValue 4).run Tryz.prog w = .ok (.bool false) w := by kernel_rfl
/-- A map whose keys are plain: what looking up a key without 'ok' does. -/
theorem look_plain {t K : TypeId} {E : TypeId} (hu : Tryz.prog.underlying t = some (.map K E)) (KK : Maps.Keyed Tryz.prog K) {z : Value} (hz : ∀ w, (zeroValue E).run Tryz.prog w = .ok z w) {w : World} {bm : Nat} {es : Array MapEntry} {cl : Nat} (hb : w.heap[bm]? = some (.map es cl)) {key : Value} {l : Lit} (hkey : keyOf Tryz.prog K key = some l) (hk : ∀ e ∈ es.toList, ∃ l, keyOf Tryz.prog K e.key = some l) :
    ((∀ e ∈ es.toList, e.key ≠ key) ∧ (Instr.lookup t (.map (some bm)) key false).run Tryz.prog w = .ok z w ∧
      ∀ v, (Instr.mapUpdate t (.map (some bm)) key v).run Tryz.prog w = .ok () (mapSet w bm (.map (es.push { key := key, val := v, born := cl }) (cl + 1)))) ∨
    ∃ e, e ∈ es.toList ∧ e.key = key ∧ (Instr.lookup t (.map (some bm)) key false).run Tryz.prog w = .ok e.val w := by
  rcases KK.find w hkey es.toList hk with ⟨h1, h2⟩ | ⟨j, e0, h1, h2, h3⟩
  · refine .inl ⟨h2, ?_, fun v => ?_⟩
    · simp [Instr.lookup, run_underlying hu, MapKept.run_getObj_map hb, KK.check w _ hkey, h1, hz, Result.andThen]
    · simp [Instr.mapUpdate, run_underlying hu, MapKept.run_getObj_map hb, KK.check w _ hkey, h1, MapKept.run_setObj_map _ hb, Result.andThen, mapSet]
  · refine .inr ⟨e0, List.mem_of_getElem? h2, h3, ?_⟩
    simp [Instr.lookup, run_underlying hu, MapKept.run_getObj_map hb, KK.check w _ hkey, h1, Result.andThen]
/-- What numbers keeps in memory. -/
structure NumI (kd : Int) (bk bs bm bo B0 : Nat) (l : List Int) (o : Nat → Prop) (W : World) : Prop where
  kb : W.heap[bk]? = some (.cells #[.int .i64 kd] 3)
  sb : W.heap[bs]? = some (.cells #[.map (some bm)] 208)
  mp : ∃ es cl, W.heap[bm]? = some (.map es cl) ∧ (∀ e ∈ es.toList, ∃ n : Int, e.key = .int .i64 n ∧ (0 ≤ n ∧ n ≤ 1000000000) ∧ e.val = .bool true ∧ n ∈ l) ∧ ∀ n ∈ l, ∃ e ∈ es.toList, e.key = .int .i64 n
  row : ∃ sv, W.heap[bo]? = some (.cells #[sv] 85) ∧ W.ownsRow B0 3 1 sv l.length (ints l) ∧ ∀ q, o q ↔ sv.ownBlock = some q
  nd : l.Nodup ∧ ∀ x ∈ l, 0 ≤ x ∧ x ≤ 1000000000
theorem NumI.len {kd : Int} {bk bs bm bo B0 : Nat} {l : List Int} {o : Nat → Prop} {W : World} (i : NumI kd bk bs bm bo B0 l o W) : l.length ≤ 1000000001 := nodup_len 1000000001 l i.nd.1 (fun x hx => by have := i.nd.2 x hx; omega)
set_option maxRecDepth 100000 in
set_option maxHeartbeats 8000000 in
theorem numsfn_calls (kd : Int) (bk bs bm bo B0 : Nat) (hne : bo ≠ bm ∧ bk ≠ bm ∧ bk ≠ bo ∧ bs ≠ bm ∧ bs ≠ bo) (hB : bk < B0 ∧ bs < B0 ∧ bm < B0 ∧ bo < B0) (t : Tm) (cs : List Value) (b : Int) (W : World) (h : Snap) (l : List Int) (o : Nat → Prop) (hW : B0 ≤ W.heap.size) (H : Has W h) (r : TmR h t cs) (hp : smallN t = true) (hi : NumI kd bk bs bm bo B0 l o W) :
    Calls Tryz.prog 189 (#[.agg cs.toArray, .int .i64 b] ++ #[.pointer (some ⟨bk, 0, none⟩), .pointer (some ⟨bs, 0, none⟩), .pointer (some ⟨bo, 0, none⟩)]) W fun e w' => e = .returned (.tuple #[]) ∧ ∃ o', Kp (fun q => (q = bo ∨ q = bm) ∨ o q) W w' ∧ (∀ q, o' q → o q ∨ W.heap.size ≤ q) ∧ NumI kd bk bs bm bo B0 (stepN kd l t b) o' w' := by
  obtain ⟨A, cap, rfl, hl, hlm, hk1, hn1, hr⟩ := r.open_
  have hu34 := Tryz.underlying34
  have hn2 : 0 ≤ t.n ∧ t.n ≤ 1000000000 := by unfold smallN at hp; simpa using hp
  obtain ⟨a1, ab⟩ := alloc1 W (.cells #[.int .i64 t.k, .int .i64 t.n, .string t.nm, .slice A t.ar.length cap] 34)
  obtain ⟨L', hL'⟩ : ∃ x, stepN kd l t b = x := ⟨_, rfl⟩
  have hst : L' = if t.k = kd ∧ hasI l t.n = false then l ++ [t.n] else l := by rw [← hL']; rfl
  rw [hL']
  clear hL'
  generalize t.k = k at *
  generalize t.n = n at *
  have hlen := hi.len
  obtain ⟨i1, i2, ⟨es, cl, i3, i4, i5⟩, ⟨sv, i6, i7, i8⟩, i9⟩ := id hi
  have q1 := box_below i1 ab
  have q2 := box_below i2 ab
  have q3 := box_below i3 ab
  have q6 := box_below i6 ab
  have l1 := blk_lt q1
  have l2 := blk_lt q2
  have l6 := blk_lt q6
  have x1 := box1 q1
  have x2 := box1 q2
  have lk1 := blk_lt i1
  have lk2 := blk_lt i2
  have lk3 := blk_lt i3
  have lk6 := blk_lt i6
  have keep : L' = l → ∃ o', Kp (fun q => (q = bo ∨ q = bm) ∨ o q) W (W.alloc (.cells #[.int .i64 k, .int .i64 n, .string t.nm, .slice A t.ar.length cap] 34)) ∧ (∀ q, o' q → o q ∨ W.heap.size ≤ q) ∧ NumI kd bk bs bm bo B0 L' o' (W.alloc (.cells #[.int .i64 k, .int .i64 n, .string t.nm, .slice A t.ar.length cap] 34)) := fun e => by
    rw [e]
    exact ⟨o, Kp.of_below _ ab, fun q hq => .inl hq, q1, q2, ⟨es, cl, q3, i4, i5⟩, ⟨sv, q6, own_kp i7 (Kp.of_below (fun _ => False) ab) (fun _ hf => hf.elim), i8⟩, i9⟩
  replace keep := Lib.hid keep
  by_cases c1 : k = kd
  rotate_left
  · have c1' : (k == kd) = false := by simpa using c1
    have hG := Lib.hid (show L' = l by rw [hst, if_neg (fun h => c1 h.1)])
    clear hst c1 i4 i5
    go_enter Tryz.func189, Tryz.ntmps189
    go_wp2_with fail
    go_end0
    exact ⟨rfl, keep.out hG.out⟩
  have c1' : (k == kd) = true := by simp [c1]
  have hkey := key3 (k := n) hn2
  have hk : ∀ e ∈ es.toList, ∃ l, keyOf Tryz.prog 3 e.key = some l := fun e he => by
    obtain ⟨z, h1, h2, _⟩ := i4 e he
    exact ⟨_, by rw [h1]; exact key3 h2⟩
  rcases look_plain Tryz.underlying208 keyed3 zero4 q3 hkey hk with ⟨hno, hl1, hup⟩ | ⟨e, he, hek, hl1⟩
  rotate_left
  · obtain ⟨z, h1, h2, h3, h4⟩ := i4 e he
    rw [hek] at h1
    cases h1
    rw [h3] at hl1
    have hin : hasI l n = true := hasI_iff.2 h4
    have hG := Lib.hid (show L' = l by rw [hst, if_neg (fun h => by rw [hin] at h; exact absurd h.2 (by simp))])
    clear hst i4 i5 hk hek he h3 h4 hin c1
    go_enter Tryz.func189, Tryz.ntmps189
    go_wp2_with fail
    go_end0
    exact ⟨rfl, keep.out hG.out⟩
  · have hnl : n ∉ l := fun hn => by
      obtain ⟨e, he, hk⟩ := i5 n hn
      exact hno e he hk
    have hin : hasI l n = false := by
      cases h : hasI l n
      · rfl
      · exact absurd (hasI_iff.1 h) hnl
    have hG := Lib.hid (show L' = l ++ [n] by rw [hst, if_pos ⟨c1, hin⟩])
    have hupv := hup (.bool true)
    obtain ⟨As, ks, rfl⟩ := own_form i7
    have hi4 := Lib.hid i4
    have hi5 := Lib.hid i5
    have hno' := Lib.hid hno
    have hnl' := Lib.hid hnl
    clear hst i4 i5 hk hno hup hnl hin c1 keep
    obtain ⟨W2, hW2⟩ : ∃ W2, mapSet (W.alloc (.cells #[.int .i64 k, .int .i64 n, .string t.nm, .slice A t.ar.length cap] 34)) bm (.map (es.push { key := .int .i64 n, val := .bool true, born := cl }) (cl + 1)) = W2 := ⟨_, rfl⟩
    have kp2 : Kp (fun q => q = bm) (W.alloc (.cells #[.int .i64 k, .int .i64 n, .string t.nm, .slice A t.ar.length cap] 34)) W2 := by rw [← hW2]; exact mapSet_kp _ bm _
    have g3 : W2.heap[bm]? = some (.map (es.push { key := .int .i64 n, val := .bool true, born := cl }) (cl + 1)) := by rw [← hW2]; exact mapSet_at q3 _
    have g6 := blk_kp q6 kp2 hne.1
    have g1 := blk_kp q1 kp2 hne.2.1
    have g2 := blk_kp q2 kp2 hne.2.2.2.1
    have gt := blk_kp a1 kp2 (by omega)
    have xo := box1 g6
    have xt := box4 gt
    have lo := blk_lt g6
    have lt := blk_lt gt
    have s2 := kp2.size
    have s0 := ab.size
    have own2 := own_kp (own_kp (own_kp i7 (Kp.of_below (fun _ => False) ab) (fun _ hf => hf.elim)) kp2 (fun q e => own_ge i7 (by omega))) ((Kp.refl (fun _ => False) W2).alloc (.cells #[.int .i64 n] 3)) (fun _ hf => hf.elim)
    have hnb := blk_new W2 (.cells #[.int .i64 n] 3)
    have hob : (Value.slice As l.length ks).ownBlock ≠ some bo := own_ge i7 (by omega)
    go_enter Tryz.func189, Tryz.ntmps189
    go_wp2_with (refine app3L rfl _ _ rfl rfl own2 rfl hnb (by unfold lim; omega) (by simp; omega) ?_; intro sv2 w3 hown2 hg2 hat; obtain ⟨A2, c2, rfl⟩ := own_form hown2; have kg : Kp (fun q => (Value.slice As l.length ks).ownBlock = some q) W2 w3 := ((Kp.refl _ W2).alloc _).grown hg2 (fun q e => .inl e); have g7 := blk_kp g6 kg hob; have x7 := box1 g7; have f7 := blk_frozen g7; have l7 := blk_lt g7)
    go_end0
    have kz : Kp (fun q => q = bo) w3 (w3.setCell ⟨bo, 0, none⟩ (.slice A2 (l.length + 1) c2)) := (Kp.refl (fun q => q = bo) w3).set (p := ⟨bo, 0, none⟩) (.inl rfl) _
    have kall : Kp (fun q => (q = bo ∨ q = bm) ∨ o q) W (w3.setCell ⟨bo, 0, none⟩ (.slice A2 (l.length + 1) c2)) := (((Kp.of_below (fun q => (q = bo ∨ q = bm) ∨ o q) ab).trans kp2 (fun i hi e => .inl (.inr e))).trans kg (fun i hi e => .inr ((i8 i).2 e))).trans kz (fun i hi e => .inl (.inl e))
    have nk : ∀ q, q < B0 → (Value.slice As l.length ks).ownBlock ≠ some q := fun q hq => own_ge i7 hq
    refine ⟨rfl, fun q => (Value.slice A2 (l.length + 1) c2).ownBlock = some q, kall, fun q hq => ?_, ?_⟩
    · rcases hat q hq with e | e
      · exact .inl ((i8 q).2 e)
      · exact .inr (by simp at e; omega)
    · rw [hG.out]
      refine ⟨blk_kp (blk_kp g1 kg (nk _ hB.1)) kz hne.2.2.1, blk_kp (blk_kp g2 kg (nk _ hB.2.1)) kz hne.2.2.2.2, ⟨_, _, blk_kp (blk_kp g3 kg (nk _ hB.2.2.1)) kz (fun e => hne.1 e.symm), fun e he => ?_, fun z hz => ?_⟩, ⟨_, by simpa using blk_set g7 0 (.slice A2 (l.length + 1) c2), ?_, fun q => Iff.rfl⟩, ?_, ?_⟩
      · simp only [Array.toList_push, List.mem_append, List.mem_singleton] at he
        rcases he with he | rfl
        · obtain ⟨z, h1, h2, h3, h4⟩ := hi4.out e he
          exact ⟨z, h1, h2, h3, List.mem_append_left _ h4⟩
        · exact ⟨n, rfl, hn2, rfl, by simp⟩
      · rcases List.mem_append.1 hz with hz | hz
        · obtain ⟨e, he, hk⟩ := hi5.out z hz
          exact ⟨e, by simp [he], hk⟩
        · simp at hz
          subst hz
          exact ⟨{ key := .int .i64 z, val := .bool true, born := cl }, by simp, rfl⟩
      · rw [show ints (l ++ [n]) = ints l ++ [.int .i64 n] by simp [ints], List.length_append]
        exact own_far hown2 hB.2.2.2 _
      · rw [List.nodup_append]
        exact ⟨i9.1, by simp, fun a ha b hb => by
          simp at hb
          subst hb
          exact fun e => hnl'.out (e ▸ ha)⟩
      · intro x hx
        rcases List.mem_append.1 hx with hx | hx
        · exact i9.2 x hx
        · simp at hx
          subst hx
          exact hn2
end Go.Proofs.YtpgbeapojjinmaaGreatDoor
namespace Go.Proofs.YtpgbeapojjinmaaGreatDoor
open Go.RowKit Go.Shelf Go.Proofs.YtpgbeapojjinmaaGreatDoorW.PrintLast
theorem NumI.below {kd : Int} {bk bs bm bo B0 : Nat} {l : List Int} {o : Nat → Prop} {W W' : World} (i : NumI kd bk bs bm bo B0 l o W) (b : Below W.heap.size W W') : NumI kd bk bs bm bo B0 l o W' := by
  obtain ⟨i1, i2, ⟨es, cl, i3, i4⟩, ⟨sv, i6, i7, i8⟩, i9⟩ := i
  exact ⟨box_below i1 b, box_below i2 b, ⟨es, cl, box_below i3 b, i4⟩, ⟨sv, box_below i6 b, own_kp i7 (Kp.of_below (fun _ => False) b) (fun _ hf => hf.elim), i8⟩, i9⟩
/-- A list of ints that a call returns. -/
def IntRes (w : World) (h : Snap) (l : List Int) (e : Ending) (w' : World) : Prop := ∃ A c h', e = .returned (.slice A l.length c) ∧ IntS h' l (.slice A l.length c) ∧ Mk w h w' h' ∧ Below w.heap.size w w'
set_option maxRecDepth 100000 in
set_option maxHeartbeats 8000000 in
theorem numbers_calls (t : Tm) (kd : Int) (cs : List Value) (w : World) (h : Snap) (H : Has w h) (r : TmR h t cs) :
    Calls Tryz.prog 141 #[.agg cs.toArray, .int .i64 kd] w (IntRes w h (numsV kd t)) := by
  have r0 := Lib.hid r
  obtain ⟨A, cap, rfl, hl, hlm, hk1, hn1, hr⟩ := r.open_
  have hu34 := Tryz.underlying34
  have hmf := run_mf
  have hmm := @run_makeMap Tryz.prog
  obtain ⟨a1, a2, ab⟩ := alloc2 w (.cells #[.int .i64 t.k, .int .i64 t.n, .string t.nm, .slice A t.ar.length cap] 34) (.cells #[.int .i64 kd] 3)
  obtain ⟨R, hR⟩ : ∃ R, numsV kd t = R := ⟨_, rfl⟩
  rw [hR]
  have hG := Lib.hid (show R = if rawP t = 0 then eachT (stepN kd) [] 0 t else [] by rw [← hR]; rfl)
  clear hR
  go_enter Tryz.func141, Tryz.ntmps141
  go_wp2_with fail
  refine (Raw_calls t _ _ h (H.below ab) r0.out).mono ?_
  rintro e w1 ⟨rfl, k1⟩
  have ab1 := below_then ab k1 ab.size
  have b1 := box_below a1 k1
  have b2 := box_below a2 k1
  have x1 := box4 b1
  have l1 := blk_lt b1
  by_cases q : rawP t = 0
  rotate_left
  · have q' : (rawP t != 0) = true := by simpa using q
    have hG2 : R = [] := by rw [hG.out, if_neg q]
    subst hG2
    clear hG
    clear q
    go_wp2_with fail
    go_ret
    exact ⟨none, 0, h, rfl, IntS.nil h, Mk.refl (H.below ab1), ab1⟩
  have q' : (rawP t != 0) = false := by simp [q]
  have hraw := (rawP_zero t).1 q
  have hld := Tm.ld_sz t
  replace hG := Lib.hid (show R = eachT (stepN kd) [] 0 t by rw [hG.out, if_pos q])
  have hsm := Lib.hid (raw_small t hraw.2)
  clear q
  have lk := blk_lt b2
  have sz1 := ab1.size
  have lk2 := blk_lt b2
  obtain ⟨W3, hW3⟩ : ∃ W3, ((w1.alloc (.cells #[.slice none 0 0] 85)).alloc (.map #[] 0)).alloc (.cells #[.map (some (w1.heap.size + 1))] 208) = W3 := ⟨_, rfl⟩
  have c0 : W3.heap[w1.heap.size]? = some (.cells #[.slice none 0 0] 85) := by rw [← hW3]; exact blk_alloc (blk_alloc (blk_new _ _) _) _
  have c1 : W3.heap[w1.heap.size + 1]? = some (.map #[] 0) := by rw [← hW3]; exact blk_alloc (by simpa using blk_new (w1.alloc (.cells #[.slice none 0 0] 85)) (.map #[] 0)) _
  have c2 : W3.heap[w1.heap.size + 2]? = some (.cells #[.map (some (w1.heap.size + 1))] 208) := by rw [← hW3]; simpa using blk_new ((w1.alloc (.cells #[.slice none 0 0] 85)).alloc (.map #[] 0)) (.cells #[.map (some (w1.heap.size + 1))] 208)
  have cb : Below w1.heap.size w1 W3 := by rw [← hW3]; exact (((Below.refl _ w1).alloc (Nat.le_refl _) _).alloc (by simp) _).alloc (by simp <;> omega) _
  have sz3 : W3.heap.size = w1.heap.size + 3 := by rw [← hW3]; simp
  have ck := box_below b2 cb
  have hI0 : NumI kd (w.heap.size + 1) (w1.heap.size + 2) (w1.heap.size + 1) w1.heap.size (w1.heap.size + 3) [] (fun q => (Value.slice none 0 0).ownBlock = some q) W3 :=
    ⟨ck, c2, ⟨#[], 0, c1, fun e he => by simp at he, fun n hn => by simp at hn⟩, ⟨.slice none 0 0, c0, World.ownsRow_nil .., fun q => Iff.rfl⟩, by simp, fun x hx => by simp at hx⟩
  have x3 := box4 (box_below b1 cb)
  have l3 := blk_lt (box_below b1 cb)
  have hI0' := Lib.hid hI0
  clear hI0 c0 c1 c2 ck x1 l1
  go_wp2_with fail
  clear hW3 x3 l3
  refine (each2_calls (fun q => q = w1.heap.size ∨ q = w1.heap.size + 1) 189 #[.pointer (some ⟨w.heap.size + 1, 0, none⟩), .pointer (some ⟨w1.heap.size + 2, 0, none⟩), .pointer (some ⟨w1.heap.size, 0, none⟩)] (stepN kd) (fun l o W => NumI kd (w.heap.size + 1) (w1.heap.size + 2) (w1.heap.size + 1) w1.heap.size (w1.heap.size + 3) l o W) smallN W3 (fun k hk => by omega) (enters_ Tryz.func189 (by kernel_rfl) rfl)
    (fun s o W W' hi hb _ => hi.below hb) (fun s o W hi q hq => by
      obtain ⟨sv, _, h7, h8⟩ := hi.row
      have := h7.lt q ((h8 q).1 hq)
      omega) (fun t cs b W h s o hW H r hp hi => numsfn_calls kd _ _ _ _ _ (by omega) (by omega) t cs b W h s o (by omega) H r hp hi) t.sz t (Nat.le_refl _) hsm.out 0 (by omega) _ _ h (Nat.le_refl _) (H.below (below_then ab1 cb ab1.size)) (H.off_new (fun k hk => by omega)) (H.off_new (fun k hk => by omega)) r0.out [] _ hI0'.out).mono ?_
  rintro e w2 ⟨rfl, o', k2, s2, i2⟩
  rw [← hG.out] at i2
  obtain ⟨sv, g6, g7, g8⟩ := i2.row
  have hlen := i2.len
  have kk : Below w.heap.size w w2 := ((Kp.of_below (fun q => (q = w1.heap.size ∨ q = w1.heap.size + 1) ∨ (Value.slice none 0 0).ownBlock = some q) (below_then ab1 cb ab1.size)).trans k2 (fun i hi e => e)).below (fun i hi e => by
    rcases e with e | e
    · omega
    · simp [Value.ownBlock] at e)
  obtain ⟨h2, r2, m2⟩ := own_ints (w0 := w) (H.below kk) (by omega) g7 (by unfold lim; omega)
  obtain ⟨A2, c2, rfl⟩ := own_form g7
  have x2 := box1 g6
  have l2 := blk_lt g6
  clear i2 k2 s2 g8
  go_wp2_with fail
  go_ret
  exact ⟨A2, c2, h2, rfl, r2, m2, kk⟩
set_option maxRecDepth 100000 in
set_option maxHeartbeats 4000000 in
theorem Vars_calls (t : Tm) (cs : List Value) (w : World) (h : Snap) (H : Has w h) (r : TmR h t cs) : Calls Tryz.prog 64 #[.agg cs.toArray] w (IntRes w h (numsV 4 t)) := by
  have r0 := Lib.hid r
  obtain ⟨A, cap, rfl, hl, hlm, hk1, hn1, hr⟩ := r.open_
  have hu34 := Tryz.underlying34
  obtain ⟨a1, ab⟩ := alloc1 w (.cells #[.int .i64 t.k, .int .i64 t.n, .string t.nm, .slice A t.ar.length cap] 34)
  go_enter Tryz.func64, Tryz.ntmps64
  go_wp2_with fail
  refine (numbers_calls t 4 _ _ h (H.below ab) r0.out).mono ?_
  rintro e w1 ⟨A1, c1, h1, rfl, r1, m1, k1⟩
  go_wp2_with fail
  go_ret
  exact ⟨A1, c1, h1, rfl, r1, m1.from_ (by simp), below_then ab k1 ab.size⟩
set_option maxRecDepth 100000 in
set_option maxHeartbeats 4000000 in
theorem Pars_calls (t : Tm) (cs : List Value) (w : World) (h : Snap) (H : Has w h) (r : TmR h t cs) : Calls Tryz.prog 66 #[.agg cs.toArray] w (IntRes w h (numsV 3 t)) := by
  have r0 := Lib.hid r
  obtain ⟨A, cap, rfl, hl, hlm, hk1, hn1, hr⟩ := r.open_
  have hu34 := Tryz.underlying34
  obtain ⟨a1, ab⟩ := alloc1 w (.cells #[.int .i64 t.k, .int .i64 t.n, .string t.nm, .slice A t.ar.length cap] 34)
  go_enter Tryz.func66, Tryz.ntmps66
  go_wp2_with fail
  refine (numbers_calls t 3 _ _ h (H.below ab) r0.out).mono ?_
  rintro e w1 ⟨A1, c1, h1, rfl, r1, m1, k1⟩
  go_wp2_with fail
  go_ret
  exact ⟨A1, c1, h1, rfl, r1, m1.from_ (by simp), below_then ab k1 ab.size⟩
set_option maxRecDepth 100000 in
set_option maxHeartbeats 4000000 in
theorem Occurs_calls (t : Tm) (v : Int) (cs : List Value) (w : World) (h : Snap) (H : Has w h) (r : TmR h t cs) : Calls Tryz.prog 61 #[.agg cs.toArray, .int .i64 v] w fun e w' => e = .returned (.bool (hasI (numsV 4 t) v)) ∧ Below w.heap.size w w' := by
  have r0 := Lib.hid r
  obtain ⟨A, cap, rfl, hl, hlm, hk1, hn1, hr⟩ := r.open_
  have hu34 := Tryz.underlying34
  obtain ⟨a1, ab⟩ := alloc1 w (.cells #[.int .i64 t.k, .int .i64 t.n, .string t.nm, .slice A t.ar.length cap] 34)
  go_enter Tryz.func61, Tryz.ntmps61
  go_wp2_with fail
  refine (Vars_calls t _ _ h (H.below ab) r0.out).mono ?_
  rintro e w1 ⟨A1, c1, h1, rfl, r1, m1, k1⟩
  go_wp2_with fail
  refine (ContainsI_calls _ v _ w1 h1 m1.has r1).mono ?_
  rintro e w2 ⟨rfl, rfl⟩
  go_wp2_with fail
  go_ret
  exact ⟨rfl, below_then ab k1 ab.size⟩
end Go.Proofs.YtpgbeapojjinmaaGreatDoor
namespace Go.Proofs.YtpgbeapojjinmaaGreatDoor
open Go.RowKit Go.Shelf Go.Proofs.YtpgbeapojjinmaaGreatDoorW.PrintLast
/-! ### each, for a step that does not ask how many binders there are -/
theorem each_b {σ : Type} {step : σ → Tm → Int → σ} (hs : ∀ s t b b', step s t b = step s t b') : ∀ m, (∀ t : Tm, t.sz ≤ m → ∀ s b b', eachT step s b t = eachT step s b' t) ∧ ∀ l : List Tm, Tm.szL l ≤ m → ∀ s b b', eachL step s b l = eachL step s b' l := by
  intro m
  induction m with
  | zero =>
    refine ⟨fun t ht => by have := t.sz_pos; omega, fun l hl => ?_⟩
    cases l with
    | nil => intro s b b'; rw [eachL, eachL]
    | cons t l => have := t.sz_pos; rw [Tm.szL] at hl; omega
  | succ m ih =>
    have h1 : ∀ t : Tm, t.sz ≤ m + 1 → ∀ s b b', eachT step s b t = eachT step s b' t := by
      rintro ⟨k, n, nm, ar⟩ ht s b b'
      rw [eachT, eachT, hs s _ b b']
      exact ih.2 ar (by rw [Tm.sz] at ht; omega) _ _ _
    refine ⟨h1, fun l => ?_⟩
    induction l with
    | nil => intro hl s b b'; rw [eachL, eachL]
    | cons t l il =>
      intro hl s b b'
      rw [Tm.szL] at hl
      rw [eachL, eachL, h1 t (by omega) s b b']
      exact il (by omega) _ _ _
/-- Numbers that are small. -/
def fewN (u : Tm) : Bool := decide (0 ≤ u.n ∧ u.n ≤ 100000)
/-- The document's table of the numbers that are there. -/
def MetI (g : Nat) (mv : Value) (l : List Int) (W : World) : Prop := mv = .slice none 0 0 ∨ ∃ arr, mv = .slice (some ⟨g, 0, none⟩) 100001 100001 ∧ W.heap[g]? = some (.cells arr 4) ∧ arr.size = 100001 ∧ ∀ n : Nat, n < 100001 → arr[n]? = some (.bool (hasI l n))
theorem MetI.kp {S : Nat → Prop} {g : Nat} {mv : Value} {l : List Int} {W W' : World} (i : MetI g mv l W) (k : Kp S W W') (hg : ¬ S g) : MetI g mv l W' := by
  rcases i with e | ⟨arr, e, h1, h2⟩
  · exact .inl e
  · exact .inr ⟨arr, e, blk_kp h1 k hg, h2⟩
theorem eq162 (w : World) : Sem.run Tryz.prog (binOp BinOp.eql 162 (Value.slice none 0 0) (Value.slice none 0 0)) w = .ok (.bool true) w := by kernel_rfl
theorem ne162 (w : World) : Sem.run Tryz.prog (binOp BinOp.neq 162 (Value.slice none 0 0) (Value.slice none 0 0)) w = .ok (.bool false) w := by kernel_rfl
theorem eq162' (g : Nat) (w : World) : Sem.run Tryz.prog (binOp BinOp.eql 162 (Value.slice (some ⟨g, 0, none⟩) 100001 100001) (Value.slice none 0 0)) w = .ok (.bool false) w := by kernel_rfl
theorem ne162' (g : Nat) (w : World) : Sem.run Tryz.prog (binOp BinOp.neq 162 (Value.slice (some ⟨g, 0, none⟩) 100001 100001) (Value.slice none 0 0)) w = .ok (.bool true) w := by kernel_rfl
structure NumL (g B0 : Nat) (mv : Value) (l : List Int) (sv : Value) (W : World) : Prop where
  row : W.ownsRow B0 3 1 sv l.length (ints l)
  met : MetI g mv l W
  nd : l.Nodup ∧ ∀ x ∈ l, 0 ≤ x ∧ x ≤ 100000
theorem NumL.len {g B0 : Nat} {mv sv : Value} {l : List Int} {W : World} (i : NumL g B0 mv l sv W) : l.length ≤ 100001 := nodup_len 100001 l i.nd.1 (fun x hx => by have := i.nd.2 x hx; omega)
theorem NumL.kp {S : Nat → Prop} {g B0 : Nat} {mv sv : Value} {l : List Int} {W W' : World} (i : NumL g B0 mv l sv W) (k : Kp S W W') (hg : ¬ S g) (ho : ∀ q, S q → sv.ownBlock ≠ some q) : NumL g B0 mv l sv W' := ⟨own_kp i.row k ho, i.met.kp k hg, i.nd⟩
theorem NumL.snoc {g B0 : Nat} {mv sv : Value} {l : List Int} {W : World} {n : Int} (row : W.ownsRow B0 3 1 sv (l.length + 1) (ints l ++ [.int .i64 n])) (met : MetI g mv (l ++ [n]) W) (nd : l.Nodup ∧ ∀ x ∈ l, 0 ≤ x ∧ x ≤ 100000) (hn : 0 ≤ n ∧ n ≤ 100000) (hh : hasI l n = false) : NumL g B0 mv (l ++ [n]) sv W := by
  refine ⟨by rw [show ints (l ++ [n]) = ints l ++ [.int .i64 n] by simp [ints], List.length_append]; exact row, met, ?_, ?_⟩
  · rw [List.nodup_append]
    exact ⟨nd.1, by simp, fun a ha b hb => by
      simp at hb
      subst hb
      exact fun e => by rw [e] at ha; rw [hasI_iff.2 ha] at hh; cases hh⟩
  · intro x hx
    rcases List.mem_append.1 hx with hx | hx
    · exact nd.2 x hx
    · simp at hx
      subst hx
      exact hn
theorem hasI_snoc (l : List Int) (n x : Int) : hasI (l ++ [n]) x = (hasI l x || n == x) := by
  induction l with
  | nil => simp [hasI]
  | cons y l ih => simp [hasI, ih, Bool.or_assoc]
def RNum (w : World) (g B0 : Nat) (mv sv : Value) (l : List Int) (e : Ending) (w' : World) : Prop := ∃ sv', e = .returned sv' ∧ Kp (fun q => q = g ∨ sv.ownBlock = some q) w w' ∧ (∀ q, sv'.ownBlock = some q → sv.ownBlock = some q ∨ w.heap.size ≤ q) ∧ NumL g B0 mv l sv' w'
set_option maxRecDepth 100000 in
set_option maxHeartbeats 8000000 in
theorem rnumbers_calls (kd : Int) (g B0 : Nat) (hgB : g < B0) (mv : Value) : ∀ (m : Nat) (t : Tm) (_ : t.sz ≤ m) (_ : allN fewN t = true) (cs : List Value) (w : World) (h : Snap) (_ : B0 ≤ w.heap.size) (H : Has w h) (hoG : Off h (fun q => q = g ∨ B0 ≤ q)) (r : TmR h t cs) (l : List Int) (sv : Value) (hi : NumL g B0 mv l sv w),
    Calls Tryz.prog 142 #[.agg cs.toArray, .int .i64 kd, sv, mv] w (RNum w g B0 mv sv (eachT (stepN kd) l 0 t)) := by
  intro m
  induction m with
  | zero => intro t ht; have := t.sz_pos; omega
  | succ m ih =>
  rintro ⟨kk, nn, nm, ar⟩ ht hsm cs w h hw0 H hoG r l sv hi
  obtain ⟨A, cap', rfl, hl, hlm, hk1, hn1, hr⟩ := id r
  have hu34 := Tryz.underlying34
  have IH := Lib.hid ih
  clear ih
  unfold lim at hlm
  have hfw : 0 ≤ nn ∧ nn ≤ 100000 := by rw [allN] at hsm; simp only [Bool.and_eq_true] at hsm; have := of_decide_eq_true hsm.1; exact this
  have hrl := Lib.hid (show allNL fewN ar = true by rw [allN] at hsm; simp only [Bool.and_eq_true] at hsm; exact hsm.2)
  clear hsm
  obtain ⟨l1, hl1⟩ : ∃ l1, stepN kd l (.mk kk nn nm ar) 0 = l1 := ⟨_, rfl⟩
  have hst := Lib.hid (show l1 = if kk = kd ∧ hasI l nn = false then l ++ [nn] else l by rw [← hl1]; rfl)
  obtain ⟨f, hf0, hfs, hfe⟩ : ∃ f : List Tm → List Int, Hid (f [] = l1) ∧ Hid (∀ l t, f (l ++ [t]) = eachT (stepN kd) (f l) 0 t) ∧ Hid (f ar = eachT (stepN kd) l 0 (.mk kk nn nm ar)) := ⟨fun x => eachL (stepN kd) l1 0 x, by show _ = _; simp [eachL], by show ∀ _ _, _; intro x t; exact eachL_snoc (stepN kd) 0 t x _, by
    show _ = _
    rw [eachT, hl1]
    exact ((each_b (step := stepN kd) (fun _ _ _ _ => rfl) _).2 ar (Nat.le_refl _) _ _ _)⟩
  clear hl1
  obtain ⟨hB, hab⟩ := alloc1 w (.cells #[.int .i64 kk, .int .i64 nn, .string nm, .slice A ar.length cap'] 34)
  have hown : ∀ q, sv.ownBlock = some q → q < w.heap.size := fun q e => (hi.row.lt q e).2
  have hlen := hi.len
  have x1 := box4 hB
  have e1 := eq162
  have e2 := ne162
  have e3 := eq162' g
  have e4 := ne162' g
  have hi1 : NumL g B0 mv l sv (w.alloc (.cells #[.int .i64 kk, .int .i64 nn, .string nm, .slice A ar.length cap'] 34)) := hi.kp (Kp.of_below (fun _ => False) hab) (fun h => h) (fun _ h => h.elim)
  obtain ⟨n', rfl⟩ : ∃ n' : Nat, nn = n' := ⟨nn.toNat, by omega⟩
  have hn2 : n' < 100001 := by omega
  have hi1' := Lib.hid hi1
  have hown' := Lib.hid hown
  have hW0 := Lib.hid hw0
  have offS : Hid (Off h (fun q => q = g ∨ sv.ownBlock = some q)) := Lib.hid ⟨fun x v e hx => hoG.at_ x v e (hx.imp id (fun hh => (hi.row.lt _ hh).1))⟩
  have nS : Hid (¬ (w.heap.size = g ∨ sv.ownBlock = some w.heap.size)) := Lib.hid (fun hh => by
    rcases hh with hh | hh
    · omega
    · have := hown _ hh; omega)
  clear hown hw0 hi
  by_cases c1 : kk = kd
  rotate_left
  · have c1' : (kk == kd) = false := by simpa using c1
    obtain rfl : l1 = l := by rw [hst.out, if_neg (fun h => c1 h.1)]
    clear hst c1
    have N2 := hi1'
    clear hi1 hi1'
    go_enter Tryz.func142, Tryz.ntmps142
    go_wp2_with fail
    have kp2 := Kp.refl (fun q => q = g ∨ sv.ownBlock = some q) (w.alloc (.cells #[.int .i64 kk, .int .i64 n', .string nm, .slice A ar.length cap'] 34))
    have o2 : Hid (∀ q, sv.ownBlock = some q → sv.ownBlock = some q ∨ w.heap.size < q) := Lib.hid (fun q h => .inl h)
    go_loopw [2, 9] (fun v i wr => ∃ (j : Nat) (lj : List Int), j ≤ ar.length ∧ i = .int .i64 j ∧ Kp (fun q => q = g ∨ sv.ownBlock = some q) (w.alloc (.cells #[.int .i64 kk, .int .i64 n', .string nm, .slice A ar.length cap'] 34)) wr ∧ Hid (∀ q, v.ownBlock = some q → sv.ownBlock = some q ∨ w.heap.size < q) ∧ Hid (f (ar.take j) = lj) ∧ Hid (NumL g B0 mv lj v wr)) (fun _ i _ => ar.length - (intOf i).toNat)
    case atStart => exact ⟨0, l1, by omega, rfl, kp2, o2, hf0, N2⟩
    case round =>
      obtain ⟨j, lj, hj, rfl, kq, hoj, hs', Nj⟩ := hrel
      obtain ⟨Aj, cj, rfl⟩ := own_form Nj.out.row
      have hlj := Nj.out.len
      have sq := kq.size
      have kw := (Kp.of_below (fun q => q = g ∨ sv.ownBlock = some q) hab).trans kq (fun i hi hh => hh)
      have hwr := H.kp kw offS.out
      have bx := blk_kp hB kq nS.out
      have xx := box4 bx
      have lx := blk_lt bx
      by_cases hlt : j < ar.length
      · obtain ⟨bb, o', A', c', rfl, d0, d1, d2, d3, rt⟩ := hr.get j hlt
        have hc0 := hwr.cell _ _ d0
        have hc1 := hwr.cell _ _ d1
        have hc2 := hwr.cell _ _ d2
        have hc3 := hwr.cell _ _ d3
        have ht' := Lib.hid (show ar[j].sz ≤ m by have h1 := ht; have h2 := Tm.sz_at ar j hlt; simp only [Tm.sz] at h1; omega)
        have hrj := Lib.hid (allNL_at hrl.out j hlt)
        go_wp2_with fail
        refine (IH.out ar[j] ht'.out hrj.out _ wr h (by have := hW0.out; simp at sq; omega) hwr hoG rt lj (.slice Aj lj.length cj) Nj.out).mono ?_
        rintro e w5 ⟨sv5, rfl, k5, s5, N5⟩
        have k6 := kq.trans k5 (fun i hi hh => by
          rcases hh with hh | hh
          · exact .inl hh
          · rcases hoj.out i hh with hh | hh
            · exact .inr hh
            · simp at hi; omega)
        have o5 : Hid (∀ q, sv5.ownBlock = some q → sv.ownBlock = some q ∨ w.heap.size < q) := Lib.hid (fun q hq => by
          rcases s5 q hq with hh | hh
          · exact hoj.out q hh
          · exact .inr (by simp at sq; omega))
        have N5' := Lib.hid N5
        clear N5 s5
        go_wp2_with fail
        exact ⟨⟨j + 1, _, by omega, by go_num, k6, o5, by show _ = _; rw [take_snoc ar j hlt, hfs.out, hs'.out], N5'⟩, by simp [intOf]; omega⟩
      · obtain rfl : j = ar.length := by omega
        go_wp2_with fail
        go_ret
        refine ⟨_, rfl, kw, fun q hq => (hoj.out q hq).imp id (fun h => by omega), ?_⟩
        have := hs'.out
        rw [List.take_length, hfe.out] at this
        rw [this]
        exact Nj.out
  have c1' : (kk == kd) = true := by simp [c1]
  obtain ⟨As, ks, rfl⟩ := own_form hi1'.out.row
  have own2 := own_kp hi1'.out.row ((Kp.refl (fun _ => False) (w.alloc (.cells #[.int .i64 kk, .int .i64 n', .string nm, .slice A ar.length cap'] 34))).alloc (.cells #[.int .i64 n'] 3)) (fun _ hf => hf.elim)
  have hnb : (World.alloc (w.alloc (.cells #[.int .i64 kk, .int .i64 n', .string nm, .slice A ar.length cap'] 34)) (.cells #[.int .i64 n'] 3)).heap[w.heap.size + 1]? = some (.cells #[.int .i64 (n' : Int)] 3) := (congrArg (fun i => (World.alloc (w.alloc (.cells #[.int .i64 kk, .int .i64 n', .string nm, .slice A ar.length cap'] 34)) (.cells #[.int .i64 n'] 3)).heap[i]?) (by simp)).trans (blk_new (w.alloc (.cells #[.int .i64 kk, .int .i64 n', .string nm, .slice A ar.length cap'] 34)) (.cells #[.int .i64 n'] 3))
  rcases hi1'.out.met with rfl | ⟨arr, rfl, hg, hsz, harr⟩
  · obtain ⟨hI, rI, mI⟩ := own_ints (w0 := { w with heap := #[] }) (H.below hab) (by simp) hi1'.out.row (by unfold lim; omega)
    have hc := Has_calls l n' _ _ hI mI.has rI
    cases hh : hasI l n'
    · rw [hh] at hc
      obtain rfl : l1 = l ++ [(n' : Int)] := by rw [hst.out, if_pos ⟨c1, hh⟩]
      have hh' := Lib.hid hh
      have hc' := Lib.hid hc
      clear hst hh hi1 c1 hc rI mI
      go_enter Tryz.func142, Tryz.ntmps142
      go_wp2_with fail
      refine hc'.out.mono ?_
      rintro e w2 ⟨rfl, rfl⟩
      clear hc'
      go_wp2_with (refine app3L rfl _ _ rfl rfl own2 rfl hnb (by unfold lim; omega) (by have := hW0.out; simp; omega) ?_; intro sv2 w3 hown2 hg2 hat; obtain ⟨A2, c2, rfl⟩ := own_form hown2; have kg : Kp (fun q => (Value.slice As l.length ks).ownBlock = some q) (w.alloc (.cells #[.int .i64 kk, .int .i64 n', .string nm, .slice A ar.length cap'] 34)) w3 := ((Kp.refl _ _).alloc _).grown hg2 (fun q e => .inl e))
      have kp2 : Kp (fun q => q = g ∨ (Value.slice As l.length ks).ownBlock = some q) (w.alloc (.cells #[.int .i64 kk, .int .i64 n', .string nm, .slice A ar.length cap'] 34)) w3 := kg.mono (fun i h => .inr h)
      have o2 : Hid (∀ q, (Value.slice A2 (l.length + 1) c2).ownBlock = some q → (Value.slice As l.length ks).ownBlock = some q ∨ w.heap.size < q) := Lib.hid (fun q hq => (hat q hq).imp id (fun hh => by simp at hh; omega))
      have N2 : Hid (NumL g B0 (.slice none 0 0) (l ++ [(n' : Int)]) (.slice A2 (l.length + 1) c2) w3) := Lib.hid (NumL.snoc hown2 (.inl rfl) hi1'.out.nd hfw hh'.out)
      clear own2 hnb hown2 hg2 hat kg hi1'
      go_loopw [2, 9] (fun v i wr => ∃ (j : Nat) (lj : List Int), j ≤ ar.length ∧ i = .int .i64 j ∧ Kp (fun q => q = g ∨ (Value.slice As l.length ks).ownBlock = some q) (w.alloc (.cells #[.int .i64 kk, .int .i64 n', .string nm, .slice A ar.length cap'] 34)) wr ∧ Hid (∀ q, v.ownBlock = some q → (Value.slice As l.length ks).ownBlock = some q ∨ w.heap.size < q) ∧ Hid (f (ar.take j) = lj) ∧ Hid (NumL g B0 (.slice none 0 0) lj v wr)) (fun _ i _ => ar.length - (intOf i).toNat)
      case atStart => exact ⟨0, _, by omega, rfl, kp2, o2, hf0, N2⟩
      case round =>
        obtain ⟨j, lj, hj, rfl, kq, hoj, hs', Nj⟩ := hrel
        obtain ⟨Aj, cj, rfl⟩ := own_form Nj.out.row
        have hlj := Nj.out.len
        have sq := kq.size
        have kw := (Kp.of_below (fun q => q = g ∨ (Value.slice As l.length ks).ownBlock = some q) hab).trans kq (fun i hi hh => hh)
        have hwr := H.kp kw offS.out
        have bx := blk_kp hB kq nS.out
        have xx := box4 bx
        have lx := blk_lt bx
        by_cases hlt : j < ar.length
        · obtain ⟨bb, o', A', c', rfl, d0, d1, d2, d3, rt⟩ := hr.get j hlt
          have hc0 := hwr.cell _ _ d0
          have hc1 := hwr.cell _ _ d1
          have hc2 := hwr.cell _ _ d2
          have hc3 := hwr.cell _ _ d3
          have ht' := Lib.hid (show ar[j].sz ≤ m by have h1 := ht; have h2 := Tm.sz_at ar j hlt; simp only [Tm.sz] at h1; omega)
          have hrj := Lib.hid (allNL_at hrl.out j hlt)
          go_wp2_with fail
          refine (IH.out ar[j] ht'.out hrj.out _ wr h (by have := hW0.out; simp at sq; omega) hwr hoG rt lj (.slice Aj lj.length cj) Nj.out).mono ?_
          rintro e w5 ⟨sv5, rfl, k5, s5, N5⟩
          have k6 := kq.trans k5 (fun i hi hh => by
            rcases hh with hh | hh
            · exact .inl hh
            · rcases hoj.out i hh with hh | hh
              · exact .inr hh
              · simp at hi; omega)
          have o5 : Hid (∀ q, sv5.ownBlock = some q → (Value.slice As l.length ks).ownBlock = some q ∨ w.heap.size < q) := Lib.hid (fun q hq => by
            rcases s5 q hq with hh | hh
            · exact hoj.out q hh
            · exact .inr (by simp at sq; omega))
          have N5' := Lib.hid N5
          clear N5 s5
          go_wp2_with fail
          exact ⟨⟨j + 1, _, by omega, by go_num, k6, o5, by show _ = _; rw [take_snoc ar j hlt, hfs.out, hs'.out], N5'⟩, by simp [intOf]; omega⟩
        · obtain rfl : j = ar.length := by omega
          go_wp2_with fail
          go_ret
          refine ⟨_, rfl, kw, fun q hq => (hoj.out q hq).imp id (fun h => by omega), ?_⟩
          have := hs'.out
          rw [List.take_length, hfe.out] at this
          rw [this]
          exact Nj.out
    · rw [hh] at hc
      obtain rfl : l1 = l := by rw [hst.out, if_neg (fun h => by rw [hh] at h; exact absurd h.2 (by simp))]
      have hc' := Lib.hid hc
      have N2 := hi1'
      clear hst hh hi1 c1 hc rI mI hi1' own2 hnb
      go_enter Tryz.func142, Tryz.ntmps142
      go_wp2_with fail
      refine hc'.out.mono ?_
      rintro e w2 ⟨rfl, rfl⟩
      clear hc'
      go_wp2_with fail
      have kp2 := Kp.refl (fun q => q = g ∨ (Value.slice As l1.length ks).ownBlock = some q) (w.alloc (.cells #[.int .i64 kk, .int .i64 n', .string nm, .slice A ar.length cap'] 34))
      have o2 : Hid (∀ q, (Value.slice As l1.length ks).ownBlock = some q → (Value.slice As l1.length ks).ownBlock = some q ∨ w.heap.size < q) := Lib.hid (fun q h => .inl h)
      go_loopw [2, 9] (fun v i wr => ∃ (j : Nat) (lj : List Int), j ≤ ar.length ∧ i = .int .i64 j ∧ Kp (fun q => q = g ∨ (Value.slice As l1.length ks).ownBlock = some q) (w.alloc (.cells #[.int .i64 kk, .int .i64 n', .string nm, .slice A ar.length cap'] 34)) wr ∧ Hid (∀ q, v.ownBlock = some q → (Value.slice As l1.length ks).ownBlock = some q ∨ w.heap.size < q) ∧ Hid (f (ar.take j) = lj) ∧ Hid (NumL g B0 (.slice none 0 0) lj v wr)) (fun _ i _ => ar.length - (intOf i).toNat)
      case atStart => exact ⟨0, _, by omega, rfl, kp2, o2, hf0, N2⟩
      case round =>
        obtain ⟨j, lj, hj, rfl, kq, hoj, hs', Nj⟩ := hrel
        obtain ⟨Aj, cj, rfl⟩ := own_form Nj.out.row
        have hlj := Nj.out.len
        have sq := kq.size
        have kw := (Kp.of_below (fun q => q = g ∨ (Value.slice As l1.length ks).ownBlock = some q) hab).trans kq (fun i hi hh => hh)
        have hwr := H.kp kw offS.out
        have bx := blk_kp hB kq nS.out
        have xx := box4 bx
        have lx := blk_lt bx
        by_cases hlt : j < ar.length
        · obtain ⟨bb, o', A', c', rfl, d0, d1, d2, d3, rt⟩ := hr.get j hlt
          have hc0 := hwr.cell _ _ d0
          have hc1 := hwr.cell _ _ d1
          have hc2 := hwr.cell _ _ d2
          have hc3 := hwr.cell _ _ d3
          have ht' := Lib.hid (show ar[j].sz ≤ m by have h1 := ht; have h2 := Tm.sz_at ar j hlt; simp only [Tm.sz] at h1; omega)
          have hrj := Lib.hid (allNL_at hrl.out j hlt)
          go_wp2_with fail
          refine (IH.out ar[j] ht'.out hrj.out _ wr h (by have := hW0.out; simp at sq; omega) hwr hoG rt lj (.slice Aj lj.length cj) Nj.out).mono ?_
          rintro e w5 ⟨sv5, rfl, k5, s5, N5⟩
          have k6 := kq.trans k5 (fun i hi hh => by
            rcases hh with hh | hh
            · exact .inl hh
            · rcases hoj.out i hh with hh | hh
              · exact .inr hh
              · simp at hi; omega)
          have o5 : Hid (∀ q, sv5.ownBlock = some q → (Value.slice As l1.length ks).ownBlock = some q ∨ w.heap.size < q) := Lib.hid (fun q hq => by
            rcases s5 q hq with hh | hh
            · exact hoj.out q hh
            · exact .inr (by simp at sq; omega))
          have N5' := Lib.hid N5
          clear N5 s5
          go_wp2_with fail
          exact ⟨⟨j + 1, _, by omega, by go_num, k6, o5, by show _ = _; rw [take_snoc ar j hlt, hfs.out, hs'.out], N5'⟩, by simp [intOf]; omega⟩
        · obtain rfl : j = ar.length := by omega
          go_wp2_with fail
          go_ret
          refine ⟨_, rfl, kw, fun q hq => (hoj.out q hq).imp id (fun h => by omega), ?_⟩
          have := hs'.out
          rw [List.take_length, hfe.out] at this
          rw [this]
          exact Nj.out
  · have hcell := (blk_cell hg n').trans (harr n' hn2)
    have hgl := blk_lt hg
    cases hh : hasI l n'
    · rw [hh] at hcell
      obtain rfl : l1 = l ++ [(n' : Int)] := by rw [hst.out, if_pos ⟨c1, hh⟩]
      have hh' := Lib.hid hh
      have harr' := Lib.hid harr
      clear hst hh hi1 c1 harr
      go_enter Tryz.func142, Tryz.ntmps142
      go_wp2_with (refine app3L rfl _ _ rfl rfl own2 rfl hnb (by unfold lim; omega) (by have := hW0.out; simp; omega) ?_; intro sv2 w3 hown2 hg2 hat; obtain ⟨A2, c2, rfl⟩ := own_form hown2; have kg : Kp (fun q => (Value.slice As l.length ks).ownBlock = some q) (w.alloc (.cells #[.int .i64 kk, .int .i64 n', .string nm, .slice A ar.length cap'] 34)) w3 := ((Kp.refl _ _).alloc _).grown hg2 (fun q e => .inl e); have g3 := blk_kp hg kg (own_ge own2 hgB); have l3 := blk_lt g3; have f3 := blk_frozen g3 n'; have d3 := (blk_cell g3 n').trans ((blk_cell hg n').symm.trans hcell); have b3 := blk_kp hB kg (fun e => nS.out (.inr e)); have x3 := box4 b3; have lb3 := blk_lt b3)
      have kz : Kp (fun q => q = g) w3 (w3.setCell ⟨g, n', none⟩ (.bool true)) := (Kp.refl (fun q => q = g) w3).set (p := ⟨g, n', none⟩) (.inl rfl) _
      have kp2 : Kp (fun q => q = g ∨ (Value.slice As l.length ks).ownBlock = some q) (w.alloc (.cells #[.int .i64 kk, .int .i64 n', .string nm, .slice A ar.length cap'] 34)) (w3.setCell ⟨g, n', none⟩ (.bool true)) := (kg.mono (fun i h => .inr h)).trans kz (fun i _ h => .inl h)
      have o2 : Hid (∀ q, (Value.slice A2 (l.length + 1) c2).ownBlock = some q → (Value.slice As l.length ks).ownBlock = some q ∨ w.heap.size < q) := Lib.hid (fun q hq => (hat q hq).imp id (fun hh => by simp at hh; omega))
      have N2 : Hid (NumL g B0 (.slice (some ⟨g, 0, none⟩) 100001 100001) (l ++ [(n' : Int)]) (.slice A2 (l.length + 1) c2) (w3.setCell ⟨g, n', none⟩ (.bool true))) := Lib.hid (NumL.snoc (own_far hown2 hgB _) (.inr ⟨_, rfl, blk_set g3 n' (.bool true), by simp [hsz], fun x hx => by
        rw [Array.getElem?_setIfInBounds, hasI_snoc]
        by_cases e : n' = x
        · subst e
          rw [if_pos rfl, if_pos (by omega)]
          simp
        · rw [if_neg e, harr'.out x hx]
          have : ((n' : Int) == (x : Int)) = false := beq_eq_false_iff_ne.2 (by omega)
          rw [this, Bool.or_false]⟩) hi1'.out.nd hfw hh'.out)
      clear own2 hnb hown2 hg2 hat kg hi1' kz g3 f3 l3 d3 hcell hgl b3 x3 lb3
      go_loopw [2, 9] (fun v i wr => ∃ (j : Nat) (lj : List Int), j ≤ ar.length ∧ i = .int .i64 j ∧ Kp (fun q => q = g ∨ (Value.slice As l.length ks).ownBlock = some q) (w.alloc (.cells #[.int .i64 kk, .int .i64 n', .string nm, .slice A ar.length cap'] 34)) wr ∧ Hid (∀ q, v.ownBlock = some q → (Value.slice As l.length ks).ownBlock = some q ∨ w.heap.size < q) ∧ Hid (f (ar.take j) = lj) ∧ Hid (NumL g B0 (.slice (some ⟨g, 0, none⟩) 100001 100001) lj v wr)) (fun _ i _ => ar.length - (intOf i).toNat)
      case atStart => exact ⟨0, _, by omega, rfl, kp2, o2, hf0, N2⟩
      case round =>
        obtain ⟨j, lj, hj, rfl, kq, hoj, hs', Nj⟩ := hrel
        obtain ⟨Aj, cj, rfl⟩ := own_form Nj.out.row
        have hlj := Nj.out.len
        have sq := kq.size
        have kw := (Kp.of_below (fun q => q = g ∨ (Value.slice As l.length ks).ownBlock = some q) hab).trans kq (fun i hi hh => hh)
        have hwr := H.kp kw offS.out
        have bx := blk_kp hB kq nS.out
        have xx := box4 bx
        have lx := blk_lt bx
        by_cases hlt : j < ar.length
        · obtain ⟨bb, o', A', c', rfl, d0, d1, d2, d3, rt⟩ := hr.get j hlt
          have hc0 := hwr.cell _ _ d0
          have hc1 := hwr.cell _ _ d1
          have hc2 := hwr.cell _ _ d2
          have hc3 := hwr.cell _ _ d3
          have ht' := Lib.hid (show ar[j].sz ≤ m by have h1 := ht; have h2 := Tm.sz_at ar j hlt; simp only [Tm.sz] at h1; omega)
          have hrj := Lib.hid (allNL_at hrl.out j hlt)
          go_wp2_with fail
          refine (IH.out ar[j] ht'.out hrj.out _ wr h (by have := hW0.out; simp at sq; omega) hwr hoG rt lj (.slice Aj lj.length cj) Nj.out).mono ?_
          rintro e w5 ⟨sv5, rfl, k5, s5, N5⟩
          have k6 := kq.trans k5 (fun i hi hh => by
            rcases hh with hh | hh
            · exact .inl hh
            · rcases hoj.out i hh with hh | hh
              · exact .inr hh
              · simp at hi; omega)
          have o5 : Hid (∀ q, sv5.ownBlock = some q → (Value.slice As l.length ks).ownBlock = some q ∨ w.heap.size < q) := Lib.hid (fun q hq => by
            rcases s5 q hq with hh | hh
            · exact hoj.out q hh
            · exact .inr (by simp at sq; omega))
          have N5' := Lib.hid N5
          clear N5 s5
          go_wp2_with fail
          exact ⟨⟨j + 1, _, by omega, by go_num, k6, o5, by show _ = _; rw [take_snoc ar j hlt, hfs.out, hs'.out], N5'⟩, by simp [intOf]; omega⟩
        · obtain rfl : j = ar.length := by omega
          go_wp2_with fail
          go_ret
          refine ⟨_, rfl, kw, fun q hq => (hoj.out q hq).imp id (fun h => by omega), ?_⟩
          have := hs'.out
          rw [List.take_length, hfe.out] at this
          rw [this]
          exact Nj.out
    · rw [hh] at hcell
      obtain rfl : l1 = l := by rw [hst.out, if_neg (fun h => by rw [hh] at h; exact absurd h.2 (by simp))]
      have N2 := hi1'
      clear hst hh hi1 c1 hi1' own2 hnb harr
      go_enter Tryz.func142, Tryz.ntmps142
      go_wp2_with fail
      have kp2 := Kp.refl (fun q => q = g ∨ (Value.slice As l1.length ks).ownBlock = some q) (w.alloc (.cells #[.int .i64 kk, .int .i64 n', .string nm, .slice A ar.length cap'] 34))
      have o2 : Hid (∀ q, (Value.slice As l1.length ks).ownBlock = some q → (Value.slice As l1.length ks).ownBlock = some q ∨ w.heap.size < q) := Lib.hid (fun q h => .inl h)
      go_loopw [2, 9] (fun v i wr => ∃ (j : Nat) (lj : List Int), j ≤ ar.length ∧ i = .int .i64 j ∧ Kp (fun q => q = g ∨ (Value.slice As l1.length ks).ownBlock = some q) (w.alloc (.cells #[.int .i64 kk, .int .i64 n', .string nm, .slice A ar.length cap'] 34)) wr ∧ Hid (∀ q, v.ownBlock = some q → (Value.slice As l1.length ks).ownBlock = some q ∨ w.heap.size < q) ∧ Hid (f (ar.take j) = lj) ∧ Hid (NumL g B0 (.slice (some ⟨g, 0, none⟩) 100001 100001) lj v wr)) (fun _ i _ => ar.length - (intOf i).toNat)
      case atStart => exact ⟨0, _, by omega, rfl, kp2, o2, hf0, N2⟩
      case round =>
        obtain ⟨j, lj, hj, rfl, kq, hoj, hs', Nj⟩ := hrel
        obtain ⟨Aj, cj, rfl⟩ := own_form Nj.out.row
        have hlj := Nj.out.len
        have sq := kq.size
        have kw := (Kp.of_below (fun q => q = g ∨ (Value.slice As l1.length ks).ownBlock = some q) hab).trans kq (fun i hi hh => hh)
        have hwr := H.kp kw offS.out
        have bx := blk_kp hB kq nS.out
        have xx := box4 bx
        have lx := blk_lt bx
        by_cases hlt : j < ar.length
        · obtain ⟨bb, o', A', c', rfl, d0, d1, d2, d3, rt⟩ := hr.get j hlt
          have hc0 := hwr.cell _ _ d0
          have hc1 := hwr.cell _ _ d1
          have hc2 := hwr.cell _ _ d2
          have hc3 := hwr.cell _ _ d3
          have ht' := Lib.hid (show ar[j].sz ≤ m by have h1 := ht; have h2 := Tm.sz_at ar j hlt; simp only [Tm.sz] at h1; omega)
          have hrj := Lib.hid (allNL_at hrl.out j hlt)
          go_wp2_with fail
          refine (IH.out ar[j] ht'.out hrj.out _ wr h (by have := hW0.out; simp at sq; omega) hwr hoG rt lj (.slice Aj lj.length cj) Nj.out).mono ?_
          rintro e w5 ⟨sv5, rfl, k5, s5, N5⟩
          have k6 := kq.trans k5 (fun i hi hh => by
            rcases hh with hh | hh
            · exact .inl hh
            · rcases hoj.out i hh with hh | hh
              · exact .inr hh
              · simp at hi; omega)
          have o5 : Hid (∀ q, sv5.ownBlock = some q → (Value.slice As l1.length ks).ownBlock = some q ∨ w.heap.size < q) := Lib.hid (fun q hq => by
            rcases s5 q hq with hh | hh
            · exact hoj.out q hh
            · exact .inr (by simp at sq; omega))
          have N5' := Lib.hid N5
          clear N5 s5
          go_wp2_with fail
          exact ⟨⟨j + 1, _, by omega, by go_num, k6, o5, by show _ = _; rw [take_snoc ar j hlt, hfs.out, hs'.out], N5'⟩, by simp [intOf]; omega⟩
        · obtain rfl : j = ar.length := by omega
          go_wp2_with fail
          go_ret
          refine ⟨_, rfl, kw, fun q hq => (hoj.out q hq).imp id (fun h => by omega), ?_⟩
          have := hs'.out
          rw [List.take_length, hfe.out] at this
          rw [this]
          exact Nj.out
end Go.Proofs.YtpgbeapojjinmaaGreatDoor
namespace Go.Proofs.YtpgbeapojjinmaaGreatDoor
open Go.RowKit Go.Shelf Go.Proofs.YtpgbeapojjinmaaGreatDoorW.PrintLast
set_option maxRecDepth 100000 in
set_option maxHeartbeats 4000000 in
theorem RSize2_calls (t : Tm) (cs : List Value) (w : World) (h : Snap) (H : Has w h) (r : TmR h t cs) :
    Calls Tryz.prog 56 #[.agg cs.toArray] w fun e w' => e = .returned (.int .i64 (teN 4000 t 0 101)) ∧ Below w.heap.size w w' := by
  obtain ⟨A, cap, rfl, hl, hm, _, _, hr⟩ := r.open_
  have hu34 := Tryz.underlying34
  obtain ⟨b1, ab⟩ := alloc1 w (.cells #[.int .i64 t.k, .int .i64 t.n, .string t.nm, .slice A t.ar.length cap] 34)
  have hz := teN_bd 4000 t 0 101 (by omega)
  obtain ⟨z, hz0⟩ : ∃ z, teN 4000 t 0 101 = z := ⟨_, rfl⟩
  rw [hz0] at hz ⊢
  replace hz0 := Lib.hid hz0
  go_enter Tryz.func56, Tryz.ntmps56
  go_wp2_with fail
  refine (termNodes_calls t.sz t (Nat.le_refl _) _ _ h (H.below ab) r 0 4000 101 (by omega) (by omega) (by omega) (by omega) (by omega)).mono ?_
  rintro e w1 ⟨rfl, k1⟩
  rw [hz0.out]
  have hz2 : ¬ (4001 : Int) < z := by omega
  have hz3 : min z 4001 = z := by omega
  have hz4 : z ≤ 4001 := by omega
  go_wp2_with fail
  go_ret
  exact ⟨rfl, below_then ab k1 ab.size⟩
mutual
theorem raw_few : ∀ t : Tm, rawN t = true → allN fewN t = true
  | .mk k n nm ar, h => by
    have hs := raw_small _ h
    rw [rawN, Bool.and_eq_true] at h
    have hn := nodeP_le h.1
    rw [allN, Bool.and_eq_true] at hs
    have h1 : 0 ≤ n ∧ n ≤ 1000000000 := of_decide_eq_true hs.1
    rw [allN, Bool.and_eq_true]
    exact ⟨decide_eq_true ⟨h1.1, hn⟩, raw_fewL ar h.2⟩
theorem raw_fewL : ∀ l : List Tm, rawNL l = true → allNL fewN l = true
  | [], _ => rfl
  | t :: ts, h => by
    rw [rawNL, Bool.and_eq_true] at h
    rw [allNL, raw_few t h.1, raw_fewL ts h.2]; rfl
end
theorem info4 : (Tryz.prog.info? 4).map (fun i => (i.zero, i.size, i.bytes)) = some (some (.bool false), 1, 1) := by kernel_rfl
theorem mk162 (w : World) : ∃ arr : Array Value, arr.size = 100001 ∧ (∀ n : Nat, n < 100001 → arr[n]? = some (.bool false)) ∧ Sem.run Tryz.prog (Instr.makeSlice 162 (.int .i64 100001) (.int .i64 100001)) w = .ok (.slice (some ⟨w.heap.size, 0, none⟩) 100001 100001) (w.alloc (.cells arr 4)) := by
  obtain ⟨i0, hi0, hz0, hz1, hz2⟩ := info_parts info4
  refine ⟨madeCells #[.bool false] 100001, size_madeCells _ _, fun n hn => ?_, ?_⟩
  · simp [madeCells, hn, Nat.mod_one]
  · have := run_makeSlice (P := Tryz.prog) w 162 4 i0 (.bool false) Tryz.underlying162 hi0 hz0 .i64 .i64 100001 100001 (by omega) (by omega) (by rw [hz1]; decide) (by rw [hz2]; decide) (by omega)
    rw [hz1] at this
    exact this
theorem hasI_nil (n : Int) : hasI [] n = false := rfl
set_option maxRecDepth 100000 in
set_option maxHeartbeats 8000000 in
theorem RNumbers_calls (t : Tm) (kd : Int) (cs : List Value) (w : World) (h : Snap) (H : Has w h) (r : TmR h t cs) :
    Calls Tryz.prog 65 #[.agg cs.toArray, .int .i64 kd] w (IntRes w h (numsV kd t)) := by
  have r0 := Lib.hid r
  obtain ⟨A, cap, rfl, hl, hlm, hk1, hn1, hr⟩ := r.open_
  have hu34 := Tryz.underlying34
  obtain ⟨a1, ab⟩ := alloc1 w (.cells #[.int .i64 t.k, .int .i64 t.n, .string t.nm, .slice A t.ar.length cap] 34)
  obtain ⟨R, hR⟩ : ∃ R, numsV kd t = R := ⟨_, rfl⟩
  rw [hR]
  have hG := Lib.hid (show R = if rawP t = 0 then eachT (stepN kd) [] 0 t else [] by rw [← hR]; rfl)
  clear hR
  go_enter Tryz.func65, Tryz.ntmps65
  go_wp2_with fail
  refine (RRaw_calls t _ _ h (H.below ab) r0.out).mono ?_
  rintro e w1 ⟨rfl, k1⟩
  have ab1 := below_then ab k1 ab.size
  have b1 := box_below a1 k1
  have x1 := box4 b1
  have l1 := blk_lt b1
  by_cases q : rawP t = 0
  rotate_left
  · have q' : (rawP t != 0) = true := by simpa using q
    have hG2 : R = [] := by rw [hG.out, if_neg q]
    subst hG2
    clear hG
    clear q
    go_wp2_with fail
    go_ret
    exact ⟨none, 0, h, rfl, IntS.nil h, Mk.refl (H.below ab1), ab1⟩
  have q' : (rawP t != 0) = false := by simp [q]
  have hraw := (rawP_zero t).1 q
  replace hG := Lib.hid (show R = eachT (stepN kd) [] 0 t by rw [hG.out, if_pos q])
  have hsm := Lib.hid (raw_few t hraw.2)
  clear q hraw
  go_wp2_with fail
  refine (RSize2_calls t _ _ h (H.below ab1) r0.out).mono ?_
  rintro e w2 ⟨rfl, k2⟩
  have ab2 := below_then ab1 k2 ab1.size
  have b2 := box_below b1 k2
  have x2 := box4 b2
  have l2 := blk_lt b2
  generalize teN 4000 t 0 101 = z at *
  clear x1 l1 b1
  have s2 := ab2.size
  by_cases qz : 300 < z
  · go_wp2_with fail
    obtain ⟨arr, ha1, ha2, ha3⟩ := mk162 w2.drew
    refine rgs 5 (fun V => Below w2.heap.size w2 V) [] rfl ((Below.refl _ _).drew) (fun hS => ?_)
    refine rgnf 0 11 (.agg #[.int .i64 t.k, .int .i64 t.n, .string t.nm, .slice A t.ar.length cap]) rfl rfl (by kernel_rfl) (fun _ _ _ h => h) (by kernel_rfl) hS (fun V hV => by have y2 := box4 (box_below b2 hV); have m2 := blk_lt (box_below b2 hV); go_simp) ?_
    refine rgnf 1 12 (.int .i64 kd) rfl rfl (by kernel_rfl) (fun _ _ _ h => h) (by kernel_rfl) hS (fun V hV => by go_simp) ?_
    refine rg1 2 rfl (by kernel_rfl) (by decide) (by kernel_rfl) (fun K hK => ?_)
    go_simp
    obtain ⟨W3, hW3⟩ : ∃ W3, (w2.alloc (.cells arr 4)).drew = W3 := ⟨_, rfl⟩
    have c3 : W3.heap[w2.heap.size]? = some (.cells arr 4) := by rw [← hW3]; exact blk_new w2 (.cells arr 4)
    have k3 : Below w2.heap.size w2 W3 := by rw [← hW3]; exact ((Below.refl _ w2).alloc (Nat.le_refl _) _).drew
    have s3 : W3.heap.size = w2.heap.size + 1 := by rw [← hW3]; simp
    rw [hW3]
    clear hW3
    refine hK.out _ _ k3 (fun _ => ?_)
    clear hK
    refine rg1 3 rfl (by kernel_rfl) (by decide) (by kernel_rfl) (fun K hK => ?_)
    have ab3 := below_then ab2 k3 ab2.size
    go_simp
    refine (rnumbers_calls kd w2.heap.size (w2.heap.size + 1) (by omega) (.slice (some ⟨w2.heap.size, 0, none⟩) 100001 100001) t.sz t (Nat.le_refl _) hsm.out _ W3 h (by omega) (H.below ab3) (H.off_new (fun k hk => by omega)) r0.out [] (.slice none 0 0) ⟨World.ownsRow_nil .., .inr ⟨arr, rfl, c3, ha1, fun n hn => by rw [ha2 n hn]; rfl⟩, by simp, fun x hx => by simp at hx⟩).mono ?_
    rintro e w3 ⟨sv, rfl, k4, o3, N3⟩
    rw [← hG.out] at N3
    have kk2 : Below w2.heap.size w2 w3 := ((Kp.of_below (fun q => q = w2.heap.size ∨ (Value.slice none 0 0).ownBlock = some q) k3).trans k4 (fun i hi e => e)).below (fun i hi e => by
      rcases e with e | e
      · omega
      · cases e)
    have kk := below_then ab2 kk2 ab2.size
    have hlen := N3.len
    obtain ⟨h2, r2, m2⟩ := own_ints (w0 := w) (H.below kk) (by omega) N3.row (by unfold lim; omega)
    obtain ⟨A2, c2, rfl⟩ := own_form N3.row
    clear N3 k4 o3
    simp only []
    refine hK.out _ _ kk2 (fun hS => ?_)
    refine rgnf 4 4 (.slice A2 R.length c2) rfl rfl (by kernel_rfl) (fun _ _ _ h => h) (by kernel_rfl) hS (fun V hV => by go_simp) ?_
    refine rgd (by kernel_rfl) ?_
    go_wp2_with fail
    go_ret
    exact ⟨A2, c2, h2, rfl, r2, m2, kk⟩
  · go_wp2_with fail
    refine (rnumbers_calls kd w.heap.size w2.heap.size l2 (.slice none 0 0) t.sz t (Nat.le_refl _) hsm.out _ w2 h (Nat.le_refl _) (H.below ab2) (H.off_new (fun k hk => by omega)) r0.out [] (.slice none 0 0) ⟨World.ownsRow_nil .., .inl rfl, by simp, fun x hx => by simp at hx⟩).mono ?_
    rintro e w3 ⟨sv, rfl, k3, o3, N3⟩
    rw [← hG.out] at N3
    have kk : Below w.heap.size w w3 := ((Kp.of_below (fun q => q = w.heap.size ∨ (Value.slice none 0 0).ownBlock = some q) ab2).trans k3 (fun i hi e => e)).below (fun i hi e => by
      rcases e with e | e
      · omega
      · cases e)
    have hlen := N3.len
    obtain ⟨h2, r2, m2⟩ := own_ints (w0 := w) (H.below kk) (by omega) N3.row (by unfold lim; omega)
    obtain ⟨A2, c2, rfl⟩ := own_form N3.row
    clear N3 k3 o3
    go_wp2_with fail
    go_ret
    exact ⟨A2, c2, h2, rfl, r2, m2, kk⟩
set_option maxRecDepth 100000 in
set_option maxHeartbeats 4000000 in
theorem ROccurs_calls (t : Tm) (v : Int) (cs : List Value) (w : World) (h : Snap) (H : Has w h) (r : TmR h t cs) : Calls Tryz.prog 62 #[.agg cs.toArray, .int .i64 v] w fun e w' => e = .returned (.bool (hasI (numsV 4 t) v)) ∧ Below w.heap.size w w' := by
  have r0 := Lib.hid r
  obtain ⟨A, cap, rfl, hl, hlm, hk1, hn1, hr⟩ := r.open_
  have hu34 := Tryz.underlying34
  obtain ⟨a1, ab⟩ := alloc1 w (.cells #[.int .i64 t.k, .int .i64 t.n, .string t.nm, .slice A t.ar.length cap] 34)
  go_enter Tryz.func62, Tryz.ntmps62
  go_wp2_with fail
  refine (RNumbers_calls t 4 _ _ h (H.below ab) r0.out).mono ?_
  rintro e w1 ⟨A1, c1, h1, rfl, r1, m1, k1⟩
  go_wp2_with fail
  refine (Has_calls _ v _ w1 h1 m1.has r1).mono ?_
  rintro e w2 ⟨rfl, rfl⟩
  go_wp2_with fail
  go_ret
  exact ⟨rfl, below_then ab k1 ab.size⟩
end Go.Proofs.YtpgbeapojjinmaaGreatDoor
