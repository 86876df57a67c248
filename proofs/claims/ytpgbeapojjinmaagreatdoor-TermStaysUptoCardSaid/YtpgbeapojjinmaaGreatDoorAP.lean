/- Appending slices of types; the first error of some types. No law is proved here. -/
import Derived.Test.YtpgbeapojjinmaaGreatDoorFB
import Derived.Test.YtpgbeapojjinmaaGreatDoorNA
set_option linter.unusedVariables false
set_option linter.unusedSimpArgs false
namespace Go.Proofs.YtpgbeapojjinmaaGreatDoor
open Go.RowKit Go.Shelf Go.Proofs.YtpgbeapojjinmaaGreatDoorW.PrintLast
/-- Appending nothing. -/
theorem app36N {o : Oper} {a : Act} {w : World} {K : Act → World → Prop} {Q : Exit → Act → World → Prop} (s x : Operand) (hop : o.op = .call { callee := .builtin .append, args := #[s, x], argTypes := #[29, 29] })
    {A B : Option Addr} {n c d : Nat} (hs : a.eval s = .slice A n c) (hnc : n ≤ c) (hx : a.eval x = .slice B 0 d) (h : K (a.put o.dst (.slice A n c)) w) : Oper.wp Tryz.prog o a w K Q := by
  have hu29 := Tryz.underlying29
  obtain ⟨i0, hi0, hz0, hz1, hz2⟩ := info_parts info36
  unfold Oper.wp execOp
  simp only [hop, resolve, invoke, builtin, Sem.run_bind, Sem.run_pure, Result.andThen_ok, List.map_toArray, List.map_cons, List.map_nil, hs, hx]
  cases A <;> cases B <;> simp [go_sem, hu29, hnc, storeCells] <;> exact h
/-- Appending a whole slice of types to a row of the call's own. -/
theorem app36S {o : Oper} {a : Act} {w : World} {K : Act → World → Prop} {Q : Exit → Act → World → Prop} (s x : Operand) (ho : o.op = .call { callee := .builtin .append, args := #[s, x], argTypes := #[29, 29] })
    {B n : Nat} {sv xv : Value} {xs : List Value} {us : List Ty} {h : Snap} (hs : a.eval s = sv) (hown : w.ownsRow B 36 2 sv n xs) (hx : a.eval x = xv) (H : Has w h) (rx : TyS h us xv) (hn : n + us.length < lim) (hB : B ≤ w.heap.size)
    (h : ∀ sv' w' ys, w'.ownsRow B 36 2 sv' (n + us.length) (xs ++ ys) → Chunks (TyR h) 2 us ys → w.grownBy w' sv.ownBlock → (∀ q, sv'.ownBlock = some q → sv.ownBlock = some q ∨ w.heap.size ≤ q) → K (a.put o.dst sv') w') : Oper.wp Tryz.prog o a w K Q := by
  obtain ⟨i0, hi0, hz0, hz1, hz2⟩ := info_parts info36
  obtain ⟨A, cap, rfl, hc, hl, hr⟩ := rx
  unfold lim at hn hl
  obtain ⟨As, ks, rfl⟩ := own_form hown
  by_cases hpos : 0 < us.length
  · obtain ⟨b, o', A', c', e, _⟩ := hr.get 0 hpos
    cases e
    obtain ⟨news, n1, n2, n3, n4⟩ := hr.flat
    have ch : Chunks (TyR _) 2 us news := Chunks.of_at us.length us _ rfl n1 n3
    have hnews : ∀ j u, news[j]? = some u → w.cell? ((⟨b, o', none⟩ : Addr).add j) = some u := fun j u hu => by
      have hadd : (⟨b, o', none⟩ : Addr).add j = ⟨b, o' + j, none⟩ := by unfold Addr.add; split <;> simp_all
      rw [hadd]
      exact H.cell _ _ (by simpa using n2 j u hu)
    exact wp_append_lies w s x 29 ho B 36 i0 _ 2 40 Tryz.underlying29 hi0 hz0 hz1 hz2 rfl (by omega) _ n xs hs hown ⟨b, o', none⟩ us.length cap news hx n1 hnews n4 hpos (by simp [maxLen]; omega) (by omega) hB _ rfl
      (fun g' cap' w' h1 h2 h3 _ => h _ w' news h1 ch h2 (fun q e => by
        simp only [Value.ownBlock, Option.some.injEq] at e
        subst e
        exact h3.imp id (fun e => by omega)))
  · have hl0 : us = [] := List.eq_nil_of_length_eq_zero (by omega)
    subst hl0
    have hnc : n ≤ ks := by
      rcases hown.2 with ⟨e, h0⟩ | ⟨g, cap', cur, e, _, _, h2, _⟩
      · cases e; omega
      · cases e; exact h2
    exact app36N s x ho hs hnc hx (h _ w [] (by simpa using hown) .nil ⟨rfl, rfl, rfl, Nat.le_refl _, fun _ _ _ => rfl⟩ (fun q e => .inl e))
theorem box5c {w : World} {b : Nat} {x0 x1 x2 x3 x4 : Value} {T : TypeId} (hb : w.heap[b]? = some (.cells #[x0, x1, x2, x3, x4] T)) : w.cell? ⟨b, 0, none⟩ = some x0 ∧ w.cell? ⟨b, 1, none⟩ = some x1 ∧ w.cell? ⟨b, 2, none⟩ = some x2 ∧ w.cell? ⟨b, 3, none⟩ = some x3 ∧ w.cell? ⟨b, 4, none⟩ = some x4 :=
  ⟨(blk_cell hb 0).trans rfl, (blk_cell hb 1).trans rfl, (blk_cell hb 2).trans rfl, (blk_cell hb 3).trans rfl, (blk_cell hb 4).trans rfl⟩
theorem formTy_sub {nm : ByteArray} {a b : Ty} (h : formTy (.mk nm [a, b]) = 0) (hf : arrB nm = true) : formTy a = 0 ∧ formTy b = 0 := by
  rw [formTy_zero] at h ⊢
  rw [formTy_zero]
  obtain ⟨⟨h1, h2⟩, h3⟩ := h
  rw [formedT_two hf, Bool.and_eq_true] at h3
  have pa := a.sz_pos
  have pb := b.sz_pos
  simp only [Ty.sz, Ty.szL] at h1
  simp only [Ty.dep, Ty.depL] at h2
  exact ⟨⟨⟨by omega, by omega⟩, h3.1⟩, ⟨by omega, by omega⟩, h3.2⟩
theorem formTy_leaf {ty : Ty} (h : formTy ty = 0) : (arrB ty.nm = true ∧ ∃ a b, ty.ar = [a, b] ∧ formTy a = 0 ∧ formTy b = 0) ∨ (arrB ty.nm = false ∧ ty.ar.length ≠ 2) := by
  obtain ⟨nm, l⟩ := ty
  have hf := ((formTy_zero _).1 h).2
  cases c : arrB nm
  · refine .inr ⟨c, ?_⟩
    unfold formedT at hf
    rw [c] at hf
    simp at hf
    simp [Ty.ar, hf]
  · obtain ⟨a, b, rfl, h1, h2⟩ := formedT_inv c hf
    exact .inl ⟨c, a, b, rfl, formTy_sub h c⟩
theorem Chunks.append {α : Type} {R : α → List Value → Prop} {sz : Nat} {ts : List α} {xs : List Value} (h : Chunks R sz ts xs) : ∀ {us : List α} {ys : List Value}, Chunks R sz us ys → Chunks R sz (ts ++ us) (xs ++ ys) := by
  intro us ys k
  induction k with
  | nil => simpa using h
  | snoc _ r e ih => rw [← List.append_assoc, ← List.append_assoc]; exact .snoc ih r e
theorem chkL_append (ss : List ByteArray) : ∀ a b : List Ty, chkL ss (a ++ b) = if chkL ss a = 0 then chkL ss b else chkL ss a
  | [], b => by rw [List.nil_append, chkL, if_pos rfl]
  | x :: a, b => by
    rw [List.cons_append, chkL, chkL, chkL_append ss a b]
    by_cases h : checkP ss x = 0
    · rw [if_pos h, if_pos h]
    · rw [if_neg h, if_neg h, if_neg h]
theorem chkL_four (ss : List ByteArray) (a b c : List Ty) (y : Ty) : chkL ss (a ++ b ++ c ++ [y]) = chkLL ss [a, b, c, [y]] := by
  rw [chkL_append, chkL_append, chkL_append]
  simp only [chkLL]
  by_cases h1 : chkL ss a = 0
  · by_cases h2 : chkL ss b = 0
    · by_cases h3 : chkL ss c = 0
      · by_cases h4 : chkL ss [y] = 0 <;> simp [h1, h2, h3, h4]
      · simp [h1, h2, h3]
    · simp [h1, h2]
  · simp [h1]
theorem check_form {ss : List ByteArray} {u : Ty} (h : checkP ss u = 0) : formTy u = 0 := by
  rw [checkP_eq] at h
  unfold checkTy at h
  split at h
  · assumption
  · exact absurd h ‹_›
theorem chkL_form {ss : List ByteArray} : ∀ {l : List Ty}, chkL ss l = 0 → ∀ u ∈ l, formTy u = 0
  | [], _, u, hu => by cases hu
  | x :: l, h, u, hu => by
    rw [chkL] at h
    split at h
    · rcases List.mem_cons.1 hu with rfl | hu
      · exact check_form ‹_›
      · exact chkL_form h u hu
    · exact absurd h ‹_›
theorem chkLL_form {ss : List ByteArray} : ∀ {ll : List (List Ty)}, chkLL ss ll = 0 → ∀ l ∈ ll, ∀ u ∈ l, formTy u = 0
  | [], _, l, hl => by cases hl
  | x :: ll, h, l, hl => by
    rw [chkLL] at h
    split at h
    · rcases List.mem_cons.1 hl with rfl | hl
      · exact chkL_form ‹_›
      · exact chkLL_form h l hl
    · exact absurd h ‹_›
end Go.Proofs.YtpgbeapojjinmaaGreatDoor
