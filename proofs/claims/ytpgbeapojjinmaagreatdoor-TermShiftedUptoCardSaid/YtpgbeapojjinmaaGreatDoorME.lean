/- slices.Clip of types. · An append to a full slice that is not the call's own, for a drawn region. No law is proved here. -/
import Derived.Test.YtpgbeapojjinmaaGreatDoorMB
import Derived.ArgAppend
set_option linter.unusedVariables false
set_option linter.unusedSimpArgs false
namespace Go.Proofs.YtpgbeapojjinmaaGreatDoor
open Go.RowKit Go.Shelf Go.Proofs.YtpgbeapojjinmaaGreatDoorW.PrintLast
set_option maxRecDepth 100000 in
set_option maxHeartbeats 4000000 in
theorem Clip_calls (A : Option Addr) (n cap : Nat) (w : World) (hn : n ≤ cap) : Calls Tryz.prog 160 #[.slice A n cap] w fun e w' => e = .returned (.slice A n n) ∧ w' = w := by
  go_enter Tryz.func160, Tryz.ntmps160
  go_wp2_with fail
  go_ret
  exact ⟨rfl, rfl⟩
set_option maxRecDepth 100000 in
set_option maxHeartbeats 4000000 in
theorem Clone_nil (w : World) : Calls Tryz.prog 86 #[.slice none 0 0] w fun e w' => e = .returned (.slice none 0 0) ∧ w' = w := by
  have hq : ∀ w, Sem.run Tryz.prog (binOp BinOp.eql 29 (Value.slice none 0 0) (Value.slice none 0 0)) w = .ok (.bool true) w := fun w => by kernel_rfl
  go_enter Tryz.func86, Tryz.ntmps86
  go_wp2_with fail
  go_ret
  exact ⟨rfl, rfl⟩
/-- How a function ends that makes a row of types. -/
def TyRow (w : World) (h : Snap) (l : List Ty) (e : Ending) (w' : World) : Prop := ∃ sv' h', e = .returned sv' ∧ TyS h' l sv' ∧ Mk w h w' h' ∧ Below w.heap.size w w'
theorem TyL.flat {h : Snap} {b o : Nat} : ∀ (ts : List Ty) (i : Nat), TyL h (some ⟨b, o, none⟩) i ts → ∃ news : List Value, news.length = ts.length * 2 ∧ (∀ j u, news[j]? = some u → h ⟨b, o + i * 2 + j, none⟩ = some u) ∧
    (∀ j (hj : j < ts.length), ∃ cs, TyR h ts[j] cs ∧ cs.length = 2 ∧ ∀ q, q < 2 → news[j * 2 + q]? = cs[q]?) ∧ ∀ u ∈ news, u.oneCell' = true
  | [], _, _ => ⟨[], rfl, by simp, fun j hj => by simp at hj, by simp⟩
  | t :: ts, i, ⟨⟨b', o', v0, v1, e, e0, e1, r⟩, rest⟩ => by
    cases e
    obtain ⟨news, h1, h2, h3, h4⟩ := TyL.flat ts (i + 1) rest
    obtain ⟨A', c', ec, _⟩ := r.open_
    simp only [List.cons.injEq, and_true] at ec
    obtain ⟨rfl, rfl⟩ := ec
    refine ⟨.string t.nm :: .slice A' t.ar.length c' :: news, by simp [h1]; omega, fun j u hu => ?_, fun j hj => ?_, fun u hu => ?_⟩
    · match j, hu with
      | 0, hu => simp at hu; subst hu; exact e0
      | 1, hu => simp at hu; subst hu; exact e1
      | j + 2, hu => simp at hu; rw [← h2 j u hu]; congr 2; omega
    · match j, hj with
      | 0, _ => exact ⟨_, r, rfl, fun q hq => by match q, hq with | 0, _ => rfl | 1, _ => rfl⟩
      | j + 1, hj =>
        obtain ⟨cs, g1, g2, g3⟩ := h3 j (by simpa using hj)
        refine ⟨cs, g1, g2, fun q hq => ?_⟩
        rw [← g3 q hq, show (j + 1) * 2 + q = (j * 2 + q) + 2 by omega]
        rfl
    · simp only [List.mem_cons] at hu
      rcases hu with rfl | rfl | hu
      · rfl
      · rfl
      · exact h4 u hu
set_option maxRecDepth 100000 in
set_option maxHeartbeats 4000000 in
theorem Clone_calls (l : List Ty) (sv : Value) (w : World) (h : Snap) (H : Has w h) (r : TyS h l sv) : Calls Tryz.prog 86 #[sv] w (TyRow w h l) := by
  obtain ⟨A, cap, rfl, hc, hl, hr⟩ := r
  have hlm := hl
  unfold lim at hlm
  obtain ⟨i0, hi, hz0, hz1, hz2⟩ := info_parts info36
  cases A with
  | none =>
    have hl0 : l = [] := by
      cases l with
      | nil => rfl
      | cons x xs => obtain ⟨⟨b', o', v0, v1, e, _⟩, _⟩ := hr; cases e
    subst hl0
    have hq : ∀ w, Sem.run Tryz.prog (binOp BinOp.eql 29 (Value.slice none 0 cap) (Value.slice none 0 0)) w = .ok (.bool true) w := fun w => by kernel_rfl
    have z0 : ([] : List Ty).length = 0 := rfl
    rw [z0] at *
    go_enter Tryz.func86, Tryz.ntmps86
    go_wp2_with fail
    go_ret
    exact ⟨_, h, rfl, TyS_nil h, Mk.refl H, Below.refl _ w⟩
  | some ad =>
    have hq : ∀ w, Sem.run Tryz.prog (binOp BinOp.eql 29 (Value.slice (some ad) l.length cap) (Value.slice none 0 0)) w = .ok (.bool false) w := fun w => by kernel_rfl
    by_cases hpos : 0 < l.length
    · obtain ⟨b, o, A', c', e, _⟩ := hr.get 0 hpos
      cases e
      obtain ⟨news, n1, n2, n3, n4⟩ := hr.flat
      have ch : Chunks (TyR h) 2 l ([] ++ news) := Chunks.of_at l.length l _ rfl (by simpa using n1) (by simpa using n3)
      have own0 : (w.alloc (.cells #[] 36)).ownsRow w.heap.size 36 2 (.slice (some ⟨w.heap.size, 0, none⟩) 0 0) 0 [] := ⟨rfl, .inr ⟨w.heap.size, 0, #[], rfl, Nat.le_refl _, blk_new _ _, Nat.le_refl _, by simp, rfl, rfl⟩⟩
      have hnews : ∀ j u, news[j]? = some u → (w.alloc (.cells #[] 36)).cell? ((⟨b, o, none⟩ : Addr).add j) = some u := fun j u hu => by
        have hadd : (⟨b, o, none⟩ : Addr).add j = ⟨b, o + j, none⟩ := by unfold Addr.add; split <;> simp_all
        rw [hadd]
        exact (H.alloc _).cell _ _ (by simpa using n2 j u hu)
      go_enter Tryz.func86, Tryz.ntmps86
      go_wp2_with (refine wpList_append_lies _ rfl _ _ 29 rfl w.heap.size 36 i0 _ 2 40 Tryz.underlying29 hi hz0 hz1 hz2 rfl (by decide) _ 0 [] rfl own0 ⟨b, o, none⟩ l.length cap news rfl n1 hnews n4 hpos (by simp [maxLen]; omega) (by omega) (by simp) _ rfl ?_; intro g cap2 w' hown hgr hg hlt)
      go_ret
      have kg : Below w.heap.size w w' := (((Kp.refl (fun _ => False) w).alloc (.cells #[] 36)).grown (row := some w.heap.size) hgr (fun k e => .inr (by cases e; exact Nat.le_refl _))).below (fun i hi hf => hf)
      obtain ⟨h', r', m', _⟩ := own_TyS (w0 := w) (H.below kg) (Nat.le_refl _) hown ch hl
      exact ⟨_, h', rfl, by simpa using r', m', kg⟩
    · have hl0 : l = [] := List.eq_nil_of_length_eq_zero (by omega)
      subst hl0
      have z0 : ([] : List Ty).length = 0 := rfl
      rw [z0] at *
      have hq : ∀ w, Sem.run Tryz.prog (binOp BinOp.eql 29 (Value.slice (some ad) 0 cap) (Value.slice none 0 0)) w = .ok (.bool false) w := fun w => by kernel_rfl
      go_enter Tryz.func86, Tryz.ntmps86
      go_wp2_with fail
      go_ret
      exact ⟨_, h, rfl, ⟨_, 0, rfl, by simp, by simp, trivial⟩, Mk.refl (H.alloc _), (alloc1 w (.cells #[] 36)).2⟩
end Go.Proofs.YtpgbeapojjinmaaGreatDoor
namespace Go.Proofs.YtpgbeapojjinmaaGreatDoor
open Go.RowKit Go.Shelf Go.Proofs.YtpgbeapojjinmaaGreatDoorW.PrintLast
theorem app36G {o : Oper} {a : Act} {w : World} {K : Act → World → Prop} {Q : Exit → Act → World → Prop} (s x : Operand) (hop : o.op = .call { callee := .builtin .append, args := #[s, x], argTypes := #[29, 29] })
    {ao : Option Addr} {n g : Nat} {olds : List Value} {nm : ByteArray} {A : Option Addr} {l c : Nat} (hs : a.eval s = .slice ao n n) (hnone : ao = none → n = 0) (hlo : olds.length = n * 2) (holds : ∀ b, ao = some b → ∀ j u, olds[j]? = some u → w.cell? (b.add j) = some u)
    (hx : a.eval x = .slice (some ⟨g, 0, none⟩) 1 1) (hg : w.heap[g]? = some (.cells #[.string nm, .slice A l c] 36)) (hn : n < lim)
    (h : ∀ sv' w', w'.ownsRow w.heap.size 36 2 sv' (n + 1) (olds ++ [.string nm, .slice A l c]) → w.grownBy w' none → K (a.put o.dst sv') w') : Oper.wp Tryz.prog o a w K Q := by
  obtain ⟨i0, hi0, hz0, hz1, hz2⟩ := info_parts info36
  unfold lim at hn
  have hc := World.news_of_block hg
  cases ao with
  | some b =>
    obtain ⟨v', w', hrun, r1, r2⟩ := run_append_arg_grows (P := Tryz.prog) w 29 o.type 36 i0 _ 2 40 Tryz.underlying29 hi0 hz0 hz1 hz2 rfl (by decide) b n n olds hlo (holds b rfl) ⟨g, 0, none⟩ 1 1 [.string nm, .slice A l c] rfl hc (by omega) (by simp [maxLen]; omega) (by omega)
    unfold Oper.wp
    simp [execOp, hop, resolve, invoke, builtin, hs, hx, hrun, Result.andThen]
    exact h v' w' r1 r2
  | none =>
    obtain rfl := hnone rfl
    obtain rfl : olds = [] := List.eq_nil_of_length_eq_zero (by simpa using hlo)
    obtain ⟨v', w', hrun, r1, r2, _⟩ := run_append_own (P := Tryz.prog) w w.heap.size 29 o.type 36 i0 _ 2 40 Tryz.underlying29 hi0 hz0 hz1 hz2 rfl (by decide) (.slice none 0 0) 0 [] (World.ownsRow_nil w _ 36 2) ⟨g, 0, none⟩ 1 1 [.string nm, .slice A l c] rfl hc (by simp [Value.oneCell']) (by simp [maxLen]) (by omega) (Nat.le_refl _)
    unfold Oper.wp
    simp [execOp, hop, resolve, invoke, builtin, hs, hx, hrun, Result.andThen]
    exact h v' w' r1 r2
end Go.Proofs.YtpgbeapojjinmaaGreatDoor
