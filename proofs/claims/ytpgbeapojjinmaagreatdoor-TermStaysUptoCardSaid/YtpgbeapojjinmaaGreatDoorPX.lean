/- Appending slices of terms. · Plain law of Put and Apply for canonical terms. · term.Put for any list, below any binders. · term.Put and term.Apply. No law is proved here. -/
import Derived.Test.YtpgbeapojjinmaaGreatDoorAP
import Derived.Test.YtpgbeapojjinmaaGreatDoorWV
import Derived.DeepKeys3
set_option linter.unusedVariables false
set_option linter.unusedSimpArgs false
namespace Go.Proofs.YtpgbeapojjinmaaGreatDoor
open Go.RowKit Go.Shelf Go.Proofs.YtpgbeapojjinmaaGreatDoorW.PrintLast
/-- Appending nothing. -/
theorem app34N {o : Oper} {a : Act} {w : World} {K : Act → World → Prop} {Q : Exit → Act → World → Prop} (s x : Operand) (hop : o.op = .call { callee := .builtin .append, args := #[s, x], argTypes := #[32, 32] })
    {A B : Option Addr} {n c d : Nat} (hs : a.eval s = .slice A n c) (hnc : n ≤ c) (hx : a.eval x = .slice B 0 d) (h : K (a.put o.dst (.slice A n c)) w) : Oper.wp Tryz.prog o a w K Q := by
  have hu32 := Tryz.underlying32
  obtain ⟨i0, hi0, hz0, hz1, hz2⟩ := info_parts info34
  unfold Oper.wp execOp
  simp only [hop, resolve, invoke, builtin, Sem.run_bind, Sem.run_pure, Result.andThen_ok, List.map_toArray, List.map_cons, List.map_nil, hs, hx]
  cases A <;> cases B <;> simp [go_sem, hu32, hnc, storeCells] <;> exact h
theorem TmL.flat {h : Snap} {b o : Nat} : ∀ (ts : List Tm) (i : Nat), TmL h (some ⟨b, o, none⟩) i ts → ∃ news : List Value, news.length = ts.length * 4 ∧ (∀ j u, news[j]? = some u → h ⟨b, o + i * 4 + j, none⟩ = some u) ∧
    (∀ j (hj : j < ts.length), ∃ cs, TmR h ts[j] cs ∧ cs.length = 4 ∧ ∀ q, q < 4 → news[j * 4 + q]? = cs[q]?) ∧ ∀ u ∈ news, u.oneCell' = true
  | [], _, _ => ⟨[], rfl, by simp, fun j hj => by simp at hj, by simp⟩
  | t :: ts, i, ⟨⟨b', o', v0, v1, v2, v3, e, e0, e1, e2, e3, r⟩, rest⟩ => by
    cases e
    obtain ⟨news, h1, h2, h3, h4⟩ := TmL.flat ts (i + 1) rest
    obtain ⟨A', c', ec, _⟩ := r.open_
    simp only [List.cons.injEq, and_true] at ec
    obtain ⟨rfl, rfl, rfl, rfl⟩ := ec
    refine ⟨.int .i64 t.k :: .int .i64 t.n :: .string t.nm :: .slice A' t.ar.length c' :: news, by simp [h1]; omega, fun j u hu => ?_, fun j hj => ?_, fun u hu => ?_⟩
    · match j, hu with
      | 0, hu => simp at hu; subst hu; exact e0
      | 1, hu => simp at hu; subst hu; exact e1
      | 2, hu => simp at hu; subst hu; exact e2
      | 3, hu => simp at hu; subst hu; exact e3
      | j + 4, hu => simp at hu; rw [← h2 j u hu]; congr 2; omega
    · match j, hj with
      | 0, _ => exact ⟨_, r, rfl, fun q hq => by match q, hq with | 0, _ => rfl | 1, _ => rfl | 2, _ => rfl | 3, _ => rfl⟩
      | j + 1, hj =>
        obtain ⟨cs, g1, g2, g3⟩ := h3 j (by simpa using hj)
        refine ⟨cs, g1, g2, fun q hq => ?_⟩
        rw [← g3 q hq, show (j + 1) * 4 + q = (j * 4 + q) + 4 by omega]
        rfl
    · simp only [List.mem_cons] at hu
      rcases hu with rfl | rfl | rfl | rfl | hu
      · rfl
      · rfl
      · rfl
      · rfl
      · exact h4 u hu
/-- Appending a whole slice of terms to a row of the call's own. -/
theorem app34S {o : Oper} {a : Act} {w : World} {K : Act → World → Prop} {Q : Exit → Act → World → Prop} (s x : Operand) (ho : o.op = .call { callee := .builtin .append, args := #[s, x], argTypes := #[32, 32] })
    {B n : Nat} {sv xv : Value} {xs : List Value} {us : List Tm} {h : Snap} (hs : a.eval s = sv) (hown : w.ownsRow B 34 4 sv n xs) (hx : a.eval x = xv) (H : Has w h) (rx : TmS h us xv) (hn : n + us.length < lim) (hB : B ≤ w.heap.size)
    (h : ∀ sv' w' ys, w'.ownsRow B 34 4 sv' (n + us.length) (xs ++ ys) → Chunks (TmR h) 4 us ys → w.grownBy w' sv.ownBlock → (∀ q, sv'.ownBlock = some q → sv.ownBlock = some q ∨ w.heap.size ≤ q) → K (a.put o.dst sv') w') : Oper.wp Tryz.prog o a w K Q := by
  obtain ⟨i0, hi0, hz0, hz1, hz2⟩ := info_parts info34
  obtain ⟨A, cap, rfl, hc, hl, hr⟩ := rx
  unfold lim at hn hl
  obtain ⟨As, ks, rfl⟩ := own_form hown
  by_cases hpos : 0 < us.length
  · obtain ⟨b, o', A', c', e, _⟩ := hr.get 0 hpos
    cases e
    obtain ⟨news, n1, n2, n3, n4⟩ := hr.flat
    have ch : Chunks (TmR _) 4 us news := Chunks.of_at us.length us _ rfl n1 n3
    have hnews : ∀ j u, news[j]? = some u → w.cell? ((⟨b, o', none⟩ : Addr).add j) = some u := fun j u hu => by
      have hadd : (⟨b, o', none⟩ : Addr).add j = ⟨b, o' + j, none⟩ := by unfold Addr.add; split <;> simp_all
      rw [hadd]
      exact H.cell _ _ (by simpa using n2 j u hu)
    exact wp_append_lies w s x 32 ho B 34 i0 _ 4 56 Tryz.underlying32 hi0 hz0 hz1 hz2 rfl (by omega) _ n xs hs hown ⟨b, o', none⟩ us.length cap news hx n1 hnews n4 hpos (by simp [maxLen]; omega) (by omega) hB _ rfl
      (fun g' cap' w' h1 h2 h3 _ => h _ w' news h1 ch h2 (fun q e => by
        simp only [Value.ownBlock, Option.some.injEq] at e
        subst e
        exact h3.imp id (fun e => by omega)))
  · have hl0 : us = [] := List.eq_nil_of_length_eq_zero (by omega)
    subst hl0
    have hnc : n ≤ ks := by
      rcases hown.2 with ⟨e, h0⟩ | ⟨g, cap', cur, e, _, _, h2, _⟩
      · cases e; omega
      · cases e; exact h2
    exact app34N s x ho hs hnc hx (h _ w [] (by simpa using hown) .nil ⟨rfl, rfl, rfl, Nat.le_refl _, fun _ _ _ => rfl⟩ (fun q e => .inl e))
theorem app34SL {ops : Array Oper} {rest : List Oper} {o : Oper} {a : Act} {w : World} {Q : Exit → Act → World → Prop} (hgd : o.guard = none) (s x : Operand) (ho : o.op = .call { callee := .builtin .append, args := #[s, x], argTypes := #[32, 32] })
    {B n : Nat} {sv xv : Value} {xs : List Value} {us : List Tm} {h : Snap} (hs : a.eval s = sv) (hown : w.ownsRow B 34 4 sv n xs) (hx : a.eval x = xv) (H : Has w h) (rx : TmS h us xv) (hn : n + us.length < lim) (hB : B ≤ w.heap.size)
    (h : ∀ sv' w' ys, w'.ownsRow B 34 4 sv' (n + us.length) (xs ++ ys) → Chunks (TmR h) 4 us ys → w.grownBy w' sv.ownBlock → (∀ q, sv'.ownBlock = some q → sv.ownBlock = some q ∨ w.heap.size ≤ q) → wpList Tryz.prog ops Q rest (a.put o.dst sv') w') : wpList Tryz.prog ops Q (o :: rest) a w :=
  wpList_plain hgd (fun K hK => app34S s x ho hs hown hx H rx hn hB (fun sv' w' ys h1 h2 h3 h4 => hK _ _ (h sv' w' ys h1 h2 h3 h4)))
end Go.Proofs.YtpgbeapojjinmaaGreatDoor
namespace Go.Proofs.YtpgbeapojjinmaaGreatDoor
open Go.RowKit Go.Shelf Go.Proofs.YtpgbeapojjinmaaGreatDoorW.PrintLast
/-- The head of Put, below any binders. -/
def putG (l : List Tm) (t : Tm) (b : Int) : Option Tm × Int := if t.k ≠ 4 ∨ l.length ≤ t.n then (none, t.n) else (some (upB b (l.getD t.n.toNat tm0)), 0)
/-! ### Contractions counted from another number -/
def cntW : WCmd → Int
  | .rep _ c _ _ => c
  | .app c _ _ => c
  | .sub c _ _ => c
def downW (d : Int) : WCmd → WCmd
  | .rep hd c t b => .rep hd (c - d) t b
  | .app c t xs => .app (c - d) t xs
  | .sub c t s => .sub (c - d) t s
theorem listW_down {d : Int} {r : Int → Tm → WRes} (hr : ∀ c t u c', r c t = some (.inr (u, c')) → d ≤ c → c ≤ c' ∧ r (c - d) t = some (.inr (u, c' - d))) : ∀ (l : List Tm) (c : Int) (us : List Tm) (c' : Int), listW r c l = some (.inr (us, c')) → d ≤ c → c ≤ c' ∧ listW r (c - d) l = some (.inr (us, c' - d))
  | [], c, us, c', h, hd => by
    rw [listW] at h ⊢
    cases h
    exact ⟨by omega, rfl⟩
  | t :: ts, c, us, c', h, hd => by
    rw [listW] at h ⊢
    cases q : r c t with
    | none => rw [q] at h; cases h
    | some x =>
      rw [q] at h
      cases x with
      | inl x => cases h
      | inr x =>
        obtain ⟨u, c1⟩ := x
        simp only [] at h
        obtain ⟨a1, a2⟩ := hr c t u c1 q hd
        cases q2 : listW r c1 ts with
        | none => rw [q2] at h; cases h
        | some y =>
          rw [q2] at h
          cases y with
          | inl y => cases h
          | inr y =>
            obtain ⟨vs, c2⟩ := y
            cases h
            obtain ⟨b1, b2⟩ := listW_down hr ts c1 vs c' q2 (by omega)
            refine ⟨by omega, ?_⟩
            rw [a2]
            simp only [b2]
theorem runW_down {d : Int} (h0 : 0 ≤ d) : ∀ (f : Nat) (m : WCmd) (u : Tm) (c' : Int), runW f m = some (.inr (u, c')) → d ≤ cntW m → cntW m ≤ c' ∧ runW f (downW d m) = some (.inr (u, c' - d))
  | 0, m, u, c', h, hd => by simp [runW] at h
  | f + 1, .rep hh c (.mk k n nm ar) b, u, c', h, hd => by
    simp only [cntW] at hd ⊢
    rw [downW, runW_rep]
    rw [runW_rep] at h
    by_cases hk : k = 5
    · rw [if_pos hk] at h ⊢
      cases ar with
      | nil => cases h
      | cons a l =>
        simp only [] at h ⊢
        cases q : runW f (.rep hh c a (b + 1)) with
        | none => rw [q] at h; cases h
        | some x =>
          rw [q] at h
          cases x with
          | inl x => cases h
          | inr x =>
            obtain ⟨v, c1⟩ := x
            cases h
            obtain ⟨a1, a2⟩ := runW_down h0 f _ v c' q hd
            rw [downW] at a2
            rw [a2]
            exact ⟨a1, rfl⟩
    · rw [if_neg hk] at h ⊢
      cases q : listW (fun c t => runW f (.rep hh c t b)) c ar with
      | none => rw [q] at h; cases h
      | some x =>
        rw [q] at h
        cases x with
        | inl x => cases h
        | inr x =>
          obtain ⟨us, c1⟩ := x
          simp only [] at h
          obtain ⟨a1, a2⟩ := listW_down (d := d) (r := fun c t => runW f (.rep hh c t b)) (fun c t u c' e k => runW_down h0 f _ u c' e k) ar c us c1 q hd
          rw [a2]
          simp only []
          rcases q2 : hh (.mk k n nm ar) b with ⟨os, n'⟩
          rw [q2] at h
          cases os with
          | none =>
            simp only [] at h ⊢
            cases h
            exact ⟨a1, rfl⟩
          | some s =>
            simp only [] at h ⊢
            obtain ⟨b1, b2⟩ := runW_down h0 f _ u c' h (by simp only [cntW]; omega)
            simp only [cntW] at b1
            rw [downW] at b2
            exact ⟨by omega, b2⟩
  | f + 1, .app c t [], u, c', h, hd => by
    simp only [cntW] at hd ⊢
    rw [runW_app0] at h
    cases h
    rw [downW, runW_app0]
    exact ⟨by omega, rfl⟩
  | f + 1, .app c (.mk k n nm ar) (a :: xs), u, c', h, hd => by
    simp only [cntW] at hd ⊢
    rw [downW, runW_app]
    rw [runW_app] at h
    by_cases hk : k = 5
    · rw [if_pos hk] at h ⊢
      by_cases hc : c < 0 ∨ 2000 < c
      · rw [if_pos hc] at h; cases h
      · rw [if_neg hc] at h
        rw [if_neg (by omega)]
        by_cases h1 : c + 1 ≤ 2000
        · rw [if_pos h1] at h
          rw [if_pos (by omega)]
          cases ar with
          | nil => cases h
          | cons body l =>
            simp only [] at h ⊢
            cases q : runW f (.sub (c + 1) body a) with
            | none => rw [q] at h; cases h
            | some x =>
              rw [q] at h
              cases x with
              | inl x => cases h
              | inr x =>
                obtain ⟨v, c1⟩ := x
                simp only [] at h
                obtain ⟨a1, a2⟩ := runW_down h0 f _ v c1 q (by simp only [cntW]; omega)
                simp only [cntW] at a1
                rw [downW] at a2
                rw [show c - d + 1 = c + 1 - d by omega, a2]
                simp only []
                by_cases hq : (measM v).1 ≤ 4000 ∧ fitsP v = true ∧ v.ld ≤ 1000000000
                · rw [if_pos hq] at h ⊢
                  obtain ⟨b1, b2⟩ := runW_down h0 f _ u c' h (by simp only [cntW]; omega)
                  simp only [cntW] at b1
                  rw [downW] at b2
                  exact ⟨by omega, b2⟩
                · rw [if_neg hq] at h
                  split at h <;> cases h
        · rw [if_neg h1] at h; cases h
    · rw [if_neg hk] at h; cases h
  | f + 1, .sub c t s, u, c', h, hd => by
    simp only [cntW] at hd ⊢
    rw [downW, runW_sub']
    rw [runW_sub'] at h
    split at h
    · rename_i hc
      rw [if_pos hc]
      obtain ⟨b1, b2⟩ := runW_down h0 f _ u c' h (by simp only [cntW]; omega)
      simp only [cntW] at b1
      rw [downW] at b2
      exact ⟨b1, b2⟩
    · cases h
/-! ### Put keeps types -/
structure ResP (p : Pg) (q r : List Ty) (ty : Ty) (X c : Int) (d : Int) (u : Tm) (c' : Int) : Prop where
  ok : okT p [] q r u ty = true
  shape : shp u = true
  mb : mB d u = true
  c0 : c ≤ c'
  c1 : c' ≤ 2000
  ld : (u.ld : Int) + r.length ≤ X + 200000 * (c' - c)
structure ResPL (p : Pg) (q r : List Ty) (tys : List Ty) (X c : Int) (d : Int) (us : List Tm) (c' : Int) : Prop where
  ok : okL p [] q r us tys = true
  shape : shpL us = true
  mb : mBL d us = true
  c0 : c ≤ c'
  c1 : c' ≤ 2000
  ld : (Tm.ldL us : Int) + r.length ≤ X + 200000 * (c' - c)
/-- Terms for the variables. -/
structure ForV (p : Pg) (v q : List Ty) (l : List Tm) : Prop where
  len : l.length = v.length
  ok : ∀ (j : Nat) (s : Tm) (A : Ty), l[j]? = some s → v[j]? = some A → okT p [] q [] s A = true
  shape : ∀ (j : Nat) (s : Tm), l[j]? = some s → shp s = true
  sm : ∀ (j : Nat) (s : Tm), l[j]? = some s → small 100000 s = true
  ld : ∀ (j : Nat) (s : Tm), l[j]? = some s → s.ld ≤ 1000
def PutT (p : Pg) (v q : List Ty) (l : List Tm) (t : Tm) : Prop := ∀ (c : Int) (D R : List Ty) (ty : Ty) (X : Int), 0 ≤ c → c ≤ 2000 → okT p v q (D ++ R) t ty = true → shp t = true → small 100000 t = true → (t.ld : Int) + D.length ≤ 1000 → (t.ld : Int) + D.length + R.length ≤ X → (R.length : Int) + 100000 ≤ X → X + 200000 * (2001 - c) + q.length ≤ 900000000 →
  Ends (.rep (putG l) c t D.length) (ResP p q (D ++ R) ty X c D.length)
def PutTL (p : Pg) (v q : List Ty) (l : List Tm) (ts : List Tm) : Prop := ∀ (c : Int) (D R : List Ty) (tys : List Ty) (X : Int), 0 ≤ c → c ≤ 2000 → okL p v q (D ++ R) ts tys = true → shpL ts = true → smallL 100000 ts = true → (Tm.ldL ts : Int) + D.length ≤ 1000 → (Tm.ldL ts : Int) + D.length + R.length ≤ X → (R.length : Int) + 100000 ≤ X → X + 200000 * (2001 - c) + q.length ≤ 900000000 →
  EndsL (putG l) D.length c ts (ResPL p q (D ++ R) tys X c D.length)
theorem fromO_at {v : List Ty} {n : Int} {A : Ty} (h : fromO v n = some A) : 0 ≤ n ∧ n < v.length ∧ v[n.toNat]? = some A := by
  unfold fromO at h
  split at h
  · cases h
  · exact ⟨by omega, by omega, h⟩
mutual
theorem put_told {p : Pg} {v q : List Ty} {l : List Tm} (FV : ForV p v q l) : ∀ t : Tm, PutT p v q l t
  | .mk k n nm ar => by
    intro c D R ty X h0 h1 ht hs hm hd hl hR hX
    have IHL := put_toldL FV ar
    by_cases hk : k = 5
    · subst hk
      obtain ⟨rfl, rfl, x, rfl, hx⟩ := shp_lam hs
      have IHx := put_told1 FV [x] x rfl
      rw [okT] at ht
      split at ht
      · rename_i h2
        rw [Bool.and_eq_true, okF] at ht
        rw [small, Bool.and_eq_true, smallL, Bool.and_eq_true] at hm
        have hld : ((Tm.mk 5 0 ⟨#[]⟩ [x]).ld : Int) = x.ld + 1 := by simp only [Tm.ld, Tm.ldL, Tm.one, if_true]; omega
        rw [hld] at hl hd
        have I := IHx c (ty.ar.getD 0 ty0 :: D) R (ty.ar.getD 1 ty0) X h0 h1 (by simpa using ht.2) hx hm.2.1 (by simp only [List.length_cons]; omega) (by simp only [List.length_cons]; omega) hR hX
        refine ends_lam ?_
        rw [show ((D.length : Int) + 1) = (((ty.ar.getD 0 ty0 :: D).length : Nat) : Int) by simp]
        refine I.mono ?_
        intro u c' r
        have r2 := r.ld
        refine ⟨?_, shp_of_lam r.shape, ?_, r.c0, r.c1, ?_⟩
        · rw [okT, if_pos h2, okF]
          have := r.ok
          simpa using this
        · rw [mB, if_pos rfl, mBL, mBL]
          have := r.mb
          simp only [List.length_cons] at this
          simpa using this
        · have : ((Tm.mk 5 0 ⟨#[]⟩ [u]).ld : Int) = u.ld + 1 := by simp only [Tm.ld, Tm.ldL, Tm.one, if_true]; omega
          rw [this]
          simp only [List.length_cons, List.length_append] at r2 ⊢
          omega
      · rw [if_pos rfl] at ht; cases ht
    · rw [okT] at ht
      split at ht
      · rename_i h2
        have : (k == 5) = false := by simpa using hk
        rw [this] at ht; cases ht
      · rename_i h2
        split at ht
        · cases ht
        · rename_i own e
          simp only [Bool.and_eq_true, beq_iff_eq] at ht
          rw [shp, Bool.and_eq_true] at hs
          have hkk := (shp_k hs.1).2.2.1
          have hn0 := (shp_k hs.1).1
          rw [small, Bool.and_eq_true, decide_eq_true_eq] at hm
          have hlen := (okL_len ht.2)
          have hld : ((Tm.mk k n nm ar).ld : Int) = Tm.ldL ar := by
            rw [Tm.ld]
            unfold Tm.one
            rw [if_neg hk]
            omega
          rw [hld] at hl hd
          refine ends_node hk ?_
          obtain ⟨f, o, e1, r1⟩ := IHL c D R (partsL own) X h0 h1 ht.2 hs.2 hm.2 hd hl hR hX
          refine ⟨f, o, e1, fun us c' q1 => ?_⟩
          have r := r1 us c' q1
          have r0 := r.c0
          have r2 := r.ld
          have hus : us.length = ar.length := by rw [okL_len r.ok, ← hlen]
          have hhd : putG l (.mk k n nm ar) D.length = if k ≠ 4 ∨ l.length ≤ n then (none, n) else (some (upB D.length (l.getD n.toNat tm0)), 0) := rfl
          by_cases h4 : k = 4
          · subst h4
            have e' : fromO v n = some own := by
              unfold hdT at e
              rw [if_neg (by omega), if_neg (by omega), if_neg (by omega)] at e
              exact e
            obtain ⟨_, hlt, hat⟩ := fromO_at e'
            have hl' := FV.len
            have hcn : ¬ ((4 : Int) ≠ 4 ∨ (l.length : Int) ≤ n) := by omega
            rw [if_neg hcn] at hhd
            have hln : n.toNat < l.length := by omega
            have hls : l[n.toNat]? = some l[n.toNat] := List.getElem?_eq_getElem hln
            have hgd : l.getD n.toNat tm0 = l[n.toNat] := by simp [hln]
            rw [hgd] at hhd
            generalize l[n.toNat] = s at *
            have o1 := FV.ok _ s own hls hat
            have s1 := FV.shape _ s hls
            have m1 := FV.sm _ s hls
            have d1 := FV.ld _ s hls
            refine ⟨fun n' z => (by rw [hhd] at z; cases z), fun s' n' z => ?_⟩
            rw [hhd] at z
            cases z
            rw [upB_lift]
            have olift : okT p [] q (D ++ R) (liftT D.length 0 s) own = true := by
              have := ok_lift (p := p) (v := []) (q := q) (E := D) (G := []) s [] own s1 o1
              have := ok_app (p := p) (v := []) (q := q) (v' := []) (q' := []) (r' := R) (liftT D.length 0 s) D own (by simpa using this)
              simpa using this
            have hmb : mB D.length (liftT D.length 0 s) = true := by have := mB_lift (b := D.length) (by omega) s 0 (mB_small s 0 m1); simpa using this
            have hm0 : mB 0 (liftT D.length 0 s) = true := mB_mono _ D.length 0 (by omega) hmb
            have hml0 : mBL 0 us = true := mBL_mono us D.length 0 (by omega) r.mb
            refine (app_told (p := p) (v := []) (q := q) (N := 2000) (fun M _ => worker_told p [] q M) us c' (D ++ R) own (liftT D.length 0 s) ty (X + 200000 * (c' - c)) (by omega) (by omega) r.c1 olift r.ok h2 ht.1 (shp_lift (by omega) 0 s s1) r.shape hm0 hml0 (by rw [ld_lift]; simp only [List.length_append]; omega) r2 (by simp only [List.length_nil]; omega)).mono ?_
            intro u c'' R'
            have s0 := R'.c0
            have s2 := R'.ld
            refine ⟨R'.ok, R'.shape, ?_, by omega, R'.c1, by omega⟩
            by_cases hx : us = []
            · rw [R'.nil hx]; exact hmb
            · exact mB_small u _ (R'.cons hx)
          · rw [if_pos (.inl h4)] at hhd
            refine ⟨fun n' z => ?_, fun s' n' z => by rw [hhd] at z; cases z⟩
            rw [hhd] at z
            cases z
            have e' : hdT p [] q (D ++ R) k n nm = some own := by
              unfold hdT at e ⊢
              by_cases k1 : k = 1
              · rw [if_pos k1] at e ⊢; exact e
              · rw [if_neg k1] at e ⊢
                by_cases k2 : k = 2
                · rw [if_pos k2] at e ⊢; exact e
                · rw [if_neg k2] at e ⊢
                  rw [if_pos (by omega)] at e ⊢
                  exact e
            refine ⟨?_, ?_, ?_, r0, r.c1, ?_⟩
            · rw [okT, if_neg h2, if_neg hk, e']
              simp only [Bool.and_eq_true, beq_iff_eq]
              exact ⟨ht.1, r.ok⟩
            · rw [shp, hus, r.shape, Bool.and_true]
              exact hs.1
            · rw [mB, if_neg hk, r.mb, Bool.and_true]
              simp
              exact .inr (.inr hm.1)
            · rw [Tm.ld]
              unfold Tm.one
              rw [if_neg hk]
              omega
theorem put_told1 {p : Pg} {v q : List Ty} {l : List Tm} (FV : ForV p v q l) : ∀ (ts : List Tm) (x : Tm), ts = [x] → PutT p v q l x
  | [], x, e => by cases e
  | y :: ys, x, e => by
    cases e
    exact put_told FV y
theorem put_toldL {p : Pg} {v q : List Ty} {l : List Tm} (FV : ForV p v q l) : ∀ ts : List Tm, PutTL p v q l ts
  | [] => by
    intro c D R tys X h0 h1 ht hs hm hd hl hR hX
    refine endsL_nil ⟨by cases tys <;> simp_all [okL], rfl, rfl, by omega, h1, ?_⟩
    simp only [Tm.ldL, List.length_append] at hl ⊢; omega
  | t :: ts => by
    intro c D R tys X h0 h1 ht hs hm hd hl hR hX
    cases tys with
    | nil => rw [okL] at ht; cases ht
    | cons ty tys =>
      rw [okL, Bool.and_eq_true] at ht
      rw [shpL, Bool.and_eq_true] at hs
      rw [smallL, Bool.and_eq_true] at hm
      rw [Tm.ldL] at hl hd
      refine endsL_cons (put_told FV t c D R ty X h0 h1 ht.1 hs.1 hm.1 (by omega) (by omega) hR hX) ?_
      intro u c' r
      have r0 := r.c0
      have r2 := r.ld
      obtain ⟨f, o, e1, r1⟩ := put_toldL FV ts c' D R tys (X + 200000 * (c' - c)) (by omega) r.c1 ht.2 hs.2 hm.2 (by omega) (by omega) (by omega) (by omega)
      refine ⟨f, o, e1, fun us c'' q1 => ?_⟩
      have z := r1 us c'' q1
      have z0 := z.c0
      have z2 := z.ld
      exact ⟨by rw [okL, r.ok, z.ok]; rfl, by rw [shpL, r.shape, z.shape]; rfl, by rw [mBL, r.mb, z.mb]; rfl, by omega, z.c1, by rw [Tm.ldL]; omega⟩
end
/-! ### What Put and Apply answer -/
/-- What Put answers. -/
def PutAns (t : Tm) (l : List Tm) (o : Sum Int Tm) : Prop := (2000 < l.length ∧ o = .inl 2) ∨ (l.length ≤ 2000 ∧ ((rawsP (t :: l) ≠ 0 ∧ o = .inl (rawsP (t :: l))) ∨ (rawsP (t :: l) = 0 ∧ ∃ f o1, runW f (.rep (putG l) 0 t 0) = some o1 ∧ (∀ u c, o1 = .inr (u, c) → u.ld ≤ 1000000000) ∧ o = finS o1)))
/-- What Apply answers. -/
def AppAns (t : Tm) (l : List Tm) (o : Sum Int Tm) : Prop := (8 < l.length ∧ o = .inl 2) ∨ (l.length ≤ 8 ∧ ((rawsP (t :: l) ≠ 0 ∧ o = .inl (rawsP (t :: l))) ∨ (rawsP (t :: l) = 0 ∧ ∃ f o1, runW f (.app 0 t l) = some o1 ∧ (∀ u c, o1 = .inr (u, c) → u.ld ≤ 1000000000) ∧ o = finS o1)))
theorem raws_zero : ∀ {l : List Tm}, rawsP l = 0 ↔ ∀ t ∈ l, rawP t = 0
  | [] => by simp [rawsP]
  | t :: ts => by
    rw [rawsP]
    by_cases h : rawP t = 0
    · rw [if_pos h, raws_zero]
      simp [h]
    · rw [if_neg h]
      simp [h]
/-- Put keeps types. -/
theorem put_law {p : Pg} {v q G : List Ty} {ty : Ty} {t : Tm} {l : List Tm} (ht : okT p v q G t ty = true) (rt : rawP t = 0) (hlen : l.length = v.length) (hv : v.length ≤ 1000) (hl : ∀ (j : Nat) (s : Tm) (A : Ty), l[j]? = some s → v[j]? = some A → rawP s = 0 ∧ okT p [] q [] s A = true) (hG : G.length ≤ 1000000) (hq : q.length ≤ 1000000) :
    ∃ o, PutAns t l o ∧ (codeS o = 0 → rawP (tmS o) = 0 ∧ okT p [] q G (tmS o) ty = true) := by
  have hraw : ∀ (j : Nat) (s : Tm), l[j]? = some s → rawP s = 0 := fun j s e => by
    have hj := (List.getElem?_eq_some_iff.1 e).1
    exact (hl j s v[j] e (List.getElem?_eq_getElem (by omega))).1
  have FV : ForV p v q l := ⟨hlen, fun j s A e e' => (hl j s A e e').2, fun j s e => (raw_parts (hraw j s e)).2.1, fun j s e => (raw_parts (hraw j s e)).2.2, fun j s e => by
    have := (raw_parts (hraw j s e)).1.2
    have := ld_dep s
    omega⟩
  have hr : rawsP (t :: l) = 0 := raws_zero.2 (fun s hs => by
    rcases List.mem_cons.1 hs with rfl | hs
    · exact rt
    · obtain ⟨j, hj⟩ := List.getElem?_of_mem hs
      exact hraw j s hj)
  obtain ⟨⟨_, d1⟩, s1, m1⟩ := raw_parts rt
  have l1 := ld_dep t
  obtain ⟨f, o1, e, r⟩ := put_told FV t 0 [] G ty 2000000 (by omega) (by omega) ht s1 m1 (by simp only [List.length_nil]; omega) (by simp only [List.length_nil]; omega) (by omega) (by omega)
  refine ⟨finS o1, .inr ⟨by omega, .inr ⟨hr, f, o1, e, fun u c h => ?_, rfl⟩⟩, fun hc => ?_⟩
  · have := (r u c h).ld
    have := (r u c h).c1
    have := (r u c h).c0
    omega
  · cases o1 with
    | inl x =>
      have := finS_nz e (c := x) rfl
      exact absurd hc this
    | inr z =>
      obtain ⟨u, c⟩ := z
      have R := r u c rfl
      have hw : finS (.inr (u, c)) = wholeS u := rfl
      rw [hw] at hc ⊢
      cases h : wholeS u with
      | inl x =>
        rw [h] at hc
        exact absurd hc (wholeS_nz h)
      | inr x =>
        obtain ⟨rfl, hr⟩ := whole_in R.shape h
        exact ⟨hr, R.ok⟩
/-- Apply of a lambda term against Subst. -/
theorem apply_law {p : Pg} {v q G : List Ty} {A ty : Ty} {t s : Tm} (ht : okT p v q (A :: G) t ty = true) (hs : okT p v q G s A = true) (rt : rawP t = 0) (rs : rawP s = 0) (hG : G.length ≤ 1000000) (hq : q.length ≤ 1000000) (hv : v.length ≤ 1000000) :
    ∃ o o2, SubstIs t s o ∧ AppAns (.mk 5 0 ⟨#[]⟩ [t]) [s] o2 ∧ (codeS o = 0 → rawP (tmS o) = 0 ∧ okT p v q G (tmS o) ty = true) ∧ (codeS o2 = 0 → codeS o = 0 ∧ tmS o2 = tmS o) := by
  obtain ⟨⟨_, d1⟩, s1, m1⟩ := raw_parts rt
  obtain ⟨⟨_, d2⟩, s2, m2⟩ := raw_parts rs
  have l1 := ld_dep t
  have l2 := ld_dep s
  obtain ⟨o, h1, h2⟩ := subst_is ht hs rt rs hG hq hv
  by_cases hr : rawsP [.mk 5 0 ⟨#[]⟩ [t], s] = 0
  · obtain ⟨f, o1, e, r⟩ := worker_told p v q 2000 1 G A t s ty (3000000) (by omega) (by omega) (by omega) ht hs s1 s2 (mB_small t _ m1) (mB_small s _ m2) (by omega) (by omega) (by omega)
    have hb : ∀ u c, o1 = .inr (u, c) → u.ld ≤ 1000000000 := fun u c h => by
      have := (r u c h).ld
      have := (r u c h).c1
      have := (r u c h).c0
      omega
    have rr : rawsP [t, s] = 0 := by rw [raws_two, if_pos rt, rs]
    have ha : ∀ g, runW (g + 1) (.app 0 (.mk 5 0 ⟨#[]⟩ [t]) [s]) = match runW g (.sub 1 t s) with
          | some (.inr (u, c')) => if (measM u).1 ≤ 4000 ∧ fitsP u = true ∧ u.ld ≤ 1000000000 then runW g (.app c' u []) else if u.ld ≤ 1000000000 then some (.inl 2) else none
          | x => x := fun g => by
      rw [runW_app, if_pos rfl, if_neg (by omega), if_pos (by omega)]
      rfl
    have e1 := runW_more f _ o1 e
    cases o1 with
    | inl x =>
      refine ⟨o, .inl x, h1, .inr ⟨by simp, .inr ⟨hr, f + 2, .inl x, by rw [ha, e1], nofun, rfl⟩⟩, fun hc => ⟨(h2 hc).1, (h2 hc).2.1⟩, fun hc => ?_⟩
      have := finS_nz e (c := x) rfl
      exact absurd hc this
    | inr z =>
      obtain ⟨u, c⟩ := z
      have R := r u c rfl
      have hu := hb u c rfl
      by_cases hq : (measM u).1 ≤ 4000 ∧ fitsP u = true
      · have hd := runW_down (d := 1) (by omega) f _ u c e (by simp only [cntW]; omega)
        refine ⟨wholeS u, wholeS u, .inr ⟨rr, f, .inr (u, c - 1), by have := hd.2; rw [downW] at this; exact this, fun u' c' h => by cases h; exact hu, rfl⟩, .inr ⟨by simp, .inr ⟨hr, f + 2, .inr (u, c), ?_, fun u' c' h => by cases h; exact hu, rfl⟩⟩, fun hc => ?_, fun hc => ⟨hc, rfl⟩⟩
        · rw [ha, e1]
          simp only []
          rw [if_pos ⟨hq.1, hq.2, hu⟩, runW_app0]
        · cases h : wholeS u with
          | inl x =>
            rw [h] at hc
            exact absurd hc (wholeS_nz h)
          | inr x =>
            obtain ⟨rfl, hr⟩ := whole_in R.shape h
            exact ⟨hr, R.ok⟩
      · refine ⟨o, .inl 2, h1, .inr ⟨by simp, .inr ⟨hr, f + 2, .inl 2, ?_, nofun, rfl⟩⟩, fun hc => ⟨(h2 hc).1, (h2 hc).2.1⟩, fun hc => absurd hc (by decide)⟩
        rw [ha, e1]
        simp only []
        rw [if_neg (fun h => hq ⟨h.1, h.2.1⟩), if_pos hu]
  · exact ⟨o, .inl (rawsP [.mk 5 0 ⟨#[]⟩ [t], s]), h1, .inr ⟨by simp, .inl ⟨hr, rfl⟩⟩, fun hc => ⟨(h2 hc).1, (h2 hc).2.1⟩, fun hc => absurd hc hr⟩
end Go.Proofs.YtpgbeapojjinmaaGreatDoor
namespace Go.Proofs.YtpgbeapojjinmaaGreatDoor
open Go.RowKit Go.Shelf Go.Proofs.YtpgbeapojjinmaaGreatDoorW.PrintLast
theorem keyed134 : Maps.Keyed Tryz.prog 134 := Maps.Keyed.of_law (deep_law (m := 5) (by omega) (by kernel_rfl) (by kernel_rfl) (by kernel_rfl))
theorem lits134 {a b : Int} (ha : 0 ≤ a ∧ a ≤ 1000000000) (hb : 0 ≤ b ∧ b ≤ 1000000000) (d : Nat) : ∃ ls, Tryz.prog.keyLits (d + 2) 134 [.int .i64 a, .int .i64 b] = some ls := by
  have hu := Tryz.underlying134
  have hu3 := Tryz.underlying3
  have hc : Tryz.prog.cellsOf 134 = 2 := by kernel_rfl
  have hc3 : Tryz.prog.cellsOf 3 = 1 := by kernel_rfl
  have h1 : ∀ z : Int, 0 ≤ z ∧ z ≤ 1000000000 → Tryz.prog.keyLits (d + 1) 3 [.int .i64 z] = some [.int .i64 z] := fun z hz => by
    rw [Program.keyLits.eq_def]
    simp only [hu3]
    rw [if_pos ⟨trivial, by simp [Lit.wf, IntKind.min, IntKind.max, IntKind.bits, IntKind.signed]; omega⟩]
  rw [Program.keyLits.eq_def]
  simp only [hu, hc, hc3]
  refine ⟨[.int .i64 a, .int .i64 b], ?_⟩
  have h2 : List.range 2 = [0, 1] := rfl
  simp [h2, h1 a ha, h1 b hb]
theorem key134 {a b : Int} (ha : 0 ≤ a ∧ a ≤ 1000000000) (hb : 0 ≤ b ∧ b ≤ 1000000000) : ∃ l, keyOf Tryz.prog 134 (.agg #[.int .i64 a, .int .i64 b]) = some l := by
  have hu := Tryz.underlying134
  have hk : Tryz.prog.keyType 134 = true := by kernel_rfl
  have hs : Tryz.prog.types.size = Tryz.prog.types.size - 1 + 1 := by kernel_rfl
  obtain ⟨ls, hl⟩ := lits134 ha hb (Tryz.prog.types.size - 1)
  have hc : 2 = Tryz.prog.cellsOf 134 := by kernel_rfl
  have hf : (Value.agg #[.int .i64 a, .int .i64 b]).formed Tryz.prog 134 = true := by
    simp [Value.formed, hu]
    exact hc
  unfold keyOf
  rw [hu]
  simp only [hk, hf, Bool.and_self, if_true]
  rw [hs]
  exact ⟨_, by rw [show (Value.agg #[.int .i64 a, .int .i64 b]).cells.toList = [.int .i64 a, .int .i64 b] from rfl, hl]; rfl⟩
set_option maxRecDepth 100000 in
set_option maxHeartbeats 4000000 in
theorem uphead2_calls (w0 : World) (up : Int) (bu : Nat) (hu : w0.heap[bu]? = some (.cells #[.int .i64 up] 3)) (h0 : 0 ≤ up ∧ up ≤ 1000000000) :
    HeadFn smallN w0 173 #[.pointer (some ⟨bu, 0, none⟩)] (upG up) := by
  intro t cs b W h hW H r hnd hb0 hb1
  obtain ⟨A, cap, rfl, hl, hlm, hk1, hn1, hr⟩ := r.open_
  have hn2 : 0 ≤ t.n ∧ t.n ≤ 1000000000 := by unfold smallN at hnd; simpa using hnd
  clear hnd
  have hu34 := Tryz.underlying34
  have xu := box1 (box_below hu hW)
  have lu := blk_lt (box_below hu hW)
  obtain ⟨hB, hb⟩ := alloc1 W (.cells #[.int .i64 t.k, .int .i64 t.n, .string t.nm, .slice A t.ar.length cap] 34)
  generalize t.k = k at *
  generalize t.n = n at *
  generalize t.nm = nm at *
  generalize t.ar.length = len at *
  by_cases q : k = 2
  · subst q
    by_cases q2 : b ≤ n
    · have G := Lib.hid (show upG up 2 n b = some (n + up) by rw [upG, if_pos ⟨rfl, q2⟩])
      go_enter Tryz.func173, Tryz.ntmps173
      go_wp2_with fail
      go_ret
      exact ⟨by rw [G.out]; rfl, hb⟩
    · have G := Lib.hid (show upG up 2 n b = some n by rw [upG, if_neg (by omega)])
      have q3 : n < b := by omega
      go_enter Tryz.func173, Tryz.ntmps173
      go_wp2_with fail
      go_ret
      exact ⟨by rw [G.out]; rfl, hb⟩
  · have G := Lib.hid (show upG up k n b = some n by rw [upG, if_neg (by omega)])
    have q' : (k == 2) = false := by simp [q]
    go_enter Tryz.func173, Tryz.ntmps173
    go_wp2_with fail
    go_ret
    exact ⟨by rw [G.out]; rfl, hb⟩
/-- What the map of raised terms holds. -/
structure UpJ (l : List Tm) (bk bm : Nat) (h : Snap) (W : World) : Prop where
  bx : W.heap[bk]? = some (.cells #[.map (some bm)] 194)
  mp : ∃ es cl, W.heap[bm]? = some (.map es cl) ∧ ∀ e ∈ es.toList, ∃ (j : Nat) (k : Int) (s : Tm) (cs : List Value), e.key = .agg #[.int .i64 (j : Int), .int .i64 k] ∧ (j ≤ 1000000 ∧ 0 ≤ k ∧ k ≤ 1000000000) ∧ l[j]? = some s ∧ e.val = .agg cs.toArray ∧ TmR h (upT k s) cs
theorem UpJ.kp {l : List Tm} {bk bm : Nat} {h h' : Snap} {W W' : World} {S : Nat → Prop} (u : UpJ l bk bm h W) (k : Kp S W W') (hk : ¬ S bk) (hm : ¬ S bm) (hs : Sub h h') : UpJ l bk bm h' W' := by
  obtain ⟨b1, es, cl, b2, hes⟩ := u
  exact ⟨blk_kp b1 k hk, es, cl, blk_kp b2 k hm, fun e he => by
    obtain ⟨j, z, s, cs, h1, h2, h3, h4, h5⟩ := hes e he
    exact ⟨j, z, s, cs, h1, h2, h3, h4, h5.sub hs⟩⟩
def UpPostJ (l : List Tm) (s : Tm) (b : Int) (bk bm : Nat) (w : World) (h : Snap) (e : Ending) (w' : World) : Prop := Kp (fun q => q = bm) w w' ∧ ∃ cs' h', e = .returned (.agg cs'.toArray) ∧ TmR h' (upB b s) cs' ∧ Mk w h w' h' ∧ UpJ l bk bm h' w'
theorem key_ne {j j' : Nat} {b b' : Int} (h : (Value.agg #[.int .i64 (j : Int), .int .i64 b]) = .agg #[.int .i64 (j' : Int), .int .i64 b']) : j = j' ∧ b = b' := by
  simp only [Value.agg.injEq, Array.mk.injEq, List.cons.injEq, Value.int.injEq, true_and, and_true] at h
  omega
set_option maxRecDepth 100000 in
set_option maxHeartbeats 8000000 in
theorem upJ_calls (l : List Tm) (j : Nat) (s : Tm) (b : Int) (bk bm : Nat) (cs : List Value) (w : World) (h : Snap) (H : Has w h) (r : TmR h s cs) (hjs : l[j]? = some s) (hjl : j ≤ 1000000) (hi : UpJ l bk bm h w) (hb : 0 ≤ b ∧ b ≤ 1000000000) (hs : allN smallN s = true) (hz : s.ld ≤ 1000000000) :
    Calls Tryz.prog 172 (#[.agg #[.int .i64 (j : Int), .int .i64 b], .agg cs.toArray, .int .i64 b] ++ #[.pointer (some ⟨bk, 0, none⟩)]) w (UpPostJ l s b bk bm w h) := by
  have r0 := r
  obtain ⟨A, cap, rfl, hl, hlm, hk1, hn1, hr⟩ := r.open_
  have hu34 := Tryz.underlying34
  have hu134 := Tryz.underlying134
  have hmf := run_mf
  obtain ⟨a0, a1, a2, a3, ab⟩ := alloc4 w (.cells #[.int .i64 (j : Int), .int .i64 b] 134) (.cells #[.int .i64 s.k, .int .i64 s.n, .string s.nm, .slice A s.ar.length cap] 34) (.cells #[.int .i64 b] 3) (.cells #[.int .i64 0, .int .i64 0, .string ⟨#[]⟩, .slice none 0 0] 34)
  have hbx := hi.bx
  have xk := box1 hbx
  have lk := blk_lt hbx
  by_cases q : b = 0
  · subst q
    have f3 := blk_frozen a3
    have x3 := box4 a3
    have l3 := blk_lt a3
    go_enter Tryz.func172, Tryz.ntmps172
    go_wp2_with fail
    obtain ⟨c0, c1, c2, c3, cb⟩ := alloc4 w (.cells #[.int .i64 (j : Int), .int .i64 0] 134) (.cells #[.int .i64 s.k, .int .i64 s.n, .string s.nm, .slice A s.ar.length cap] 34) (.cells #[.int .i64 0] 3) (.cells #[.int .i64 s.k, .int .i64 s.n, .string s.nm, .slice A s.ar.length cap] 34)
    have y3 := box4 c3
    refine bodyPost_ret (v := .agg #[.int .i64 s.k, .int .i64 s.n, .string s.nm, .slice A s.ar.length cap]) (by simp [results, Tryz.results172, go_sem, y3]) rfl ?_
    exact ⟨Kp.of_below _ cb, _, h, rfl, by rw [upB, if_pos rfl]; exact r0, Mk.refl (H.below cb), hi.kp (Kp.of_below (fun _ => False) cb) (fun h => h) (fun h => h) (Sub.refl h)⟩
  · have q' : (b == 0) = false := by simp [q]
    have G := Lib.hid (show upB b s = upT b s by rw [upB, if_neg q])
    clear q
    obtain ⟨es, cl, hbm, hes⟩ := hi.mp
    obtain ⟨kl, hkey⟩ := key134 (a := (j : Int)) (b := b) (by omega) (by omega)
    have hk : ∀ e ∈ es.toList, ∃ l, keyOf Tryz.prog 134 e.key = some l := fun e he => by
      obtain ⟨j', z, _, _, h1, h2, _⟩ := hes e he
      rw [h1]
      exact key134 (by omega) (by omega)
    have hb3 := blk_alloc (blk_alloc (blk_alloc (blk_alloc hbm (.cells #[.int .i64 (j : Int), .int .i64 b] 134)) (.cells #[.int .i64 s.k, .int .i64 s.n, .string s.nm, .slice A s.ar.length cap] 34)) (.cells #[.int .i64 b] 3)) (.cells #[.int .i64 0, .int .i64 0, .string ⟨#[]⟩, .slice none 0 0] 34)
    have xk3 := cell_alloc (cell_alloc (cell_alloc (cell_alloc xk (.cells #[.int .i64 (j : Int), .int .i64 b] 134)) (.cells #[.int .i64 s.k, .int .i64 s.n, .string s.nm, .slice A s.ar.length cap] 34)) (.cells #[.int .i64 b] 3)) (.cells #[.int .i64 0, .int .i64 0, .string ⟨#[]⟩, .slice none 0 0] 34)
    have hes' := Lib.hid hes
    clear hes
    obtain ⟨x00, x01⟩ := box2 a0
    rcases look_run Tryz.underlying194 keyed134 zero34 hb3 hkey hk with ⟨hno, hl1, hup⟩ | ⟨e, he, hek, hl1, hl2⟩
    · have hno' := Lib.hid hno
      clear hno hup
      have z4 := zero34
      obtain ⟨W0, hW0⟩ : ∃ W0, (((((w.alloc (.cells #[.int .i64 (j : Int), .int .i64 b] 134)).alloc (.cells #[.int .i64 s.k, .int .i64 s.n, .string s.nm, .slice A s.ar.length cap] 34)).alloc (.cells #[.int .i64 b] 3)).alloc (.cells #[.int .i64 0, .int .i64 0, .string ⟨#[]⟩, .slice none 0 0] 34)).alloc (.cells #[.int .i64 0, .int .i64 0, .string ⟨#[]⟩, .slice none 0 0] 34)) = W0 := ⟨_, rfl⟩
      have ab4 : Below w.heap.size w W0 := by rw [← hW0]; exact ab.alloc ab.size _
      have sz4 : W0.heap.size = w.heap.size + 5 := by rw [← hW0]; simp
      have d0 : W0.heap[w.heap.size]? = some (.cells #[.int .i64 (j : Int), .int .i64 b] 134) := by rw [← hW0]; exact blk_alloc a0 _
      have d1 : W0.heap[w.heap.size + 1]? = some (.cells #[.int .i64 s.k, .int .i64 s.n, .string s.nm, .slice A s.ar.length cap] 34) := by rw [← hW0]; exact blk_alloc a1 _
      have d2 : W0.heap[w.heap.size + 1 + 1]? = some (.cells #[.int .i64 b] 3) := by rw [← hW0]; exact blk_alloc a2 _
      have d3 : W0.heap[w.heap.size + 1 + 1 + 1]? = some (.cells #[.int .i64 0, .int .i64 0, .string ⟨#[]⟩, .slice none 0 0] 34) := by rw [← hW0]; exact blk_alloc a3 _
      have dm : W0.heap[bm]? = some (.map es cl) := by rw [← hW0]; exact blk_alloc hb3 _
      have dk := box_below hbx ab4
      have hW0' := Lib.hid hW0
      have hm_lt := blk_lt hbm
      have hne : bm ≠ bk := fun e => by rw [e, hbx] at hbm; cases hbm
      clear hW0
      go_enter Tryz.func172, Tryz.ntmps172
      go_wp2_with fail
      rw [hW0'.out]
      have xk4 := box1 dk
      have x1 := box4 d1
      have x0 := box2 d0
      have lk4 := blk_lt dk
      have l14 := blk_lt d1
      refine rgs 6 (fun W => W.cell? ⟨bk, 0, none⟩ = some (.map (some bm)) ∧ W.cell? ⟨w.heap.size + 1, 0, none⟩ = some (.int .i64 s.k) ∧ W.cell? ⟨w.heap.size + 1, 1, none⟩ = some (.int .i64 s.n) ∧ W.cell? ⟨w.heap.size + 1, 2, none⟩ = some (.string s.nm) ∧ W.cell? ⟨w.heap.size + 1, 3, none⟩ = some (.slice A s.ar.length cap) ∧ W.cell? ⟨w.heap.size, 0, none⟩ = some (.int .i64 (j : Int)) ∧ W.cell? ⟨w.heap.size, 1, none⟩ = some (.int .i64 b)) [5] rfl ?_ (fun hS => ?_)
      · go_simp
      refine rgt 0 (.map (some bm)) rfl (by kernel_rfl) (fun _ _ _ h => h) rfl hS (fun W hW => by obtain ⟨q1, q2, q3, q4, q5, q6, q7⟩ := hW; go_simp) ?_
      refine rgt 1 (.agg #[.int .i64 (j : Int), .int .i64 b]) rfl (by kernel_rfl) (fun _ _ _ h => h) rfl hS (fun W hW => by obtain ⟨q1, q2, q3, q4, q5, q6, q7⟩ := hW; go_simp) ?_
      refine rgt 2 (.agg #[.int .i64 s.k, .int .i64 s.n, .string s.nm, .slice A s.ar.length cap]) rfl (by kernel_rfl) (fun _ _ _ h => h) rfl hS (fun W hW => by obtain ⟨q1, q2, q3, q4, q5, q6, q7⟩ := hW; go_simp) ?_
      refine rgt 3 (.func (.func 173) #[] #[.pointer (some ⟨w.heap.size + 1 + 1, 0, none⟩)]) rfl (by kernel_rfl) (fun _ _ _ h => h) rfl hS (fun W hW => by go_simp) ?_
      refine rg1 4 rfl (by kernel_rfl) (by decide) rfl (fun K hK => ?_)
      go_simp
      refine (rebuilt_calls smallN W0 173 _ (upG b) (enters_ Tryz.func173 (by kernel_rfl) rfl) (uphead2_calls W0 b _ d2 (by omega)) (fun t b' n' ht _ e => by have := upG_in b (by omega) t ht _ _ _ e; omega) s.sz s (Nat.le_refl _) 0 (by omega) _ _ (Below.refl _ _).drew h (H.below ab4).drew r0 hs).mono ?_
      rintro e w1 ⟨k1, hm⟩
      rw [upT_eq] at hm
      obtain ⟨cs', h', rfl, r', m'⟩ := hm
      obtain ⟨A', cap', rfl, _⟩ := r'.open_
      simp only []
      have k1' := undrew k1
      have kk1 := below_then ab4 k1' ab4.size
      refine hK.out _ _ ?_ (fun hS => ?_)
      · obtain ⟨q1, q2, q3, q4, q5, q6, q7⟩ := hS
        exact ⟨cell_below q1 k1, cell_below q2 k1, cell_below q3 k1, cell_below q4 k1, cell_below q5 k1, cell_below q6 k1, cell_below q7 k1⟩
      refine rgl 5 rfl (by kernel_rfl) (by decide) rfl (fun K hK => ?_)
      have em := box_below dm k1'
      rcases look_run Tryz.underlying194 keyed134 zero34 em hkey hk with ⟨_, _, hup⟩ | ⟨e', he', hek', _, _⟩
      rotate_left
      · exact absurd hek' (hno'.out e' he')
      have hupv := hup (.agg #[.int .i64 (upT b s).k, .int .i64 (upT b s).n, .string (upT b s).nm, .slice A' (upT b s).ar.length cap'])
      clear hup
      go_simp
      have kp2 : Kp (fun q => q = bm) w1 _ := mapSet_kp w1 bm (.map (es.push { key := .agg #[.int .i64 (j : Int), .int .i64 b], val := .agg #[.int .i64 (upT b s).k, .int .i64 (upT b s).n, .string (upT b s).nm, .slice A' (upT b s).ar.length cap'], born := cl }) (cl + 1))
      have em2 := mapSet_at em (.map (es.push { key := .agg #[.int .i64 (j : Int), .int .i64 b], val := .agg #[.int .i64 (upT b s).k, .int .i64 (upT b s).n, .string (upT b s).nm, .slice A' (upT b s).ar.length cap'], born := cl }) (cl + 1))
      refine hK.out _ _ ?_
      refine rgd (by kernel_rfl) ?_
      obtain ⟨W2, hW2⟩ : ∃ W2, mapSet w1 bm (.map (es.push { key := .agg #[.int .i64 (j : Int), .int .i64 b], val := .agg #[.int .i64 (upT b s).k, .int .i64 (upT b s).n, .string (upT b s).nm, .slice A' (upT b s).ar.length cap'], born := cl }) (cl + 1)) = W2 := ⟨_, rfl⟩
      rw [hW2] at kp2 em2 ⊢
      clear hW2 hupv
      have hne1 : bk ≠ bm := fun e => hne e.symm
      have lbm := blk_lt hbm
      have e3 := blk_kp (box_below d3 k1') kp2 (by omega)
      have e0 := blk_kp (box_below d0 k1') kp2 (by omega)
      have ek := blk_kp (box_below dk k1') kp2 hne1
      have yk := box1 ek
      have lyk := blk_lt ek
      have ye3 := box4 e3
      have ye0 := box2 e0
      have fe3 := blk_frozen e3
      have le3 := blk_lt e3
      have hk2 : ∀ e ∈ ((es.push { key := .agg #[.int .i64 (j : Int), .int .i64 b], val := .agg #[.int .i64 (upT b s).k, .int .i64 (upT b s).n, .string (upT b s).nm, .slice A' (upT b s).ar.length cap'], born := cl }) : Array MapEntry).toList, ∃ (j : Nat) (k : Int) (s : Tm) (cs : List Value), e.key = .agg #[.int .i64 (j : Int), .int .i64 k] ∧ (j ≤ 1000000 ∧ 0 ≤ k ∧ k ≤ 1000000000) ∧ l[j]? = some s ∧ e.val = .agg cs.toArray ∧ TmR h' (upT k s) cs := by
        intro e he
        simp only [Array.toList_push, List.mem_append, List.mem_singleton] at he
        rcases he with he | rfl
        · obtain ⟨j', z, s', cs, g1, g2, g3, g4, g5⟩ := hes'.out e he
          exact ⟨j', z, s', cs, g1, g2, g3, g4, g5.sub m'.sub⟩
        · exact ⟨j, b, s, _, rfl, by omega, hjs, rfl, r'⟩
      rcases look_run Tryz.underlying194 keyed134 zero34 em2 hkey (fun e he => by
        obtain ⟨j', z, _, _, g1, g2, _⟩ := hk2 e he
        rw [g1]
        exact key134 (by omega) (by omega)) with ⟨hno2, _, _⟩ | ⟨e', he', hek', _, hl4⟩
      · exact absurd rfl (hno2 { key := .agg #[.int .i64 (j : Int), .int .i64 b], val := .agg #[.int .i64 (upT b s).k, .int .i64 (upT b s).n, .string (upT b s).nm, .slice A' (upT b s).ar.length cap'], born := cl } (by simp))
      obtain ⟨j', z', s', cs'', hy1, hy2, hy5, hy3, hy4⟩ := hk2 e' he'
      rw [hek'] at hy1
      obtain ⟨rfl, rfl⟩ := key_ne hy1
      rw [hjs] at hy5
      cases hy5
      obtain ⟨A'', cap'', rfl, _⟩ := hy4.open_
      rw [hy3] at hl4
      have hk2' := Lib.hid hk2
      have em2' := Lib.hid em2
      clear hk2 em2 em he' hek' hy3 hk hno' hy1
      have hm2 : Has W2 h' := m'.has.kp kp2 (Off.map m'.has (box_below dm k1'))
      generalize upT b s = u at *
      go_wp2_with fail
      obtain ⟨W5, hW5, b5, kp5⟩ : ∃ W5, ((((W2.setCell ⟨w.heap.size + 1 + 1 + 1, 0, none⟩ (.int .i64 u.k)).setCell ⟨w.heap.size + 1 + 1 + 1, 1, none⟩ (.int .i64 u.n)).setCell ⟨w.heap.size + 1 + 1 + 1, 2, none⟩ (.string u.nm)).setCell ⟨w.heap.size + 1 + 1 + 1, 3, none⟩ (.slice A'' u.ar.length cap'')) = W5 ∧
          W5.heap[w.heap.size + 1 + 1 + 1]? = some (.cells #[.int .i64 u.k, .int .i64 u.n, .string u.nm, .slice A'' u.ar.length cap''] 34) ∧ Kp (fun q => q = w.heap.size + 1 + 1 + 1) W2 W5 := ⟨_, rfl, (set4 e3 _ _ _ _).1, (set4 e3 _ _ _ _).2⟩
      rw [hW5]
      have x5 := box4 b5
      refine bodyPost_ret (v := .agg #[.int .i64 u.k, .int .i64 u.n, .string u.nm, .slice A'' u.ar.length cap'']) (by simp [results, Tryz.results172, go_sem, x5]) rfl ?_
      have m5 : Mk w h W5 h' := (m'.from_ (by show w.heap.size ≤ W0.heap.size; omega)).world (hm2.kp kp5 (m'.off (H.off_new (fun k hk => by omega)) (fun k hk => by show k < W0.heap.size; omega)))
      exact ⟨((Kp.of_below (fun q => q = bm) kk1).trans kp2 (fun i hi e => e)).trans kp5 (fun i hi e => by omega), _, h', rfl, by rw [G.out]; exact hy4, m5, blk_kp ek kp5 (by omega), _, _, blk_kp em2'.out kp5 (by omega), hk2'.out⟩
    · obtain ⟨j', z, s', cs', hz1, hz2, hz5, hz3, hz4⟩ := hes'.out e he
      rw [hek] at hz1
      obtain ⟨rfl, rfl⟩ := key_ne hz1
      rw [hjs] at hz5
      cases hz5
      obtain ⟨A', cap', rfl, _⟩ := hz4.open_
      rw [hz3] at hl1 hl2
      have hb4 := blk_alloc hb3 (.cells #[.int .i64 (upT b s).k, .int .i64 (upT b s).n, .string (upT b s).nm, .slice A' (upT b s).ar.length cap'] 34)
      rcases look_run Tryz.underlying194 keyed134 zero34 hb4 hkey hk with ⟨hno, _, _⟩ | ⟨e', he', hek', _, hl4⟩
      · exact absurd hek (hno e he)
      obtain ⟨j', z', s', cs'', hy1, hy2, hy5, hy3, hy4⟩ := hes'.out e' he'
      rw [hek'] at hy1
      obtain ⟨rfl, rfl⟩ := key_ne hy1
      rw [hjs] at hy5
      cases hy5
      obtain ⟨A'', cap'', rfl, _⟩ := hy4.open_
      rw [hy3] at hl4
      clear hb3 hb4 hk hl2 hy1 hz1
      have f3 := blk_frozen a3
      have x3 := box4 a3
      have l3 := blk_lt a3
      have xk4 := cell_alloc xk3 (.cells #[.int .i64 (upT b s).k, .int .i64 (upT b s).n, .string (upT b s).nm, .slice A' (upT b s).ar.length cap'] 34)
      have x40 := cell_alloc x00 (.cells #[.int .i64 (upT b s).k, .int .i64 (upT b s).n, .string (upT b s).nm, .slice A' (upT b s).ar.length cap'] 34)
      have x41 := cell_alloc x01 (.cells #[.int .i64 (upT b s).k, .int .i64 (upT b s).n, .string (upT b s).nm, .slice A' (upT b s).ar.length cap'] 34)
      have f4 := blk_frozen (blk_alloc a3 (.cells #[.int .i64 (upT b s).k, .int .i64 (upT b s).n, .string (upT b s).nm, .slice A' (upT b s).ar.length cap'] 34))
      have x4 := box4 (blk_alloc a3 (.cells #[.int .i64 (upT b s).k, .int .i64 (upT b s).n, .string (upT b s).nm, .slice A' (upT b s).ar.length cap'] 34))
      generalize upT b s = u at *
      go_enter Tryz.func172, Tryz.ntmps172
      go_wp2_with fail
      obtain ⟨c0, c1, c2, c3, cb⟩ := alloc4 w (.cells #[.int .i64 (j : Int), .int .i64 b] 134) (.cells #[.int .i64 s.k, .int .i64 s.n, .string s.nm, .slice A s.ar.length cap] 34) (.cells #[.int .i64 b] 3) (.cells #[.int .i64 u.k, .int .i64 u.n, .string u.nm, .slice A'' u.ar.length cap''] 34)
      have y3 := box4 (blk_alloc c3 (.cells #[.int .i64 u.k, .int .i64 u.n, .string u.nm, .slice A' u.ar.length cap'] 34))
      have cb4 := cb.alloc cb.size (.cells #[.int .i64 u.k, .int .i64 u.n, .string u.nm, .slice A' u.ar.length cap'] 34)
      refine bodyPost_ret (v := .agg #[.int .i64 u.k, .int .i64 u.n, .string u.nm, .slice A'' u.ar.length cap'']) (by simp [results, Tryz.results172, go_sem, y3]) rfl ?_
      exact ⟨Kp.of_below _ cb4, _, h, rfl, by rw [G.out]; exact hy4, Mk.refl (H.below cb4), hi.kp (Kp.of_below (fun _ => False) cb4) (fun h => h) (fun h => h) (Sub.refl h)⟩
/-- What Put keeps in memory. -/
structure PutJ (l : List Tm) (bl bu bk bm : Nat) (h : Snap) (W : World) : Prop where
  up : UpJ l bk bm h W
  bx : ∃ sv, W.heap[bl]? = some (.cells #[sv] 32) ∧ TmS h l sv
  fn : W.heap[bu]? = some (.cells #[.func (.func 172) #[] #[.pointer (some ⟨bk, 0, none⟩)]] 132)
theorem PutJ.kp {l : List Tm} {bl bu bk bm : Nat} {h h' : Snap} {W W' : World} {S : Nat → Prop} (i : PutJ l bl bu bk bm h W) (k : Kp S W W') (h1 : ¬ S bl) (h2 : ¬ S bu) (h3 : ¬ S bk) (h4 : ¬ S bm) (hs : Sub h h') : PutJ l bl bu bk bm h' W' := by
  obtain ⟨u, ⟨sv, b1, r⟩, f⟩ := i
  exact ⟨u.kp k h3 h4 hs, ⟨sv, blk_kp b1 k h1, r.sub hs⟩, blk_kp f k h2⟩
set_option maxRecDepth 100000 in
set_option maxHeartbeats 8000000 in
theorem putG_calls (l : List Tm) (bl bu bk bm bc N0 : Nat) (hN : bl < N0 ∧ bu < N0 ∧ bk < N0 ∧ bm < N0) (hn : bl ≠ bc ∧ bu ≠ bc ∧ bk ≠ bc ∧ bm ≠ bc) (hnm : bl ≠ bm ∧ bu ≠ bm ∧ bk ≠ bm) (hlen : l.length ≤ 1000000) (hok : ∀ (j : Nat) (s : Tm), l[j]? = some s → allN smallN s = true ∧ s.ld ≤ 1000000000) :
    HeadW (fun b t => decide (0 ≤ b ∧ b ≤ 1000000000 ∧ 0 ≤ t.n)) (putG l) 104 #[.pointer (some ⟨bl, 0, none⟩), .pointer (some ⟨bu, 0, none⟩)] bc N0 (fun q => q = bm) (PutJ l bl bu bk bm) := by
  refine ⟨?_, enters_ Tryz.func104 (by kernel_rfl) rfl, fun h h' W W' T i k hT hs => i.kp k (fun q => by have := hT _ q; omega) (fun q => by have := hT _ q; omega) (fun q => by have := hT _ q; omega) (fun q => by have := hT _ q; omega) hs, fun h W H i => by
    obtain ⟨_, _, hb, _⟩ := i.up.mp; exact Off.map H hb, fun q e => by subst e; exact ⟨hN.2.2.2, hn.2.2.2⟩⟩
  intro t cs b W h _ hb H r hi
  have hb' : 0 ≤ b ∧ b ≤ 1000000000 ∧ 0 ≤ t.n := by simpa using hb
  clear hb
  obtain ⟨hb0, hb1, hn0⟩ := hb'
  have r0 := r
  obtain ⟨A, cap, rfl, hl, hlm, hk1, hn1, hr⟩ := r.open_
  have hu34 := Tryz.underlying34
  obtain ⟨a1, a2, ab⟩ := alloc2 W (.cells #[.int .i64 t.k, .int .i64 t.n, .string t.nm, .slice A t.ar.length cap] 34) (.cells #[.int .i64 0, .int .i64 0, .string ⟨#[]⟩, .slice none 0 0] 34)
  have hv : putG l t b = if t.k ≠ 4 ∨ l.length ≤ t.n then (none, t.n) else (some (upB b (l.getD t.n.toNat tm0)), 0) := rfl
  obtain ⟨hd, hhd⟩ : ∃ hd, putG l = hd := ⟨_, rfl⟩
  rw [hhd] at hv ⊢
  clear hhd
  generalize t.k = k at *
  generalize t.n = n at *
  generalize t.nm = nm at *
  generalize t.ar.length = len at *
  have haA := blk_lt a1
  have haB := blk_lt a2
  obtain ⟨W0, hW0⟩ : ∃ W0, ((W.alloc (.cells #[.int .i64 k, .int .i64 n, .string nm, .slice A len cap] 34)).alloc (.cells #[.int .i64 0, .int .i64 0, .string ⟨#[]⟩, .slice none 0 0] 34)) = W0 := ⟨_, rfl⟩
  have sz0 : W0.heap.size = W.heap.size + 2 := by rw [← hW0]; simp
  rw [hW0] at a1 a2 ab haA haB
  have hi0 := hi.kp (Kp.of_below (fun _ => False) ab) (fun h => h) (fun h => h) (fun h => h) (fun h => h) (Sub.refl h)
  obtain ⟨sv, xl, rl⟩ := hi.bx
  obtain ⟨Al, cl, rfl, hll, hlm2, hrl⟩ := id rl
  have clw := box1 xl
  have cuw := box1 hi.fn
  have cl1 := box1 (box_below xl ab)
  have cu1 := box1 hi0.fn
  have ll := blk_lt xl
  have lu := blk_lt hi.fn
  have hW0' := Lib.hid hW0
  have sz0' := Lib.hid sz0
  have x1 := box4 a1
  have x2 := box4 a2
  have f2 := blk_frozen a2
  have hr0 : TmR h tm0 [.int .i64 0, .int .i64 0, .string ⟨#[]⟩, .slice none 0 0] := tm0_R h
  obtain ⟨W4, hW4, b4, kp4⟩ : ∃ W4, (((((W0.setCell ⟨W.heap.size + 1, 0, none⟩ (.int .i64 0)).setCell ⟨W.heap.size + 1, 1, none⟩ (.int .i64 0)).setCell ⟨W.heap.size + 1, 2, none⟩ (.string ⟨#[]⟩)).setCell ⟨W.heap.size + 1, 3, none⟩ (.slice none 0 0)).drew) = W4 ∧
      W4.heap[W.heap.size + 1]? = some (.cells #[.int .i64 0, .int .i64 0, .string ⟨#[]⟩, .slice none 0 0] 34) ∧ Kp (fun q => q = W.heap.size + 1) W0 W4 := ⟨_, rfl, (set4 a2 _ _ _ _).1, ((set4 a2 (.int .i64 0) (.int .i64 0) (.string ⟨#[]⟩) (.slice none 0 0)).2).drew⟩
  have hW4' := Lib.hid hW4
  clear hW4
  have y4 := box4 b4
  have bel4 : Below W.heap.size W W4 := ((Kp.of_below (fun q => q = W.heap.size + 1) ab).trans kp4 (fun i hi e => e)).below (fun i hi e => by omega)
  have hi4 := Lib.hid (hi.kp (Kp.of_below (fun _ => False) bel4) (fun h => h) (fun h => h) (fun h => h) (fun h => h) (Sub.refl h))
  have xc4 : ∀ v, W0.cell? ⟨W.heap.size, 1, none⟩ = some v → W4.cell? ⟨W.heap.size, 1, none⟩ = some v := fun v e => cell_kp e kp4 (by simp)
  have xc4' := Lib.hid xc4
  clear xc4 sz0 hW0
  have hi0' := Lib.hid hi0
  have hi' := Lib.hid hi
  by_cases q : k ≠ 4 ∨ l.length ≤ n
  · rw [if_pos q] at hv
    replace hv := Lib.hid hv
    rcases (show ((k != 4) = false ∧ l.length ≤ n) ∨ ((k != 4) = true ∧ True) by
      by_cases e : k = 4
      · exact .inl ⟨by simp [e], q.resolve_left (fun h => h e)⟩
      · exact .inr ⟨by simp [e], trivial⟩) with ⟨q1, q2⟩ | ⟨q1, q2⟩
    all_goals clear q
    all_goals clear hi hi0
    all_goals go_enter Tryz.func104, Tryz.ntmps104
    all_goals (go_wp2_with fail)
    all_goals
      rw [hW0'.out]
      refine rgs 6 (fun V => V.cell? ⟨W.heap.size, 1, none⟩ = some (.int .i64 n)) [] rfl ?_ (fun hS => ?_)
      · go_simp
      refine rgt 0 (.agg #[.int .i64 0, .int .i64 0, .string ⟨#[]⟩, .slice none 0 0]) rfl (by kernel_rfl) (fun _ _ _ h => h) rfl hS (fun V hV => by go_simp) ?_
      refine rgt 1 (.pointer (some ⟨W.heap.size, 1, none⟩)) rfl (by kernel_rfl) (fun _ _ _ h => h) rfl hS (fun V hV => by go_simp) ?_
      refine rgt 2 (.int .i64 n) rfl (by kernel_rfl) (fun _ _ _ h => h) rfl hS (fun V hV => by go_simp) ?_
      refine rg1 3 rfl (by kernel_rfl) (by decide) rfl (fun K hK => ?_)
      go_simp
      rw [hW4'.out]
      refine hK.out _ _ (xc4'.out _ hS) (fun hS => ?_)
      refine rgt 4 (.bool false) rfl (by kernel_rfl) (fun _ _ _ h => h) rfl hS (fun V hV => by go_simp) ?_
      refine rgt 5 (.int .i64 n) rfl (by kernel_rfl) (fun _ _ _ h => h) rfl hS (fun V hV => by go_simp) ?_
      refine rgd (by kernel_rfl) ?_
      go_wp2_with fail
      refine bodyPost_ret (v := .tuple #[.agg #[.int .i64 0, .int .i64 0, .string ⟨#[]⟩, .slice none 0 0], .bool false, .int .i64 n]) (by simp [results, Tryz.results104, go_sem, y4]) rfl ?_
      exact ⟨Kp.of_below _ bel4, by rw [hv.out]; exact hn1, _, h, by rw [hv.out]; rfl, by rw [hv.out]; exact hr0, Mk.refl (H.below bel4), hi4.out⟩
  · rw [if_neg q] at hv
    replace hv := Lib.hid hv
    obtain ⟨j, rfl⟩ : ∃ j : Nat, n = j := Int.eq_ofNat_of_zero_le hn0
    have q1 : (k != 4) = false := by simp; omega
    have q2 : j < l.length := by omega
    have q3 : ¬ ((l.length : Int) ≤ j) := by omega
    clear q
    obtain ⟨b', o', A', c', rfl, e0, e1, e2, e3, rt⟩ := hrl.get j q2
    have hjs : l[j]? = some l[j] := List.getElem?_eq_getElem q2
    obtain ⟨hs1, hs2⟩ := hok j _ hjs
    have hg : Hid (hd t b = (some (upB b l[j]), 0)) := Lib.hid (by rw [hv.out]; simp [q2])
    clear hv
    have hwW := H.below ab
    have hc0 := hwW.cell _ _ e0
    have hc1 := hwW.cell _ _ e1
    have hc2 := hwW.cell _ _ e2
    have hc3 := hwW.cell _ _ e3
    have lb' := H.lt e0
    have rt' := Lib.hid rt
    have hE := Lib.hid (And.intro e0 (And.intro e1 (And.intro e2 e3)))
    generalize l[j] = X at *
    clear hi hi0 rt e0 e1 e2 e3
    have hw0 := Lib.hid hwW
    go_enter Tryz.func104, Tryz.ntmps104
    go_wp2_with fail
    rw [hW0'.out]
    refine rgs 15 (fun V => V.cell? ⟨W.heap.size, 1, none⟩ = some (.int .i64 (j : Int)) ∧ V.cell? ⟨bu, 0, none⟩ = some (.func (.func 172) #[] #[.pointer (some ⟨bk, 0, none⟩)]) ∧ V.cell? ⟨bl, 0, none⟩ = some (.slice (some ⟨b', o', none⟩) l.length cl) ∧
      (V.cell? ⟨b', o' + j * 4, none⟩ = some (.int .i64 X.k) ∧ V.cell? ⟨b', o' + j * 4 + 1, none⟩ = some (.int .i64 X.n) ∧ V.cell? ⟨b', o' + j * 4 + 2, none⟩ = some (.string X.nm) ∧ V.cell? ⟨b', o' + j * 4 + 3, none⟩ = some (.slice A' X.ar.length c'))) [] rfl ⟨?_, cu1, cl1, hc0, hc1, hc2, hc3⟩ (fun hS => ?_)
    · go_simp
    refine rgt 0 (.func (.func 172) #[] #[.pointer (some ⟨bk, 0, none⟩)]) rfl (by kernel_rfl) (fun _ _ _ h => h) rfl hS (fun V hV => by obtain ⟨p1, p2, p3, p4⟩ := hV; go_simp) ?_
    refine rgt 1 (.pointer (some ⟨W.heap.size, 1, none⟩)) rfl (by kernel_rfl) (fun _ _ _ h => h) rfl hS (fun V hV => by go_simp) ?_
    refine rgt 2 (.int .i64 (j : Int)) rfl (by kernel_rfl) (fun _ _ _ h => h) rfl hS (fun V hV => by obtain ⟨p1, p2, p3, p4⟩ := hV; go_simp) ?_
    refine rgt 3 (.int .i64 b) rfl (by kernel_rfl) (fun _ _ _ h => h) rfl hS (fun V hV => by go_simp) ?_
    refine rgt 4 (.agg #[.int .i64 (j : Int), .int .i64 b]) rfl (by kernel_rfl) (fun _ _ _ h => h) rfl hS (fun V hV => by go_simp) ?_
    refine rgt 5 (.slice (some ⟨b', o', none⟩) l.length cl) rfl (by kernel_rfl) (fun _ _ _ h => h) rfl hS (fun V hV => by obtain ⟨p1, p2, p3, p4⟩ := hV; go_simp) ?_
    refine rgt 6 (.pointer (some ⟨W.heap.size, 1, none⟩)) rfl (by kernel_rfl) (fun _ _ _ h => h) rfl hS (fun V hV => by go_simp) ?_
    refine rgt 7 (.int .i64 (j : Int)) rfl (by kernel_rfl) (fun _ _ _ h => h) rfl hS (fun V hV => by obtain ⟨p1, p2, p3, p4⟩ := hV; go_simp) ?_
    refine rgt 8 (.pointer (some ⟨b', o' + j * 4, none⟩)) rfl (by kernel_rfl) (fun _ _ _ h => h) rfl hS (fun V hV => by obtain ⟨p1, p2, p3, p4⟩ := hV; go_simp) ?_
    refine rgt 9 (.agg #[.int .i64 X.k, .int .i64 X.n, .string X.nm, .slice A' X.ar.length c']) rfl (by kernel_rfl) (fun _ _ _ h => h) rfl hS (fun V hV => by obtain ⟨p1, p2, p3, p4, p5, p6, p7⟩ := hV; go_simp) ?_
    refine rgt 10 (.int .i64 b) rfl (by kernel_rfl) (fun _ _ _ h => h) rfl hS (fun V hV => by go_simp) ?_
    refine rg1 11 rfl (by kernel_rfl) (by decide) rfl (fun K hK => ?_)
    go_simp
    have hbmX := hi'.out.up.mp
    obtain ⟨es0, cl0, hbm0, _⟩ := hbmX
    have hoffm := (Off.map H hbm0).at_ ⟨b', o' + j * 4, none⟩ _ hE.out.1
    have hbm' : b' ≠ bm := fun e => hoffm e
    have lbm := blk_lt hbm0
    have lbk := blk_lt hi'.out.up.bx
    refine (upJ_calls l j X b bk bm _ W0.drew h hw0.out.drew rt'.out hjs (by omega) (hi0'.out.up.kp ((Kp.refl (fun _ => False) W0).drew) (fun h => h) (fun h => h) (Sub.refl h)) ⟨hb0, hb1⟩ hs1 hs2).mono ?_
    rintro e w1 ⟨k1, cs', h', rfl, r', m', u'⟩
    have kb : Kp (fun q => q = bm) W0 w1 := ((Kp.refl (fun q => q = bm) W0).drew).trans k1 (fun i hi e => e)
    have s0 := sz0'.out
    have e2 := blk_kp a2 kb (by omega)
    have g2 := blk_frozen e2
    have l2 := blk_lt e2
    have z2 := box4 e2
    have kp1 : Kp (fun q => q = bm) W w1 := (Kp.of_below (fun q => q = bm) ab).trans kb (fun i hi e => e)
    have r0' := Lib.hid r'
    obtain ⟨A5, c5, rfl, _⟩ := r'.open_
    simp only []
    refine hK.out _ _ ?_ (fun hS => ?_)
    · obtain ⟨p1, p2, p3, p4, p5, p6, p7⟩ := hS
      exact ⟨cell_kp p1 k1 (by simp; omega), cell_kp p2 k1 (by simp; omega), cell_kp p3 k1 (by simp; omega), cell_kp p4 k1 hbm', cell_kp p5 k1 hbm', cell_kp p6 k1 hbm', cell_kp p7 k1 hbm'⟩
    refine rg1 12 rfl (by kernel_rfl) (by decide) rfl (fun K hK => ?_)
    go_simp
    obtain ⟨Y, hY⟩ : ∃ Y, upB b X = Y := ⟨_, rfl⟩
    rw [hY] at r0' hg
    simp only [hY]
    obtain ⟨W5, hW5, b5, kp5⟩ : ∃ W5, ((((w1.setCell ⟨W.heap.size + 1, 0, none⟩ (.int .i64 Y.k)).setCell ⟨W.heap.size + 1, 1, none⟩ (.int .i64 Y.n)).setCell ⟨W.heap.size + 1, 2, none⟩ (.string Y.nm)).setCell ⟨W.heap.size + 1, 3, none⟩ (.slice A5 Y.ar.length c5)) = W5 ∧
        W5.heap[W.heap.size + 1]? = some (.cells #[.int .i64 Y.k, .int .i64 Y.n, .string Y.nm, .slice A5 Y.ar.length c5] 34) ∧ Kp (fun q => q = W.heap.size + 1) w1 W5 := ⟨_, rfl, (set4 e2 _ _ _ _).1, (set4 e2 _ _ _ _).2⟩
    rw [hW5]
    refine hK.out _ _ ?_ (fun hS => ?_)
    · obtain ⟨p1, p2, p3, p4, p5, p6, p7⟩ := hS
      exact ⟨cell_kp p1 kp5 (by simp), cell_kp p2 kp5 (by simp; omega), cell_kp p3 kp5 (by simp; omega), cell_kp p4 kp5 (by simp; omega), cell_kp p5 kp5 (by simp; omega), cell_kp p6 kp5 (by simp; omega), cell_kp p7 kp5 (by simp; omega)⟩
    refine rgt 13 (.bool true) rfl (by kernel_rfl) (fun _ _ _ h => h) rfl hS (fun V hV => by go_simp) ?_
    refine rgt 14 (.int .i64 0) rfl (by kernel_rfl) (fun _ _ _ h => h) rfl hS (fun V hV => by go_simp) ?_
    refine rgd (by kernel_rfl) ?_
    have x5 := box4 b5
    go_wp2_with fail
    refine bodyPost_ret (v := .tuple #[.agg #[.int .i64 Y.k, .int .i64 Y.n, .string Y.nm, .slice A5 Y.ar.length c5], .bool true, .int .i64 0]) (by simp [results, Tryz.results104, go_sem, x5]) rfl ?_
    exact ⟨kp1.trans kp5 (fun i hi e => by omega), by rw [hg.out]; simp, _, h', by rw [hg.out]; rfl, by rw [hg.out]; exact r0'.out, (m'.from_ (by show W.heap.size ≤ W0.heap.size; omega)).world (m'.has.kp kp5 (m'.off (H.off_new (fun k hk => by omega)) (fun k hk => by show k < W0.heap.size; omega))), ⟨u'.kp kp5 (by omega) (by omega) (Sub.refl _), ⟨_, blk_kp (blk_kp xl kp1 hnm.1) kp5 (by omega), rl.sub m'.sub⟩, blk_kp (blk_kp hi'.out.fn kp1 hnm.2.1) kp5 (by omega)⟩⟩
end Go.Proofs.YtpgbeapojjinmaaGreatDoor
namespace Go.Proofs.YtpgbeapojjinmaaGreatDoor
open Go.RowKit Go.Shelf Go.Proofs.YtpgbeapojjinmaaGreatDoorW.PrintLast
mutual
theorem bok_put : ∀ (t : Tm) (b : Int), 0 ≤ b → b + t.ld ≤ 1000000000 → shp t = true → bokT (fun b t => decide (0 ≤ b ∧ b ≤ 1000000000 ∧ 0 ≤ t.n)) b t = true
  | .mk k n nm ar, b, h0, h1, hs => by
    rw [Tm.ld] at h1
    unfold Tm.one at h1
    rw [shp, Bool.and_eq_true] at hs
    have hn := (shp_k hs.1).1
    rw [bokT, bok_putL ar _ (by split <;> omega) (by split at h1 <;> rename_i q <;> simp only [q, if_true, if_false] <;> omega) hs.2]
    rw [Bool.and_true]
    exact decide_eq_true ⟨h0, by split at h1 <;> omega, hn⟩
theorem bok_putL : ∀ (l : List Tm) (b : Int), 0 ≤ b → b + Tm.ldL l ≤ 1000000000 → shpL l = true → bokL (fun b t => decide (0 ≤ b ∧ b ≤ 1000000000 ∧ 0 ≤ t.n)) b l = true
  | [], _, _, _, _ => rfl
  | t :: ts, b, h0, h1, hs => by
    rw [Tm.ldL] at h1
    rw [shpL, Bool.and_eq_true] at hs
    rw [bokL, bok_put t b h0 (by omega) hs.1, bok_putL ts b h0 (by omega) hs.2]; rfl
end
set_option maxRecDepth 100000 in
set_option maxHeartbeats 4000000 in
theorem putGfn_calls (f : Nat) (l : List Tm) (t : Tm) (o : Sum Int (Tm × Int)) (ct : List Value) (sv : Value) (bt bl : Nat) (w : World) (h : Snap) (H : Has w h) (r : TmR h t ct) (rs : TmS h l sv) (he : runW f (.rep (putG l) 0 t 0) = some o) (hb : shp t = true) (hz : t.ld ≤ 1000000) (hlen : l.length ≤ 1000000) (hok : ∀ (j : Nat) (s : Tm), l[j]? = some s → allN smallN s = true ∧ s.ld ≤ 1000000000) (hsz : ∀ u c, o = .inr (u, c) → u.ld ≤ 1000000000)
    (ht : w.heap[bt]? = some (.cells ct.toArray 34)) (hs : w.heap[bl]? = some (.cells #[sv] 32)) :
    Calls Tryz.prog 101 #[.pointer (some ⟨bt, 0, none⟩), .pointer (some ⟨bl, 0, none⟩)] w (MadeTm w h (finS o)) := by
  have hmf := run_mf
  have r0 := r
  obtain ⟨A, cap, rfl, hl, hlm, hk1, hn1, hr⟩ := r.open_
  have hu34 := Tryz.underlying34
  have xt := box4 ht
  have lt := blk_lt ht
  have ls := blk_lt hs
  have he' := Lib.hid he
  have hsz' := Lib.hid hsz
  clear he hsz
  obtain ⟨O, hO⟩ : ∃ O, finS o = O := ⟨_, rfl⟩
  rw [hO]
  replace hO := Lib.hid hO
  obtain ⟨a1, a1b⟩ := alloc1 w (.cells #[.int .i64 0, .int .i64 0, .string ⟨#[]⟩, .slice none 0 0] 34)
  go_enter Tryz.func101, Tryz.ntmps101
  go_wp2_with fail
  refine (raised2_calls _).mono ?_
  rintro e w1 ⟨rfl, hw1⟩
  obtain ⟨W3, hW3⟩ : ∃ W3, (w1.alloc (.cells #[.func (.func 172) #[] #[.pointer (some ⟨w.heap.size + 2, 0, none⟩)]] 132)).alloc (.cells #[.int .i64 0] 129) = W3 := ⟨_, rfl⟩
  have sz1 : w1.heap.size = w.heap.size + 3 := by rw [hw1]; simp
  have ab1 : Below w.heap.size w w1 := by rw [hw1]; exact (a1b.alloc (by simp) _).alloc (by simp <;> omega) _
  have ab : Below w.heap.size w W3 := by rw [← hW3]; exact (ab1.alloc (by omega) _).alloc (by simp <;> omega) _
  have c1 : W3.heap[w.heap.size]? = some (.cells #[.int .i64 0, .int .i64 0, .string ⟨#[]⟩, .slice none 0 0] 34) := by rw [← hW3, hw1]; exact blk_alloc (blk_alloc (blk_alloc (blk_alloc a1 _) _) _) _
  have cm : W3.heap[w.heap.size + 1]? = some (.map #[] 0) := by rw [← hW3, hw1]; exact blk_alloc (blk_alloc (blk_alloc (by simpa using blk_new (w.alloc (.cells #[.int .i64 0, .int .i64 0, .string ⟨#[]⟩, .slice none 0 0] 34)) (.map #[] 0)) _) _) _
  have ck : W3.heap[w.heap.size + 2]? = some (.cells #[.map (some (w.heap.size + 1))] 194) := by rw [← hW3, hw1]; exact blk_alloc (blk_alloc (by simpa using blk_new ((w.alloc (.cells #[.int .i64 0, .int .i64 0, .string ⟨#[]⟩, .slice none 0 0] 34)).alloc (.map #[] 0)) (.cells #[.map (some (w.heap.size + 1))] 194)) _) _
  have c3 : W3.heap[w.heap.size + 3]? = some (.cells #[.func (.func 172) #[] #[.pointer (some ⟨w.heap.size + 2, 0, none⟩)]] 132) := by rw [← hW3, ← sz1]; exact blk_alloc (blk_new _ _) _
  have c4 : W3.heap[w.heap.size + 4]? = some (.cells #[.int .i64 0] 129) := by rw [← hW3, show w.heap.size + 4 = (w1.alloc (.cells #[.func (.func 172) #[] #[.pointer (some ⟨w.heap.size + 2, 0, none⟩)]] 132)).heap.size by simp; omega]; exact blk_new _ _
  have sz3 : W3.heap.size = w.heap.size + 5 := by rw [← hW3]; simp; omega
  have y3 := box4 (box_below ht ab)
  have y1 := box4 (box_below ht ab1)
  have lt1 : bt < w1.heap.size := by omega
  simp only [World.size_alloc] at *
  clear hw1
  go_wp2_with fail
  have HW := putG_calls l bl (w.heap.size + 3) (w.heap.size + 2) (w.heap.size + 1) (w.heap.size + 4) (w.heap.size + 4) (by omega) (by omega) (by omega) hlen hok
  have has3 := H.below ab
  refine (rep_ok f _ _ _ _ _ _ _ _ HW 0 t 0 o _ W3 h (by omega) has3 r0 (H.off_new (fun q e => by have : q = w.heap.size + 4 := e; omega)) ⟨⟨ck, #[], 0, cm, fun e he => by simp at he⟩, ⟨sv, box_below hs ab, rs⟩, c3⟩ c4 (bok_put t 0 (by omega) (by omega) hb) (by omega) he'.out).mono ?_
  rintro e w2 ⟨k2, hm⟩
  have kk : Below w.heap.size w w2 := ((Kp.of_below (fun q => q = w.heap.size + 4 ∨ q = w.heap.size + 1) ab).trans k2 (fun q hq e => e)).below (fun i hi => by omega)
  have b4 := blk_kp c1 k2 (fun e => by rcases e with e | e <;> omega)
  rcases o with x | ⟨u, c'⟩
  · subst hm
    have f0 : .inl x = O := hO.out
    subst f0
    exact ⟨rfl, kk, rfl⟩
  · obtain ⟨cs', h', rfl, r', m', _, _⟩ := hm
    have huz := hsz'.out u c' rfl
    have f0 : wholeS u = O := hO.out
    have r1 := r'
    obtain ⟨A1, c5, rfl, _⟩ := r'.open_
    clear y3 c1 c3 c4 cm ck
    go_wp2_with fail
    refine (whole_calls u _ _ h' m'.has r1 huz).mono ?_
    rintro e w4 ⟨k4, hm2⟩
    have kk2 := below_then kk k4 kk.size
    have b5 := box_below b4 k4
    rw [f0] at hm2
    clear hO f0
    rcases O with x | v
    · subst hm2
      exact ⟨rfl, kk2, rfl⟩
    · obtain ⟨cs2, h2, rfl, r2, m2⟩ := hm2
      obtain ⟨A2, c2, rfl, _⟩ := r2.open_
      have l5 := blk_lt b5
      have f5 := blk_frozen b5
      have x5 := box4 b5
      go_wp2_with fail
      obtain ⟨W5, hW5, b6, kp5⟩ : ∃ W5, ((((w4.setCell ⟨w.heap.size, 0, none⟩ (.int .i64 v.k)).setCell ⟨w.heap.size, 1, none⟩ (.int .i64 v.n)).setCell ⟨w.heap.size, 2, none⟩ (.string v.nm)).setCell ⟨w.heap.size, 3, none⟩ (.slice A2 v.ar.length c2)) = W5 ∧
          W5.heap[w.heap.size]? = some (.cells #[.int .i64 v.k, .int .i64 v.n, .string v.nm, .slice A2 v.ar.length c2] 34) ∧ Kp (fun q => q = w.heap.size) w4 W5 := ⟨_, rfl, (set4 b5 _ _ _ _).1, (set4 b5 _ _ _ _).2⟩
      rw [hW5]
      have x6 := box4 b6
      refine bodyPost_ret (v := .agg #[.int .i64 v.k, .int .i64 v.n, .string v.nm, .slice A2 v.ar.length c2]) (by simp [results, Tryz.results101, go_sem, x6]) rfl ?_
      have mm := m'.trans m2 (by have := k2.size; omega)
      exact ⟨((Kp.of_below (fun q => q = w.heap.size) kk2).trans kp5 (fun i hi e => e)).below (fun i hi e => by omega), _, h2, rfl, r2, (mm.from_ (w0 := w) (by omega)).world (mm.has.kp kp5 (mm.off (H.off_new (fun k hk => by omega)) (fun k hk => by omega)))⟩
set_option maxRecDepth 100000 in
set_option maxHeartbeats 4000000 in
theorem appfn_calls (f : Nat) (l : List Tm) (t : Tm) (o : Sum Int (Tm × Int)) (ct : List Value) (sv : Value) (bt bl : Nat) (w : World) (h : Snap) (H : Has w h) (r : TmR h t ct) (rs : TmS h l sv) (he : runW f (.app 0 t l) = some o) (hsz : ∀ u c, o = .inr (u, c) → u.ld ≤ 1000000000)
    (ht : w.heap[bt]? = some (.cells ct.toArray 34)) (hs : w.heap[bl]? = some (.cells #[sv] 32)) :
    Calls Tryz.prog 99 #[.pointer (some ⟨bt, 0, none⟩), .pointer (some ⟨bl, 0, none⟩)] w (MadeTm w h (finS o)) := by
  have r0 := r
  have rs0 := rs
  obtain ⟨A, cap, rfl, hl, hlm, hk1, hn1, hr⟩ := r.open_
  obtain ⟨As, cs, rfl, -⟩ := rs
  have hu34 := Tryz.underlying34
  have hu32 := Tryz.underlying32
  have xt := box4 ht
  have xs := box1 hs
  have lt := blk_lt ht
  have ls := blk_lt hs
  obtain ⟨a1, a2, ab⟩ := alloc2 w (.cells #[.int .i64 0, .int .i64 0, .string ⟨#[]⟩, .slice none 0 0] 34) (.cells #[.int .i64 0] 129)
  have he' := Lib.hid he
  have hsz' := Lib.hid hsz
  clear he hsz
  obtain ⟨O, hO⟩ : ∃ O, finS o = O := ⟨_, rfl⟩
  rw [hO]
  replace hO := Lib.hid hO
  go_enter Tryz.func99, Tryz.ntmps99
  go_wp2_with fail
  refine (app_ok f (w.heap.size + 1) 0 t l o _ _ _ h (H.below ab) r0 rs0 (H.off_new (fun q e => by have : q = w.heap.size + 1 := e; omega)) a2 he'.out).mono ?_
  rintro e w1 ⟨k1, hm⟩
  have kk : Below w.heap.size w w1 := ((Kp.of_below (fun q => q = w.heap.size + 1) ab).trans k1 (fun q hq e => e.resolve_right (fun hf => hf))).below (fun i hi => by omega)
  have b4 := blk_kp a1 k1 (fun e => by rcases e with e | e; omega; exact e)
  rcases o with x | ⟨u, c'⟩
  · subst hm
    have f0 : .inl x = O := hO.out
    subst f0
    exact ⟨rfl, kk, rfl⟩
  · obtain ⟨cs', h', rfl, r', m', _, _⟩ := hm
    have huz := hsz'.out u c' rfl
    have f0 : wholeS u = O := hO.out
    have r1 := r'
    obtain ⟨A1, c1, rfl, _⟩ := r'.open_
    go_wp2_with fail
    refine (whole_calls u _ _ h' m'.has r1 huz).mono ?_
    rintro e w2 ⟨k2, hm2⟩
    have kk2 := below_then kk k2 kk.size
    have b5 := box_below b4 k2
    rw [f0] at hm2
    clear hO f0
    rcases O with x | v
    · subst hm2
      exact ⟨rfl, kk2, rfl⟩
    · obtain ⟨cs2, h2, rfl, r2, m2⟩ := hm2
      obtain ⟨A2, c2, rfl, _⟩ := r2.open_
      have l5 := blk_lt b5
      have f5 := blk_frozen b5
      have x5 := box4 b5
      go_wp2_with fail
      obtain ⟨W5, hW5, b6, kp5⟩ : ∃ W5, ((((w2.setCell ⟨w.heap.size, 0, none⟩ (.int .i64 v.k)).setCell ⟨w.heap.size, 1, none⟩ (.int .i64 v.n)).setCell ⟨w.heap.size, 2, none⟩ (.string v.nm)).setCell ⟨w.heap.size, 3, none⟩ (.slice A2 v.ar.length c2)) = W5 ∧
          W5.heap[w.heap.size]? = some (.cells #[.int .i64 v.k, .int .i64 v.n, .string v.nm, .slice A2 v.ar.length c2] 34) ∧ Kp (fun q => q = w.heap.size) w2 W5 := ⟨_, rfl, (set4 b5 _ _ _ _).1, (set4 b5 _ _ _ _).2⟩
      rw [hW5]
      have x6 := box4 b6
      refine bodyPost_ret (v := .agg #[.int .i64 v.k, .int .i64 v.n, .string v.nm, .slice A2 v.ar.length c2]) (by simp [results, Tryz.results99, go_sem, x6]) rfl ?_
      have mm := m'.trans m2 (by have := k1.size; omega)
      exact ⟨((Kp.of_below (fun q => q = w.heap.size) kk2).trans kp5 (fun i hi e => e)).below (fun i hi e => by omega), _, h2, rfl, r2, (mm.from_ (w0 := w) (by simp; omega)).world (mm.has.kp kp5 (mm.off (H.off_new (fun k hk => by omega)) (fun k hk => by simp; omega)))⟩
set_option maxRecDepth 100000 in
set_option maxHeartbeats 8000000 in
theorem PutG_calls (t : Tm) (l : List Tm) (o : Sum Int Tm) (ct : List Value) (lv : Value) (w : World) (h : Snap) (H : Has w h) (r : TmR h t ct) (rl : TmS h l lv) (ho : PutAns t l o) :
    Calls Tryz.prog 30 #[.agg ct.toArray, lv] w (MadeRes w h o) := by
  have hmf := run_mf
  have r0 := r
  have rl0 := rl
  obtain ⟨A, cap, rfl, hl, hlm, hk1, hn1, hr⟩ := r.open_
  obtain ⟨Al, cl, rfl, hcl, hlim, hrl⟩ := rl
  unfold lim at hlim
  have hu34 := Tryz.underlying34
  have hu32 := Tryz.underlying32
  obtain ⟨a1, a2, a3, ab⟩ := alloc3 w (.cells #[.int .i64 t.k, .int .i64 t.n, .string t.nm, .slice A t.ar.length cap] 34) (.cells #[.slice Al l.length cl] 32) (.cells #[.int .i64 0, .int .i64 0, .string ⟨#[]⟩, .slice none 0 0] 34)
  have ho' := Lib.hid ho
  clear ho
  obtain ⟨W3, hW3⟩ : ∃ W3, ((w.alloc (.cells #[.int .i64 t.k, .int .i64 t.n, .string t.nm, .slice A t.ar.length cap] 34)).alloc (.cells #[.slice Al l.length cl] 32)).alloc (.cells #[.int .i64 0, .int .i64 0, .string ⟨#[]⟩, .slice none 0 0] 34) = W3 := ⟨_, rfl⟩
  have s3 : W3.heap.size = w.heap.size + 3 := by rw [← hW3]; simp
  by_cases q0 : 2000 < l.length
  · have G : o = .inl 2 := by
      rcases ho'.out with h | h
      · exact h.2
      · omega
    have q1 : (2000 : Int) < (l.length : Int) := by omega
    have f3 := blk_frozen a3
    have l3 := blk_lt a3
    clear ho' hW3 s3
    go_enter Tryz.func30, Tryz.ntmps30
    go_wp2_with fail
    have x5 := box4 a3
    refine bodyPost_ret (v := .tuple #[.agg #[.int .i64 0, .int .i64 0, .string ⟨#[]⟩, .slice none 0 0], .int .i64 2]) (by simp [results, Tryz.results30, go_sem, x5]) rfl ?_
    subst G
    exact ⟨ab, _, h, rfl, tm0_R h, Mk.refl (H.below ab)⟩
  replace ho' := Lib.hid (ho'.out.resolve_left (fun hh => q0 hh.1)).2
  rw [hW3] at a1 a2 a3 ab
  have own1 := one_own W3 (.int .i64 t.k) (.int .i64 t.n) (.string t.nm) (.slice A t.ar.length cap)
  rw [s3] at own1
  have y1 := box4 a1
  have y2 := box1 a2
  have l1 := blk_lt a1
  have l2 := blk_lt a2
  have q1 : ¬ (2000 : Int) < (l.length : Int) := by omega
  have hasA := (H.below ab).alloc (.cells #[.int .i64 t.k, .int .i64 t.n, .string t.nm, .slice A t.ar.length cap] 34)
  go_enter Tryz.func30, Tryz.ntmps30
  go_wp2_with (refine app34SL rfl _ _ rfl rfl own1 rfl hasA rl0 (by unfold lim; omega) (by simp; omega) ?_; intro sv2 w2 ys hown2 hchy hg2 hat; obtain ⟨A2, c2, rfl⟩ := own_form hown2)
  have ch : Chunks (TmR h) 4 ([] ++ [t] ++ l) (([] ++ [.int .i64 t.k, .int .i64 t.n, .string t.nm, .slice A t.ar.length cap]) ++ ys) := (Chunks.nil.snoc r0 rfl).append hchy
  have kg : Kp (fun q => q = w.heap.size + 3) (W3.alloc (.cells #[.int .i64 t.k, .int .i64 t.n, .string t.nm, .slice A t.ar.length cap] 34)) w2 := (Kp.refl _ _).grown (row := some (w.heap.size + 3)) hg2 (fun q e => .inl (Option.some.inj e).symm)
  have kw : Below W3.heap.size W3 w2 := (((Kp.refl (fun q => q = w.heap.size + 3) W3).alloc _).trans kg (fun q hq e => e)).below (fun i hi e => by omega)
  have kb := below_then ab kw ab.size
  have has2 := H.below kb
  obtain ⟨h4, A4, c4, e4, hn4, hc4, hr4, m4, _⟩ := own_Tm (w0 := w) has2 (by omega) hown2 ch
  cases e4
  have hL : Hid (1 + l.length = (t :: l).length) := Lib.hid (by simp; omega)
  have rT : TmS h4 (t :: l) (.slice A2 (1 + l.length) c2) := ⟨A2, c2, by rw [← hL.out], by rw [← hL.out]; exact hc4, by rw [← hL.out]; unfold lim; omega, hr4⟩
  clear hn4 hc4 hr4 hown2 hchy ch hat
  refine (raws_calls (t :: l) _ _ h4 m4.has rT).mono ?_
  rintro e w4 ⟨rfl, k4⟩
  have kk := below_then kb k4 kb.size
  have kv := below_then kw k4 kw.size
  have b1 := box_below a1 kv
  have b2 := box_below a2 kv
  have b4 := box_below a3 kv
  have l4 := blk_lt b4
  have f4 := blk_frozen b4
  have hs1 := kv.size
  obtain ⟨x, hx⟩ : ∃ x, rawsP (t :: l) = x := ⟨_, rfl⟩
  rw [hx] at ho' ⊢
  replace hx := Lib.hid hx
  clear y1 y2 rT m4 hL
  by_cases q : x = 0
  · have hin := Lib.hid (ho'.out.resolve_left (fun h => h.1 q)).2
    have q' : (x != 0) = false := by simp [q]
    have hnz : Hid (∀ c, o = .inl c → c ≠ 0) := Lib.hid (fun c hc => by
      obtain ⟨f, o1, e1, e2, rfl⟩ := hin.out
      exact finS_nz e1 hc)
    subst q
    clear ho'
    go_wp2_with fail
    refine (made_calls 101 _ _ h (H.below kk) o hnz.out (enters_ Tryz.func101 (by kernel_rfl) rfl) (fun W hW => by
      obtain ⟨f, o1, e1, e2, rfl⟩ := hin.out
      have hr := raws_zero.1 hx.out
      have rt := hr t (by simp)
      have hd := (raw_parts rt).1
      have hld := ld_dep t
      exact putGfn_calls f l t o1 _ _ _ _ W h ((H.below kk).below hW) r0 rl0 e1 (raw_parts rt).2.1 (by omega) (by omega) (fun j s hj => by
        have rs := hr s (by simp [List.mem_of_getElem? hj])
        have := ld_dep s
        have := (raw_parts rs).1
        exact ⟨raw_small s ((rawP_zero s).1 rs).2, by omega⟩) e2 (box_below b1 hW) (box_below b2 hW))).mono ?_
    rintro e w5 ⟨k5, cs', h', rfl, r', m'⟩
    have kk3 := below_then kk k5 kk.size
    obtain ⟨A1, c1, rfl, _⟩ := r'.open_
    have c4 := box_below b4 k5
    have l4 := blk_lt c4
    have f4 := blk_frozen c4
    have x4 := box4 c4
    go_wp2_with fail
    obtain ⟨W5, hW5, b5, kp5⟩ : ∃ W5, ((((w5.setCell ⟨w.heap.size + 1 + 1, 0, none⟩ (.int .i64 (tmS o).k)).setCell ⟨w.heap.size + 1 + 1, 1, none⟩ (.int .i64 (tmS o).n)).setCell ⟨w.heap.size + 1 + 1, 2, none⟩ (.string (tmS o).nm)).setCell ⟨w.heap.size + 1 + 1, 3, none⟩ (.slice A1 (tmS o).ar.length c1)) = W5 ∧
        W5.heap[w.heap.size + 1 + 1]? = some (.cells #[.int .i64 (tmS o).k, .int .i64 (tmS o).n, .string (tmS o).nm, .slice A1 (tmS o).ar.length c1] 34) ∧ Kp (fun q => q = w.heap.size + 1 + 1) w5 W5 := ⟨_, rfl, (set4 c4 _ _ _ _).1, (set4 c4 _ _ _ _).2⟩
    rw [hW5]
    have x5 := box4 b5
    refine bodyPost_ret (v := .tuple #[.agg #[.int .i64 (tmS o).k, .int .i64 (tmS o).n, .string (tmS o).nm, .slice A1 (tmS o).ar.length c1], .int .i64 (codeS o)]) (by simp [results, Tryz.results30, go_sem, x5]) rfl ?_
    exact ⟨((Kp.of_below (fun q => q = w.heap.size + 1 + 1) kk3).trans kp5 (fun i hi e => e)).below (fun i hi e => by omega), _, h', rfl, r', ((m'.from_ kk.size).world (m'.has.kp kp5 (m'.off (H.off_new (fun k hk => by omega)) (fun k hk => by omega))))⟩
  · have G : o = .inl x := by
      rcases ho'.out with h | h
      · exact h.2
      · exact absurd h.1 q
    have q' : (x != 0) = true := by simp [q]
    have x4 := box4 b4
    clear q ho' hx
    go_wp2_with fail
    obtain ⟨W5, hW5, b5, kp5⟩ : ∃ W5, ((((w4.setCell ⟨w.heap.size + 1 + 1, 0, none⟩ (.int .i64 0)).setCell ⟨w.heap.size + 1 + 1, 1, none⟩ (.int .i64 0)).setCell ⟨w.heap.size + 1 + 1, 2, none⟩ (.string ⟨#[]⟩)).setCell ⟨w.heap.size + 1 + 1, 3, none⟩ (.slice none 0 0)) = W5 ∧
        W5.heap[w.heap.size + 1 + 1]? = some (.cells #[.int .i64 0, .int .i64 0, .string ⟨#[]⟩, .slice none 0 0] 34) ∧ Kp (fun q => q = w.heap.size + 1 + 1) w4 W5 := ⟨_, rfl, (set4 b4 _ _ _ _).1, (set4 b4 _ _ _ _).2⟩
    rw [hW5]
    have x5 := box4 b5
    refine bodyPost_ret (v := .tuple #[.agg #[.int .i64 0, .int .i64 0, .string ⟨#[]⟩, .slice none 0 0], .int .i64 x]) (by simp [results, Tryz.results30, go_sem, x5]) rfl ?_
    subst G
    have hb5 : Below w.heap.size w W5 := ((Kp.of_below (fun q => q = w.heap.size + 1 + 1) kk).trans kp5 (fun i hi e => e)).below (fun i hi e => by omega)
    exact ⟨hb5, _, h, rfl, tm0_R h, Mk.refl (H.below hb5)⟩
set_option maxRecDepth 100000 in
set_option maxHeartbeats 8000000 in
theorem Apply_calls (t : Tm) (l : List Tm) (o : Sum Int Tm) (ct : List Value) (lv : Value) (w : World) (h : Snap) (H : Has w h) (r : TmR h t ct) (rl : TmS h l lv) (ho : AppAns t l o) :
    Calls Tryz.prog 29 #[.agg ct.toArray, lv] w (MadeRes w h o) := by
  have hmf := run_mf
  have r0 := r
  have rl0 := rl
  obtain ⟨A, cap, rfl, hl, hlm, hk1, hn1, hr⟩ := r.open_
  obtain ⟨Al, cl, rfl, hcl, hlim, hrl⟩ := rl
  unfold lim at hlim
  have hu34 := Tryz.underlying34
  have hu32 := Tryz.underlying32
  obtain ⟨a1, a2, a3, ab⟩ := alloc3 w (.cells #[.int .i64 t.k, .int .i64 t.n, .string t.nm, .slice A t.ar.length cap] 34) (.cells #[.slice Al l.length cl] 32) (.cells #[.int .i64 0, .int .i64 0, .string ⟨#[]⟩, .slice none 0 0] 34)
  have ho' := Lib.hid ho
  clear ho
  obtain ⟨W3, hW3⟩ : ∃ W3, ((w.alloc (.cells #[.int .i64 t.k, .int .i64 t.n, .string t.nm, .slice A t.ar.length cap] 34)).alloc (.cells #[.slice Al l.length cl] 32)).alloc (.cells #[.int .i64 0, .int .i64 0, .string ⟨#[]⟩, .slice none 0 0] 34) = W3 := ⟨_, rfl⟩
  have s3 : W3.heap.size = w.heap.size + 3 := by rw [← hW3]; simp
  by_cases q0 : 8 < l.length
  · have G : o = .inl 2 := by
      rcases ho'.out with h | h
      · exact h.2
      · omega
    have q1 : (8 : Int) < (l.length : Int) := by omega
    have f3 := blk_frozen a3
    have l3 := blk_lt a3
    clear ho' hW3 s3
    go_enter Tryz.func29, Tryz.ntmps29
    go_wp2_with fail
    have x5 := box4 a3
    refine bodyPost_ret (v := .tuple #[.agg #[.int .i64 0, .int .i64 0, .string ⟨#[]⟩, .slice none 0 0], .int .i64 2]) (by simp [results, Tryz.results29, go_sem, x5]) rfl ?_
    subst G
    exact ⟨ab, _, h, rfl, tm0_R h, Mk.refl (H.below ab)⟩
  replace ho' := Lib.hid (ho'.out.resolve_left (fun hh => q0 hh.1)).2
  rw [hW3] at a1 a2 a3 ab
  have own1 := one_own W3 (.int .i64 t.k) (.int .i64 t.n) (.string t.nm) (.slice A t.ar.length cap)
  rw [s3] at own1
  have y1 := box4 a1
  have y2 := box1 a2
  have l1 := blk_lt a1
  have l2 := blk_lt a2
  have q1 : ¬ (8 : Int) < (l.length : Int) := by omega
  have hasA := (H.below ab).alloc (.cells #[.int .i64 t.k, .int .i64 t.n, .string t.nm, .slice A t.ar.length cap] 34)
  go_enter Tryz.func29, Tryz.ntmps29
  go_wp2_with (refine app34SL rfl _ _ rfl rfl own1 rfl hasA rl0 (by unfold lim; omega) (by simp; omega) ?_; intro sv2 w2 ys hown2 hchy hg2 hat; obtain ⟨A2, c2, rfl⟩ := own_form hown2)
  have ch : Chunks (TmR h) 4 ([] ++ [t] ++ l) (([] ++ [.int .i64 t.k, .int .i64 t.n, .string t.nm, .slice A t.ar.length cap]) ++ ys) := (Chunks.nil.snoc r0 rfl).append hchy
  have kg : Kp (fun q => q = w.heap.size + 3) (W3.alloc (.cells #[.int .i64 t.k, .int .i64 t.n, .string t.nm, .slice A t.ar.length cap] 34)) w2 := (Kp.refl _ _).grown (row := some (w.heap.size + 3)) hg2 (fun q e => .inl (Option.some.inj e).symm)
  have kw : Below W3.heap.size W3 w2 := (((Kp.refl (fun q => q = w.heap.size + 3) W3).alloc _).trans kg (fun q hq e => e)).below (fun i hi e => by omega)
  have kb := below_then ab kw ab.size
  have has2 := H.below kb
  obtain ⟨h4, A4, c4, e4, hn4, hc4, hr4, m4, _⟩ := own_Tm (w0 := w) has2 (by omega) hown2 ch
  cases e4
  have hL : Hid (1 + l.length = (t :: l).length) := Lib.hid (by simp; omega)
  have rT : TmS h4 (t :: l) (.slice A2 (1 + l.length) c2) := ⟨A2, c2, by rw [← hL.out], by rw [← hL.out]; exact hc4, by rw [← hL.out]; unfold lim; omega, hr4⟩
  clear hn4 hc4 hr4 hown2 hchy ch hat
  refine (raws_calls (t :: l) _ _ h4 m4.has rT).mono ?_
  rintro e w4 ⟨rfl, k4⟩
  have kk := below_then kb k4 kb.size
  have kv := below_then kw k4 kw.size
  have b1 := box_below a1 kv
  have b2 := box_below a2 kv
  have b4 := box_below a3 kv
  have l4 := blk_lt b4
  have f4 := blk_frozen b4
  have hs1 := kv.size
  obtain ⟨x, hx⟩ : ∃ x, rawsP (t :: l) = x := ⟨_, rfl⟩
  rw [hx] at ho' ⊢
  replace hx := Lib.hid hx
  clear y1 y2 rT m4 hL
  by_cases q : x = 0
  · have hin := Lib.hid (ho'.out.resolve_left (fun h => h.1 q)).2
    have q' : (x != 0) = false := by simp [q]
    have hnz : Hid (∀ c, o = .inl c → c ≠ 0) := Lib.hid (fun c hc => by
      obtain ⟨f, o1, e1, e2, rfl⟩ := hin.out
      exact finS_nz e1 hc)
    subst q
    clear ho'
    go_wp2_with fail
    refine (made_calls 99 _ _ h (H.below kk) o hnz.out (enters_ Tryz.func99 (by kernel_rfl) rfl) (fun W hW => by
      obtain ⟨f, o1, e1, e2, rfl⟩ := hin.out
      exact appfn_calls f l t o1 _ _ _ _ W h ((H.below kk).below hW) r0 rl0 e1 e2 (box_below b1 hW) (box_below b2 hW))).mono ?_
    rintro e w5 ⟨k5, cs', h', rfl, r', m'⟩
    have kk3 := below_then kk k5 kk.size
    obtain ⟨A1, c1, rfl, _⟩ := r'.open_
    have c4 := box_below b4 k5
    have l4 := blk_lt c4
    have f4 := blk_frozen c4
    have x4 := box4 c4
    go_wp2_with fail
    obtain ⟨W5, hW5, b5, kp5⟩ : ∃ W5, ((((w5.setCell ⟨w.heap.size + 1 + 1, 0, none⟩ (.int .i64 (tmS o).k)).setCell ⟨w.heap.size + 1 + 1, 1, none⟩ (.int .i64 (tmS o).n)).setCell ⟨w.heap.size + 1 + 1, 2, none⟩ (.string (tmS o).nm)).setCell ⟨w.heap.size + 1 + 1, 3, none⟩ (.slice A1 (tmS o).ar.length c1)) = W5 ∧
        W5.heap[w.heap.size + 1 + 1]? = some (.cells #[.int .i64 (tmS o).k, .int .i64 (tmS o).n, .string (tmS o).nm, .slice A1 (tmS o).ar.length c1] 34) ∧ Kp (fun q => q = w.heap.size + 1 + 1) w5 W5 := ⟨_, rfl, (set4 c4 _ _ _ _).1, (set4 c4 _ _ _ _).2⟩
    rw [hW5]
    have x5 := box4 b5
    refine bodyPost_ret (v := .tuple #[.agg #[.int .i64 (tmS o).k, .int .i64 (tmS o).n, .string (tmS o).nm, .slice A1 (tmS o).ar.length c1], .int .i64 (codeS o)]) (by simp [results, Tryz.results29, go_sem, x5]) rfl ?_
    exact ⟨((Kp.of_below (fun q => q = w.heap.size + 1 + 1) kk3).trans kp5 (fun i hi e => e)).below (fun i hi e => by omega), _, h', rfl, r', ((m'.from_ kk.size).world (m'.has.kp kp5 (m'.off (H.off_new (fun k hk => by omega)) (fun k hk => by omega))))⟩
  · have G : o = .inl x := by
      rcases ho'.out with h | h
      · exact h.2
      · exact absurd h.1 q
    have q' : (x != 0) = true := by simp [q]
    have x4 := box4 b4
    clear q ho' hx
    go_wp2_with fail
    obtain ⟨W5, hW5, b5, kp5⟩ : ∃ W5, ((((w4.setCell ⟨w.heap.size + 1 + 1, 0, none⟩ (.int .i64 0)).setCell ⟨w.heap.size + 1 + 1, 1, none⟩ (.int .i64 0)).setCell ⟨w.heap.size + 1 + 1, 2, none⟩ (.string ⟨#[]⟩)).setCell ⟨w.heap.size + 1 + 1, 3, none⟩ (.slice none 0 0)) = W5 ∧
        W5.heap[w.heap.size + 1 + 1]? = some (.cells #[.int .i64 0, .int .i64 0, .string ⟨#[]⟩, .slice none 0 0] 34) ∧ Kp (fun q => q = w.heap.size + 1 + 1) w4 W5 := ⟨_, rfl, (set4 b4 _ _ _ _).1, (set4 b4 _ _ _ _).2⟩
    rw [hW5]
    have x5 := box4 b5
    refine bodyPost_ret (v := .tuple #[.agg #[.int .i64 0, .int .i64 0, .string ⟨#[]⟩, .slice none 0 0], .int .i64 x]) (by simp [results, Tryz.results29, go_sem, x5]) rfl ?_
    subst G
    have hb5 : Below w.heap.size w W5 := ((Kp.of_below (fun q => q = w.heap.size + 1 + 1) kk).trans kp5 (fun i hi e => e)).below (fun i hi e => by omega)
    exact ⟨hb5, _, h, rfl, tm0_R h, Mk.refl (H.below hb5)⟩
end Go.Proofs.YtpgbeapojjinmaaGreatDoor
