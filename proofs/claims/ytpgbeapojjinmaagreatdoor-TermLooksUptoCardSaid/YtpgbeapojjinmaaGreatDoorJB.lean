/- term.worker.replace. No law is proved here. -/
import Derived.Test.YtpgbeapojjinmaaGreatDoorJA
set_option linter.unusedVariables false
set_option linter.unusedSimpArgs false
namespace Go.Proofs.YtpgbeapojjinmaaGreatDoor
open Go.RowKit Go.Shelf Go.Proofs.YtpgbeapojjinmaaGreatDoorW.PrintLast
mutual
def bokT (okb : Int → Tm → Bool) : Int → Tm → Bool
  | b, .mk k n nm ar => okb b (.mk k n nm ar) && bokL okb (if k = 5 then b + 1 else b) ar
def bokL (okb : Int → Tm → Bool) : Int → List Tm → Bool
  | _, [] => true
  | b, t :: ts => bokT okb b t && bokL okb b ts
end
theorem bokL_at {okb : Int → Tm → Bool} {b : Int} : ∀ {l : List Tm}, bokL okb b l = true → ∀ j (hj : j < l.length), bokT okb b l[j] = true
  | t :: ts, h, 0, _ => by rw [bokL] at h; simp at h; exact h.1
  | t :: ts, h, j + 1, hj => by rw [bokL] at h; simp at h; exact bokL_at h.2 j (by simpa using hj)
def RepOK (f : Nat) : Prop := ∀ (okb : Int → Tm → Bool) (hd : Tm → Int → Option Tm × Int) (F : Nat) (cap : Array Value) (bc : Nat) (S : Nat → Prop) (I : Snap → World → Prop) (N0 : Nat) (HW : HeadW okb hd F cap bc N0 S I) (c : Int) (t : Tm) (b : Int) (o : Sum Int (Tm × Int)) (cs : List Value) (w : World) (h : Snap)
    (hN : N0 ≤ w.heap.size) (H : Has w h) (r : TmR h t cs) (ho : Off h (fun q => q = bc)) (hi : I h w) (hc : w.heap[bc]? = some (.cells #[.int .i64 c] 129)) (hb : bokT okb b t = true) (hbz : 0 ≤ b ∧ b + t.ld ≤ 4000000000) (he : runW f (.rep hd c t b) = some o),
    Calls Tryz.prog 103 #[.pointer (some ⟨bc, 0, none⟩), .agg cs.toArray, .int .i64 b, .func (.func F) #[] cap] w (WPost bc S I w h o)
def AppOK (f : Nat) : Prop := ∀ (bc : Nat) (c : Int) (t : Tm) (xs : List Tm) (o : Sum Int (Tm × Int)) (cs : List Value) (sv : Value) (w : World) (h : Snap)
    (H : Has w h) (r : TmR h t cs) (rs : TmS h xs sv) (ho : Off h (fun q => q = bc)) (hc : w.heap[bc]? = some (.cells #[.int .i64 c] 129)) (he : runW f (.app c t xs) = some o),
    Calls Tryz.prog 100 #[.pointer (some ⟨bc, 0, none⟩), .agg cs.toArray, sv] w (WPost bc (fun _ => False) (fun _ _ => True) w h o)
def SubOK (f : Nat) : Prop := ∀ (bc : Nat) (c : Int) (t s : Tm) (o : Sum Int (Tm × Int)) (ct cs : List Value) (w : World) (h : Snap)
    (H : Has w h) (r : TmR h t ct) (rs : TmR h s cs) (ho : Off h (fun q => q = bc)) (hc : w.heap[bc]? = some (.cells #[.int .i64 c] 129)) (he : runW f (.sub c t s) = some o),
    Calls Tryz.prog 98 #[.pointer (some ⟨bc, 0, none⟩), .agg ct.toArray, .agg cs.toArray] w (WPost bc (fun _ => False) (fun _ _ => True) w h o)
/-- A list goes on behind some terms. -/
def catW (us : List Tm) : Option (Sum Int (List Tm × Int)) → Option (Sum Int (List Tm × Int))
  | some (.inr (vs, c)) => some (.inr (us ++ vs, c))
  | x => x
theorem catW_cons (r : Int → Tm → WRes) (c : Int) (t : Tm) (ts us : List Tm) : catW us (listW r c (t :: ts)) = match r c t with
    | none => none
    | some (.inl e) => some (.inl e)
    | some (.inr (u, c')) => catW (us ++ [u]) (listW r c' ts) := by
  rw [listW]
  rcases r c t with _ | e | ⟨u, c'⟩
  · rfl
  · rfl
  · show catW us (match listW r c' ts with | some (.inr (us, c'')) => some (.inr (u :: us, c'')) | x => x) = catW (us ++ [u]) (listW r c' ts)
    generalize listW r c' ts = q
    rcases q with _ | e | ⟨vs, c''⟩ <;> simp [catW]
/-- The state of replace's loop. -/
structure RpS (w : World) (h : Snap) (bc : Nat) (S : Nat → Prop) (I : Snap → World → Prop) (cs : Array Value) (us : List Tm) (cj : Int) (sv : Value) (xs : List Value) (wr : World) (h' : Snap) : Prop where
  b1 : wr.heap[w.heap.size]? = some (.cells cs 34)
  b2 : wr.heap[w.heap.size + 1]? = some (.cells #[.int .i64 0, .int .i64 0, .string ⟨#[]⟩, .slice none 0 0] 34)
  bcn : wr.heap[bc]? = some (.cells #[.int .i64 cj] 129)
  own : wr.ownsRow (w.heap.size + 2) 34 4 sv us.length xs
  ch : Chunks (TmR h') 4 us xs
  made : Mk w h wr h'
  kp : Kp (fun q => q = bc ∨ S q) w wr
  off : Off h' (fun q => q = bc ∨ (w.heap.size ≤ q ∧ q < w.heap.size + 2) ∨ sv.ownBlock = some q)
  inv : I h' wr
/-- A term that lies alone in a block of the call's own. -/
theorem one_Tm {w0 W : World} {h' : Snap} {u : Tm} {A : Option Addr} {c g : Nat} (H : Has W h') (hb : W.heap[g]? = some (.cells #[.int .i64 u.k, .int .i64 u.n, .string u.nm, .slice A u.ar.length c] 34)) (r : TmR h' u [.int .i64 u.k, .int .i64 u.n, .string u.nm, .slice A u.ar.length c]) (hg : w0.heap.size ≤ g) :
    ∃ h2, TmL h2 (some ⟨g, 0, none⟩) 0 [u] ∧ Mk w0 h' W h2 ∧ (∀ a v, h2 a = some v → h' a = some v ∨ a.block = g) := by
  obtain ⟨x0, x1, x2, x3⟩ := box4 hb
  refine ⟨withRow h' W g 4, ⟨⟨g, 0, _, _, _, _, rfl, withRow.at_ H (by omega) x0, withRow.at_ H (by omega) x1, withRow.at_ H (by omega) x2, withRow.at_ H (by omega) x3, r.sub (withRow.sub ..)⟩, trivial⟩, ⟨withRow.sub .., withRow.has H .., fun a v e => (withRow.new e).imp_right (fun k => by omega)⟩, fun a v e => withRow.new e⟩
def lamO : Sum Int (Tm × Int) → Sum Int (Tm × Int)
  | .inl e => .inl e
  | .inr (u, c') => .inr (.mk 5 0 ⟨#[]⟩ [u], c')
theorem run_lam {f : Nat} {hd : Tm → Int → Option Tm × Int} {c n b : Int} {nm : ByteArray} {x : Tm} {xs : List Tm} {o : Sum Int (Tm × Int)} (he : runW (f + 1) (.rep hd c (.mk 5 n nm (x :: xs)) b) = some o) : ∃ o1, runW f (.rep hd c x (b + 1)) = some o1 ∧ o = lamO o1 := by
  rw [runW, if_pos rfl] at he
  cases hx : runW f (.rep hd c x (b + 1)) with
  | none => simp [hx] at he
  | some o1 =>
    rw [hx] at he
    rcases o1 with e | ⟨u, c'⟩ <;> simp at he <;> exact ⟨_, rfl, he.symm⟩
set_option maxRecDepth 100000 in
set_option maxHeartbeats 8000000 in
theorem rep_lam (f : Nat) (IH : Hid (RepOK f)) : ∀ (okb : Int → Tm → Bool) (hd : Tm → Int → Option Tm × Int) (F : Nat) (cap : Array Value) (bc : Nat) (S : Nat → Prop) (I : Snap → World → Prop) (N0 : Nat) (HW : HeadW okb hd F cap bc N0 S I) (c : Int) (n : Int) (nm : ByteArray) (ar : List Tm) (b : Int) (o : Sum Int (Tm × Int)) (cs : List Value) (w : World) (h : Snap)
    (hN : N0 ≤ w.heap.size) (H : Has w h) (r : TmR h (.mk 5 n nm ar) cs) (ho : Off h (fun q => q = bc)) (hi : I h w) (hc : w.heap[bc]? = some (.cells #[.int .i64 c] 129)) (hb : bokT okb b (.mk 5 n nm ar) = true) (hbz : 0 ≤ b ∧ b + (Tm.mk 5 n nm ar).ld ≤ 4000000000) (he : runW (f + 1) (.rep hd c (.mk 5 n nm ar) b) = some o),
    Calls Tryz.prog 103 #[.pointer (some ⟨bc, 0, none⟩), .agg cs.toArray, .int .i64 b, .func (.func F) #[] cap] w (WPost bc S I w h o) := by
  intro okb hd F cap bc S I N0 HW c n nm ar b o cs w h hN H r ho hi hc hb hbz he
  cases ar with
  | nil => simp [runW] at he
  | cons x xs =>
  obtain ⟨A, cap', rfl, hl, hlm, hk1, hn1, hr⟩ := id r
  obtain ⟨L, hL⟩ : ∃ L, (x :: xs).length = L := ⟨_, rfl⟩
  have hlen : (0 : Int) < L := by rw [← hL]; simp
  have hl0 : 0 < L := by rw [← hL]; simp
  rw [hL] at hl hlm
  simp only [hL]
  have hL' := Lib.hid hL
  clear hL
  have hu34 := Tryz.underlying34
  obtain ⟨a1, a2, ab⟩ := alloc2 w (.cells #[.int .i64 5, .int .i64 n, .string nm, .slice A L cap'] 34) (.cells #[.int .i64 0, .int .i64 0, .string ⟨#[]⟩, .slice none 0 0] 34)
  have he' := Lib.hid he
  obtain ⟨b', o', A', c', rfl, e0, e1, e2, e3, rt⟩ := hr.get 0 (by simp)
  simp only [Nat.zero_mul, Nat.add_zero, List.getElem_cons_zero] at e0 e1 e2 e3 rt
  have hwr := H.below ab
  have hc0 := hwr.cell _ _ e0
  have hc1 := hwr.cell _ _ e1
  have hc2 := hwr.cell _ _ e2
  have hc3 := hwr.cell _ _ e3
  have hbx : bokT okb (b + 1) x = true := by rw [bokT, if_pos rfl, bokL] at hb; simp at hb; exact hb.2.1
  have hsz : 0 ≤ b + 1 ∧ b + 1 + x.ld ≤ 4000000000 := by simp only [Tm.ld, Tm.ldL, Tm.one, if_true] at hbz; omega
  have hbb : b + 1 ≤ 4000000000 := by omega
  have hlm2 : L ≤ 1073741824 := by unfold lim at hlm; exact hlm
  clear hl hlm hk1
  have lc := blk_lt hc
  go_enter Tryz.func103, Tryz.ntmps103
  go_wp2_with fail
  obtain ⟨W0, hW0⟩ : ∃ W0, ((w.alloc (.cells #[.int .i64 5, .int .i64 n, .string nm, .slice (some ⟨b', o', none⟩) L cap'] 34)).alloc (.cells #[.int .i64 0, .int .i64 0, .string ⟨#[]⟩, .slice none 0 0] 34)) = W0 := ⟨_, rfl⟩
  have sz0 : W0.heap.size = w.heap.size + 2 := by rw [← hW0]; simp
  rw [hW0] at a1 a2 ab hwr ⊢
  obtain ⟨o1, he1, rfl⟩ := run_lam he'.out
  have hi0 := HW.kp h h w W0 (fun _ => False) hi (Kp.of_below _ ab) (fun _ hf => hf.elim) (Sub.refl h)
  refine (IH.out okb hd F cap bc S I N0 HW c x (b + 1) o1 _ W0 h (by omega) hwr rt ho hi0 (box_below hc ab) hbx hsz he1).mono ?_
  rintro e w1 ⟨k1, hm⟩
  have kk : Kp (fun q => q = bc ∨ S q) w w1 := (Kp.of_below _ ab).trans k1 (fun i hi e => e)
  have hS : ∀ q, S q → q < w.heap.size := fun q hq => by have := (HW.lt q hq).1; omega
  rcases o1 with e | ⟨u, c2⟩
  · subst hm
    exact ⟨rfl, kk, rfl⟩
  · obtain ⟨cs', h', rfl, r', m', i', hc'⟩ := hm
    obtain ⟨A1, c1, rfl, hl1, hl2, _⟩ := r'.open_
    have b4 := blk_kp a2 k1 (fun hq => by rcases hq with hq | hq; omega; have := hS _ hq; omega)
    have l4 := blk_lt b4
    have f4 := blk_frozen b4
    have x4 := box4 b4
    clear hc0 hc1 hc2 hc3
    go_wp2_with fail
    obtain ⟨W5, hW5, b5, kp5⟩ : ∃ W5, ((((w1.setCell ⟨w.heap.size + 1, 0, none⟩ (.int .i64 5)).setCell ⟨w.heap.size + 1, 1, none⟩ (.int .i64 0)).setCell ⟨w.heap.size + 1, 2, none⟩ (.string ⟨#[]⟩)).setCell ⟨w.heap.size + 1, 3, none⟩ (.slice (some ⟨w1.heap.size, 0, none⟩) 1 1)) = W5 ∧
        W5.heap[w.heap.size + 1]? = some (.cells #[.int .i64 5, .int .i64 0, .string ⟨#[]⟩, .slice (some ⟨w1.heap.size, 0, none⟩) 1 1] 34) ∧ Kp (fun q => q = w.heap.size + 1) w1 W5 := ⟨_, rfl, (set4 b4 _ _ _ _).1, (set4 b4 _ _ _ _).2⟩
    have s5 : W5.heap.size = w1.heap.size := by rw [← hW5]; simp [World.setCell]
    rw [hW5]
    have lc1 := blk_lt hc
    have s1 := k1.size
    have has5 : Has W5 h' := m'.has.kp kp5 (m'.off (H.off_new (fun k hk => by omega)) (fun k hk => by omega))
    obtain ⟨W6, hW6⟩ : ∃ W6, W5.alloc (.cells #[.int .i64 u.k, .int .i64 u.n, .string u.nm, .slice A1 u.ar.length c1] 34) = W6 := ⟨_, rfl⟩
    have kp6 : Kp (fun q => q = w.heap.size + 1) w1 W6 := by rw [← hW6]; exact kp5.alloc _
    have g6 : W6.heap[w1.heap.size]? = some (.cells #[.int .i64 u.k, .int .i64 u.n, .string u.nm, .slice A1 u.ar.length c1] 34) := by rw [← hW6, ← s5]; exact blk_new _ _
    have b6 : W6.heap[w.heap.size + 1]? = some (.cells #[.int .i64 5, .int .i64 0, .string ⟨#[]⟩, .slice (some ⟨w1.heap.size, 0, none⟩) 1 1] 34) := by rw [← hW6]; exact blk_alloc b5 _
    have has6 : Has W6 h' := by rw [← hW6]; exact has5.alloc _
    rw [hW6]
    obtain ⟨h2, t2, m2, n2⟩ := one_Tm (w0 := w) has6 g6 r' (by omega)
    have x6 := box4 b6
    refine bodyPost_ret (v := .agg #[.int .i64 5, .int .i64 0, .string ⟨#[]⟩, .slice (some ⟨w1.heap.size, 0, none⟩) 1 1]) (by simp [results, Tryz.results103, go_sem, x6]) rfl ?_
    have hbcne : bc ≠ w.heap.size + 1 := by omega
    refine ⟨kk.trans kp6 (fun i hi e => by omega), _, h2, rfl, ⟨_, 1, rfl, by simp, by simp [lim], by omega, by omega, t2⟩, ⟨m'.sub.trans m2.sub, m2.has, fun a v e => ?_⟩, ?_, blk_kp hc' kp6 hbcne⟩
    · rcases n2 a v e with q | q
      · exact (m'.from_ (w0 := w) (by omega)).new a v q
      · exact .inr (by omega)
    · exact HW.kp h' h2 w1 W6 _ i' kp6 (fun q e => .inr (by omega)) m2.sub
theorem run_rep {f : Nat} {hd : Tm → Int → Option Tm × Int} {c k n b : Int} {nm : ByteArray} {ar : List Tm} {o : Sum Int (Tm × Int)} (hk : k ≠ 5) (he : runW (f + 1) (.rep hd c (.mk k n nm ar) b) = some o) :
    (∃ e, listW (fun c t => runW f (.rep hd c t b)) c ar = some (.inl e) ∧ o = .inl e) ∨ ∃ us c', listW (fun c t => runW f (.rep hd c t b)) c ar = some (.inr (us, c')) ∧ (((hd (.mk k n nm ar) b).1 = none ∧ o = .inr (.mk k (hd (.mk k n nm ar) b).2 nm us, c')) ∨ ∃ s, (hd (.mk k n nm ar) b).1 = some s ∧ runW f (.app c' s us) = some o) := by
  rw [runW.eq_def] at he
  simp only [if_neg hk] at he
  cases hx : listW (fun c t => runW f (.rep hd c t b)) c ar with
  | none => simp [hx] at he
  | some o1 =>
    rw [hx] at he
    rcases o1 with e | ⟨us, c'⟩
    · simp at he; exact .inl ⟨e, rfl, he.symm⟩
    · refine .inr ⟨us, c', rfl, ?_⟩
      rcases hq : hd (.mk k n nm ar) b with ⟨s | s, n'⟩
      · simp [hq] at he; exact .inl ⟨rfl, he.symm⟩
      · simp [hq] at he; exact .inr ⟨s, rfl, he⟩
set_option maxRecDepth 100000 in
set_option maxHeartbeats 8000000 in
theorem rep_app (f : Nat) (IH : Hid (RepOK f)) (IA : Hid (AppOK f)) : ∀ (okb : Int → Tm → Bool) (hd : Tm → Int → Option Tm × Int) (F : Nat) (cap : Array Value) (bc : Nat) (S : Nat → Prop) (I : Snap → World → Prop) (N0 : Nat) (HW : HeadW okb hd F cap bc N0 S I) (c : Int) (kk n : Int) (hk5 : kk ≠ 5) (nm : ByteArray) (ar : List Tm) (b : Int) (o : Sum Int (Tm × Int)) (cs : List Value) (w : World) (h : Snap)
    (hN : N0 ≤ w.heap.size) (H : Has w h) (r : TmR h (.mk kk n nm ar) cs) (ho : Off h (fun q => q = bc)) (hi : I h w) (hc : w.heap[bc]? = some (.cells #[.int .i64 c] 129)) (hb : bokT okb b (.mk kk n nm ar) = true) (hbz : 0 ≤ b ∧ b + (Tm.mk kk n nm ar).ld ≤ 4000000000) (he : runW (f + 1) (.rep hd c (.mk kk n nm ar) b) = some o),
    Calls Tryz.prog 103 #[.pointer (some ⟨bc, 0, none⟩), .agg cs.toArray, .int .i64 b, .func (.func F) #[] cap] w (WPost bc S I w h o) := by
  intro okb hd F cap bc S I N0 HW c kk n hk5 nm ar b o cs w h hN H r ho hi hc hb hbz he
  obtain ⟨A, cap', rfl, hl, hlm, hk1, hn1, hr⟩ := id r
  have hu34 := Tryz.underlying34
  obtain ⟨a1, a2, ab⟩ := alloc2 w (.cells #[.int .i64 kk, .int .i64 n, .string nm, .slice A ar.length cap'] 34) (.cells #[.int .i64 0, .int .i64 0, .string ⟨#[]⟩, .slice none 0 0] 34)
  have q5 : (kk == 5) = false := beq_eq_false_iff_ne.2 hk5
  have hrun := Lib.hid (run_rep hk5 he)
  have hbl : bokL okb b ar = true := by rw [bokT, if_neg hk5] at hb; simp at hb; exact hb.2
  have hbo : okb b (.mk kk n nm ar) = true := by rw [bokT] at hb; simp at hb; exact hb.1
  have hsz : 0 ≤ b ∧ b + Tm.ldL ar ≤ 4000000000 := by simp only [Tm.ld] at hbz; omega
  have hS : ∀ q, S q → q < w.heap.size := fun q hq => by have := (HW.lt q hq).1; omega
  have hS' := Lib.hid hS
  have lc := blk_lt hc
  clear he hb hbz hk5 hS
  obtain ⟨f1, hf0, hf1, hf2⟩ : ∃ f1 : List Tm → Int → List Tm → Option (Sum Int (List Tm × Int)), Hid (∀ us cj, f1 us cj [] = some (.inr (us, cj))) ∧ Hid (∀ us cj t ts, f1 us cj (t :: ts) = match runW f (.rep hd cj t b) with
      | none => none
      | some (.inl e) => some (.inl e)
      | some (.inr (u, c')) => f1 (us ++ [u]) c' ts) ∧ Hid (f1 [] c ar = listW (fun c t => runW f (.rep hd c t b)) c ar) :=
    ⟨fun us cj ts => catW us (listW (fun c t => runW f (.rep hd c t b)) cj ts), by show ∀ _ _, _; intro us cj; simp [listW, catW], by show ∀ _ _ _ _, _; intro us cj t ts; exact catW_cons _ cj t ts us, by
      show catW [] (listW (fun c t => runW f (.rep hd c t b)) c ar) = listW (fun c t => runW f (.rep hd c t b)) c ar
      generalize listW (fun c t => runW f (.rep hd c t b)) c ar = q
      rcases q with _ | e | ⟨vs, c'⟩ <;> rfl⟩
  have hlm' := Lib.hid hlm
  go_enter Tryz.func103, Tryz.ntmps103
  go_wp2_with fail
  go_loopw [9, 32] (fun v i wr => ∃ us cj xs h', us.length ≤ ar.length ∧ i = .int .i64 us.length ∧ RpS w h bc S I #[.int .i64 kk, .int .i64 n, .string nm, .slice A ar.length cap'] us cj v xs wr h' ∧ Hid (f1 us cj (ar.drop us.length) = f1 [] c ar)) (fun _ i _ => ar.length - (intOf i).toNat)
  case atStart => exact ⟨[], c, [], h, by simp, rfl, ⟨a1, a2, box_below hc ab, World.ownsRow_nil .., .nil, Mk.refl (H.below ab), Kp.of_below _ ab, ⟨fun a v e hq => by
      have := H.lt e
      rcases hq with hq | hq | hq
      · exact ho.at_ a v e hq
      · omega
      · simp [Value.ownBlock] at hq⟩, HW.kp h h w _ (fun _ => False) hi (Kp.of_below _ ab) (fun _ hf => hf.elim) (Sub.refl h)⟩, by show _ = _; simp⟩
  case round =>
    obtain ⟨us, cj, xs, h', hj, rfl, hC, hI⟩ := hrel
    obtain ⟨As, ks, rfl⟩ := own_form hC.own
    have hsw := hC.kp.size
    have lc1 := blk_lt hC.bcn
    have lb2 := blk_lt hC.b2
    by_cases hlt : us.length < ar.length
    · obtain ⟨b', o', A', c', rfl, e0, e1, e2, e3, rt⟩ := hr.get us.length hlt
      have hw := hC.made.has.sub hC.made.sub
      have hc0 := hw.cell _ _ e0
      have hc1 := hw.cell _ _ e1
      have hc2 := hw.cell _ _ e2
      have hc3 := hw.cell _ _ e3
      have hlm2 : us.length + 1 ≤ 1073741824 := by have := hlm'.out; unfold lim at this; omega
      have hszj := Lib.hid (show 0 ≤ b ∧ b + ar[us.length].ld ≤ 4000000000 by have h2 := Tm.ld_at ar us.length hlt; omega)
      have hbj := Lib.hid (bokL_at hbl us.length hlt)
      have rt' := Lib.hid (rt.sub hC.made.sub)
      have hI' := hI.out
      rw [List.drop_eq_getElem_cons hlt, hf1.out] at hI'
      replace hI' := Lib.hid hI'
      go_wp2_with fail
      obtain ⟨X, hX⟩ : ∃ X, ar[us.length] = X := ⟨_, rfl⟩
      rw [hX] at hc0 hc1 hc2 hc3 rt' hszj hbj hI' ⊢
      clear hX e0 e1 e2 e3 rt
      have kp0 : Kp (fun _ => False) wr (wr.alloc (.cells #[.int .i64 X.k, .int .i64 X.n, .string X.nm, .slice A' X.ar.length c'] 34)) := (Kp.refl _ wr).alloc _
      have hasW := hC.made.has.alloc (.cells #[.int .i64 X.k, .int .i64 X.n, .string X.nm, .slice A' X.ar.length c'] 34)
      have hi0 := HW.kp h' h' wr _ (fun _ => False) hC.inv kp0 (fun _ hf => hf.elim) (Sub.refl h')
      cases hx : runW f (.rep hd cj X b) with
      | none => 
        exfalso
        rcases hrun.out with ⟨e, g1, g2⟩ | ⟨vs, c2, g1, g2⟩ <;> rw [← hf2.out, ← hI'.out, hx] at g1 <;> simp at g1
      | some o1 =>
      refine (IH.out okb hd F cap bc S I N0 HW cj X b o1 _ _ h' (by simp; omega) hasW rt'.out ⟨fun a v e hq => hC.off.at_ a v e (.inl hq)⟩ hi0 (blk_alloc hC.bcn _) hbj.out hszj.out hx).mono ?_
      rintro e w1 ⟨k1, hm⟩
      have kw1 : Kp (fun q => q = bc ∨ S q) wr w1 := (kp0.mono (fun _ hf => hf.elim)).trans k1 (fun i hi e => e)
      have hbne : ∀ q, w.heap.size ≤ q → ¬ (q = bc ∨ S q) := fun q hq hs => by rcases hs with hs | hs; omega; have := hS'.out q hs; omega
      have sw1 := kw1.size
      rcases o1 with e | ⟨u, c2⟩
      · subst hm
        refine ⟨rfl, hC.kp.trans kw1 (fun i hi e => e), ?_⟩
        rcases hrun.out with ⟨e', g1, rfl⟩ | ⟨vs, c2, g1, g2⟩ <;> rw [← hf2.out, ← hI'.out, hx] at g1 <;> simp at g1
        subst g1
        rfl
      · obtain ⟨cs', h1, rfl, r1, m1, i1, hcn1⟩ := hm
        obtain ⟨A1, c1, rfl, hl1, hl2, hk2, hn2, _⟩ := r1.open_
        clear hc0 hc1 hc2 hc3
        have hown1 := own_kp hC.own kw1 (fun q hq => own_ge hC.own (by rcases hq with hq | hq; omega; have := hS'.out q hq; omega))
        go_wp2_with (refine app34L rfl _ _ rfl rfl (own_kp hown1 ((Kp.refl (fun _ => False) w1).alloc _) (fun _ hf => hf.elim)) rfl (blk_new _ _) (by unfold lim; omega) (by simp <;> omega) ?_; intro sv2 w2 hown2 hg2 hat; obtain ⟨A2, c2', rfl⟩ := own_form hown2)
        have kp2 : Kp (fun q => (q = bc ∨ S q) ∨ (Value.slice As us.length ks).ownBlock = some q) wr w2 := ((kw1.alloc (.cells #[.int .i64 u.k, .int .i64 u.n, .string u.nm, .slice A1 u.ar.length c1] 34)).mono (T := fun q => (q = bc ∨ S q) ∨ (Value.slice As us.length ks).ownBlock = some q) (fun q hq => .inl hq)).grown hg2 (fun _ e => .inl (.inr e))
        have s0 : (wr.alloc (.cells #[.int .i64 X.k, .int .i64 X.n, .string X.nm, .slice A' X.ar.length c'] 34)).heap.size = wr.heap.size + 1 := by simp
        have off1 : Off h1 (fun q => q = bc ∨ (w.heap.size ≤ q ∧ q < w.heap.size + 2) ∨ (Value.slice As us.length ks).ownBlock = some q) := m1.off hC.off (fun q hq => by
          rw [s0]
          rcases hq with hq | hq | hq
          · omega
          · omega
          · have := hC.own.lt _ hq; omega)
        have kg : Kp (fun q => (Value.slice As us.length ks).ownBlock = some q) w1 w2 := ((Kp.refl _ w1).alloc (.cells #[.int .i64 u.k, .int .i64 u.n, .string u.nm, .slice A1 u.ar.length c1] 34)).grown hg2 (fun q e => .inl e)
        have has2 : Has w2 h1 := m1.has.kp kg ⟨fun x v e hq => off1.at_ x v e (.inr (.inr hq))⟩
        have hnb : ∀ q, w.heap.size ≤ q → q < w.heap.size + 2 → ¬ ((q = bc ∨ S q) ∨ (Value.slice As us.length ks).ownBlock = some q) := fun q h1 h2 hq => by
          rcases hq with hq | hq
          · exact hbne q h1 hq
          · exact own_ge hC.own h2 hq
        have hi2 := HW.kp h1 h1 w1 w2 _ i1 kg (fun q hq => .inr (by have := own_ge hC.own (b := q); by_cases hh : q < w.heap.size + 2; exact absurd hq (this hh); omega)) (Sub.refl h1)
        have hcn2 := blk_kp hcn1 kg (own_ge hC.own (by omega))
        refine ⟨⟨us ++ [u], c2, _, h1, by simp; omega, by simp, ⟨blk_kp hC.b1 kp2 (hnb _ (by omega) (by omega)), blk_kp hC.b2 kp2 (hnb _ (by omega) (by omega)), hcn2, by rw [List.length_append]; exact hown2,
          .snoc (hC.ch.imp (fun _ _ q => q.sub m1.sub)) r1 rfl, (hC.made.trans (m1.from_ (by omega)) (by omega)).world has2, hC.kp.trans kp2 (fun q hq e => by
            rcases e with e | e
            · exact e
            · exact absurd e (own_ge hC.own (by omega))), ⟨fun x v e hq => ?_⟩, hi2⟩, ?_⟩, by simp [intOf]; omega⟩
        · rcases hq with hq | hq | hq
          · exact off1.at_ x v e (.inl hq)
          · exact off1.at_ x v e (.inr (.inl hq))
          · rcases hat _ hq with hq | hq
            · exact off1.at_ x v e (.inr (.inr hq))
            · have := m1.has.lt e
              simp at hq
              omega
        · have := hI'.out
          rw [hx] at this
          show _ = _
          simpa using this
    · have hje : us.length = ar.length := by omega
      have hje' := Lib.hid hje
      clear hje
      have hfin : Hid (listW (fun c t => runW f (.rep hd c t b)) c ar = some (.inr (us, cj))) := by
        have := hI.out
        rw [hje'.out, List.drop_length, hf0.out, hf2.out] at this
        exact this.symm
      have hrun2 : Hid ((((hd (Tm.mk kk n nm ar) b).1 = none ∧ o = .inr (.mk kk (hd (Tm.mk kk n nm ar) b).2 nm us, cj)) ∨ ∃ s, (hd (Tm.mk kk n nm ar) b).1 = some s ∧ runW f (.app cj s us) = some o)) := by
        rcases hrun.out with ⟨e, g1, g2⟩ | ⟨vs, c2, g1, g2⟩ <;> rw [hfin.out] at g1 <;> simp at g1
        obtain ⟨rfl, rfl⟩ := g1
        exact g2
      have hc1 := box4 hC.b1
      have hc2 := box4 hC.b2
      have hent := HW.ent
      have hbne : ∀ q, w.heap.size ≤ q → ¬ S q := fun q hq hs => by have := hS'.out q hs; omega
      have lb1 := blk_lt hC.b1
      clear hrun hfin hI hf0 hf1 hf2 hbl hsz
      go_wp2_with fail
      refine (HW.call (.mk kk n nm ar) _ b wr h' (by omega) hbo hC.made.has (r.sub hC.made.sub) hC.inv).mono ?_
      rintro e w1 ⟨k1, hdn, ss, h1, rfl, r1, m1, i1⟩
      have hr2 := hrun2.out
      generalize hgh : hd (Tm.mk kk n nm ar) b = gh at *
      obtain ⟨g, n'⟩ := gh
      have hcn1 := blk_kp hC.bcn k1 (fun hs => (HW.lt _ hs).2 rfl)
      have hb1 := blk_kp hC.b1 k1 (hbne _ (by omega))
      have hb2 := blk_kp hC.b2 k1 (hbne _ (by omega))
      have hown1 := own_kp hC.own k1 (fun q hq => own_ge hC.own (by have := hS'.out q hq; omega))
      have sw1 := k1.size
      have off1 : Off h1 (fun q => q = bc ∨ (w.heap.size ≤ q ∧ q < w.heap.size + 2) ∨ (Value.slice As us.length ks).ownBlock = some q) := m1.off hC.off (fun q hq => by
        rcases hq with hq | hq | hq
        · omega
        · omega
        · have := hC.own.lt _ hq; omega)
      obtain ⟨A1, c1, rfl, hl1, hl2, hk2, hn2, _⟩ := r1.open_
      have kw1 : Kp (fun q => q = bc ∨ S q) w w1 := hC.kp.trans k1 (fun q hq e => .inr e)
      have x1 := box4 hb1
      have x2 := box4 hb2
      have f2 := blk_frozen hb2
      have lx1 := blk_lt hb1
      have lx2 := blk_lt hb2
      obtain ⟨h2, A2, c2, e2, hn3, hc2', hr3, m2, hn4⟩ := own_Tm (w0 := w) m1.has (by omega) hown1 (hC.ch.imp (fun _ _ q => q.sub m1.sub))
      cases e2
      clear hc1 hc2
      rcases g with _ | s
      · simp only [Option.isSome, Option.getD] at *
        have ho : o = .inr (.mk kk n' nm us, cj) := by
          rcases hr2 with ⟨_, g⟩ | ⟨s, g, _⟩
          · exact g
          · cases g
        subst ho
        go_wp2_with fail
        obtain ⟨W5, hW5, b5, kp5⟩ : ∃ W5, ((((w1.setCell ⟨w.heap.size + 1, 0, none⟩ (.int .i64 kk)).setCell ⟨w.heap.size + 1, 1, none⟩ (.int .i64 n')).setCell ⟨w.heap.size + 1, 2, none⟩ (.string nm)).setCell ⟨w.heap.size + 1, 3, none⟩ (.slice As us.length ks)) = W5 ∧
            W5.heap[w.heap.size + 1]? = some (.cells #[.int .i64 kk, .int .i64 n', .string nm, .slice As us.length ks] 34) ∧ Kp (fun q => q = w.heap.size + 1) w1 W5 := ⟨_, rfl, (set4 hb2 _ _ _ _).1, (set4 hb2 _ _ _ _).2⟩
        rw [hW5]
        obtain ⟨W6, hW6, b6, kp6⟩ : ∃ W6, W5.alloc (.cells #[.int .i64 tm0.k, .int .i64 tm0.n, .string tm0.nm, .slice A1 tm0.ar.length c1] 34) = W6 ∧ W6.heap[w.heap.size + 1]? = some (.cells #[.int .i64 kk, .int .i64 n', .string nm, .slice As us.length ks] 34) ∧ Kp (fun q => q = w.heap.size + 1) w1 W6 := ⟨_, rfl, blk_alloc b5 _, kp5.alloc _⟩
        rw [hW6]
        have x6 := box4 b6
        refine bodyPost_ret (v := .agg #[.int .i64 kk, .int .i64 n', .string nm, .slice As us.length ks]) (by simp [results, Tryz.results103, go_sem, x6]) rfl ?_
        have off2 : Off h2 (fun q => q = w.heap.size + 1) := ⟨fun x v e hx => by
          rcases hn4 x v e with q | q
          · exact off1.at_ x v q (.inr (.inl (by omega)))
          · exact own_ge hC.own (b := x.block) (by omega) q⟩
        exact ⟨kw1.trans kp6 (fun q hq e => by omega), _, h2, rfl, ⟨As, ks, rfl, hc2', by rw [hje'.out]; exact hlm'.out, hk1, hdn, hr3⟩, (((hC.made.trans (m1.from_ (by omega)) (by omega)).then_ m2).world (m2.has.kp kp6 off2)), HW.kp h1 h2 w1 W6 _ i1 kp6 (fun q e => .inr (by omega)) m2.sub, blk_kp hcn1 kp6 (by omega)⟩
      · simp only [Option.isSome, Option.getD] at *
        have he : runW f (.app cj s us) = some o := by
          rcases hr2 with ⟨g, _⟩ | ⟨s', g, he⟩
          · cases g
          · cases g; exact he
        go_wp2_with fail
        have off2 : Off h2 (fun q => q = bc ∨ q = w.heap.size + 1) := ⟨fun x v e hx => by
          rcases hn4 x v e with q | q
          · exact off1.at_ x v q (by omega)
          · exact own_ge hC.own (b := x.block) (by omega) q⟩
        refine (IA.out bc cj s us o _ _ _ h2 (m2.has.alloc _) (r1.sub m2.sub) ⟨As, ks, rfl, hc2', by rw [hje'.out]; exact hlm'.out, hr3⟩ ⟨fun a v e q => off2.at_ a v e (.inl q)⟩ (blk_alloc hcn1 _) he).mono ?_
        rintro e w2 ⟨k2, hm⟩
        have kp2 : Kp (fun q => q = bc) w1 w2 := (((Kp.refl (fun _ => False) w1).alloc _).mono (fun _ hf => hf.elim)).trans k2 (fun q hq e => e.resolve_right (fun hf => hf))
        have kw2 : Kp (fun q => q = bc ∨ S q) w w2 := kw1.trans kp2 (fun q hq e => .inl e)
        rcases o with x | ⟨u, c2⟩
        · subst hm
          exact ⟨rfl, kw2, rfl⟩
        · obtain ⟨cs', h3, rfl, r3, m3, _, hcn3⟩ := hm
          obtain ⟨A3, c3, rfl, _⟩ := r3.open_
          have d2 := blk_kp hb2 kp2 (by omega)
          have f2 := blk_frozen d2
          have l2 := blk_lt d2
          have x2 := box4 d2
          go_wp2_with fail
          obtain ⟨W5, hW5, b5, kp5⟩ : ∃ W5, ((((w2.setCell ⟨w.heap.size + 1, 0, none⟩ (.int .i64 u.k)).setCell ⟨w.heap.size + 1, 1, none⟩ (.int .i64 u.n)).setCell ⟨w.heap.size + 1, 2, none⟩ (.string u.nm)).setCell ⟨w.heap.size + 1, 3, none⟩ (.slice A3 u.ar.length c3)) = W5 ∧
              W5.heap[w.heap.size + 1]? = some (.cells #[.int .i64 u.k, .int .i64 u.n, .string u.nm, .slice A3 u.ar.length c3] 34) ∧ Kp (fun q => q = w.heap.size + 1) w2 W5 := ⟨_, rfl, (set4 d2 _ _ _ _).1, (set4 d2 _ _ _ _).2⟩
          rw [hW5]
          have x5 := box4 b5
          refine bodyPost_ret (v := .agg #[.int .i64 u.k, .int .i64 u.n, .string u.nm, .slice A3 u.ar.length c3]) (by simp [results, Tryz.results103, go_sem, x5]) rfl ?_
          have s1a : (w1.alloc (.cells #[.int .i64 s.k, .int .i64 s.n, .string s.nm, .slice A1 s.ar.length c1] 34)).heap.size = w1.heap.size + 1 := by simp
          have off3 : Off h3 (fun q => q = w.heap.size + 1) := ⟨fun x v e hx => by
            rcases m3.new x v e with q | q
            · exact off2.at_ x v q (.inr hx)
            · omega⟩
          have mm : Mk w h w2 h3 := ((hC.made.trans (m1.from_ (by omega)) (by omega)).then_ m2).trans (m3.from_ (w0 := w1) (by omega)) (by omega)
          exact ⟨kw2.trans kp5 (fun q hq e => by omega), _, h3, rfl, r3, mm.world (m3.has.kp kp5 off3), HW.kp h1 h3 w1 W5 (fun q => q = bc ∨ q = w.heap.size + 1) i1 ((kp2.mono (T := fun q => q = bc ∨ q = w.heap.size + 1) (fun q e => .inl e)).trans kp5 (fun q hq e => .inr e)) (fun q e => e.imp_right (fun e => by omega)) (m2.sub.trans m3.sub), blk_kp hcn3 kp5 (by omega)⟩
theorem rep_zero : RepOK 0 := fun okb hd F cap bc S I N0 HW c t b o cs w h hN H r ho hi hc hb hbz he => by simp [runW] at he
theorem rep_step (f : Nat) (IH : RepOK f) (IA : AppOK f) : RepOK (f + 1) := by
  rintro okb hd F cap bc S I N0 HW c ⟨k, n, nm, ar⟩ b o cs w h hN H r ho hi hc hb hbz he
  by_cases q : k = 5
  · subst q
    exact rep_lam f (Lib.hid IH) okb hd F cap bc S I N0 HW c n nm ar b o cs w h hN H r ho hi hc hb hbz he
  · exact rep_app f (Lib.hid IH) (Lib.hid IA) okb hd F cap bc S I N0 HW c k n q nm ar b o cs w h hN H r ho hi hc hb hbz he
end Go.Proofs.YtpgbeapojjinmaaGreatDoor
