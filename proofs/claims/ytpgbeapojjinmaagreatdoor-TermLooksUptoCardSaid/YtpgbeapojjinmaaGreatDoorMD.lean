/- slices.Clip of types. · An append to a full slice that is not the call's own, for a drawn region. · term.canonical. No law is proved here. -/
import Derived.Test.YtpgbeapojjinmaaGreatDoorMB
import Derived.ArgAppend
import Derived.Test.YtpgbeapojjinmaaGreatDoorDD
set_option linter.unusedVariables false
set_option linter.unusedSimpArgs false
namespace Go.Proofs.YtpgbeapojjinmaaGreatDoor
open Go.RowKit Go.Shelf Go.Proofs.YtpgbeapojjinmaaGreatDoorW.PrintLast
set_option maxRecDepth 100000 in
set_option maxHeartbeats 4000000 in
theorem Clip_calls (A : Option Addr) (n cap : Nat) (w : World) (hn : n ≤ cap) : Calls Tryz.prog 160 #[.slice A n cap] w fun e w' => e = .returned (.slice A n n) ∧ w' = w := by
  go_enter Tryz.func160, Tryz.ntmps160
  go_wp2_with fail
  go_ret
  exact ⟨rfl, rfl⟩
set_option maxRecDepth 100000 in
set_option maxHeartbeats 4000000 in
theorem Clone_nil (w : World) : Calls Tryz.prog 86 #[.slice none 0 0] w fun e w' => e = .returned (.slice none 0 0) ∧ w' = w := by
  have hq : ∀ w, Sem.run Tryz.prog (binOp BinOp.eql 29 (Value.slice none 0 0) (Value.slice none 0 0)) w = .ok (.bool true) w := fun w => by kernel_rfl
  go_enter Tryz.func86, Tryz.ntmps86
  go_wp2_with fail
  go_ret
  exact ⟨rfl, rfl⟩
/-- How a function ends that makes a row of types. -/
def TyRow (w : World) (h : Snap) (l : List Ty) (e : Ending) (w' : World) : Prop := ∃ sv' h', e = .returned sv' ∧ TyS h' l sv' ∧ Mk w h w' h' ∧ Below w.heap.size w w'
theorem TyL.flat {h : Snap} {b o : Nat} : ∀ (ts : List Ty) (i : Nat), TyL h (some ⟨b, o, none⟩) i ts → ∃ news : List Value, news.length = ts.length * 2 ∧ (∀ j u, news[j]? = some u → h ⟨b, o + i * 2 + j, none⟩ = some u) ∧
    (∀ j (hj : j < ts.length), ∃ cs, TyR h ts[j] cs ∧ cs.length = 2 ∧ ∀ q, q < 2 → news[j * 2 + q]? = cs[q]?) ∧ ∀ u ∈ news, u.oneCell' = true
  | [], _, _ => ⟨[], rfl, by simp, fun j hj => by simp at hj, by simp⟩
  | t :: ts, i, ⟨⟨b', o', v0, v1, e, e0, e1, r⟩, rest⟩ => by
    cases e
    obtain ⟨news, h1, h2, h3, h4⟩ := TyL.flat ts (i + 1) rest
    obtain ⟨A', c', ec, _⟩ := r.open_
    simp only [List.cons.injEq, and_true] at ec
    obtain ⟨rfl, rfl⟩ := ec
    refine ⟨.string t.nm :: .slice A' t.ar.length c' :: news, by simp [h1]; omega, fun j u hu => ?_, fun j hj => ?_, fun u hu => ?_⟩
    · match j, hu with
      | 0, hu => simp at hu; subst hu; exact e0
      | 1, hu => simp at hu; subst hu; exact e1
      | j + 2, hu => simp at hu; rw [← h2 j u hu]; congr 2; omega
    · match j, hj with
      | 0, _ => exact ⟨_, r, rfl, fun q hq => by match q, hq with | 0, _ => rfl | 1, _ => rfl⟩
      | j + 1, hj =>
        obtain ⟨cs, g1, g2, g3⟩ := h3 j (by simpa using hj)
        refine ⟨cs, g1, g2, fun q hq => ?_⟩
        rw [← g3 q hq, show (j + 1) * 2 + q = (j * 2 + q) + 2 by omega]
        rfl
    · simp only [List.mem_cons] at hu
      rcases hu with rfl | rfl | hu
      · rfl
      · rfl
      · exact h4 u hu
set_option maxRecDepth 100000 in
set_option maxHeartbeats 4000000 in
theorem Clone_calls (l : List Ty) (sv : Value) (w : World) (h : Snap) (H : Has w h) (r : TyS h l sv) : Calls Tryz.prog 86 #[sv] w (TyRow w h l) := by
  obtain ⟨A, cap, rfl, hc, hl, hr⟩ := r
  have hlm := hl
  unfold lim at hlm
  obtain ⟨i0, hi, hz0, hz1, hz2⟩ := info_parts info36
  cases A with
  | none =>
    have hl0 : l = [] := by
      cases l with
      | nil => rfl
      | cons x xs => obtain ⟨⟨b', o', v0, v1, e, _⟩, _⟩ := hr; cases e
    subst hl0
    have hq : ∀ w, Sem.run Tryz.prog (binOp BinOp.eql 29 (Value.slice none 0 cap) (Value.slice none 0 0)) w = .ok (.bool true) w := fun w => by kernel_rfl
    have z0 : ([] : List Ty).length = 0 := rfl
    rw [z0] at *
    go_enter Tryz.func86, Tryz.ntmps86
    go_wp2_with fail
    go_ret
    exact ⟨_, h, rfl, TyS_nil h, Mk.refl H, Below.refl _ w⟩
  | some ad =>
    have hq : ∀ w, Sem.run Tryz.prog (binOp BinOp.eql 29 (Value.slice (some ad) l.length cap) (Value.slice none 0 0)) w = .ok (.bool false) w := fun w => by kernel_rfl
    by_cases hpos : 0 < l.length
    · obtain ⟨b, o, A', c', e, _⟩ := hr.get 0 hpos
      cases e
      obtain ⟨news, n1, n2, n3, n4⟩ := hr.flat
      have ch : Chunks (TyR h) 2 l ([] ++ news) := Chunks.of_at l.length l _ rfl (by simpa using n1) (by simpa using n3)
      have own0 : (w.alloc (.cells #[] 36)).ownsRow w.heap.size 36 2 (.slice (some ⟨w.heap.size, 0, none⟩) 0 0) 0 [] := ⟨rfl, .inr ⟨w.heap.size, 0, #[], rfl, Nat.le_refl _, blk_new _ _, Nat.le_refl _, by simp, rfl, rfl⟩⟩
      have hnews : ∀ j u, news[j]? = some u → (w.alloc (.cells #[] 36)).cell? ((⟨b, o, none⟩ : Addr).add j) = some u := fun j u hu => by
        have hadd : (⟨b, o, none⟩ : Addr).add j = ⟨b, o + j, none⟩ := by unfold Addr.add; split <;> simp_all
        rw [hadd]
        exact (H.alloc _).cell _ _ (by simpa using n2 j u hu)
      go_enter Tryz.func86, Tryz.ntmps86
      go_wp2_with (refine wpList_append_lies _ rfl _ _ 29 rfl w.heap.size 36 i0 _ 2 40 Tryz.underlying29 hi hz0 hz1 hz2 rfl (by decide) _ 0 [] rfl own0 ⟨b, o, none⟩ l.length cap news rfl n1 hnews n4 hpos (by simp [maxLen]; omega) (by omega) (by simp) _ rfl ?_; intro g cap2 w' hown hgr hg hlt)
      go_ret
      have kg : Below w.heap.size w w' := (((Kp.refl (fun _ => False) w).alloc (.cells #[] 36)).grown (row := some w.heap.size) hgr (fun k e => .inr (by cases e; exact Nat.le_refl _))).below (fun i hi hf => hf)
      obtain ⟨h', r', m', _⟩ := own_TyS (w0 := w) (H.below kg) (Nat.le_refl _) hown ch hl
      exact ⟨_, h', rfl, by simpa using r', m', kg⟩
    · have hl0 : l = [] := List.eq_nil_of_length_eq_zero (by omega)
      subst hl0
      have z0 : ([] : List Ty).length = 0 := rfl
      rw [z0] at *
      have hq : ∀ w, Sem.run Tryz.prog (binOp BinOp.eql 29 (Value.slice (some ad) 0 cap) (Value.slice none 0 0)) w = .ok (.bool false) w := fun w => by kernel_rfl
      go_enter Tryz.func86, Tryz.ntmps86
      go_wp2_with fail
      go_ret
      exact ⟨_, h, rfl, ⟨_, 0, rfl, by simp, by simp, trivial⟩, Mk.refl (H.alloc _), (alloc1 w (.cells #[] 36)).2⟩
end Go.Proofs.YtpgbeapojjinmaaGreatDoor
namespace Go.Proofs.YtpgbeapojjinmaaGreatDoor
open Go.RowKit Go.Shelf Go.Proofs.YtpgbeapojjinmaaGreatDoorW.PrintLast
theorem app36G {o : Oper} {a : Act} {w : World} {K : Act → World → Prop} {Q : Exit → Act → World → Prop} (s x : Operand) (hop : o.op = .call { callee := .builtin .append, args := #[s, x], argTypes := #[29, 29] })
    {ao : Option Addr} {n g : Nat} {olds : List Value} {nm : ByteArray} {A : Option Addr} {l c : Nat} (hs : a.eval s = .slice ao n n) (hnone : ao = none → n = 0) (hlo : olds.length = n * 2) (holds : ∀ b, ao = some b → ∀ j u, olds[j]? = some u → w.cell? (b.add j) = some u)
    (hx : a.eval x = .slice (some ⟨g, 0, none⟩) 1 1) (hg : w.heap[g]? = some (.cells #[.string nm, .slice A l c] 36)) (hn : n < lim)
    (h : ∀ sv' w', w'.ownsRow w.heap.size 36 2 sv' (n + 1) (olds ++ [.string nm, .slice A l c]) → w.grownBy w' none → K (a.put o.dst sv') w') : Oper.wp Tryz.prog o a w K Q := by
  obtain ⟨i0, hi0, hz0, hz1, hz2⟩ := info_parts info36
  unfold lim at hn
  have hc := World.news_of_block hg
  cases ao with
  | some b =>
    obtain ⟨v', w', hrun, r1, r2⟩ := run_append_arg_grows (P := Tryz.prog) w 29 o.type 36 i0 _ 2 40 Tryz.underlying29 hi0 hz0 hz1 hz2 rfl (by decide) b n n olds hlo (holds b rfl) ⟨g, 0, none⟩ 1 1 [.string nm, .slice A l c] rfl hc (by omega) (by simp [maxLen]; omega) (by omega)
    unfold Oper.wp
    simp [execOp, hop, resolve, invoke, builtin, hs, hx, hrun, Result.andThen]
    exact h v' w' r1 r2
  | none =>
    obtain rfl := hnone rfl
    obtain rfl : olds = [] := List.eq_nil_of_length_eq_zero (by simpa using hlo)
    obtain ⟨v', w', hrun, r1, r2, _⟩ := run_append_own (P := Tryz.prog) w w.heap.size 29 o.type 36 i0 _ 2 40 Tryz.underlying29 hi0 hz0 hz1 hz2 rfl (by decide) (.slice none 0 0) 0 [] (World.ownsRow_nil w _ 36 2) ⟨g, 0, none⟩ 1 1 [.string nm, .slice A l c] rfl hc (by simp [Value.oneCell']) (by simp [maxLen]) (by omega) (Nat.le_refl _)
    unfold Oper.wp
    simp [execOp, hop, resolve, invoke, builtin, hs, hx, hrun, Result.andThen]
    exact h v' w' r1 r2
end Go.Proofs.YtpgbeapojjinmaaGreatDoor
namespace Go.Proofs.YtpgbeapojjinmaaGreatDoor
open Go.RowKit Go.Shelf Go.Proofs.YtpgbeapojjinmaaGreatDoorW.PrintLast
def canAll (r : Tm → Ty → Bool) : List Tm → List Ty → Bool
  | t :: ts, a :: l => r t a && canAll r ts l
  | _, _ => true
/-- canonical of the program, with so much fuel. -/
def canP (p : Pg) (v q : List Ty) : Nat → List Ty → Tm → Ty → Bool
  | 0, _, _, _ => false
  | m + 1, b, t, ty => if ty.ar.length = 2 then (if t.k = 5 then canP p v q m (b ++ [ty.ar.getD 0 ty0]) (t.ar.getD 0 tm0) (ty.ar.getD 1 ty0) else false)
    else if t.k = 5 then false else match typeOfP p v q b t with
      | none => false
      | some own => if ((partsR own).toList == ty.nm.toList && (partsL own).length == t.ar.length) = true then canAll (canP p v q m b) t.ar (partsL own) else false
theorem rawN_at : ∀ {l : List Tm}, rawNL l = true → ∀ j (hj : j < l.length), rawN l[j] = true
  | t :: ts, h, 0, _ => by rw [rawNL] at h; simp at h; exact h.1
  | t :: ts, h, j + 1, hj => by rw [rawNL] at h; simp at h; exact rawN_at h.2 j (by simpa using hj)
theorem node_n {t : Tm} (h : nodeP t = true) : 0 ≤ t.n := by
  unfold nodeP at h
  split at h
  · simp at h; omega
  · split at h
    · simp at h; omega
    · simp at h; omega
theorem raw_open {t : Tm} (h : rawN t = true) : nodeP t = true ∧ rawNL t.ar = true := by
  obtain ⟨k, n, nm, ar⟩ := t
  rw [rawN] at h
  simp at h
  exact h
theorem fromO_mem {l : List Ty} {n : Int} {u : Ty} (h : fromO l n = some u) : u ∈ l := by
  unfold fromO at h
  split at h
  · cases h
  · exact List.mem_of_getElem? h
theorem typeOf_sz {p : Pg} {v q b : List Ty} {t : Tm} {u : Ty} (hv : ∀ u ∈ v, u.sz ≤ 1000000000) (hq : ∀ u ∈ q, u.sz ≤ 1000000000) (hb : ∀ u ∈ b, u.sz ≤ 1000000000) (hc : ∀ c ∈ p.consts, checkP p.types c.2 = 0 → c.2.sz ≤ 1000000000) (h : typeOfP p v q b t = some u) : u.sz ≤ 1000000000 := by
  unfold typeOfP at h
  split at h
  · unfold conO at h
    split at h
    · cases h
    · split at h
      · rename_i c hc2
        split at h
        · rename_i hk
          cases h
          exact hc _ (List.mem_of_getElem? hc2) hk
        · cases h
      · cases h
  · split at h
    · exact hb _ (fromO_mem h)
    · split at h
      · exact hq _ (fromO_mem h)
      · exact hv _ (fromO_mem h)
theorem lam_one {t : Tm} (q : t.k = 5) (h : nodeP t = true) : t.ar.length = 1 := by
  unfold nodeP at h
  rw [if_neg (by omega), if_neg (by omega)] at h
  simp at h
  exact h.2.2.2
def CanOK (p : Pg) (s : Sc) (m : Nat) : Prop := ∀ (b : List Ty) (t : Tm) (ty : Ty) (ps ss : List Value) (sb : Value) (ct cy : List Value) (w : World) (h : Snap) (H : Has w h) (rp : PgR h p ps) (rs : ScR h s ss) (rb : TyS h b sb) (r : TmR h t ct) (ry : TyR h ty cy)
    (ht : t.sz ≤ m) (hraw : rawN t = true) (hb : b.length + m ≤ 1000000) (hbz : ∀ u ∈ b, u.sz ≤ 1000000000) (hyz : ty.sz ≤ 1000000000),
    Calls Tryz.prog 85 #[.agg ps.toArray, .agg ss.toArray, sb, .agg ct.toArray, .agg cy.toArray] w fun e w' => e = .returned (.bool (canP p s.vars s.pars m b t ty)) ∧ Below w.heap.size w w'
set_option maxRecDepth 100000 in
set_option maxHeartbeats 8000000 in
theorem can_step (p : Pg) (s : Sc) (m : Nat) (IH : Hid (CanOK p s m)) (hv : ∀ u ∈ s.vars, u.sz ≤ 1000000000) (hq : ∀ u ∈ s.pars, u.sz ≤ 1000000000) (hc : ∀ c ∈ p.consts, checkP p.types c.2 = 0 → c.2.sz ≤ 1000000000) : CanOK p s (m + 1) := by
  intro b t ty ps ss sb ct cy w h H rp rs rb r ry ht hraw hb hbz hyz
  have rp0 := Lib.hid rp
  have rs0 := Lib.hid rs
  have r0 := Lib.hid r
  have ry0 := Lib.hid ry
  obtain ⟨A, cap, rfl, hl, hlm, hk1, hn1, hr⟩ := r.open_
  obtain ⟨Ay, cy, rfl, hyl, hym, hry⟩ := ry.open_
  obtain ⟨v0, v1, Z2, n2, z2, Z3, n3, z3, Z4, n4, z4, rfl, rt, rc⟩ := rp
  obtain ⟨At, kt, rfl, _⟩ := id rt
  obtain ⟨Ac, kc, rfl, _⟩ := id rc
  obtain ⟨s0, s1, s2, rfl, r0', r1', r2'⟩ := rs
  obtain ⟨A0, k0, rfl, _⟩ := id r0'
  obtain ⟨A1, k1, rfl, _⟩ := id r1'
  obtain ⟨A2, k2, rfl, _⟩ := id r2'
  obtain ⟨Ab, kb, rfl, hbc, hbl, hbr⟩ := id rb
  have hu34 := Tryz.underlying34
  have hu36 := Tryz.underlying36
  obtain ⟨a1, a2, a3, a4, ab⟩ := alloc4 w (.cells #[.slice At p.types.length kt, .slice Ac p.consts.length kc, .slice Z2 n2 z2, .slice Z3 n3 z3, .slice Z4 n4 z4] 28) (.cells #[.slice A0 s.vars.length k0, .slice A1 s.pars.length k1, .slice A2 s.bound.length k2] 31) (.cells #[.int .i64 t.k, .int .i64 t.n, .string t.nm, .slice A t.ar.length cap] 34) (.cells #[.string ty.nm, .slice Ay ty.ar.length cy] 36)
  have hcan : canP p s.vars s.pars (m + 1) b t ty = if ty.ar.length = 2 then (if t.k = 5 then canP p s.vars s.pars m (b ++ [ty.ar.getD 0 ty0]) (t.ar.getD 0 tm0) (ty.ar.getD 1 ty0) else false)
    else if t.k = 5 then false else match typeOfP p s.vars s.pars b t with
      | none => false
      | some own => if ((partsR own).toList == ty.nm.toList && (partsL own).length == t.ar.length) = true then canAll (canP p s.vars s.pars m b) t.ar (partsL own) else false := rfl
  obtain ⟨R, hR⟩ : ∃ R, canP p s.vars s.pars (m + 1) b t ty = R := ⟨_, rfl⟩
  rw [hR] at hcan ⊢
  clear hR
  by_cases q2 : ty.ar.length = 2
  · rw [if_pos q2] at hcan
    have g2 : ((ty.ar.length : Int) == 2) = true := by simp [q2]
    by_cases q5 : t.k = 5
    · rw [if_pos q5] at hcan
      have g5 : (t.k == 5) = true := by simp [q5]
      obtain ⟨hnd, hrl⟩ := raw_open hraw
      have hl1 := lam_one q5 hnd
      have hszu := Lib.hid (show ∀ u, t.ar[0]? = some u → u.sz ≤ m from fun u hu => by
        obtain ⟨hj, e⟩ := List.getElem?_eq_some_iff.1 hu
        have h2 := Tm.sz_at t.ar 0 hj
        obtain ⟨k, n, nm, ar⟩ := t
        simp only [Tm.sz, Tm.ar] at ht h2 e ⊢
        rw [← e]; omega)
      have hrau := Lib.hid (rawN_at hrl 0 (by omega))
      have hxz := Lib.hid (Ty.sz_at ty.ar 0 (by omega))
      have hyz1 := Lib.hid (Ty.sz_at ty.ar 1 (by omega))
      have hyz2 := Lib.hid (show 1 + Ty.szL ty.ar ≤ 1000000000 by obtain ⟨_, _⟩ := ty; simpa [Ty.sz, Ty.ar] using hyz)
      obtain ⟨bt, ot, At', ct', rfl, f0, f1, f2, f3, ru⟩ := hr.get 0 (by omega)
      obtain ⟨by', oy, Ax, cx, rfl, u0, u1, rx⟩ := hry.get 0 (by omega)
      obtain ⟨by2, oy2, Az, cz, eA, z0, z1, rz⟩ := hry.get 1 (by omega)
      cases eA
      simp only [Nat.zero_mul, Nat.add_zero, Nat.one_mul] at f0 f1 f2 f3 u0 u1 z0 z1
      have hcan2 : Hid (R = canP p s.vars s.pars m (b ++ [ty.ar[0]]) t.ar[0] ty.ar[1]) := Lib.hid (by rw [hcan]; congr 1 <;> simp [hl1, q2])
      have hszu2 := Lib.hid (hszu.out t.ar[0] (by simp [hl1]))
      obtain ⟨olds, ol1, ol2, ol3, ol4⟩ : ∃ olds : List Value, olds.length = b.length * 2 ∧ (∀ ad, Ab = some ad → ∀ j u, olds[j]? = some u → h (ad.add j) = some u) ∧ (∀ j (hj : j < b.length), ∃ cs, TyR h b[j] cs ∧ cs.length = 2 ∧ ∀ q, q < 2 → olds[j * 2 + q]? = cs[q]?) ∧ (Ab = none → b.length = 0) := by
        cases Ab with
        | none =>
          cases b with
          | nil => exact ⟨[], rfl, (fun _ e => (by cases e)), (fun j hj => (by simp at hj)), (fun _ => rfl)⟩
          | cons x l => obtain ⟨⟨_, _, _, _, e, _⟩, _⟩ := hbr; cases e
        | some ad =>
          by_cases hpos : 0 < b.length
          · obtain ⟨b1, o1, A', c', e, _⟩ := hbr.get 0 hpos
            cases e
            obtain ⟨news, n1, n2, n3, n4⟩ := hbr.flat
            refine ⟨news, n1, fun ad e j u hu => ?_, n3, (fun e => (by cases e))⟩
            cases e
            have hadd : (⟨b1, o1, none⟩ : Addr).add j = ⟨b1, o1 + j, none⟩ := by unfold Addr.add; split <;> simp_all
            rw [hadd]
            simpa using n2 j u hu
          · have hl0 : b = [] := List.eq_nil_of_length_eq_zero (by omega)
            subst hl0
            exact ⟨[], rfl, (fun _ _ _ _ hu => (by simp at hu)), (fun j hj => (by simp at hj)), (fun e => (by cases e))⟩
      have ol2' := Lib.hid ol2
      have ol3' := Lib.hid ol3
      have ol1' := Lib.hid ol1
      have ol4' := Lib.hid ol4
      have hbl' := Lib.hid hbl
      have hbz' := Lib.hid hbz
      have hb' := Lib.hid hb
      have hyz' := Lib.hid hyz
      have rb' := Lib.hid rb
      clear ol1 ol2 ol3 ol4 hbz hb hyz hcan hr hry rb q5 hnd hrl hraw ht hszu
      generalize t.ar[0] = u at *
      generalize ty.ar[0] = x at *
      generalize ty.ar[1] = y at *
      have ru' := Lib.hid ru
      have rx' := Lib.hid rx
      have rz' := Lib.hid rz
      clear ru rx rz
      rw [hl1] at *
      rw [q2] at *
      clear hl1 q2
      go_enter Tryz.func85, Tryz.ntmps85
      go_wp2_with fail
      obtain ⟨W0, hW0⟩ : ∃ W0, ((((w.alloc (.cells #[.slice At p.types.length kt, .slice Ac p.consts.length kc, .slice Z2 n2 z2, .slice Z3 n3 z3, .slice Z4 n4 z4] 28)).alloc (.cells #[.slice A0 s.vars.length k0, .slice A1 s.pars.length k1, .slice A2 s.bound.length k2] 31)).alloc (.cells #[.int .i64 t.k, .int .i64 t.n, .string t.nm, .slice (some ⟨bt, ot, none⟩) 1 cap] 34)).alloc (.cells #[.string ty.nm, .slice (some ⟨by', oy, none⟩) 2 cy] 36)) = W0 := ⟨_, rfl⟩
      have sz0 : W0.heap.size = w.heap.size + 4 := by rw [← hW0]; simp
      rw [hW0] at a1 a2 a3 a4 ab ⊢
      clear hW0
      have sz0' := Lib.hid sz0
      clear sz0
      have H0 := H.below ab
      have x3 := box4 a3
      have x4 := box2 a4
      refine rgs 25 (fun V => (V.cell? ⟨w.heap.size, 0, none⟩ = some (.slice At p.types.length kt) ∧ V.cell? ⟨w.heap.size, 1, none⟩ = some (.slice Ac p.consts.length kc) ∧ V.cell? ⟨w.heap.size, 2, none⟩ = some (.slice Z2 n2 z2) ∧ V.cell? ⟨w.heap.size, 3, none⟩ = some (.slice Z3 n3 z3) ∧ V.cell? ⟨w.heap.size, 4, none⟩ = some (.slice Z4 n4 z4)) ∧ (V.cell? ⟨w.heap.size + 1, 0, none⟩ = some (.slice A0 s.vars.length k0) ∧ V.cell? ⟨w.heap.size + 1, 1, none⟩ = some (.slice A1 s.pars.length k1) ∧ V.cell? ⟨w.heap.size + 1, 2, none⟩ = some (.slice A2 s.bound.length k2)) ∧ (V.cell? ⟨w.heap.size + 1 + 1, 0, none⟩ = some (.int .i64 t.k) ∧ V.cell? ⟨w.heap.size + 1 + 1, 3, none⟩ = some (.slice (some ⟨bt, ot, none⟩) 1 cap)) ∧ (V.cell? ⟨w.heap.size + 1 + 1 + 1, 1, none⟩ = some (.slice (some ⟨by', oy, none⟩) 2 cy)) ∧ (V.cell? ⟨by', oy, none⟩ = some (.string x.nm) ∧ V.cell? ⟨by', oy + 1, none⟩ = some (.slice Ax x.ar.length cx) ∧ V.cell? ⟨by', oy + 2, none⟩ = some (.string y.nm) ∧ V.cell? ⟨by', oy + 2 + 1, none⟩ = some (.slice Az y.ar.length cz)) ∧ (V.cell? ⟨bt, ot, none⟩ = some (.int .i64 u.k) ∧ V.cell? ⟨bt, ot + 1, none⟩ = some (.int .i64 u.n) ∧ V.cell? ⟨bt, ot + 2, none⟩ = some (.string u.nm) ∧ V.cell? ⟨bt, ot + 3, none⟩ = some (.slice At' u.ar.length ct'))) [] rfl ⟨⟨blk_cell a1 0, blk_cell a1 1, blk_cell a1 2, blk_cell a1 3, blk_cell a1 4⟩, ⟨blk_cell a2 0, blk_cell a2 1, blk_cell a2 2⟩, ⟨x3.1, x3.2.2.2⟩, x4.2, ⟨H0.cell _ _ u0, H0.cell _ _ u1, H0.cell _ _ z0, H0.cell _ _ z1⟩, ⟨H0.cell _ _ f0, H0.cell _ _ f1, H0.cell _ _ f2, H0.cell _ _ f3⟩⟩ (fun hS => ?_)
      clear x3 x4 u0 u1 z0 z1 f0 f1 f2 f3
      refine rgt 0 (.pointer (some ⟨w.heap.size + 1 + 1, 0, none⟩)) rfl (by kernel_rfl) (fun _ _ _ h => h) (by kernel_rfl) hS (fun V hV => by go_simp) ?_
      refine rgt 1 (.int .i64 t.k) rfl (by kernel_rfl) (fun _ _ _ h => h) (by kernel_rfl) hS (fun V hV => by obtain ⟨⟨p0, p1, p2, p3, p4⟩, ⟨q0, q1, q2⟩, ⟨t0, t1⟩, y0, ⟨u0, u1, u2, u3⟩, ⟨v0, v1, v2, v3⟩⟩ := hV; go_simp) ?_
      refine rgt 2 (.bool true) rfl (by kernel_rfl) (fun _ _ _ h => h) (by kernel_rfl) hS (fun V hV => by go_simp) ?_
      refine rgt 3 (.bool true) rfl (by kernel_rfl) (fun _ _ _ h => h) (by kernel_rfl) hS (fun V hV => by go_simp) ?_
      refine rgt 4 (.agg #[.slice At p.types.length kt, .slice Ac p.consts.length kc, .slice Z2 n2 z2, .slice Z3 n3 z3, .slice Z4 n4 z4]) rfl (by kernel_rfl) (fun _ _ _ h => h) (by kernel_rfl) hS (fun V hV => by obtain ⟨⟨p0, p1, p2, p3, p4⟩, ⟨q0, q1, q2⟩, ⟨t0, t1⟩, y0, ⟨u0, u1, u2, u3⟩, ⟨v0, v1, v2, v3⟩⟩ := hV; go_simp) ?_
      refine rgt 5 (.agg #[.slice A0 s.vars.length k0, .slice A1 s.pars.length k1, .slice A2 s.bound.length k2]) rfl (by kernel_rfl) (fun _ _ _ h => h) (by kernel_rfl) hS (fun V hV => by obtain ⟨⟨p0, p1, p2, p3, p4⟩, ⟨q0, q1, q2⟩, ⟨t0, t1⟩, y0, ⟨u0, u1, u2, u3⟩, ⟨v0, v1, v2, v3⟩⟩ := hV; go_simp) ?_
      refine rgt 6 (.slice Ab b.length kb) rfl (by kernel_rfl) (fun _ _ _ h => h) (by kernel_rfl) hS (fun V hV => by go_simp) ?_
      refine rgt 8 (.pointer (some ⟨w.heap.size + 1 + 1 + 1, 1, none⟩)) rfl (by kernel_rfl) (fun _ _ _ h => h) (by kernel_rfl) hS (fun V hV => by go_simp) ?_
      refine rgt 9 (.slice (some ⟨by', oy, none⟩) 2 cy) rfl (by kernel_rfl) (fun _ _ _ h => h) (by kernel_rfl) hS (fun V hV => by obtain ⟨⟨p0, p1, p2, p3, p4⟩, ⟨q0, q1, q2⟩, ⟨t0, t1⟩, y0, ⟨u0, u1, u2, u3⟩, ⟨v0, v1, v2, v3⟩⟩ := hV; go_simp) ?_
      refine rgt 10 (.pointer (some ⟨by', oy, none⟩)) rfl (by kernel_rfl) (fun _ _ _ h => h) (by kernel_rfl) hS (fun V hV => by go_simp) ?_
      refine rgt 11 (.agg #[.string x.nm, .slice Ax x.ar.length cx]) rfl (by kernel_rfl) (fun _ _ _ h => h) (by kernel_rfl) hS (fun V hV => by obtain ⟨⟨p0, p1, p2, p3, p4⟩, ⟨q0, q1, q2⟩, ⟨t0, t1⟩, y0, ⟨u0, u1, u2, u3⟩, ⟨v0, v1, v2, v3⟩⟩ := hV; go_simp) ?_
      refine rgt 14 (.pointer (some ⟨w.heap.size + 1 + 1, 3, none⟩)) rfl (by kernel_rfl) (fun _ _ _ h => h) (by kernel_rfl) hS (fun V hV => by go_simp) ?_
      refine rgt 15 (.slice (some ⟨bt, ot, none⟩) 1 cap) rfl (by kernel_rfl) (fun _ _ _ h => h) (by kernel_rfl) hS (fun V hV => by obtain ⟨⟨p0, p1, p2, p3, p4⟩, ⟨q0, q1, q2⟩, ⟨t0, t1⟩, y0, ⟨u0, u1, u2, u3⟩, ⟨v0, v1, v2, v3⟩⟩ := hV; go_simp) ?_
      refine rgt 16 (.pointer (some ⟨bt, ot, none⟩)) rfl (by kernel_rfl) (fun _ _ _ h => h) (by kernel_rfl) hS (fun V hV => by go_simp) ?_
      refine rgt 17 (.agg #[.int .i64 u.k, .int .i64 u.n, .string u.nm, .slice At' u.ar.length ct']) rfl (by kernel_rfl) (fun _ _ _ h => h) (by kernel_rfl) hS (fun V hV => by obtain ⟨⟨p0, p1, p2, p3, p4⟩, ⟨q0, q1, q2⟩, ⟨t0, t1⟩, y0, ⟨u0, u1, u2, u3⟩, ⟨v0, v1, v2, v3⟩⟩ := hV; go_simp) ?_
      refine rgt 18 (.pointer (some ⟨w.heap.size + 1 + 1 + 1, 1, none⟩)) rfl (by kernel_rfl) (fun _ _ _ h => h) (by kernel_rfl) hS (fun V hV => by go_simp) ?_
      refine rgt 19 (.slice (some ⟨by', oy, none⟩) 2 cy) rfl (by kernel_rfl) (fun _ _ _ h => h) (by kernel_rfl) hS (fun V hV => by obtain ⟨⟨p0, p1, p2, p3, p4⟩, ⟨q0, q1, q2⟩, ⟨t0, t1⟩, y0, ⟨u0, u1, u2, u3⟩, ⟨v0, v1, v2, v3⟩⟩ := hV; go_simp) ?_
      refine rgt 20 (.pointer (some ⟨by', oy + 2, none⟩)) rfl (by kernel_rfl) (fun _ _ _ h => h) (by kernel_rfl) hS (fun V hV => by go_simp) ?_
      refine rgt 21 (.agg #[.string y.nm, .slice Az y.ar.length cz]) rfl (by kernel_rfl) (fun _ _ _ h => h) (by kernel_rfl) hS (fun V hV => by obtain ⟨⟨p0, p1, p2, p3, p4⟩, ⟨q0, q1, q2⟩, ⟨t0, t1⟩, y0, ⟨u0, u1, u2, u3⟩, ⟨v0, v1, v2, v3⟩⟩ := hV; go_simp) ?_
      refine join_ (σ := Unit) 4 #[true, true, true, true, true, true, true, true, true, true, true, true, true, false, true, true, true, true, true, true, true, true, false, false, false] (fun _ => [(28, .slice Ab b.length b.length), (33, .slice (some ⟨W0.heap.size, 0, none⟩) 1 1)]) (fun _ V => V = W0.drew.alloc (.cells #[.string x.nm, .slice Ax x.ar.length cx] 36)) ?_ (fun hcont => ?_)
      · rintro _ V rfl
        simp only [putAll]
        refine rg1 13 rfl (by kernel_rfl) (by decide) (by kernel_rfl) (fun K hK => ?_)
        have kv : Below w.heap.size w (W0.drew.alloc (.cells #[.string x.nm, .slice Ax x.ar.length cx] 36)) := (ab.drew).alloc (by have := ab.size; simpa using this) _
        have hasV := H.below kv
        refine app36G (.tmp 28) (.tmp 33) (ao := Ab) (n := b.length) (g := W0.heap.size) (olds := olds) (nm := x.nm) (A := Ax) (l := x.ar.length) (c := cx) (by kernel_rfl) (by kernel_rfl) ol4'.out ol1'.out (fun ad e j uu hu => hasV.cell _ _ (ol2'.out ad e j uu hu)) (by kernel_rfl) (blk_new W0.drew _) (by have := hb'.out; unfold lim; omega) ?_
        intro sv' w' hown hg2
        have kg := ((Kp.refl (fun _ => False) (W0.drew.alloc (.cells #[.string x.nm, .slice Ax x.ar.length cx] 36))).grown hg2 (fun k e => by cases e)).below (fun _ _ hf => hf)
        have kk := below_then kv kg kv.size
        have ch : Chunks (TyR h) 2 (b ++ [x]) (olds ++ [.string x.nm, .slice Ax x.ar.length cx]) := (Chunks.of_at b.length b olds rfl ol1'.out ol3'.out).snoc rx'.out rfl
        obtain ⟨h', r', m', _⟩ := own_TyS (w0 := w) (H.below kk) (by have := kv.size; omega) hown ch (by have := hb'.out; simp; unfold lim; omega)
        refine hK.out _ _ ?_ (fun hS => ?_)
        · obtain ⟨⟨p0, p1, p2, p3, p4⟩, ⟨q0, q1, q2⟩, ⟨t0, t1⟩, y0, ⟨u0, u1, u2, u3⟩, ⟨v0, v1, v2, v3⟩⟩ := hS
          exact ⟨⟨cell_below (cell_alloc p0 _) kg, cell_below (cell_alloc p1 _) kg, cell_below (cell_alloc p2 _) kg, cell_below (cell_alloc p3 _) kg, cell_below (cell_alloc p4 _) kg⟩, ⟨cell_below (cell_alloc q0 _) kg, cell_below (cell_alloc q1 _) kg, cell_below (cell_alloc q2 _) kg⟩, ⟨cell_below (cell_alloc t0 _) kg, cell_below (cell_alloc t1 _) kg⟩, cell_below (cell_alloc y0 _) kg, ⟨cell_below (cell_alloc u0 _) kg, cell_below (cell_alloc u1 _) kg, cell_below (cell_alloc u2 _) kg, cell_below (cell_alloc u3 _) kg⟩, ⟨cell_below (cell_alloc v0 _) kg, cell_below (cell_alloc v1 _) kg, cell_below (cell_alloc v2 _) kg, cell_below (cell_alloc v3 _) kg⟩⟩
        refine rg1 22 rfl (by kernel_rfl) (by decide) (by kernel_rfl) (fun K hK => ?_)
        go_simp
        refine (IH.out (b ++ [x]) u y _ _ _ _ _ w' h' m'.has (rp0.out.sub m'.sub) (rs0.out.sub m'.sub) r' (ru'.out.sub m'.sub) (rz'.out.sub m'.sub) hszu2.out hrau.out (by have := hb'.out; simp; omega) (fun z hz => ?_) (by have := hyz1.out; have := hyz2.out; omega)).mono ?_
        · rcases List.mem_append.1 hz with hz | hz
          · exact hbz'.out z hz
          · simp at hz
            subst hz
            have := hxz.out; have := hyz2.out; omega
        rintro e w3 ⟨rfl, k3⟩
        simp only []
        refine hK.out _ _ ?_ (fun hS => ?_)
        · obtain ⟨⟨p0, p1, p2, p3, p4⟩, ⟨q0, q1, q2⟩, ⟨t0, t1⟩, y0, ⟨u0, u1, u2, u3⟩, ⟨v0, v1, v2, v3⟩⟩ := hS
          exact ⟨⟨cell_below p0 k3, cell_below p1 k3, cell_below p2 k3, cell_below p3 k3, cell_below p4 k3⟩, ⟨cell_below q0 k3, cell_below q1 k3, cell_below q2 k3⟩, ⟨cell_below t0 k3, cell_below t1 k3⟩, cell_below y0 k3, ⟨cell_below u0 k3, cell_below u1 k3, cell_below u2 k3, cell_below u3 k3⟩, ⟨cell_below v0 k3, cell_below v1 k3, cell_below v2 k3, cell_below v3 k3⟩⟩
        have hcan3 := Lib.hid hcan2.out.symm
        refine rgt 23 (.bool (canP p s.vars s.pars m (b ++ [x]) u y)) rfl (by kernel_rfl) (fun _ _ _ h => h) (by kernel_rfl) hS (fun V hV => by go_simp) ?_
        refine rgt 24 (.bool (canP p s.vars s.pars m (b ++ [x]) u y)) rfl (by kernel_rfl) (fun _ _ _ h => h) (by kernel_rfl) hS (fun V hV => by go_simp) ?_
        refine rgd (by kernel_rfl) ?_
        rw [hcan3.out]
        go_wp2_with fail
        go_ret
        exact ⟨rfl, below_then kk k3 kk.size⟩
      refine rg2 7 12 rfl rfl (by kernel_rfl) (by decide) (by decide) (by kernel_rfl) (by kernel_rfl) (fun K hK => ?_) (fun K hK => ?_)
      · go_simp
        refine (Clip_calls Ab b.length kb _ hbc).mono ?_
        rintro e w1 ⟨rfl, rfl⟩
        simp only []
        refine hK.out _ _ hS (fun hS => ?_)
        refine rg1 12 rfl (by kernel_rfl) (by decide) (by kernel_rfl) (fun K hK => ?_)
        go_simp
        refine hK.out _ _ ?_ (fun hS => ?_)
        · obtain ⟨⟨p0, p1, p2, p3, p4⟩, ⟨q0, q1, q2⟩, ⟨t0, t1⟩, y0, ⟨u0, u1, u2, u3⟩, ⟨v0, v1, v2, v3⟩⟩ := hS
          exact ⟨⟨cell_alloc p0 _, cell_alloc p1 _, cell_alloc p2 _, cell_alloc p3 _, cell_alloc p4 _⟩, ⟨cell_alloc q0 _, cell_alloc q1 _, cell_alloc q2 _⟩, ⟨cell_alloc t0 _, cell_alloc t1 _⟩, cell_alloc y0 _, ⟨cell_alloc u0 _, cell_alloc u1 _, cell_alloc u2 _, cell_alloc u3 _⟩, ⟨cell_alloc v0 _, cell_alloc v1 _, cell_alloc v2 _, cell_alloc v3 _⟩⟩
        exact norm_ (by kernel_rfl) (hcont () _ rfl)
      · go_simp
        refine hK.out _ _ ?_ (fun hS => ?_)
        · obtain ⟨⟨p0, p1, p2, p3, p4⟩, ⟨q0, q1, q2⟩, ⟨t0, t1⟩, y0, ⟨u0, u1, u2, u3⟩, ⟨v0, v1, v2, v3⟩⟩ := hS
          exact ⟨⟨cell_alloc p0 _, cell_alloc p1 _, cell_alloc p2 _, cell_alloc p3 _, cell_alloc p4 _⟩, ⟨cell_alloc q0 _, cell_alloc q1 _, cell_alloc q2 _⟩, ⟨cell_alloc t0 _, cell_alloc t1 _⟩, cell_alloc y0 _, ⟨cell_alloc u0 _, cell_alloc u1 _, cell_alloc u2 _, cell_alloc u3 _⟩, ⟨cell_alloc v0 _, cell_alloc v1 _, cell_alloc v2 _, cell_alloc v3 _⟩⟩
        refine rg1 7 rfl (by kernel_rfl) (by decide) (by kernel_rfl) (fun K hK => ?_)
        go_simp
        refine (Clip_calls Ab b.length kb _ hbc).mono ?_
        rintro e w1 ⟨rfl, rfl⟩
        simp only []
        refine hK.out _ _ hS (fun hS => ?_)
        exact norm_ (by kernel_rfl) (hcont () _ rfl)
    · rw [if_neg q5] at hcan
      have g5 : (t.k == 5) = false := by simp [q5]
      replace hcan := Lib.hid hcan
      clear q5
      go_enter Tryz.func85, Tryz.ntmps85
      go_wp2_with fail
      go_quiet (fail)
      go_wp2_with fail
      go_ret
      rw [hcan.out]
      exact ⟨rfl, by rw [q2] at ab; exact below_drewN ab _⟩
  · rw [if_neg q2] at hcan
    have g2 : ((ty.ar.length : Int) == 2) = false := by simp; omega
    by_cases q5 : t.k = 5
    · rw [if_pos q5] at hcan
      have g5 : (t.k == 5) = true := by simp [q5]
      replace hcan := Lib.hid hcan
      clear q5
      go_enter Tryz.func85, Tryz.ntmps85
      go_wp2_with fail
      go_ret
      rw [hcan.out]
      exact ⟨rfl, ab⟩
    · rw [if_neg q5] at hcan
      have g5 : (t.k == 5) = false := by simp [q5]
      replace hcan := Lib.hid hcan
      obtain ⟨hnd, hrl⟩ := raw_open hraw
      have hn0 := node_n hnd
      have hts := Lib.hid (fun u (hu : typeOfP p s.vars s.pars b t = some u) => typeOf_sz hv hq hbz hc hu)
      clear q5 hnd
      go_enter Tryz.func85, Tryz.ntmps85
      go_wp2_with fail
      refine (typeOf_calls p s b t _ _ _ _ _ h (H.below ab) rp0.out rs0.out rb r0.out hn0).mono ?_
      rintro e w1 ⟨kq, cs1, rfl, rr⟩
      have kk := below_then ab kq ab.size
      have d1 := box_below a1 kq
      have d2 := box_below a2 kq
      have d3 := box_below a3 kq
      have d4 := box_below a4 kq
      have y3 := box4 d3
      have y4 := box2 d4
      have l3 := blk_lt d3
      have l4 := blk_lt d4
      cases hO : typeOfP p s.vars s.pars b t with
      | none =>
        rw [hO] at rr hcan
        obtain ⟨AX, cX, rfl, _⟩ := rr.open_
        simp only [Option.isSome]
        go_wp2_with fail
        go_ret
        rw [hcan.out]
        exact ⟨rfl, kk.alloc kk.size _⟩
      | some own =>
        have hoz := hts.out own hO
        rw [hO] at rr hcan
        simp only [Option.getD] at rr
        have rr0 := rr
        obtain ⟨AX, cX, rfl, _⟩ := rr.open_
        simp only [Option.isSome]
        go_wp2_with fail
        have kk1 := kk.alloc kk.size (.cells #[.string own.nm, .slice AX own.ar.length cX] 36)
        have hpl := parts_le own
        refine (parts_calls own _ _ h (H.below kk1) rr0 (by unfold lim; omega)).mono ?_
        rintro e w2 ⟨sv, xs, rfl, hown, hch, k2⟩
        have kk2 := below_then kk1 k2 kk1.size
        have kq2 : Below w1.heap.size w1 w2 := below_then ((Below.refl _ w1).alloc (Nat.le_refl _) _) k2 (by simp)
        obtain ⟨h1, rs1, m1, n1⟩ := own_TyS (w0 := w) (H.below kk2) (by have := kk.size; simp; omega) hown hch (by unfold lim; omega)
        obtain ⟨As, caps, e, hcl, hll, hts1⟩ := id rs1
        subst e
        have hpz := Lib.hid hpl.2
        have hcan2 := hcan.out

        replace hcan2 := Lib.hid hcan2
        clear hcan hown hch n1 hpl k2 rr0 hts
        generalize partsL own = L at *
        generalize partsR own = N at *
        have e1 := box_below d1 kq2
        have e2 := box_below d2 kq2
        have e3 := box_below d3 kq2
        have e4 := box_below d4 kq2
        have yz3 := box4 e3
        have yz4 := box2 e4
        have zl3 := blk_lt e3
        have zl4 := blk_lt e4
        clear y3 y4 l3 l4
        cases g7 : (N.toList == ty.nm.toList) with
        | false =>
          have g7' : (N.toList != ty.nm.toList) = true := by simp [bne, g7]
          have hR : R = false := by have := hcan2.out; rw [g7] at this; simpa using this
          go_wp2_with fail
          go_ret
          rw [hR]
          exact ⟨rfl, kk2⟩
        | true =>
          have g7' : N.toList = ty.nm.toList := by simpa using g7
          by_cases g8 : L.length = t.ar.length
          · have hR : Hid (R = canAll (canP p s.vars s.pars m b) t.ar L) := Lib.hid (by have := hcan2.out; rw [g7, g8] at this; simpa using this)
            have g9 := Lib.hid g8
            rw [g8]
            clear g8 g7 hcan2
            have x10 : w2.cell? ⟨w.heap.size, 0, none⟩ = some (.slice At p.types.length kt) := blk_cell e1 0
            have x11 : w2.cell? ⟨w.heap.size, 1, none⟩ = some (.slice Ac p.consts.length kc) := blk_cell e1 1
            have x12 : w2.cell? ⟨w.heap.size, 2, none⟩ = some (.slice Z2 n2 z2) := blk_cell e1 2
            have x13 : w2.cell? ⟨w.heap.size, 3, none⟩ = some (.slice Z3 n3 z3) := blk_cell e1 3
            have x14 : w2.cell? ⟨w.heap.size, 4, none⟩ = some (.slice Z4 n4 z4) := blk_cell e1 4
            have x20 : w2.cell? ⟨w.heap.size + 1, 0, none⟩ = some (.slice A0 s.vars.length k0) := blk_cell e2 0
            have x21 : w2.cell? ⟨w.heap.size + 1, 1, none⟩ = some (.slice A1 s.pars.length k1) := blk_cell e2 1
            have x22 : w2.cell? ⟨w.heap.size + 1, 2, none⟩ = some (.slice A2 s.bound.length k2) := blk_cell e2 2
            have hw2 : Has w2 h1 := m1.has
            have rp1 := Lib.hid (rp0.out)
            go_wp2_with fail
            go_loopw [78] (fun i wr => ∃ j : Nat, j ≤ t.ar.length ∧ i = .int .i64 j ∧ Below w2.heap.size w2 wr ∧ Hid (canAll (canP p s.vars s.pars m b) (t.ar.drop j) (L.drop j) = R)) (fun i _ => t.ar.length - (intOf i).toNat)
            case atStart => exact ⟨0, by omega, rfl, Below.refl _ w2, by show _ = _; rw [hR.out]; simp⟩
            case round =>
              obtain ⟨j, hj, rfl, hb2, hI⟩ := hrel
              by_cases hlt : j < t.ar.length
              · have hltL : j < L.length := by rw [g9.out]; exact hlt
                have hjl : j + 1 ≤ 1073741824 := by have := hlm; unfold lim at this; omega
                have hwj : IntKind.i64.wrap ((j : Int) + 1) = (j : Int) + 1 := IntWalk.i64_in _ (by omega)
                obtain ⟨b', o, A', c', rfl, f0, f1, f2, f3, rtj⟩ := hr.get j hlt
                obtain ⟨b'', o'', A'', c'', rfl, u0, u1, ruj⟩ := hts1.get j hltL
                have hwr := hw2.below hb2
                have hc0 := hwr.cell _ _ (m1.sub.at_ _ _ f0)
                have hc1 := hwr.cell _ _ (m1.sub.at_ _ _ f1)
                have hc2 := hwr.cell _ _ (m1.sub.at_ _ _ f2)
                have hc3 := hwr.cell _ _ (m1.sub.at_ _ _ f3)
                have hu0 := hwr.cell _ _ u0
                have hu1 := hwr.cell _ _ u1
                have hI' := hI.out
                rw [List.drop_eq_getElem_cons hlt, List.drop_eq_getElem_cons hltL, canAll] at hI'
                replace hI' := Lib.hid hI'
                have hszj := Lib.hid (show t.ar[j].sz ≤ m by have h2 := Tm.sz_at t.ar j hlt; obtain ⟨k, n, nm, ar⟩ := t; simp only [Tm.sz, Tm.ar] at ht h2 ⊢; omega)
                have hrj := Lib.hid (rawN_at hrl j hlt)
                have hlz := Lib.hid (hpz.out L[j] (List.getElem_mem hltL))
                go_wp2_with fail
                obtain ⟨X, hX⟩ : ∃ X, t.ar[j] = X := ⟨_, rfl⟩
                obtain ⟨Y, hY⟩ : ∃ Y, L[j] = Y := ⟨_, rfl⟩
                rw [hX] at rtj hI' hszj hrj ⊢
                rw [hY] at ruj hI' hlz hu0 hu1
                clear hX hY f0 f1 f2 f3 u0 u1 hc0 hc1 hc2 hc3
                have rtj' := Lib.hid (rtj.sub m1.sub)
                have ruj' := Lib.hid ruj
                have rp2 := Lib.hid (show PgR h1 p _ from PgR.sub rp0.out m1.sub)
                have rs2 := Lib.hid (ScR.sub rs0.out m1.sub)
                have rb2 := Lib.hid (rb.sub m1.sub)
                have hasW := hwr.alloc (.cells #[.int .i64 X.k, .int .i64 X.n, .string X.nm, .slice A' X.ar.length c'] 34)
                have hnew := blk_new wr (.cells #[.int .i64 X.k, .int .i64 X.n, .string X.nm, .slice A' X.ar.length c'] 34)
                refine rgs 10 (fun V => (V.cell? ⟨w.heap.size, 0, none⟩ = some (.slice At p.types.length kt) ∧ V.cell? ⟨w.heap.size, 1, none⟩ = some (.slice Ac p.consts.length kc) ∧ V.cell? ⟨w.heap.size, 2, none⟩ = some (.slice Z2 n2 z2) ∧ V.cell? ⟨w.heap.size, 3, none⟩ = some (.slice Z3 n3 z3) ∧ V.cell? ⟨w.heap.size, 4, none⟩ = some (.slice Z4 n4 z4)) ∧
                  (V.cell? ⟨w.heap.size + 1, 0, none⟩ = some (.slice A0 s.vars.length k0) ∧ V.cell? ⟨w.heap.size + 1, 1, none⟩ = some (.slice A1 s.pars.length k1) ∧ V.cell? ⟨w.heap.size + 1, 2, none⟩ = some (.slice A2 s.bound.length k2)) ∧
                  (V.cell? ⟨wr.heap.size, 0, none⟩ = some (.int .i64 X.k) ∧ V.cell? ⟨wr.heap.size, 1, none⟩ = some (.int .i64 X.n) ∧ V.cell? ⟨wr.heap.size, 2, none⟩ = some (.string X.nm) ∧ V.cell? ⟨wr.heap.size, 3, none⟩ = some (.slice A' X.ar.length c')) ∧
                  V.cell? ⟨b'', o'' + j * 2, none⟩ = some (.string Y.nm) ∧ V.cell? ⟨b'', o'' + j * 2 + 1, none⟩ = some (.slice A'' Y.ar.length c'')) [] rfl
                  ⟨⟨cell_alloc (cell_below x10 hb2) _, cell_alloc (cell_below x11 hb2) _, cell_alloc (cell_below x12 hb2) _, cell_alloc (cell_below x13 hb2) _, cell_alloc (cell_below x14 hb2) _⟩, ⟨cell_alloc (cell_below x20 hb2) _, cell_alloc (cell_below x21 hb2) _, cell_alloc (cell_below x22 hb2) _⟩, ⟨blk_cell hnew 0, blk_cell hnew 1, blk_cell hnew 2, blk_cell hnew 3⟩, cell_alloc hu0 _, cell_alloc hu1 _⟩ (fun hS => ?_)
                refine rgt 0 (.agg #[.slice At p.types.length kt, .slice Ac p.consts.length kc, .slice Z2 n2 z2, .slice Z3 n3 z3, .slice Z4 n4 z4]) rfl (by kernel_rfl) (fun _ _ _ h => h) rfl hS (fun V hV => by obtain ⟨⟨p0, p1, p2, p3, p4⟩, ⟨q0, q1, q2⟩, ⟨t0, t1, t2, t3⟩, u0, u1⟩ := hV; go_simp) ?_
                refine rgt 1 (.agg #[.slice A0 s.vars.length k0, .slice A1 s.pars.length k1, .slice A2 s.bound.length k2]) rfl (by kernel_rfl) (fun _ _ _ h => h) rfl hS (fun V hV => by obtain ⟨⟨p0, p1, p2, p3, p4⟩, ⟨q0, q1, q2⟩, ⟨t0, t1, t2, t3⟩, u0, u1⟩ := hV; go_simp) ?_
                refine rgt 2 (.slice Ab b.length kb) rfl (by kernel_rfl) (fun _ _ _ h => h) rfl hS (fun V hV => by go_simp) ?_
                refine rgt 3 (.agg #[.int .i64 X.k, .int .i64 X.n, .string X.nm, .slice A' X.ar.length c']) rfl (by kernel_rfl) (fun _ _ _ h => h) rfl hS (fun V hV => by obtain ⟨⟨p0, p1, p2, p3, p4⟩, ⟨q0, q1, q2⟩, ⟨t0, t1, t2, t3⟩, u0, u1⟩ := hV; go_simp) ?_
                refine rgt 4 (.slice (some ⟨b'', o'', none⟩) t.ar.length caps) rfl (by kernel_rfl) (fun _ _ _ h => h) rfl hS (fun V hV => by go_simp) ?_
                refine rgt 5 (.int .i64 (j : Int)) rfl (by kernel_rfl) (fun _ _ _ h => h) rfl hS (fun V hV => by go_simp) ?_
                refine rgt 6 (.pointer (some ⟨b'', o'' + j * 2, none⟩)) rfl (by kernel_rfl) (fun _ _ _ h => h) rfl hS (fun V hV => by go_simp) ?_
                refine rgt 7 (.agg #[.string Y.nm, .slice A'' Y.ar.length c'']) rfl (by kernel_rfl) (fun _ _ _ h => h) rfl hS (fun V hV => by obtain ⟨⟨p0, p1, p2, p3, p4⟩, ⟨q0, q1, q2⟩, ⟨t0, t1, t2, t3⟩, u0, u1⟩ := hV; go_simp) ?_
                refine rg1 8 rfl (by kernel_rfl) (by decide) rfl (fun K hK => ?_)
                go_simp
                refine (IH.out b X Y _ _ _ _ _ (wr.alloc (.cells #[.int .i64 X.k, .int .i64 X.n, .string X.nm, .slice A' X.ar.length c'] 34)).drew h1 hasW.drew rp2.out rs2.out rb2.out rtj'.out ruj'.out hszj.out hrj.out (by omega) hbz (by have := hlz.out; omega)).mono ?_
                rintro e w3 ⟨rfl, k3⟩
                have k3' := undrew k3
                have kw3 : Below w2.heap.size w2 w3 := below_then (hb2.alloc hb2.size (.cells #[.int .i64 X.k, .int .i64 X.n, .string X.nm, .slice A' X.ar.length c'] 34)) k3' (by have := hb2.size; simp; omega)
                simp only []
                refine hK.out _ _ ?_ (fun hS => ?_)
                · obtain ⟨⟨p0, p1, p2, p3, p4⟩, ⟨q0, q1, q2⟩, ⟨t0, t1, t2, t3⟩, u0, u1⟩ := hS
                  exact ⟨⟨cell_below p0 k3, cell_below p1 k3, cell_below p2 k3, cell_below p3 k3, cell_below p4 k3⟩, ⟨cell_below q0 k3, cell_below q1 k3, cell_below q2 k3⟩, ⟨cell_below t0 k3, cell_below t1 k3, cell_below t2 k3, cell_below t3 k3⟩, cell_below u0 k3, cell_below u1 k3⟩
                cases hx : canP p s.vars s.pars m b X Y with
                | false =>
                  refine rgt 9 (.bool true) rfl (by kernel_rfl) (fun _ _ _ h => h) rfl hS (fun V hV => by go_simp) ?_
                  refine rgd (by kernel_rfl) ?_
                  go_wp2_with fail
                  go_ret
                  have hRf : R = false := by have := hI'.out; rw [hx] at this; simpa using this.symm
                  rw [hRf]
                  exact ⟨rfl, below_then kk2 kw3 kk2.size⟩
                | true =>
                  refine rgt 9 (.bool false) rfl (by kernel_rfl) (fun _ _ _ h => h) rfl hS (fun V hV => by go_simp) ?_
                  refine rgd (by kernel_rfl) ?_
                  go_wp2_with fail
                  exact ⟨⟨j + 1, by omega, by simp, kw3, Lib.hid (by have := hI'.out; rw [hx] at this; simpa using this)⟩, by simp [intOf]; omega⟩
              · have hje : j = t.ar.length := by omega
                have hfin : R = true := by
                  have := hI.out
                  rw [hje, List.drop_length] at this
                  rw [← this]
                  rfl
                go_wp2_with fail
                go_ret
                rw [hfin]
                exact ⟨rfl, below_then kk2 hb2 kk2.size⟩
          · have g8' : ((L.length : Int) != t.ar.length) = true := by simp; omega
            have hR : R = false := by
              have := hcan2.out
              have h9 : (L.length == t.ar.length) = false := by simp [g8]
              rw [g7, h9] at this
              simpa using this
            go_wp2_with fail
            all_goals
              go_ret
              rw [hR]
              exact ⟨rfl, kk2⟩
end Go.Proofs.YtpgbeapojjinmaaGreatDoor
