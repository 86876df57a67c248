/- term.each, fits. · term.fits, whole. No law is proved here. -/
import Derived.Test.YtpgbeapojjinmaaGreatDoorCC
import Derived.Outline
import Derived.Test.YtpgbeapojjinmaaGreatDoorEE
set_option linter.unusedVariables false
set_option linter.unusedSimpArgs false
namespace Go.Proofs.YtpgbeapojjinmaaGreatDoor
open Go.RowKit Go.Shelf Go.Proofs.YtpgbeapojjinmaaGreatDoorW.PrintLast
mutual
/-- A term is gone through, a node ahead of its Args. -/
def eachT {σ : Type} (step : σ → Tm → Int → σ) : σ → Int → Tm → σ
  | s, b, .mk k n nm ar => eachL step (step s (.mk k n nm ar) b) (if k = 5 then b + 1 else b) ar
def eachL {σ : Type} (step : σ → Tm → Int → σ) : σ → Int → List Tm → σ
  | s, _, [] => s
  | s, b, t :: ts => eachL step (eachT step s b t) b ts
end
theorem eachL_snoc {σ : Type} (step : σ → Tm → Int → σ) (b : Int) (t : Tm) : ∀ (l : List Tm) (s : σ), eachL step s b (l ++ [t]) = eachT step (eachL step s b l) b t
  | [], s => by simp [eachL]
  | x :: l, s => by simp [eachL, eachL_snoc step b t l]
set_option maxRecDepth 100000 in
set_option maxHeartbeats 8000000 in
theorem each_calls {σ : Type} (S : Nat → Prop) (F : Nat) (cap : Array Value) (step : σ → Tm → Int → σ) (I : σ → World → Prop) (hp : Tm → Bool) (w0 : World) (hS : ∀ k, S k → k < w0.heap.size) (he : ∀ (args : Array Value) (w : World), (callFunc F args).run Tryz.prog w = .ok (.enter F args) w)
    (hI : ∀ s W W', I s W → Below W.heap.size W W' → w0.heap.size ≤ W.heap.size → I s W')
    (hF : ∀ (t : Tm) (cs : List Value) (b : Int) (W : World) (h : Snap) (s : σ), w0.heap.size ≤ W.heap.size → Has W h → TmR h t cs → I s W →
      Calls Tryz.prog F (#[.agg cs.toArray, .int .i64 b] ++ cap) W fun e w' => e = .returned (.tuple #[]) ∧ Kp S W w' ∧ I (step s t b) w') :
    ∀ (m : Nat) (t : Tm) (_ : t.sz ≤ m) (b : Int) (_ : 0 ≤ b ∧ b + t.ld ≤ 4611686018427387904) (cs : List Value) (w : World) (h : Snap) (_ : w0.heap.size ≤ w.heap.size) (H : Has w h) (ho : Off h S) (r : TmR h t cs) (s : σ) (hs : I s w),
    Calls Tryz.prog 136 #[.agg cs.toArray, .int .i64 b, .func (.func F) #[] cap] w fun e w' => e = .returned (.tuple #[]) ∧ Kp S w w' ∧ I (eachT step s b t) w' := by
  intro m
  induction m with
  | zero => intro t ht; have := t.sz_pos; omega
  | succ m ih =>
  rintro ⟨kk, nn, nm, ar⟩ ht b hb cs w h hw0 H ho r s hs
  obtain ⟨A, cap', rfl, hl, hlm, hk1, hn1, hr⟩ := id r
  have hu34 := Tryz.underlying34
  have IH := Lib.hid ih
  clear ih
  unfold lim at hlm
  obtain ⟨hB, hab⟩ := alloc1 w (.cells #[.int .i64 kk, .int .i64 nn, .string nm, .slice A ar.length cap'] 34)
  have hsz := Lib.hid hw0
  clear hw0
  obtain ⟨B1, hB1⟩ : ∃ B1 : Int, (if kk = 5 then b + 1 else b) = B1 := ⟨_, rfl⟩
  have G := Lib.hid (show eachT step s b (.mk kk nn nm ar) = eachL step (step s (.mk kk nn nm ar) b) B1 ar by rw [eachT, hB1])
  have hB2 : 0 ≤ B1 ∧ B1 + Tm.ldL ar ≤ 4611686018427387904 := by rw [← hB1]; exact Tm.ld_step hb
  have hB3 := Lib.hid (show ∀ j (hj : j < ar.length), 0 ≤ B1 ∧ B1 + (ar[j].ld : Int) ≤ 4611686018427387904 from fun j hj => by have := Tm.ld_at ar j hj; omega)
  go_enter Tryz.func136, Tryz.ntmps136
  go_wp2_with fail
  have hff := hF (.mk kk nn nm ar) _ b (w.alloc (.cells #[.int .i64 kk, .int .i64 nn, .string nm, .slice A ar.length cap'] 34)) h s (by have := hsz.out; simp; omega) (H.below hab) r (hI _ _ _ hs hab hsz.out)
  refine hff.mono ?_
  rintro e w1 ⟨rfl, k1, i1⟩
  have kb1 := (Kp.of_below S hab).trans k1 (fun i hi hh => hh)
  have b1 := blk_kp hB k1 (fun hh => by have := hS _ hh; have := hsz.out; omega)
  have x1 := box4 b1
  have s1 := kb1.size
  have i1' := Lib.hid i1
  clear i1 hff
  have hq : (kk = 5 ∧ b + 1 = B1) ∨ (kk ≠ 5 ∧ b = B1) := by
    by_cases q : kk = 5
    · rw [if_pos q] at hB1; exact .inl ⟨q, hB1⟩
    · rw [if_neg q] at hB1; exact .inr ⟨q, hB1⟩
  clear hB1
  obtain ⟨f, hf0, hfs, hfe⟩ : ∃ f : List Tm → σ, Hid (f [] = step s (.mk kk nn nm ar) b) ∧ Hid (∀ l t, f (l ++ [t]) = eachT step (f l) B1 t) ∧ Hid (f ar = eachT step s b (.mk kk nn nm ar)) := ⟨fun l => eachL step (step s (.mk kk nn nm ar) b) B1 l, by show _ = _; simp [eachL], by show ∀ _ _, _; intro l t; exact eachL_snoc step B1 t l _, G.out.symm⟩
  clear G
  rcases hq with ⟨rfl, hB1⟩ | ⟨q5, rfl⟩
  all_goals (have hb1 : b + 1 ≤ 4611686018427387905 := by omega)
  all_goals (try have q5' := beq_eq_false_iff_ne.2 q5)
  all_goals (go_wp2_with fail)
  all_goals
    go_loopw [20] (fun i wr => ∃ j : Nat, j ≤ ar.length ∧ i = .int .i64 j ∧ Kp S w wr ∧ ∃ s', Hid (f (ar.take j) = s') ∧ I s' wr) (fun i _ => ar.length - (intOf i).toNat)
    case atStart => exact ⟨0, by omega, rfl, kb1, _, hf0, i1'.out⟩
    case round =>
      obtain ⟨j, hj, rfl, kq, s', hs', is⟩ := hrel
      have hwr := H.kp kq ho
      have sq := kq.size
      by_cases hlt : j < ar.length
      · obtain ⟨bb, o, A', c', rfl, e0, e1, e2, e3, rt⟩ := hr.get j hlt
        have hc0 := hwr.cell _ _ e0
        have hc1 := hwr.cell _ _ e1
        have hc2 := hwr.cell _ _ e2
        have hc3 := hwr.cell _ _ e3
        have ht' := Lib.hid (show ar[j].sz ≤ m by have h1 := ht; have h2 := Tm.sz_at ar j hlt; simp only [Tm.sz] at h1; omega)
        obtain ⟨hBa, haa⟩ := alloc1 wr (.cells #[.int .i64 ar[j].k, .int .i64 ar[j].n, .string ar[j].nm, .slice A' ar[j].ar.length c'] 34)
        have ia := Lib.hid (hI _ _ _ is haa (by have := hsz.out; omega))
        clear is
        go_wp2_with fail
        refine (IH.out ar[j] ht'.out _ (hB3.out j hlt) _ _ h (by have := hsz.out; simp; omega) (hwr.alloc _) ho rt s' ia.out).mono ?_
        rintro e w5 ⟨rfl, k5, i5⟩
        have k6 := (kq.alloc (.cells #[.int .i64 ar[j].k, .int .i64 ar[j].n, .string ar[j].nm, .slice A' ar[j].ar.length c'] 34)).trans k5 (fun _ _ hh => hh)
        have i5' := Lib.hid i5
        clear i5
        go_wp2_with fail
        exact ⟨⟨j + 1, by omega, by go_num, k6, _, by show _ = _; rw [take_snoc ar j hlt, hfs.out, hs'.out], i5'.out⟩, by simp [intOf]; omega⟩
      · obtain rfl : j = ar.length := by omega
        go_wp2_with fail
        go_end0
        exact ⟨rfl, kq, by have := hs'.out; rw [List.take_length, hfe.out] at this; rw [this]; exact is⟩
end Go.Proofs.YtpgbeapojjinmaaGreatDoor
namespace Go.Proofs.YtpgbeapojjinmaaGreatDoor
open Go.RowKit Go.Shelf Go.Proofs.YtpgbeapojjinmaaGreatDoorW.PrintLast
/-- No number of a term is too great. -/
def fitsP (t : Tm) : Bool := eachT (fun s u _ => s && decide (u.n ≤ 100000)) true 0 t
set_option maxRecDepth 100000 in
set_option maxHeartbeats 4000000 in
theorem fitsfn_calls (bo : Nat) (t : Tm) (cs : List Value) (b : Int) (W : World) (h : Snap) (s : Bool) (H : Has W h) (r : TmR h t cs) (hb : W.heap[bo]? = some (.cells #[.bool s] 4)) :
    Calls Tryz.prog 218 (#[.agg cs.toArray, .int .i64 b] ++ #[.pointer (some ⟨bo, 0, none⟩)]) W fun e w' => e = .returned (.tuple #[]) ∧ Kp (fun q => q = bo) W w' ∧ w'.heap[bo]? = some (.cells #[.bool (s && decide (t.n ≤ 100000))] 4) := by
  obtain ⟨A, cap, rfl, hl, hlm, hk1, hn1, hr⟩ := r.open_
  have hu34 := Tryz.underlying34
  have xb := box1 hb
  have lb := blk_lt hb
  have hba := blk_alloc hb (.cells #[.int .i64 t.k, .int .i64 t.n, .string t.nm, .slice A t.ar.length cap] 34)
  have fb := blk_frozen hba
  have xa := box1 hba
  go_enter Tryz.func218, Tryz.ntmps218
  cases s with
  | false =>
    go_wp2_with fail
    go_end0
    exact ⟨rfl, ((Kp.refl (fun q => q = bo) W).set (p := ⟨bo, 0, none⟩) (.inl rfl) _).alloc _, by simpa using blk_alloc (blk_set hb 0 (.bool _)) _⟩
  | true =>
    go_wp2_with fail
    go_end0
    exact ⟨rfl, ((Kp.refl (fun q => q = bo) W).set (p := ⟨bo, 0, none⟩) (.inl rfl) _).alloc _, by simpa using blk_alloc (blk_set hb 0 (.bool _)) _⟩
set_option maxRecDepth 100000 in
set_option maxHeartbeats 4000000 in
theorem fits_calls (t : Tm) (cs : List Value) (w : World) (h : Snap) (H : Has w h) (r : TmR h t cs) (hsz : t.ld ≤ 1000000000) :
    Calls Tryz.prog 164 #[.agg cs.toArray] w fun e w' => e = .returned (.bool (fitsP t)) ∧ Below w.heap.size w w' := by
  obtain ⟨A, cap, rfl, hl, hlm, hk1, hn1, hr⟩ := r.open_
  have hu34 := Tryz.underlying34
  have hmf := run_mf
  obtain ⟨a1, a2, ab⟩ := alloc2 w (.cells #[.int .i64 t.k, .int .i64 t.n, .string t.nm, .slice A t.ar.length cap] 34) (.cells #[.bool true] 4)
  have hx : fitsP t = eachT (fun s u _ => s && decide (u.n ≤ 100000)) true 0 t := rfl
  go_enter Tryz.func164, Tryz.ntmps164
  go_wp2_with fail
  refine (each_calls (fun q => q = w.heap.size + 1) 218 #[.pointer (some ⟨w.heap.size + 1, 0, none⟩)] (fun s u _ => s && decide (u.n ≤ 100000)) (fun s W => W.heap[w.heap.size + 1]? = some (.cells #[.bool s] 4)) (fun _ => true) _ (fun k hk => by rw [hk]; exact blk_lt a2) (enters_ Tryz.func218 (by kernel_rfl) rfl)
    (fun s W W' hs hb _ => box_below hs hb) (fun t cs b W h s _ H r hs => fitsfn_calls _ t cs b W h s H r hs) t.sz t (Nat.le_refl _) 0 (by omega) _ _ h (Nat.le_refl _) (H.below ab) (H.off_new (fun k hk => by omega)) r true a2).mono ?_
  rintro e w1 ⟨rfl, k1, i1⟩
  rw [← hx] at i1
  clear hx
  have x1 := box1 i1
  have kk : Below w.heap.size w w1 := ((Kp.of_below (fun q => q = w.heap.size + 1) ab).trans k1 (fun i hi e => e)).below (fun i hi e => by omega)
  go_wp2_with fail
  go_ret
  exact ⟨rfl, kk⟩
set_option maxRecDepth 100000 in
set_option maxHeartbeats 4000000 in
theorem idfn_calls (w0 : World) : HeadFn (fun _ => true) w0 165 #[] (fun _ n _ => some n) := by
  intro t cs b W h hW H r _ _ _
  obtain ⟨A, cap, rfl, hl, hlm, hk1, hn1, hr⟩ := r.open_
  have hu34 := Tryz.underlying34
  have hb := (alloc1 W (.cells #[.int .i64 t.k, .int .i64 t.n, .string t.nm, .slice A t.ar.length cap] 34)).2
  go_enter Tryz.func165, Tryz.ntmps165
  go_wp2_with fail
  go_ret
  exact ⟨rfl, hb⟩
mutual
theorem rebT_id : ∀ (b : Int) (t : Tm), rebT (fun _ n _ => some n) b t = some t
  | b, .mk k n nm ar => by rw [rebT, rebL_id]; rfl
theorem rebL_id : ∀ (b : Int) (l : List Tm), rebL (fun _ n _ => some n) b l = some l
  | b, [] => rfl
  | b, t :: ts => by rw [rebL, rebT_id, rebL_id]; rfl
end
/-- The result of a whole call. -/
def wholeS (t : Tm) : Sum Int Tm := if sizedM t = 2 then .inl 2 else if fitsP t = false then .inl 2 else if sizedM t = 0 then .inr t else .inl (sizedM t)
set_option maxRecDepth 100000 in
set_option maxHeartbeats 4000000 in
theorem whole_calls (t : Tm) (cs : List Value) (w : World) (h : Snap) (H : Has w h) (r : TmR h t cs) (hsz : t.ld ≤ 1000000000) :
    Calls Tryz.prog 93 #[.agg cs.toArray] w (MadeTm w h (wholeS t)) := by
  have r0 := r
  obtain ⟨A, cap, rfl, hl, hlm, hk1, hn1, hr⟩ := r.open_
  have hu34 := Tryz.underlying34
  have hmf := run_mf
  obtain ⟨a1, a2, ab⟩ := alloc2 w (.cells #[.int .i64 t.k, .int .i64 t.n, .string t.nm, .slice A t.ar.length cap] 34) (.cells #[.int .i64 0, .int .i64 0, .string ⟨#[]⟩, .slice none 0 0] 34)
  go_enter Tryz.func93, Tryz.ntmps93
  go_wp2_with fail
  refine (sizedM_calls t _ _ h (H.below ab) r).mono ?_
  rintro e w1 ⟨rfl, k1⟩
  have kk := below_then ab k1 ab.size
  have b1 := box_below a1 k1
  have x1 := box4 b1
  by_cases q : sizedM t = 2
  · have G := Lib.hid (show wholeS t = .inl 2 by rw [wholeS, if_pos q])
    have q' : (sizedM t != 2) = false := by simp [q]
    clear q
    generalize sizedM t = m at *
    go_wp2_with fail
    refine (must_no 2 _).mono ?_
    rintro e w2 ⟨rfl, rfl⟩
    exact ⟨rfl, by rw [G.out]; exact ⟨kk, rfl⟩⟩
  · have q' : (sizedM t != 2) = true := by simp [q]
    have G := show wholeS t = if fitsP t = false then .inl 2 else if sizedM t = 0 then .inr t else .inl (sizedM t) by rw [wholeS, if_neg q]
    have hfit := fits_calls t _ w1 h (H.below kk) r0 hsz
    clear q
    generalize fitsP t = ft at *
    cases ft with
    | false =>
      rw [if_pos rfl] at G
      replace G := Lib.hid G
      go_wp2_with fail
      refine hfit.mono ?_
      rintro e w2 ⟨rfl, k2⟩
      go_wp2_with fail
      refine (must_no 2 _).mono ?_
      rintro e w3 ⟨rfl, rfl⟩
      exact ⟨rfl, by rw [G.out]; exact ⟨below_then kk k2 kk.size, rfl⟩⟩
    | true =>
      rw [if_neg (by simp)] at G
      by_cases q2 : sizedM t = 0
      · rw [if_pos q2] at G
        replace G := Lib.hid G
        have q3 : (sizedM t == 0) = true := by simp [q2]
        clear q2
        generalize sizedM t = m at *
        go_wp2_with fail
        refine hfit.mono ?_
        rintro e w2 ⟨rfl, k2⟩
        have kk2 := below_then kk k2 kk.size
        have b2 := box_below b1 k2
        have x2 := box4 b2
        go_wp2_with fail
        refine (must_ok 2 _).mono ?_
        rintro e w3 ⟨rfl, rfl⟩
        go_wp2_with fail
        refine (must_ok _ _).mono ?_
        rintro e w3 ⟨rfl, rfl⟩
        go_wp2_with fail
        refine (rebuilt_calls (fun _ => true) _ 165 _ (fun _ n _ => some n) (enters_ Tryz.func165 (by kernel_rfl) rfl) (idfn_calls _) (fun t b n' _ hn e => by cases e; exact hn) t.sz t (Nat.le_refl _) 0 (by omega) _ _ (Below.refl _ _) h (H.below kk2) r0 (allN_true t)).mono ?_
        rintro e w3 ⟨k3, hm⟩
        rw [rebT_id] at hm
        obtain ⟨cs', h', rfl, r', m'⟩ := hm
        obtain ⟨A', cap', rfl, _⟩ := r'.open_
        have kk3 := below_then kk2 k3 kk2.size
        have b4 := box_below (box_below (box_below a2 k1) k2) k3
        have l4 := blk_lt b4
        have f4 := blk_frozen b4
        have x4 := box4 b4
        go_wp2_with fail
        obtain ⟨W5, hW5, b5, kp5⟩ : ∃ W5, ((((w3.setCell ⟨w.heap.size + 1, 0, none⟩ (.int .i64 t.k)).setCell ⟨w.heap.size + 1, 1, none⟩ (.int .i64 t.n)).setCell ⟨w.heap.size + 1, 2, none⟩ (.string t.nm)).setCell ⟨w.heap.size + 1, 3, none⟩ (.slice A' t.ar.length cap')) = W5 ∧
            W5.heap[w.heap.size + 1]? = some (.cells #[.int .i64 t.k, .int .i64 t.n, .string t.nm, .slice A' t.ar.length cap'] 34) ∧ Kp (fun q => q = w.heap.size + 1) w3 W5 := ⟨_, rfl, (set4 b4 _ _ _ _).1, (set4 b4 _ _ _ _).2⟩
        rw [hW5]
        have x5 := box4 b5
        refine bodyPost_ret (v := .agg #[.int .i64 t.k, .int .i64 t.n, .string t.nm, .slice A' t.ar.length cap']) (by simp [results, Tryz.results93, go_sem, x5]) rfl ?_
        rw [G.out]
        exact ⟨((Kp.of_below (fun q => q = w.heap.size + 1) kk3).trans kp5 (fun i hi e => e)).below (fun i hi e => by omega), _, h', rfl, r', ((m'.from_ kk2.size).world (m'.has.kp kp5 (m'.off (H.off_new (fun k hk => by omega)) (fun k hk => by rw [hk]; exact blk_lt (box_below (box_below a2 k1) k2)))))⟩
      · rw [if_neg q2] at G
        replace G := Lib.hid G
        have q3 : (sizedM t == 0) = false := by simp [q2]
        clear q2
        generalize sizedM t = m at *
        go_wp2_with fail
        refine hfit.mono ?_
        rintro e w2 ⟨rfl, k2⟩
        go_wp2_with fail
        refine (must_ok 2 _).mono ?_
        rintro e w3 ⟨rfl, rfl⟩
        go_wp2_with fail
        refine (must_no _ _).mono ?_
        rintro e w3 ⟨rfl, rfl⟩
        exact ⟨rfl, by rw [G.out]; exact ⟨below_then kk k2 kk.size, rfl⟩⟩
end Go.Proofs.YtpgbeapojjinmaaGreatDoor
