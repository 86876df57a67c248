/- term.raws and term.Subst. · term.Put, where no term is raised. · term.Put for a list of one term. No law is proved here. -/
import Derived.Test.YtpgbeapojjinmaaGreatDoorJD
set_option linter.unusedVariables false
set_option linter.unusedSimpArgs false
namespace Go.Proofs.YtpgbeapojjinmaaGreatDoor
open Go.RowKit Go.Shelf Go.Proofs.YtpgbeapojjinmaaGreatDoorW.PrintLast
/-- The first error of Raw. -/
def rawsP : List Tm → Int
  | [] => 0
  | t :: ts => if rawP t = 0 then rawsP ts else rawP t
set_option maxRecDepth 100000 in
set_option maxHeartbeats 4000000 in
theorem raws_calls (ts : List Tm) (sv : Value) (w : World) (h : Snap) (H : Has w h) (r : TmS h ts sv) :
    Calls Tryz.prog 96 #[sv] w fun e w' => e = .returned (.int .i64 (rawsP ts)) ∧ Below w.heap.size w w' := by
  obtain ⟨A, cap, rfl, hc, hlm, hr⟩ := r
  unfold lim at hlm
  have hu34 := Tryz.underlying34
  go_enter Tryz.func96, Tryz.ntmps96
  go_wp2_with fail
  go_loopw [8] (fun i wr => ∃ j : Nat, j ≤ ts.length ∧ i = .int .i64 j ∧ Below w.heap.size w wr ∧ Hid (rawsP (ts.drop j) = rawsP ts)) (fun i _ => ts.length - (intOf i).toNat)
  case atStart => exact ⟨0, by omega, rfl, Below.refl _ w, by show _ = _; simp⟩
  case round =>
    obtain ⟨j, hj, rfl, hb, hI⟩ := hrel
    by_cases hlt : j < ts.length
    · obtain ⟨b', o, A', c', rfl, e0, e1, e2, e3, rt⟩ := hr.get j hlt
      have hw := H.below hb
      have hc0 := hw.cell _ _ e0
      have hc1 := hw.cell _ _ e1
      have hc2 := hw.cell _ _ e2
      have hc3 := hw.cell _ _ e3
      have hI' := hI.out
      rw [List.drop_eq_getElem_cons hlt, rawsP] at hI'
      replace hI' := Lib.hid hI'
      go_wp2_with fail
      generalize ts[j] = X at *
      have hsz := hb.size
      refine (Raw_calls X _ _ h ((H.below hb).alloc _) rt).mono ?_
      rintro e w1 ⟨rfl, k1⟩
      have k2 := below_then (hb.alloc hsz (.cells #[.int .i64 X.k, .int .i64 X.n, .string X.nm, .slice A' X.ar.length c'] 34)) k1 (by simp; omega)
      by_cases q : rawP X = 0
      · have q' : (rawP X != 0) = false := by simp [q]
        have hI2 : Hid (rawsP (ts.drop (j + 1)) = rawsP ts) := by
          have := hI'.out
          rw [if_pos q] at this
          exact this
        go_wp2_with fail
        exact ⟨⟨j + 1, by omega, by simp, k2, hI2⟩, by simp [intOf]; omega⟩
      · have q' : (rawP X != 0) = true := by simp [q]
        have hI2 : Hid (rawP X = rawsP ts) := by
          have := hI'.out
          rw [if_neg q] at this
          exact this
        go_wp2_with fail
        go_ret
        rw [hI2.out]
        exact ⟨rfl, k2⟩
    · have hje : j = ts.length := by omega
      have hfin : Hid (rawsP ts = 0) := by
        have := hI.out
        rw [hje, List.drop_length] at this
        exact this.symm
      go_wp2_with fail
      go_ret
      rw [hfin.out]
      exact ⟨rfl, hb⟩
/-- The end of a worker's work. -/
def finS : Sum Int (Tm × Int) → Sum Int Tm
  | .inl e => .inl e
  | .inr (u, _) => wholeS u
set_option maxRecDepth 100000 in
set_option maxHeartbeats 4000000 in
theorem substfn_calls (f : Nat) (t s : Tm) (o : Sum Int (Tm × Int)) (ct cs : List Value) (bt bs : Nat) (w : World) (h : Snap) (H : Has w h) (r : TmR h t ct) (rs : TmR h s cs) (he : runW f (.sub 0 t s) = some o) (hsz : ∀ u c, o = .inr (u, c) → u.ld ≤ 1000000000)
    (ht : w.heap[bt]? = some (.cells ct.toArray 34)) (hs : w.heap[bs]? = some (.cells cs.toArray 34)) :
    Calls Tryz.prog 97 #[.pointer (some ⟨bt, 0, none⟩), .pointer (some ⟨bs, 0, none⟩)] w (MadeTm w h (finS o)) := by
  have r0 := r
  have rs0 := rs
  obtain ⟨A, cap, rfl, hl, hlm, hk1, hn1, hr⟩ := r.open_
  obtain ⟨A', cap', rfl, hl', _⟩ := rs.open_
  have hu34 := Tryz.underlying34
  have xt := box4 ht
  have xs := box4 hs
  have lt := blk_lt ht
  have ls := blk_lt hs
  obtain ⟨a1, a2, ab⟩ := alloc2 w (.cells #[.int .i64 0, .int .i64 0, .string ⟨#[]⟩, .slice none 0 0] 34) (.cells #[.int .i64 0] 129)
  have he' := Lib.hid he
  have hsz' := Lib.hid hsz
  clear he hsz
  obtain ⟨O, hO⟩ : ∃ O, finS o = O := ⟨_, rfl⟩
  rw [hO]
  replace hO := Lib.hid hO
  go_enter Tryz.func97, Tryz.ntmps97
  go_wp2_with fail
  refine (sub_ok f (w.heap.size + 1) 0 t s o _ _ _ h (H.below ab) r0 rs0 (H.off_new (fun q e => by have : q = w.heap.size + 1 := e; omega)) a2 he'.out).mono ?_
  rintro e w1 ⟨k1, hm⟩
  have kk : Below w.heap.size w w1 := ((Kp.of_below (fun q => q = w.heap.size + 1) ab).trans k1 (fun q hq e => e.resolve_right (fun hf => hf))).below (fun i hi => by omega)
  have b4 := blk_kp a1 k1 (fun e => by rcases e with e | e; omega; exact e)
  rcases o with x | ⟨u, c'⟩
  · subst hm
    have f0 : .inl x = O := hO.out
    subst f0
    exact ⟨rfl, kk, rfl⟩
  · obtain ⟨cs', h', rfl, r', m', _, _⟩ := hm
    have huz := hsz'.out u c' rfl
    have f0 : wholeS u = O := hO.out
    have r1 := r'
    obtain ⟨A1, c1, rfl, _⟩ := r'.open_
    go_wp2_with fail
    refine (whole_calls u _ _ h' m'.has r1 huz).mono ?_
    rintro e w2 ⟨k2, hm2⟩
    have kk2 := below_then kk k2 kk.size
    have b5 := box_below b4 k2
    rw [f0] at hm2
    clear hO f0
    rcases O with x | v
    · subst hm2
      exact ⟨rfl, kk2, rfl⟩
    · obtain ⟨cs2, h2, rfl, r2, m2⟩ := hm2
      obtain ⟨A2, c2, rfl, _⟩ := r2.open_
      have l5 := blk_lt b5
      have f5 := blk_frozen b5
      have x5 := box4 b5
      go_wp2_with fail
      obtain ⟨W5, hW5, b6, kp5⟩ : ∃ W5, ((((w2.setCell ⟨w.heap.size, 0, none⟩ (.int .i64 v.k)).setCell ⟨w.heap.size, 1, none⟩ (.int .i64 v.n)).setCell ⟨w.heap.size, 2, none⟩ (.string v.nm)).setCell ⟨w.heap.size, 3, none⟩ (.slice A2 v.ar.length c2)) = W5 ∧
          W5.heap[w.heap.size]? = some (.cells #[.int .i64 v.k, .int .i64 v.n, .string v.nm, .slice A2 v.ar.length c2] 34) ∧ Kp (fun q => q = w.heap.size) w2 W5 := ⟨_, rfl, (set4 b5 _ _ _ _).1, (set4 b5 _ _ _ _).2⟩
      rw [hW5]
      have x6 := box4 b6
      refine bodyPost_ret (v := .agg #[.int .i64 v.k, .int .i64 v.n, .string v.nm, .slice A2 v.ar.length c2]) (by simp [results, Tryz.results97, go_sem, x6]) rfl ?_
      have mm := m'.trans m2 (by have := k1.size; omega)
      exact ⟨((Kp.of_below (fun q => q = w.heap.size) kk2).trans kp5 (fun i hi e => e)).below (fun i hi e => by omega), _, h2, rfl, r2, (mm.from_ (w0 := w) (by simp; omega)).world (mm.has.kp kp5 (mm.off (H.off_new (fun k hk => by omega)) (fun k hk => by simp; omega)))⟩
theorem listW_nz {r : Int → Tm → WRes} (hr : ∀ c t e, r c t = some (.inl e) → e ≠ 0) : ∀ (l : List Tm) (c e : Int), listW r c l = some (.inl e) → e ≠ 0
  | [], c, e, h => by simp [listW] at h
  | t :: ts, c, e, h => by
    rw [listW] at h
    cases hx : r c t with
    | none => rw [hx] at h; cases h
    | some o =>
      rw [hx] at h
      rcases o with x | ⟨u, c'⟩
      · simp at h; subst h; exact hr c t _ hx
      · simp only [] at h
        cases hy : listW r c' ts with
        | none => rw [hy] at h; cases h
        | some o2 =>
          rw [hy] at h
          rcases o2 with x | ⟨us, c''⟩
          · simp at h; subst h; exact listW_nz hr ts c' _ hy
          · cases h
/-- The worker's errors are errors. -/
theorem runW_nz : ∀ (f : Nat) (m : WCmd) (e : Int), runW f m = some (.inl e) → e ≠ 0
  | 0, m, e, h => by simp [runW] at h
  | f + 1, .rep hd c (.mk k n nm ar) b, e, h => by
    by_cases q : k = 5
    · subst q
      cases ar with
      | nil => simp [runW] at h
      | cons x xs =>
        obtain ⟨o1, h1, h2⟩ := run_lam h
        rcases o1 with y | ⟨u, c'⟩
        · cases h2; exact runW_nz f _ _ h1
        · cases h2
    · rcases run_rep q h with ⟨y, h1, h2⟩ | ⟨us, c', h1, h2⟩
      · cases h2; exact listW_nz (fun c t e h => runW_nz f _ e h) _ _ _ h1
      · rcases h2 with ⟨_, h2⟩ | ⟨s, _, h2⟩
        · cases h2
        · exact runW_nz f _ _ h2
  | f + 1, .app c t [], e, h => by cases run_app0 h
  | f + 1, .app c t (x :: xs), e, h => by
    obtain ⟨g, hg, _, _, hc⟩ := run_app h
    cases hg
    rcases hc with ⟨_, h2⟩ | ⟨_, b, bs, _, o1, h1, h2⟩
    · cases h2; omega
    · rcases o1 with y | ⟨u, c'⟩
      · cases h2; exact runW_nz f _ _ h1
      · rcases h2.2 with ⟨_, _, h3⟩ | ⟨_, h3⟩
        · exact runW_nz f _ _ h3
        · cases h3; omega
  | f + 1, .sub c t s, e, h => runW_nz f _ _ (run_sub h).2.2
theorem wholeS_nz {t : Tm} {c : Int} (h : wholeS t = .inl c) : c ≠ 0 := by
  unfold wholeS at h
  split at h
  · cases h; omega
  · split at h
    · cases h; omega
    · split at h
      · cases h
      · cases h; assumption
theorem finS_nz {f : Nat} {m : WCmd} {o : Sum Int (Tm × Int)} (he : runW f m = some o) {c : Int} (h : finS o = .inl c) : c ≠ 0 := by
  rcases o with e | ⟨u, c'⟩
  · cases h; exact runW_nz f m _ he
  · exact wholeS_nz h
/-- What Subst answers. -/
def SubstIs (t s : Tm) (o : Sum Int Tm) : Prop := (rawsP [t, s] ≠ 0 ∧ o = .inl (rawsP [t, s])) ∨ (rawsP [t, s] = 0 ∧ ∃ f o1, runW f (.sub 0 t s) = some o1 ∧ (∀ u c, o1 = .inr (u, c) → u.ld ≤ 1000000000) ∧ o = finS o1)
theorem two_TmL {w0 W : World} {h' : Snap} {u v : Tm} {A B : Option Addr} {c d g : Nat} (H : Has W h') (hb : W.heap[g]? = some (.cells #[.int .i64 u.k, .int .i64 u.n, .string u.nm, .slice A u.ar.length c, .int .i64 v.k, .int .i64 v.n, .string v.nm, .slice B v.ar.length d] 34)) (r : TmR h' u [.int .i64 u.k, .int .i64 u.n, .string u.nm, .slice A u.ar.length c]) (s : TmR h' v [.int .i64 v.k, .int .i64 v.n, .string v.nm, .slice B v.ar.length d]) (hg : w0.heap.size ≤ g) :
    ∃ h2, TmL h2 (some ⟨g, 0, none⟩) 0 [u, v] ∧ Mk w0 h' W h2 := by
  have hx : ∀ i, W.cell? ⟨g, i, none⟩ = _ := fun i => blk_cell hb i
  refine ⟨withRow h' W g 8, ⟨⟨g, 0, _, _, _, _, rfl, withRow.at_ H (by omega) (hx 0), withRow.at_ H (by omega) (hx 1), withRow.at_ H (by omega) (hx 2), withRow.at_ H (by omega) (hx 3), r.sub (withRow.sub ..)⟩, ⟨g, 0, _, _, _, _, rfl, withRow.at_ H (by omega) (hx 4), withRow.at_ H (by omega) (hx 5), withRow.at_ H (by omega) (hx 6), withRow.at_ H (by omega) (hx 7), s.sub (withRow.sub ..)⟩, trivial⟩, ⟨withRow.sub .., withRow.has H .., fun a v e => (withRow.new e).imp_right (fun k => by omega)⟩⟩
set_option maxRecDepth 100000 in
set_option maxHeartbeats 4000000 in
theorem Subst_calls (t s : Tm) (o : Sum Int Tm) (ct cs : List Value) (w : World) (h : Snap) (H : Has w h) (r : TmR h t ct) (rs : TmR h s cs) (ho : SubstIs t s o) :
    Calls Tryz.prog 28 #[.agg ct.toArray, .agg cs.toArray] w (MadeRes w h o) := by
  have hmf := run_mf
  have r0 := r
  have rs0 := rs
  obtain ⟨A, cap, rfl, hl, hlm, hk1, hn1, hr⟩ := r.open_
  obtain ⟨A', cap', rfl, hl', _⟩ := rs.open_
  have hu34 := Tryz.underlying34
  obtain ⟨a1, a2, a3, ab⟩ := alloc3 w (.cells #[.int .i64 t.k, .int .i64 t.n, .string t.nm, .slice A t.ar.length cap] 34) (.cells #[.int .i64 s.k, .int .i64 s.n, .string s.nm, .slice A' s.ar.length cap'] 34) (.cells #[.int .i64 0, .int .i64 0, .string ⟨#[]⟩, .slice none 0 0] 34)
  have ho' := Lib.hid ho
  clear ho
  go_enter Tryz.func28, Tryz.ntmps28
  go_wp2_with fail
  obtain ⟨W3, hW3⟩ : ∃ W3, ((w.alloc (.cells #[.int .i64 t.k, .int .i64 t.n, .string t.nm, .slice A t.ar.length cap] 34)).alloc (.cells #[.int .i64 s.k, .int .i64 s.n, .string s.nm, .slice A' s.ar.length cap'] 34)).alloc (.cells #[.int .i64 0, .int .i64 0, .string ⟨#[]⟩, .slice none 0 0] 34) = W3 := ⟨_, rfl⟩
  have s3 : W3.heap.size = w.heap.size + 3 := by rw [← hW3]; simp
  rw [hW3] at a1 a2 a3 ab ⊢
  clear hW3
  obtain ⟨h4, t4, m4⟩ := two_TmL (w0 := w) ((H.below ab).alloc (.cells #[.int .i64 t.k, .int .i64 t.n, .string t.nm, .slice A t.ar.length cap, .int .i64 s.k, .int .i64 s.n, .string s.nm, .slice A' s.ar.length cap'] 34)) (blk_new _ _) r0 rs0 (by omega)
  rw [s3] at t4
  refine (raws_calls [t, s] _ _ h4 m4.has ⟨_, 2, rfl, by simp, by simp [lim], t4⟩).mono ?_
  rintro e w1 ⟨rfl, k1⟩
  have kk := below_then (ab.alloc ab.size (.cells #[.int .i64 t.k, .int .i64 t.n, .string t.nm, .slice A t.ar.length cap, .int .i64 s.k, .int .i64 s.n, .string s.nm, .slice A' s.ar.length cap'] 34)) k1 (by simp; omega)
  have kw : Below W3.heap.size W3 w1 := below_then ((Below.refl _ W3).alloc (Nat.le_refl _) (.cells #[.int .i64 t.k, .int .i64 t.n, .string t.nm, .slice A t.ar.length cap, .int .i64 s.k, .int .i64 s.n, .string s.nm, .slice A' s.ar.length cap'] 34)) k1 (by simp)
  have b1 := box_below a1 kw
  have b2 := box_below a2 kw
  have b4 := box_below a3 kw
  have l4 := blk_lt b4
  have f4 := blk_frozen b4
  have x4 := box4 b4
  by_cases q : rawsP [t, s] = 0
  · have q' : (rawsP [t, s] != 0) = false := by simp [q]
    have hin := Lib.hid (ho'.out.resolve_left (fun h => h.1 q)).2
    have hnz : Hid (∀ c, o = .inl c → c ≠ 0) := Lib.hid (fun c hc => by
      obtain ⟨f, o1, e1, e2, rfl⟩ := hin.out
      exact finS_nz e1 hc)
    clear q ho'
    go_wp2_with fail
    refine (made_calls 97 _ _ h (H.below kk) o hnz.out (enters_ Tryz.func97 (by kernel_rfl) rfl) (fun W hW => by
      obtain ⟨f, o1, e1, e2, rfl⟩ := hin.out
      exact substfn_calls f t s o1 _ _ _ _ W h ((H.below kk).below hW) r0 rs0 e1 e2 (box_below b1 hW) (box_below b2 hW))).mono ?_
    rintro e w3 ⟨k3, cs', h', rfl, r', m'⟩
    have kk3 := below_then kk k3 kk.size
    obtain ⟨A1, c1, rfl, _⟩ := r'.open_
    have c4 := box_below b4 k3
    have l4 := blk_lt c4
    have f4 := blk_frozen c4
    have x4 := box4 c4
    go_wp2_with fail
    obtain ⟨W5, hW5, b5, kp5⟩ : ∃ W5, ((((w3.setCell ⟨w.heap.size + 1 + 1, 0, none⟩ (.int .i64 (tmS o).k)).setCell ⟨w.heap.size + 1 + 1, 1, none⟩ (.int .i64 (tmS o).n)).setCell ⟨w.heap.size + 1 + 1, 2, none⟩ (.string (tmS o).nm)).setCell ⟨w.heap.size + 1 + 1, 3, none⟩ (.slice A1 (tmS o).ar.length c1)) = W5 ∧
        W5.heap[w.heap.size + 1 + 1]? = some (.cells #[.int .i64 (tmS o).k, .int .i64 (tmS o).n, .string (tmS o).nm, .slice A1 (tmS o).ar.length c1] 34) ∧ Kp (fun q => q = w.heap.size + 1 + 1) w3 W5 := ⟨_, rfl, (set4 c4 _ _ _ _).1, (set4 c4 _ _ _ _).2⟩
    rw [hW5]
    have x5 := box4 b5
    refine bodyPost_ret (v := .tuple #[.agg #[.int .i64 (tmS o).k, .int .i64 (tmS o).n, .string (tmS o).nm, .slice A1 (tmS o).ar.length c1], .int .i64 (codeS o)]) (by simp [results, Tryz.results28, go_sem, x5]) rfl ?_
    have hs1 := kw.size
    exact ⟨((Kp.of_below (fun q => q = w.heap.size + 1 + 1) kk3).trans kp5 (fun i hi e => e)).below (fun i hi e => by omega), _, h', rfl, r', ((m'.from_ kk.size).world (m'.has.kp kp5 (m'.off (H.off_new (fun k hk => by omega)) (fun k hk => by omega))))⟩
  · have G : o = .inl (rawsP [t, s]) := by
      rcases ho'.out with h | h
      · exact h.2
      · exact absurd h.1 q
    have q' : (rawsP [t, s] != 0) = true := by simp [q]
    clear q ho'
    generalize rawsP [t, s] = x at *
    go_wp2_with fail
    obtain ⟨W5, hW5, b5, kp5⟩ : ∃ W5, ((((w1.setCell ⟨w.heap.size + 1 + 1, 0, none⟩ (.int .i64 0)).setCell ⟨w.heap.size + 1 + 1, 1, none⟩ (.int .i64 0)).setCell ⟨w.heap.size + 1 + 1, 2, none⟩ (.string ⟨#[]⟩)).setCell ⟨w.heap.size + 1 + 1, 3, none⟩ (.slice none 0 0)) = W5 ∧
        W5.heap[w.heap.size + 1 + 1]? = some (.cells #[.int .i64 0, .int .i64 0, .string ⟨#[]⟩, .slice none 0 0] 34) ∧ Kp (fun q => q = w.heap.size + 1 + 1) w1 W5 := ⟨_, rfl, (set4 b4 _ _ _ _).1, (set4 b4 _ _ _ _).2⟩
    rw [hW5]
    have x5 := box4 b5
    have hb5 : Below w.heap.size w W5 := ((Kp.of_below (fun q => q = w.heap.size + 1 + 1) kk).trans kp5 (fun i hi e => e)).below (fun i hi e => by omega)
    refine bodyPost_ret (v := .tuple #[.agg #[.int .i64 0, .int .i64 0, .string ⟨#[]⟩, .slice none 0 0], .int .i64 x]) (by simp [results, Tryz.results28, go_sem, x5]) rfl ?_
    subst G
    exact ⟨hb5, _, h, rfl, tm0_R h, Mk.refl (H.below hb5)⟩
end Go.Proofs.YtpgbeapojjinmaaGreatDoor
namespace Go.Proofs.YtpgbeapojjinmaaGreatDoor
open Go.RowKit Go.Shelf Go.Proofs.YtpgbeapojjinmaaGreatDoorW.PrintLast
set_option maxRecDepth 100000 in
set_option maxHeartbeats 4000000 in
theorem raised2_calls (w : World) : Calls Tryz.prog 102 #[] w fun e w' => e = .returned (.func (.func 172) #[] #[.pointer (some ⟨w.heap.size + 1, 0, none⟩)]) ∧ w' = (w.alloc (.map #[] 0)).alloc (.cells #[.map (some w.heap.size)] 194) := by
  have hmf := run_mf
  have hmm := @run_makeMap Tryz.prog
  go_enter Tryz.func102, Tryz.ntmps102
  go_wp2_with fail
  go_ret
  exact ⟨rfl, rfl⟩
set_option maxRecDepth 100000 in
set_option maxHeartbeats 4000000 in
theorem up0_calls (t : Tm) (x y : Value) (bk : Value) (cs : List Value) (w : World) (h : Snap) (H : Has w h) (r : TmR h t cs) : Calls Tryz.prog 172 #[.agg #[x, y], .agg cs.toArray, .int .i64 0, bk] w fun e w' => e = .returned (.agg cs.toArray) ∧ Below w.heap.size w w' := by
  obtain ⟨A, cap, rfl, hl, hlm, hk1, hn1, hr⟩ := r.open_
  have hu34 := Tryz.underlying34
  have hb : Below w.heap.size w ((((w.alloc (.cells #[x, y] 134)).alloc (.cells #[.int .i64 t.k, .int .i64 t.n, .string t.nm, .slice A t.ar.length cap] 34)).alloc (.cells #[.int .i64 0] 3)).alloc (.cells #[.int .i64 t.k, .int .i64 t.n, .string t.nm, .slice A t.ar.length cap] 34)) :=
    ((((Below.refl _ w).alloc (Nat.le_refl _) _).alloc (by simp) _).alloc (by simp <;> omega) _).alloc (by simp <;> omega) _
  go_enter Tryz.func172, Tryz.ntmps172
  go_wp2_with fail
  refine bodyPost_ret (v := .agg #[.int .i64 t.k, .int .i64 t.n, .string t.nm, .slice A t.ar.length cap]) (by simp [results, Tryz.results172, go_sem]) rfl ?_
  exact ⟨rfl, hb⟩
/-- The head of Put. -/
def putHd (l : List Tm) (t : Tm) (b : Int) : Option Tm × Int := if t.k ≠ 4 ∨ l.length ≤ t.n then (none, t.n) else (some (l.getD t.n.toNat tm0), 0)
/-- What Put keeps in memory. -/
structure PutI (l : List Tm) (bl bu bk : Nat) (h : Snap) (W : World) : Prop where
  bx : ∃ sv, W.heap[bl]? = some (.cells #[sv] 32) ∧ TmS h l sv
  fn : W.heap[bu]? = some (.cells #[.func (.func 172) #[] #[.pointer (some ⟨bk, 0, none⟩)]] 132)
theorem PutI.kp {l : List Tm} {bl bu bk : Nat} {h h' : Snap} {W W' : World} {S : Nat → Prop} (i : PutI l bl bu bk h W) (k : Kp S W W') (h1 : ¬ S bl) (h2 : ¬ S bu) (hs : Sub h h') : PutI l bl bu bk h' W' := by
  obtain ⟨⟨sv, b1, r⟩, f⟩ := i
  exact ⟨⟨sv, blk_kp b1 k h1, r.sub hs⟩, blk_kp f k h2⟩
set_option maxRecDepth 100000 in
set_option maxHeartbeats 8000000 in
theorem putHd_calls (l : List Tm) (bl bu bk bc N0 : Nat) (hN : bl < N0 ∧ bu < N0) (hn : bl ≠ bc ∧ bu ≠ bc) :
    HeadW (fun b t => decide (b = 0 ∧ 0 ≤ t.n)) (putHd l) 104 #[.pointer (some ⟨bl, 0, none⟩), .pointer (some ⟨bu, 0, none⟩)] bc N0 (fun _ => False) (PutI l bl bu bk) := by
  refine ⟨?_, enters_ Tryz.func104 (by kernel_rfl) rfl, fun h h' W W' T i k hT hs => i.kp k (fun q => by have := hT _ q; omega) (fun q => by have := hT _ q; omega) hs, fun h W H i => Off.none h, fun q e => e.elim⟩
  intro t cs b W h _ hb H r hi
  have hb' : b = 0 ∧ 0 ≤ t.n := by simpa using hb
  clear hb
  obtain ⟨rfl, hn0⟩ := hb'
  have r0 := r
  obtain ⟨A, cap, rfl, hl, hlm, hk1, hn1, hr⟩ := r.open_
  have hu34 := Tryz.underlying34
  obtain ⟨a1, a2, ab⟩ := alloc2 W (.cells #[.int .i64 t.k, .int .i64 t.n, .string t.nm, .slice A t.ar.length cap] 34) (.cells #[.int .i64 0, .int .i64 0, .string ⟨#[]⟩, .slice none 0 0] 34)
  have hv : putHd l t 0 = if t.k ≠ 4 ∨ l.length ≤ t.n then (none, t.n) else (some (l.getD t.n.toNat tm0), 0) := rfl
  obtain ⟨hd, hhd⟩ : ∃ hd, putHd l = hd := ⟨_, rfl⟩
  rw [hhd] at hv ⊢
  clear hhd
  generalize t.k = k at *
  generalize t.n = n at *
  generalize t.nm = nm at *
  generalize t.ar.length = len at *
  have haA := blk_lt a1
  have haB := blk_lt a2
  obtain ⟨W0, hW0⟩ : ∃ W0, ((W.alloc (.cells #[.int .i64 k, .int .i64 n, .string nm, .slice A len cap] 34)).alloc (.cells #[.int .i64 0, .int .i64 0, .string ⟨#[]⟩, .slice none 0 0] 34)) = W0 := ⟨_, rfl⟩
  have sz0 : W0.heap.size = W.heap.size + 2 := by rw [← hW0]; simp
  rw [hW0] at a1 a2 ab haA haB
  have hi0 := hi.kp (Kp.of_below (fun _ => False) ab) (fun h => h) (fun h => h) (Sub.refl h)
  obtain ⟨sv, xl, rl⟩ := hi.bx
  obtain ⟨Al, cl, rfl, hll, hlm2, hrl⟩ := id rl
  have clw := box1 xl
  have cuw := box1 hi.fn
  have cl1 := box1 (box_below xl ab)
  have cu1 := box1 hi0.fn
  have ll := blk_lt xl
  have lu := blk_lt hi.fn
  have hW0' := Lib.hid hW0
  have sz0' := Lib.hid sz0
  have x1 := box4 a1
  have x2 := box4 a2
  have f2 := blk_frozen a2
  have hr0 : TmR h tm0 [.int .i64 0, .int .i64 0, .string ⟨#[]⟩, .slice none 0 0] := tm0_R h
  obtain ⟨W4, hW4, b4, kp4⟩ : ∃ W4, (((((W0.setCell ⟨W.heap.size + 1, 0, none⟩ (.int .i64 0)).setCell ⟨W.heap.size + 1, 1, none⟩ (.int .i64 0)).setCell ⟨W.heap.size + 1, 2, none⟩ (.string ⟨#[]⟩)).setCell ⟨W.heap.size + 1, 3, none⟩ (.slice none 0 0)).drew) = W4 ∧
      W4.heap[W.heap.size + 1]? = some (.cells #[.int .i64 0, .int .i64 0, .string ⟨#[]⟩, .slice none 0 0] 34) ∧ Kp (fun q => q = W.heap.size + 1) W0 W4 := ⟨_, rfl, (set4 a2 _ _ _ _).1, ((set4 a2 (.int .i64 0) (.int .i64 0) (.string ⟨#[]⟩) (.slice none 0 0)).2).drew⟩
  have hW4' := Lib.hid hW4
  clear hW4
  have y4 := box4 b4
  have bel4 : Below W.heap.size W W4 := ((Kp.of_below (fun q => q = W.heap.size + 1) ab).trans kp4 (fun i hi e => e)).below (fun i hi e => by omega)
  have hi4 := Lib.hid (hi.kp (Kp.of_below (fun _ => False) bel4) (fun h => h) (fun h => h) (Sub.refl h))
  have xc4 : ∀ v, W0.cell? ⟨W.heap.size, 1, none⟩ = some v → W4.cell? ⟨W.heap.size, 1, none⟩ = some v := fun v e => cell_kp e kp4 (by simp)
  have xc4' := Lib.hid xc4
  clear xc4 sz0 hW0
  have hi0' := Lib.hid hi0
  have hi' := Lib.hid hi
  by_cases q : k ≠ 4 ∨ l.length ≤ n
  · rw [if_pos q] at hv
    replace hv := Lib.hid hv
    rcases (show ((k != 4) = false ∧ l.length ≤ n) ∨ ((k != 4) = true ∧ True) by
      by_cases e : k = 4
      · exact .inl ⟨by simp [e], q.resolve_left (fun h => h e)⟩
      · exact .inr ⟨by simp [e], trivial⟩) with ⟨q1, q2⟩ | ⟨q1, q2⟩
    all_goals clear q
    all_goals clear hi hi0
    all_goals go_enter Tryz.func104, Tryz.ntmps104
    all_goals (go_wp2_with fail)
    all_goals
      rw [hW0'.out]
      refine rgs 6 (fun V => V.cell? ⟨W.heap.size, 1, none⟩ = some (.int .i64 n)) [] rfl ?_ (fun hS => ?_)
      · go_simp
      refine rgt 0 (.agg #[.int .i64 0, .int .i64 0, .string ⟨#[]⟩, .slice none 0 0]) rfl (by kernel_rfl) (fun _ _ _ h => h) rfl hS (fun V hV => by go_simp) ?_
      refine rgt 1 (.pointer (some ⟨W.heap.size, 1, none⟩)) rfl (by kernel_rfl) (fun _ _ _ h => h) rfl hS (fun V hV => by go_simp) ?_
      refine rgt 2 (.int .i64 n) rfl (by kernel_rfl) (fun _ _ _ h => h) rfl hS (fun V hV => by go_simp) ?_
      refine rg1 3 rfl (by kernel_rfl) (by decide) rfl (fun K hK => ?_)
      go_simp
      rw [hW4'.out]
      refine hK.out _ _ (xc4'.out _ hS) (fun hS => ?_)
      refine rgt 4 (.bool false) rfl (by kernel_rfl) (fun _ _ _ h => h) rfl hS (fun V hV => by go_simp) ?_
      refine rgt 5 (.int .i64 n) rfl (by kernel_rfl) (fun _ _ _ h => h) rfl hS (fun V hV => by go_simp) ?_
      refine rgd (by kernel_rfl) ?_
      go_wp2_with fail
      refine bodyPost_ret (v := .tuple #[.agg #[.int .i64 0, .int .i64 0, .string ⟨#[]⟩, .slice none 0 0], .bool false, .int .i64 n]) (by simp [results, Tryz.results104, go_sem, y4]) rfl ?_
      exact ⟨Kp.of_below _ bel4, by rw [hv.out]; exact hn1, _, h, by rw [hv.out]; rfl, by rw [hv.out]; exact hr0, Mk.refl (H.below bel4), hi4.out⟩
  · rw [if_neg q] at hv
    replace hv := Lib.hid hv
    obtain ⟨j, rfl⟩ : ∃ j : Nat, n = j := Int.eq_ofNat_of_zero_le hn0
    have q1 : (k != 4) = false := by simp; omega
    have q2 : j < l.length := by omega
    have q3 : ¬ ((l.length : Int) ≤ j) := by omega
    clear q
    obtain ⟨b', o', A', c', rfl, e0, e1, e2, e3, rt⟩ := hrl.get j q2
    have hg : Hid (hd t 0 = (some l[j], 0)) := Lib.hid (by rw [hv.out]; simp [q2])
    clear hv
    have hwW := H.below ab
    have hc0 := hwW.cell _ _ e0
    have hc1 := hwW.cell _ _ e1
    have hc2 := hwW.cell _ _ e2
    have hc3 := hwW.cell _ _ e3
    have lb' := H.lt e0
    have rt' := Lib.hid rt
    have hE := Lib.hid (And.intro e0 (And.intro e1 (And.intro e2 e3)))
    generalize l[j] = X at *
    clear hi hi0 rt e0 e1 e2 e3
    have hw0 := Lib.hid hwW
    go_enter Tryz.func104, Tryz.ntmps104
    go_wp2_with fail
    rw [hW0'.out]
    refine rgs 15 (fun V => V.cell? ⟨W.heap.size, 1, none⟩ = some (.int .i64 (j : Int)) ∧ V.cell? ⟨bu, 0, none⟩ = some (.func (.func 172) #[] #[.pointer (some ⟨bk, 0, none⟩)]) ∧ V.cell? ⟨bl, 0, none⟩ = some (.slice (some ⟨b', o', none⟩) l.length cl) ∧
      (V.cell? ⟨b', o' + j * 4, none⟩ = some (.int .i64 X.k) ∧ V.cell? ⟨b', o' + j * 4 + 1, none⟩ = some (.int .i64 X.n) ∧ V.cell? ⟨b', o' + j * 4 + 2, none⟩ = some (.string X.nm) ∧ V.cell? ⟨b', o' + j * 4 + 3, none⟩ = some (.slice A' X.ar.length c'))) [] rfl ⟨?_, cu1, cl1, hc0, hc1, hc2, hc3⟩ (fun hS => ?_)
    · go_simp
    refine rgt 0 (.func (.func 172) #[] #[.pointer (some ⟨bk, 0, none⟩)]) rfl (by kernel_rfl) (fun _ _ _ h => h) rfl hS (fun V hV => by obtain ⟨p1, p2, p3, p4⟩ := hV; go_simp) ?_
    refine rgt 1 (.pointer (some ⟨W.heap.size, 1, none⟩)) rfl (by kernel_rfl) (fun _ _ _ h => h) rfl hS (fun V hV => by go_simp) ?_
    refine rgt 2 (.int .i64 (j : Int)) rfl (by kernel_rfl) (fun _ _ _ h => h) rfl hS (fun V hV => by obtain ⟨p1, p2, p3, p4⟩ := hV; go_simp) ?_
    refine rgt 3 (.int .i64 0) rfl (by kernel_rfl) (fun _ _ _ h => h) rfl hS (fun V hV => by go_simp) ?_
    refine rgt 4 (.agg #[.int .i64 (j : Int), .int .i64 0]) rfl (by kernel_rfl) (fun _ _ _ h => h) rfl hS (fun V hV => by go_simp) ?_
    refine rgt 5 (.slice (some ⟨b', o', none⟩) l.length cl) rfl (by kernel_rfl) (fun _ _ _ h => h) rfl hS (fun V hV => by obtain ⟨p1, p2, p3, p4⟩ := hV; go_simp) ?_
    refine rgt 6 (.pointer (some ⟨W.heap.size, 1, none⟩)) rfl (by kernel_rfl) (fun _ _ _ h => h) rfl hS (fun V hV => by go_simp) ?_
    refine rgt 7 (.int .i64 (j : Int)) rfl (by kernel_rfl) (fun _ _ _ h => h) rfl hS (fun V hV => by obtain ⟨p1, p2, p3, p4⟩ := hV; go_simp) ?_
    refine rgt 8 (.pointer (some ⟨b', o' + j * 4, none⟩)) rfl (by kernel_rfl) (fun _ _ _ h => h) rfl hS (fun V hV => by obtain ⟨p1, p2, p3, p4⟩ := hV; go_simp) ?_
    refine rgt 9 (.agg #[.int .i64 X.k, .int .i64 X.n, .string X.nm, .slice A' X.ar.length c']) rfl (by kernel_rfl) (fun _ _ _ h => h) rfl hS (fun V hV => by obtain ⟨p1, p2, p3, p4, p5, p6, p7⟩ := hV; go_simp) ?_
    refine rgt 10 (.int .i64 0) rfl (by kernel_rfl) (fun _ _ _ h => h) rfl hS (fun V hV => by go_simp) ?_
    refine rg1 11 rfl (by kernel_rfl) (by decide) rfl (fun K hK => ?_)
    go_simp
    refine (up0_calls X _ _ _ _ W0.drew h hw0.out.drew rt'.out).mono ?_
    rintro e w1 ⟨rfl, k1⟩
    have kb := undrew k1
    have e2 := box_below a2 kb
    have g2 := blk_frozen e2
    have l2 := blk_lt e2
    have z2 := box4 e2
    have hw1 := hw0.out.below kb
    have bel1 := below_then ab kb ab.size
    simp only []
    refine hK.out _ _ ?_ (fun hS => ?_)
    · obtain ⟨p1, p2, p3, p4, p5, p6, p7⟩ := hS
      exact ⟨cell_below p1 k1, cell_below p2 k1, cell_below p3 k1, cell_below p4 k1, cell_below p5 k1, cell_below p6 k1, cell_below p7 k1⟩
    refine rg1 12 rfl (by kernel_rfl) (by decide) rfl (fun K hK => ?_)
    go_simp
    obtain ⟨W5, hW5, b5, kp5⟩ : ∃ W5, ((((w1.setCell ⟨W.heap.size + 1, 0, none⟩ (.int .i64 X.k)).setCell ⟨W.heap.size + 1, 1, none⟩ (.int .i64 X.n)).setCell ⟨W.heap.size + 1, 2, none⟩ (.string X.nm)).setCell ⟨W.heap.size + 1, 3, none⟩ (.slice A' X.ar.length c')) = W5 ∧
        W5.heap[W.heap.size + 1]? = some (.cells #[.int .i64 X.k, .int .i64 X.n, .string X.nm, .slice A' X.ar.length c'] 34) ∧ Kp (fun q => q = W.heap.size + 1) w1 W5 := ⟨_, rfl, (set4 e2 _ _ _ _).1, (set4 e2 _ _ _ _).2⟩
    rw [hW5]
    refine hK.out _ _ ?_ (fun hS => ?_)
    · obtain ⟨p1, p2, p3, p4, p5, p6, p7⟩ := hS
      exact ⟨cell_kp p1 kp5 (by simp), cell_kp p2 kp5 (by simp; omega), cell_kp p3 kp5 (by simp; omega), cell_kp p4 kp5 (by simp; omega), cell_kp p5 kp5 (by simp; omega), cell_kp p6 kp5 (by simp; omega), cell_kp p7 kp5 (by simp; omega)⟩
    refine rgt 13 (.bool true) rfl (by kernel_rfl) (fun _ _ _ h => h) rfl hS (fun V hV => by go_simp) ?_
    refine rgt 14 (.int .i64 0) rfl (by kernel_rfl) (fun _ _ _ h => h) rfl hS (fun V hV => by go_simp) ?_
    refine rgd (by kernel_rfl) ?_
    have x5 := box4 b5
    go_wp2_with fail
    refine bodyPost_ret (v := .tuple #[.agg #[.int .i64 X.k, .int .i64 X.n, .string X.nm, .slice A' X.ar.length c'], .bool true, .int .i64 0]) (by simp [results, Tryz.results104, go_sem, x5]) rfl ?_
    have bel5 : Below W.heap.size W W5 := ((Kp.of_below (fun q => q = W.heap.size + 1) bel1).trans kp5 (fun i hi e => e)).below (fun i hi e => by omega)
    exact ⟨Kp.of_below _ bel5, by rw [hg.out]; simp, _, h, by rw [hg.out]; rfl, by rw [hg.out]; exact rt'.out, Mk.refl (H.below bel5), hi'.out.kp (Kp.of_below (fun _ => False) bel5) (fun h => h) (fun h => h) (Sub.refl h)⟩
end Go.Proofs.YtpgbeapojjinmaaGreatDoor
namespace Go.Proofs.YtpgbeapojjinmaaGreatDoor
open Go.RowKit Go.Shelf Go.Proofs.YtpgbeapojjinmaaGreatDoorW.PrintLast
set_option maxRecDepth 100000 in
set_option maxHeartbeats 4000000 in
theorem putfn_calls (f : Nat) (l : List Tm) (t : Tm) (o : Sum Int (Tm × Int)) (ct : List Value) (sv : Value) (bt bl : Nat) (w : World) (h : Snap) (H : Has w h) (r : TmR h t ct) (rs : TmS h l sv) (he : runW f (.rep (putHd l) 0 t 0) = some o) (hb : bokT (fun b t => decide (b = 0 ∧ 0 ≤ t.n)) 0 t = true) (hz : t.ld ≤ 1000000) (hsz : ∀ u c, o = .inr (u, c) → u.ld ≤ 1000000000)
    (ht : w.heap[bt]? = some (.cells ct.toArray 34)) (hs : w.heap[bl]? = some (.cells #[sv] 32)) :
    Calls Tryz.prog 101 #[.pointer (some ⟨bt, 0, none⟩), .pointer (some ⟨bl, 0, none⟩)] w (MadeTm w h (finS o)) := by
  have hmf := run_mf
  have r0 := r
  obtain ⟨A, cap, rfl, hl, hlm, hk1, hn1, hr⟩ := r.open_
  have hu34 := Tryz.underlying34
  have xt := box4 ht
  have lt := blk_lt ht
  have ls := blk_lt hs
  have he' := Lib.hid he
  have hsz' := Lib.hid hsz
  clear he hsz
  obtain ⟨O, hO⟩ : ∃ O, finS o = O := ⟨_, rfl⟩
  rw [hO]
  replace hO := Lib.hid hO
  obtain ⟨a1, a1b⟩ := alloc1 w (.cells #[.int .i64 0, .int .i64 0, .string ⟨#[]⟩, .slice none 0 0] 34)
  go_enter Tryz.func101, Tryz.ntmps101
  go_wp2_with fail
  refine (raised2_calls _).mono ?_
  rintro e w1 ⟨rfl, hw1⟩
  obtain ⟨W3, hW3⟩ : ∃ W3, (w1.alloc (.cells #[.func (.func 172) #[] #[.pointer (some ⟨w.heap.size + 2, 0, none⟩)]] 132)).alloc (.cells #[.int .i64 0] 129) = W3 := ⟨_, rfl⟩
  have sz1 : w1.heap.size = w.heap.size + 3 := by rw [hw1]; simp
  have ab1 : Below w.heap.size w w1 := by rw [hw1]; exact (a1b.alloc (by simp) _).alloc (by simp <;> omega) _
  have ab : Below w.heap.size w W3 := by rw [← hW3]; exact (ab1.alloc (by omega) _).alloc (by simp <;> omega) _
  have c1 : W3.heap[w.heap.size]? = some (.cells #[.int .i64 0, .int .i64 0, .string ⟨#[]⟩, .slice none 0 0] 34) := by rw [← hW3, hw1]; exact blk_alloc (blk_alloc (blk_alloc (blk_alloc a1 _) _) _) _
  have c3 : W3.heap[w.heap.size + 3]? = some (.cells #[.func (.func 172) #[] #[.pointer (some ⟨w.heap.size + 2, 0, none⟩)]] 132) := by rw [← hW3, ← sz1]; exact blk_alloc (blk_new _ _) _
  have c4 : W3.heap[w.heap.size + 4]? = some (.cells #[.int .i64 0] 129) := by rw [← hW3, show w.heap.size + 4 = (w1.alloc (.cells #[.func (.func 172) #[] #[.pointer (some ⟨w.heap.size + 2, 0, none⟩)]] 132)).heap.size by simp; omega]; exact blk_new _ _
  have sz3 : W3.heap.size = w.heap.size + 5 := by rw [← hW3]; simp; omega
  have y3 := box4 (box_below ht ab)
  have y1 := box4 (box_below ht ab1)
  have lt1 : bt < w1.heap.size := by omega
  simp only [World.size_alloc] at *
  clear hw1
  go_wp2_with fail
  have HW := putHd_calls l bl (w.heap.size + 3) (w.heap.size + 2) (w.heap.size + 4) (w.heap.size + 4) (by omega) (by omega)
  have has3 := H.below ab
  refine (rep_ok f _ _ _ _ _ _ _ _ HW 0 t 0 o _ W3 h (by omega) has3 r0 (H.off_new (fun q e => by have : q = w.heap.size + 4 := e; omega)) ⟨⟨sv, box_below hs ab, rs⟩, c3⟩ c4 hb (by omega) he'.out).mono ?_
  rintro e w2 ⟨k2, hm⟩
  have kk : Below w.heap.size w w2 := ((Kp.of_below (fun q => q = w.heap.size + 4) ab).trans k2 (fun q hq e => e.resolve_right (fun hf => hf))).below (fun i hi => by omega)
  have b4 := blk_kp c1 k2 (fun e => by rcases e with e | e; omega; exact e)
  rcases o with x | ⟨u, c'⟩
  · subst hm
    have f0 : .inl x = O := hO.out
    subst f0
    exact ⟨rfl, kk, rfl⟩
  · obtain ⟨cs', h', rfl, r', m', _, _⟩ := hm
    have huz := hsz'.out u c' rfl
    have f0 : wholeS u = O := hO.out
    have r1 := r'
    obtain ⟨A1, c5, rfl, _⟩ := r'.open_
    clear y3 c1 c3 c4
    go_wp2_with fail
    refine (whole_calls u _ _ h' m'.has r1 huz).mono ?_
    rintro e w4 ⟨k4, hm2⟩
    have kk2 := below_then kk k4 kk.size
    have b5 := box_below b4 k4
    rw [f0] at hm2
    clear hO f0
    rcases O with x | v
    · subst hm2
      exact ⟨rfl, kk2, rfl⟩
    · obtain ⟨cs2, h2, rfl, r2, m2⟩ := hm2
      obtain ⟨A2, c2, rfl, _⟩ := r2.open_
      have l5 := blk_lt b5
      have f5 := blk_frozen b5
      have x5 := box4 b5
      go_wp2_with fail
      obtain ⟨W5, hW5, b6, kp5⟩ : ∃ W5, ((((w4.setCell ⟨w.heap.size, 0, none⟩ (.int .i64 v.k)).setCell ⟨w.heap.size, 1, none⟩ (.int .i64 v.n)).setCell ⟨w.heap.size, 2, none⟩ (.string v.nm)).setCell ⟨w.heap.size, 3, none⟩ (.slice A2 v.ar.length c2)) = W5 ∧
          W5.heap[w.heap.size]? = some (.cells #[.int .i64 v.k, .int .i64 v.n, .string v.nm, .slice A2 v.ar.length c2] 34) ∧ Kp (fun q => q = w.heap.size) w4 W5 := ⟨_, rfl, (set4 b5 _ _ _ _).1, (set4 b5 _ _ _ _).2⟩
      rw [hW5]
      have x6 := box4 b6
      refine bodyPost_ret (v := .agg #[.int .i64 v.k, .int .i64 v.n, .string v.nm, .slice A2 v.ar.length c2]) (by simp [results, Tryz.results101, go_sem, x6]) rfl ?_
      have mm := m'.trans m2 (by have := k2.size; omega)
      exact ⟨((Kp.of_below (fun q => q = w.heap.size) kk2).trans kp5 (fun i hi e => e)).below (fun i hi e => by omega), _, h2, rfl, r2, (mm.from_ (w0 := w) (by omega)).world (mm.has.kp kp5 (mm.off (H.off_new (fun k hk => by omega)) (fun k hk => by omega)))⟩
/-- What Put answers for one term. -/
structure PutIs (t x : Tm) (o : Sum Int Tm) : Prop where
  raw : rawsP [t, x] = 0
  run : ∃ f o1, runW f (.rep (putHd [x]) 0 t 0) = some o1 ∧ (∀ u c, o1 = .inr (u, c) → u.ld ≤ 1000000000) ∧ o = finS o1
  bok : bokT (fun b t => decide (b = 0 ∧ 0 ≤ t.n)) 0 t = true
  sz : t.sz ≤ 1000000
theorem one_own (w : World) (c0 c1 c2 c3 : Value) : (w.alloc (.cells #[c0, c1, c2, c3] 34)).ownsRow w.heap.size 34 4 (.slice (some ⟨w.heap.size, 0, none⟩) 1 1) 1 [c0, c1, c2, c3] :=
  ⟨rfl, .inr ⟨w.heap.size, 1, #[c0, c1, c2, c3], rfl, Nat.le_refl _, blk_new _ _, by omega, by simp [maxLen], rfl, rfl⟩⟩
set_option maxRecDepth 100000 in
set_option maxHeartbeats 4000000 in
theorem Put_calls (t x : Tm) (o : Sum Int Tm) (ct : List Value) (g : Nat) (B : Option Addr) (d : Nat) (w : World) (h : Snap) (H : Has w h) (r : TmR h t ct)
    (hg : w.heap[g]? = some (.cells #[.int .i64 x.k, .int .i64 x.n, .string x.nm, .slice B x.ar.length d] 34)) (rx : TmR h x [.int .i64 x.k, .int .i64 x.n, .string x.nm, .slice B x.ar.length d]) (rl : TmS h [x] (.slice (some ⟨g, 0, none⟩) 1 1)) (ho : PutIs t x o) :
    Calls Tryz.prog 30 #[.agg ct.toArray, .slice (some ⟨g, 0, none⟩) 1 1] w (MadeRes w h o) := by
  have hmf := run_mf
  have r0 := r
  obtain ⟨A, cap, rfl, hl, hlm, hk1, hn1, hr⟩ := r.open_
  have hu34 := Tryz.underlying34
  have hu32 := Tryz.underlying32
  obtain ⟨a1, a2, a3, ab⟩ := alloc3 w (.cells #[.int .i64 t.k, .int .i64 t.n, .string t.nm, .slice A t.ar.length cap] 34) (.cells #[.slice (some ⟨g, 0, none⟩) 1 1] 32) (.cells #[.int .i64 0, .int .i64 0, .string ⟨#[]⟩, .slice none 0 0] 34)
  have ho' := Lib.hid ho
  clear ho
  have lg := blk_lt hg
  obtain ⟨W3, hW3⟩ : ∃ W3, ((w.alloc (.cells #[.int .i64 t.k, .int .i64 t.n, .string t.nm, .slice A t.ar.length cap] 34)).alloc (.cells #[.slice (some ⟨g, 0, none⟩) 1 1] 32)).alloc (.cells #[.int .i64 0, .int .i64 0, .string ⟨#[]⟩, .slice none 0 0] 34) = W3 := ⟨_, rfl⟩
  have s3 : W3.heap.size = w.heap.size + 3 := by rw [← hW3]; simp
  rw [hW3] at a1 a2 a3 ab
  have hg4 := blk_alloc (box_below hg ab) (.cells #[.int .i64 t.k, .int .i64 t.n, .string t.nm, .slice A t.ar.length cap] 34)
  have own1 := one_own W3 (.int .i64 t.k) (.int .i64 t.n) (.string t.nm) (.slice A t.ar.length cap)
  rw [s3] at own1
  have y1 := box4 a1
  have y2 := box1 a2
  have l1 := blk_lt a1
  have l2 := blk_lt a2
  go_enter Tryz.func30, Tryz.ntmps30
  go_wp2_with (refine app34L rfl _ _ rfl rfl own1 rfl hg4 (by simp [lim]) (by simp; omega) ?_; intro sv2 w2 hown2 hg2 hat; obtain ⟨A2, c2, rfl⟩ := own_form hown2)
  have ch : Chunks (TmR h) 4 ([] ++ [t] ++ [x]) (([] ++ [.int .i64 t.k, .int .i64 t.n, .string t.nm, .slice A t.ar.length cap]) ++ [.int .i64 x.k, .int .i64 x.n, .string x.nm, .slice B x.ar.length d]) := (Chunks.nil.snoc r0 rfl).snoc rx rfl
  have kg : Kp (fun q => q = w.heap.size + 3) (W3.alloc (.cells #[.int .i64 t.k, .int .i64 t.n, .string t.nm, .slice A t.ar.length cap] 34)) w2 := (Kp.refl _ _).grown (row := some (w.heap.size + 3)) hg2 (fun q e => .inl (Option.some.inj e).symm)
  have kw : Below W3.heap.size W3 w2 := (((Kp.refl (fun q => q = w.heap.size + 3) W3).alloc _).trans kg (fun q hq e => e)).below (fun i hi e => by omega)
  have kb := below_then ab kw ab.size
  have has2 := H.below kb
  obtain ⟨h4, A4, c4, e4, hn4, hc4, hr4, m4, _⟩ := own_Tm (w0 := w) has2 (by omega) hown2 ch
  cases e4
  refine (raws_calls [t, x] _ _ h4 m4.has ⟨A2, c2, rfl, by simpa using hc4, by simp [lim], hr4⟩).mono ?_
  rintro e w4 ⟨rfl, k4⟩
  have kk := below_then kb k4 kb.size
  have kv := below_then kw k4 kw.size
  have b1 := box_below a1 kv
  have b2 := box_below a2 kv
  have b4 := box_below a3 kv
  have l4 := blk_lt b4
  have f4 := blk_frozen b4
  have q' : (rawsP [t, x] != 0) = false := by rw [ho'.out.raw]; rfl
  have hnz : Hid (∀ c, o = .inl c → c ≠ 0) := Lib.hid (fun c hc => by
    obtain ⟨f, o1, e1, e2, rfl⟩ := ho'.out.run
    exact finS_nz e1 hc)
  clear y1 y2 hn4 hc4
  go_wp2_with fail
  refine (made_calls 101 _ _ h (H.below kk) o hnz.out (enters_ Tryz.func101 (by kernel_rfl) rfl) (fun W hW => by
    obtain ⟨f, o1, e1, e2, rfl⟩ := ho'.out.run
    exact putfn_calls f [x] t o1 _ _ _ _ W h ((H.below kk).below hW) r0 rl e1 ho'.out.bok (Nat.le_trans (Tm.ld_sz _) ho'.out.sz) e2 (box_below b1 hW) (box_below b2 hW))).mono ?_
  rintro e w5 ⟨k5, cs', h', rfl, r', m'⟩
  have kk3 := below_then kk k5 kk.size
  obtain ⟨A1, c1, rfl, _⟩ := r'.open_
  have c4 := box_below b4 k5
  have l4 := blk_lt c4
  have f4 := blk_frozen c4
  have x4 := box4 c4
  go_wp2_with fail
  obtain ⟨W5, hW5, b5, kp5⟩ : ∃ W5, ((((w5.setCell ⟨w.heap.size + 1 + 1, 0, none⟩ (.int .i64 (tmS o).k)).setCell ⟨w.heap.size + 1 + 1, 1, none⟩ (.int .i64 (tmS o).n)).setCell ⟨w.heap.size + 1 + 1, 2, none⟩ (.string (tmS o).nm)).setCell ⟨w.heap.size + 1 + 1, 3, none⟩ (.slice A1 (tmS o).ar.length c1)) = W5 ∧
      W5.heap[w.heap.size + 1 + 1]? = some (.cells #[.int .i64 (tmS o).k, .int .i64 (tmS o).n, .string (tmS o).nm, .slice A1 (tmS o).ar.length c1] 34) ∧ Kp (fun q => q = w.heap.size + 1 + 1) w5 W5 := ⟨_, rfl, (set4 c4 _ _ _ _).1, (set4 c4 _ _ _ _).2⟩
  rw [hW5]
  have x5 := box4 b5
  refine bodyPost_ret (v := .tuple #[.agg #[.int .i64 (tmS o).k, .int .i64 (tmS o).n, .string (tmS o).nm, .slice A1 (tmS o).ar.length c1], .int .i64 (codeS o)]) (by simp [results, Tryz.results30, go_sem, x5]) rfl ?_
  have hs1 := kv.size
  exact ⟨((Kp.of_below (fun q => q = w.heap.size + 1 + 1) kk3).trans kp5 (fun i hi e => e)).below (fun i hi e => by omega), _, h', rfl, r', ((m'.from_ kk.size).world (m'.has.kp kp5 (m'.off (H.off_new (fun k hk => by omega)) (fun k hk => by omega))))⟩
end Go.Proofs.YtpgbeapojjinmaaGreatDoor
