/- term.Eta. No law is proved here. -/
import Derived.Test.YtpgbeapojjinmaaGreatDoorLA
set_option linter.unusedVariables false
set_option linter.unusedSimpArgs false
namespace Go.Proofs.YtpgbeapojjinmaaGreatDoor
open Go.RowKit Go.Shelf Go.Proofs.YtpgbeapojjinmaaGreatDoorW.PrintLast
theorem eta_ok : ∀ f, EtaOK f
  | 0 => fun bc bf c k n nm ty o ct w h H rt ho hk hn hz hc hf he => by simp [etaF] at he
  | f + 1 => eta_step f (Lib.hid (eta_ok f))
theorem etaL_nz {r : Int → Tm → Ty → WRes} (hr : ∀ c t y e, r c t y = some (.inl e) → e ≠ 0) : ∀ (l : List Ty) (m c e : Int), etaL r m c l = some (.inl e) → e ≠ 0
  | [], m, c, e, h => by simp [etaL] at h
  | a :: l, m, c, e, h => by
    rw [etaL] at h
    cases hx : r c (.mk 2 m ⟨#[]⟩ []) a with
    | none => rw [hx] at h; cases h
    | some o =>
      rw [hx] at h
      rcases o with x | ⟨u, c'⟩
      · simp at h; subst h; exact hr _ _ _ _ hx
      · simp only [] at h
        cases hy : etaL r (m - 1) c' l with
        | none => rw [hy] at h; cases h
        | some o2 =>
          rw [hy] at h
          rcases o2 with x | ⟨us, c''⟩
          · simp at h; subst h; exact etaL_nz hr l _ _ _ hy
          · cases h
theorem etaF_nz : ∀ (f : Nat) (c : Int) (t : Tm) (ty : Ty) (e : Int), etaF f c t ty = some (.inl e) → e ≠ 0
  | 0, c, t, ty, e, h => by simp [etaF] at h
  | f + 1, c, .mk k n nm ar, ty, e, h => by
    rcases eta_run h with ⟨_, ⟨_, g⟩ | ⟨_, ⟨_, g⟩ | ⟨_, ⟨x, g1, g2⟩ | ⟨us, c', _, g⟩⟩⟩⟩
    · cases g; omega
    · cases g; omega
    · cases g2; exact etaL_nz (fun c t y e h => etaF_nz f c t y e h) _ _ _ _ g1
    · cases g
set_option maxRecDepth 100000 in
set_option maxHeartbeats 4000000 in
theorem etafn_calls (f : Nat) (t : Tm) (ty : Ty) (o : Sum Int (Tm × Int)) (ct cy : List Value) (bt by_ : Nat) (w : World) (h : Snap) (H : Has w h) (r : TmR h t ct) (ry : TyR h ty cy) (hn : t.n ≤ 4000000000) (hz : ty.sz ≤ 1000000000) (he : etaF f 0 (.mk t.k t.n t.nm []) ty = some o) (hsz : ∀ u c, o = .inr (u, c) → u.ld ≤ 1000000000)
    (ht : w.heap[bt]? = some (.cells ct.toArray 34)) (hs : w.heap[by_]? = some (.cells cy.toArray 36)) :
    Calls Tryz.prog 90 #[.pointer (some ⟨bt, 0, none⟩), .pointer (some ⟨by_, 0, none⟩)] w (MadeTm w h (finS o)) := by
  have hmf := run_mf
  obtain ⟨A, cap, rfl, hl, hlm, hk1, hn1, hr⟩ := r.open_
  have ry0 := ry
  obtain ⟨A', cap', rfl, _⟩ := ry.open_
  have hu34 := Tryz.underlying34
  have hu36 := Tryz.underlying36
  have xt := box4 ht
  have xs := box2 hs
  have lt := blk_lt ht
  have ls := blk_lt hs
  have he' := Lib.hid he
  have hsz' := Lib.hid hsz
  clear he hsz
  obtain ⟨O, hO⟩ : ∃ O, finS o = O := ⟨_, rfl⟩
  rw [hO]
  replace hO := Lib.hid hO
  obtain ⟨a1, a2, a3, ab⟩ := alloc3 w (.cells #[.int .i64 0, .int .i64 0, .string ⟨#[]⟩, .slice none 0 0] 34) (.cells #[.int .i64 0] 3) (.cells #[.func (.func 91) #[] #[.pointer (some ⟨w.heap.size + 1, 0, none⟩), .pointer (some ⟨w.heap.size + 1 + 1, 0, none⟩)]] 120)
  have y1 := box4 (box_below ht ab)
  have y2 := box2 (box_below hs ab)
  go_enter Tryz.func90, Tryz.ntmps90
  go_wp2_with fail
  refine (eta_ok f (w.heap.size + 1) (w.heap.size + 1 + 1) 0 t.k t.n t.nm ty o _ _ h (H.below ab) ry0 (H.off_new (fun q e => by have : q = w.heap.size + 1 := e; omega)) hk1 ⟨hn1.1, hn⟩ hz a2 a3 he'.out).mono ?_
  rintro e w1 ⟨k1, hm⟩
  have kk : Below w.heap.size w w1 := ((Kp.of_below (fun q => q = w.heap.size + 1) ab).trans k1 (fun q hq e => e)).below (fun i hi => by omega)
  have b4 := blk_kp a1 k1 (by omega)
  rcases o with x | ⟨u, c'⟩
  · subst hm
    have f0 : .inl x = O := hO.out
    subst f0
    exact ⟨rfl, kk, rfl⟩
  · obtain ⟨cs', h', rfl, r', m', _⟩ := hm
    have huz := hsz'.out u c' rfl
    have f0 : wholeS u = O := hO.out
    have r1 := r'
    obtain ⟨A1, c1, rfl, _⟩ := r'.open_
    clear y1 y2
    go_wp2_with fail
    refine (whole_calls u _ _ h' m'.has r1 huz).mono ?_
    rintro e w2 ⟨k2, hm2⟩
    have kk2 := below_then kk k2 kk.size
    have b5 := box_below b4 k2
    rw [f0] at hm2
    clear hO f0
    rcases O with x | v
    · subst hm2
      exact ⟨rfl, kk2, rfl⟩
    · obtain ⟨cs2, h2, rfl, r2, m2⟩ := hm2
      obtain ⟨A2, c2, rfl, _⟩ := r2.open_
      have l5 := blk_lt b5
      have f5 := blk_frozen b5
      have x5 := box4 b5
      go_wp2_with fail
      obtain ⟨W5, hW5, b6, kp5⟩ : ∃ W5, ((((w2.setCell ⟨w.heap.size, 0, none⟩ (.int .i64 v.k)).setCell ⟨w.heap.size, 1, none⟩ (.int .i64 v.n)).setCell ⟨w.heap.size, 2, none⟩ (.string v.nm)).setCell ⟨w.heap.size, 3, none⟩ (.slice A2 v.ar.length c2)) = W5 ∧
          W5.heap[w.heap.size]? = some (.cells #[.int .i64 v.k, .int .i64 v.n, .string v.nm, .slice A2 v.ar.length c2] 34) ∧ Kp (fun q => q = w.heap.size) w2 W5 := ⟨_, rfl, (set4 b5 _ _ _ _).1, (set4 b5 _ _ _ _).2⟩
      rw [hW5]
      have x6 := box4 b6
      refine bodyPost_ret (v := .agg #[.int .i64 v.k, .int .i64 v.n, .string v.nm, .slice A2 v.ar.length c2]) (by simp [results, Tryz.results90, go_sem, x6]) rfl ?_
      have mm := m'.trans m2 (by have := k1.size; omega)
      exact ⟨((Kp.of_below (fun q => q = w.heap.size) kk2).trans kp5 (fun i hi e => e)).below (fun i hi e => by omega), _, h2, rfl, r2, (mm.from_ (w0 := w) (by simp; omega)).world (mm.has.kp kp5 (mm.off (H.off_new (fun k hk => by omega)) (fun k hk => by simp; omega)))⟩
/-- What Eta answers. -/
def EtaIs (t : Tm) (ty : Ty) (o : Sum Int Tm) : Prop := (rawP t ≠ 0 ∧ o = .inl (rawP t)) ∨ (rawP t = 0 ∧ (((t.k = 5 ∨ 0 < t.ar.length) ∧ o = .inl 6) ∨ (t.k ≠ 5 ∧ t.ar.length = 0 ∧ ((checkP [] ty ≠ 0 ∧ checkP [] ty ≠ 40 ∧ o = .inl (checkP [] ty)) ∨
  ((checkP [] ty = 0 ∨ checkP [] ty = 40) ∧ t.n ≤ 4000000000 ∧ ty.sz ≤ 1000000000 ∧ ∃ f o1, etaF f 0 (.mk t.k t.n t.nm []) ty = some o1 ∧ (∀ u c, o1 = .inr (u, c) → u.ld ≤ 1000000000) ∧ o = finS o1)))))
set_option maxRecDepth 100000 in
set_option maxHeartbeats 4000000 in
theorem Eta_calls (t : Tm) (ty : Ty) (o : Sum Int Tm) (ct cy : List Value) (w : World) (h : Snap) (H : Has w h) (r : TmR h t ct) (ry : TyR h ty cy) (ho : EtaIs t ty o) :
    Calls Tryz.prog 25 #[.agg ct.toArray, .agg cy.toArray] w (MadeRes w h o) := by
  have hmf := run_mf
  have r0 := r
  have ry0 := ry
  obtain ⟨A, cap, rfl, hl, hlm, hk1, hn1, hr⟩ := r.open_
  obtain ⟨A', cap', rfl, _⟩ := ry.open_
  have hu34 := Tryz.underlying34
  have hu36 := Tryz.underlying36
  obtain ⟨a1, a2, a3, ab⟩ := alloc3 w (.cells #[.int .i64 t.k, .int .i64 t.n, .string t.nm, .slice A t.ar.length cap] 34) (.cells #[.string ty.nm, .slice A' ty.ar.length cap'] 36) (.cells #[.int .i64 0, .int .i64 0, .string ⟨#[]⟩, .slice none 0 0] 34)
  have ho' := Lib.hid ho
  clear ho
  -- an error goes out
  go_enter Tryz.func25, Tryz.ntmps25
  go_wp2_with fail
  refine (Raw_calls t _ _ h (H.below ab) r0).mono ?_
  rintro e w1 ⟨rfl, k1⟩
  have kk := below_then ab k1 ab.size
  have b1 := box_below a1 k1
  have b2 := box_below a2 k1
  have b4 := box_below a3 k1
  have l4 := blk_lt b4
  have f4 := blk_frozen b4
  have x4 := box4 b4
  have y1 := box4 b1
  have y2 := box2 b2
  by_cases q : rawP t = 0
  · have q' : (rawP t != 0) = false := by simp [q]
    have ho2 := Lib.hid ((ho'.out.resolve_left (fun h => h.1 q)).2)
    clear q ho'
    generalize rawP t = x0 at *
    by_cases g5 : t.k = 5 ∨ 0 < t.ar.length
    · have G : o = .inl 6 := by
        rcases ho2.out with g | g
        · exact g.2
        · rcases g5 with e | e
          · exact absurd e g.1
          · omega
      have hq : ((t.k == 5) = true ∧ True) ∨ ((t.k == 5) = false ∧ (0 : Int) < t.ar.length) := by
        by_cases e : t.k = 5
        · exact .inl ⟨by simp [e], trivial⟩
        · exact .inr ⟨by simp [e], by rcases g5 with g | g; exact absurd g e; omega⟩
      clear ho2 g5
      generalize t.k = tk at *
      generalize t.ar.length = len at *
      rcases hq with ⟨g1, g2⟩ | ⟨g1, g2⟩
      all_goals go_wp2_with fail
      all_goals
        obtain ⟨W5, hW5, b5, kp5⟩ : ∃ W5, ((((w1.setCell ⟨w.heap.size + 1 + 1, 0, none⟩ (.int .i64 0)).setCell ⟨w.heap.size + 1 + 1, 1, none⟩ (.int .i64 0)).setCell ⟨w.heap.size + 1 + 1, 2, none⟩ (.string ⟨#[]⟩)).setCell ⟨w.heap.size + 1 + 1, 3, none⟩ (.slice none 0 0)) = W5 ∧
            W5.heap[w.heap.size + 1 + 1]? = some (.cells #[.int .i64 0, .int .i64 0, .string ⟨#[]⟩, .slice none 0 0] 34) ∧ Kp (fun q => q = w.heap.size + 1 + 1) w1 W5 := ⟨_, rfl, (set4 b4 _ _ _ _).1, (set4 b4 _ _ _ _).2⟩
        rw [hW5]
        have x5 := box4 b5
        have hb5 : Below w.heap.size w W5 := ((Kp.of_below (fun q => q = w.heap.size + 1 + 1) kk).trans kp5 (fun i hi e => e)).below (fun i hi e => by omega)
        refine bodyPost_ret (v := .tuple #[.agg #[.int .i64 0, .int .i64 0, .string ⟨#[]⟩, .slice none 0 0], .int .i64 6]) (by simp [results, Tryz.results25, go_sem, x5]) rfl ?_
        subst G
        exact ⟨hb5, _, h, rfl, tm0_R h, Mk.refl (H.below hb5)⟩
    · have hk5 : t.k ≠ 5 := fun e => g5 (.inl e)
      have hl0 : t.ar.length = 0 := by omega
      have ho3 := Lib.hid ((ho2.out.resolve_left (fun h => g5 h.1)).2.2)
      have g1 : (t.k == 5) = false := by simp [hk5]
      clear g5 ho2 hk5
      have hl0' : ((t.ar.length : Int)) = 0 := by omega
      go_wp2_with fail
      refine (CheckType_calls pg0 ty _ _ _ h (H.below kk) (pg0_R h) ry0).mono ?_
      rintro e w2 ⟨rfl, k2⟩
      have kk2 := below_then kk k2 kk.size
      have d1 := box_below b1 k2
      have d2 := box_below b2 k2
      have d4 := box_below b4 k2
      have l4 := blk_lt d4
      have f4 := blk_frozen d4
      have x4 := box4 d4
      have et : pg0.types = [] := rfl
      rw [et]
      clear et y1 y2
      by_cases g6 : checkP [] ty = 0 ∨ checkP [] ty = 40
      · have hin := Lib.hid ((ho3.out.resolve_left (fun h => by rcases g6 with e | e; exact h.1 e; exact h.2.1 e)).2)
        have hnz : Hid (∀ c, o = .inl c → c ≠ 0) := Lib.hid (fun c hc => by
          obtain ⟨_, _, f, o1, e1, e2, rfl⟩ := hin.out
          rcases o1 with e | ⟨u, c'⟩
          · cases hc; exact etaF_nz f _ _ _ _ e1
          · exact wholeS_nz hc)
        have hq : ((checkP [] ty != 0) = false ∧ True) ∨ ((checkP [] ty != 0) = true ∧ (checkP [] ty != 40) = false) := by
          rcases g6 with e | e
          · exact .inl ⟨by simp [e], trivial⟩
          · exact .inr ⟨by simp [e], by simp [e]⟩
        clear ho3 g6
        generalize checkP [] ty = x2 at *
        rcases hq with ⟨g7, g8⟩ | ⟨g7, g8⟩
        all_goals go_wp2_with fail
        all_goals
          refine (made_calls 90 _ _ h (H.below kk2) o hnz.out (enters_ Tryz.func90 (by kernel_rfl) rfl) (fun W hW => by
            obtain ⟨hn, hz, f, o1, e1, e2, rfl⟩ := hin.out
            exact etafn_calls f t ty o1 _ _ _ _ W h ((H.below kk2).below hW) r0 ry0 hn hz e1 e2 (box_below d1 hW) (box_below d2 hW))).mono ?_
          rintro e w3 ⟨k3, cs', h', rfl, r', m'⟩
          have kk3 := below_then kk2 k3 kk2.size
          obtain ⟨A1, c1, rfl, _⟩ := r'.open_
          have c4 := box_below d4 k3
          have l4 := blk_lt c4
          have f4 := blk_frozen c4
          have x4 := box4 c4
          go_wp2_with fail
          obtain ⟨W5, hW5, b5, kp5⟩ : ∃ W5, ((((w3.setCell ⟨w.heap.size + 1 + 1, 0, none⟩ (.int .i64 (tmS o).k)).setCell ⟨w.heap.size + 1 + 1, 1, none⟩ (.int .i64 (tmS o).n)).setCell ⟨w.heap.size + 1 + 1, 2, none⟩ (.string (tmS o).nm)).setCell ⟨w.heap.size + 1 + 1, 3, none⟩ (.slice A1 (tmS o).ar.length c1)) = W5 ∧
              W5.heap[w.heap.size + 1 + 1]? = some (.cells #[.int .i64 (tmS o).k, .int .i64 (tmS o).n, .string (tmS o).nm, .slice A1 (tmS o).ar.length c1] 34) ∧ Kp (fun q => q = w.heap.size + 1 + 1) w3 W5 := ⟨_, rfl, (set4 c4 _ _ _ _).1, (set4 c4 _ _ _ _).2⟩
          rw [hW5]
          have x5 := box4 b5
          refine bodyPost_ret (v := .tuple #[.agg #[.int .i64 (tmS o).k, .int .i64 (tmS o).n, .string (tmS o).nm, .slice A1 (tmS o).ar.length c1], .int .i64 (codeS o)]) (by simp [results, Tryz.results25, go_sem, x5]) rfl ?_
          have l9 := blk_lt d4
          exact ⟨((Kp.of_below (fun q => q = w.heap.size + 1 + 1) kk3).trans kp5 (fun i hi e => e)).below (fun i hi e => by omega), _, h', rfl, r', ((m'.from_ kk2.size).world (m'.has.kp kp5 (m'.off (H.off_new (fun k hk => by omega)) (fun k hk => by omega))))⟩
      · have G : o = .inl (checkP [] ty) := by
          rcases ho3.out with g | g
          · exact g.2.2
          · exact absurd g.1 g6
        have g7 : (checkP [] ty != 0) = true := by simp; exact fun e => g6 (.inl e)
        have g8 : (checkP [] ty != 40) = true := by simp; exact fun e => g6 (.inr e)
        clear ho3 g6
        generalize checkP [] ty = x2 at *
        go_wp2_with fail
        obtain ⟨W5, hW5, b5, kp5⟩ : ∃ W5, ((((w2.setCell ⟨w.heap.size + 1 + 1, 0, none⟩ (.int .i64 0)).setCell ⟨w.heap.size + 1 + 1, 1, none⟩ (.int .i64 0)).setCell ⟨w.heap.size + 1 + 1, 2, none⟩ (.string ⟨#[]⟩)).setCell ⟨w.heap.size + 1 + 1, 3, none⟩ (.slice none 0 0)) = W5 ∧
            W5.heap[w.heap.size + 1 + 1]? = some (.cells #[.int .i64 0, .int .i64 0, .string ⟨#[]⟩, .slice none 0 0] 34) ∧ Kp (fun q => q = w.heap.size + 1 + 1) w2 W5 := ⟨_, rfl, (set4 d4 _ _ _ _).1, (set4 d4 _ _ _ _).2⟩
        rw [hW5]
        have x5 := box4 b5
        have hb5 : Below w.heap.size w W5 := ((Kp.of_below (fun q => q = w.heap.size + 1 + 1) kk2).trans kp5 (fun i hi e => e)).below (fun i hi e => by omega)
        refine bodyPost_ret (v := .tuple #[.agg #[.int .i64 0, .int .i64 0, .string ⟨#[]⟩, .slice none 0 0], .int .i64 x2]) (by simp [results, Tryz.results25, go_sem, x5]) rfl ?_
        subst G
        exact ⟨hb5, _, h, rfl, tm0_R h, Mk.refl (H.below hb5)⟩
  · have G : o = .inl (rawP t) := by
      rcases ho'.out with h | h
      · exact h.2
      · exact absurd h.1 q
    have q' : (rawP t != 0) = true := by simp [q]
    clear q ho' y1 y2
    generalize rawP t = x at *
    go_wp2_with fail
    obtain ⟨W5, hW5, b5, kp5⟩ : ∃ W5, ((((w1.setCell ⟨w.heap.size + 1 + 1, 0, none⟩ (.int .i64 0)).setCell ⟨w.heap.size + 1 + 1, 1, none⟩ (.int .i64 0)).setCell ⟨w.heap.size + 1 + 1, 2, none⟩ (.string ⟨#[]⟩)).setCell ⟨w.heap.size + 1 + 1, 3, none⟩ (.slice none 0 0)) = W5 ∧
        W5.heap[w.heap.size + 1 + 1]? = some (.cells #[.int .i64 0, .int .i64 0, .string ⟨#[]⟩, .slice none 0 0] 34) ∧ Kp (fun q => q = w.heap.size + 1 + 1) w1 W5 := ⟨_, rfl, (set4 b4 _ _ _ _).1, (set4 b4 _ _ _ _).2⟩
    rw [hW5]
    have x5 := box4 b5
    have hb5 : Below w.heap.size w W5 := ((Kp.of_below (fun q => q = w.heap.size + 1 + 1) kk).trans kp5 (fun i hi e => e)).below (fun i hi e => by omega)
    refine bodyPost_ret (v := .tuple #[.agg #[.int .i64 0, .int .i64 0, .string ⟨#[]⟩, .slice none 0 0], .int .i64 x]) (by simp [results, Tryz.results25, go_sem, x5]) rfl ?_
    subst G
    exact ⟨hb5, _, h, rfl, tm0_R h, Mk.refl (H.below hb5)⟩
end Go.Proofs.YtpgbeapojjinmaaGreatDoor
