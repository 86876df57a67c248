/- Plain law of rebuilding, shifting and substituting: the statements TermShifted and TermMoves. No law is proved here. -/
import Derived.Test.YtpgbeapojjinmaaGreatDoorNA
import Derived.Test.YtpgbeapojjinmaaGreatDoorKC
set_option linter.unusedVariables false
set_option linter.unusedSimpArgs false
namespace Go.Proofs.YtpgbeapojjinmaaGreatDoor
open Go.RowKit Go.Shelf Go.Proofs.YtpgbeapojjinmaaGreatDoorW.PrintLast
theorem nodeP_mk (k n : Int) (nm : ByteArray) (ar : List Tm) : nodeP (.mk k n nm ar) = if k = 1 then n == 0 && (isTok nm 1 && decide (ar.length ≤ 8))
    else if k = 2 ∨ (k = 3 ∨ k = 4) then decide (0 ≤ n) && (decide (n ≤ 100000) && (nm.toList == [] && decide (ar.length ≤ 8)))
    else k == 5 && (n == 0 && (nm.toList == [] && ar.length == 1)) := rfl
theorem nodeP_le {k n : Int} {nm : ByteArray} {ar : List Tm} (h : nodeP (.mk k n nm ar) = true) : n ≤ 100000 := by
  rw [nodeP_mk] at h
  split at h
  · simp only [Bool.and_eq_true, beq_iff_eq] at h; omega
  · split at h
    · simp only [Bool.and_eq_true, decide_eq_true_eq] at h; omega
    · simp only [Bool.and_eq_true, beq_iff_eq] at h; omega
/-! ### rebuilding keeps a term's shape -/
mutual
theorem rebT_sz {g : Int → Int → Int → Option Int} : ∀ (b : Int) (t u : Tm), rebT g b t = some u → u.sz = t.sz ∧ u.dep = t.dep ∧ u.k = t.k ∧ u.nm = t.nm ∧ u.ar.length = t.ar.length
  | b, .mk k n nm ar, u, h => by
    rw [rebT] at h
    obtain ⟨n', h1, h2⟩ := Option.bind_eq_some_iff.1 h
    obtain ⟨l, h3, h4⟩ := Option.map_eq_some_iff.1 h2
    subst h4
    have := rebL_sz _ ar l h3
    simp only [Tm.sz, Tm.dep, Tm.k, Tm.nm, Tm.ar, this.1, this.2.1, this.2.2, and_self]
theorem rebL_sz {g : Int → Int → Int → Option Int} : ∀ (b : Int) (l m : List Tm), rebL g b l = some m → Tm.szL m = Tm.szL l ∧ Tm.depL m = Tm.depL l ∧ m.length = l.length
  | b, [], m, h => by rw [rebL] at h; cases h; exact ⟨rfl, rfl, rfl⟩
  | b, t :: ts, m, h => by
    rw [rebL] at h
    obtain ⟨t', h1, h2⟩ := Option.bind_eq_some_iff.1 h
    obtain ⟨l, h3, h4⟩ := Option.map_eq_some_iff.1 h2
    subst h4
    have a := rebT_sz b t t' h1
    have c := rebL_sz b ts l h3
    simp only [Tm.szL, Tm.depL, List.length_cons, a.1, a.2.1, c.1, c.2.1, c.2.2, and_self]
end
/-- A rebuilding that keeps heads raw. -/
def GRaw (g : Int → Int → Int → Option Int) : Prop := ∀ k n b n', g k n b = some n' → (n' = n ∨ ((k = 2 ∨ (k = 3 ∨ k = 4)) ∧ n ≤ n' ∧ n' ≤ 100000))
theorem nodeP_reb {g : Int → Int → Int → Option Int} (hg : GRaw g) {k n n' b : Int} {nm : ByteArray} {ar l : List Tm} (h : nodeP (.mk k n nm ar) = true) (hn : g k n b = some n') (hl : l.length = ar.length) : nodeP (.mk k n' nm l) = true := by
  rcases hg _ _ _ _ hn with rfl | ⟨hk, h1, h2⟩
  · rw [nodeP_mk] at h ⊢
    rw [hl]
    exact h
  · rw [nodeP_mk] at h ⊢
    rw [hl]
    rw [if_neg (by omega), if_pos hk] at h ⊢
    simp only [Bool.and_eq_true, decide_eq_true_eq] at h ⊢
    exact ⟨by omega, by omega, h.2.2⟩
mutual
theorem rebT_raw {g : Int → Int → Int → Option Int} (hg : GRaw g) : ∀ (b : Int) (t u : Tm), rebT g b t = some u → rawN t = true → rawN u = true
  | b, .mk k n nm ar, u, h, hr => by
    rw [rebT] at h
    obtain ⟨n', h1, h2⟩ := Option.bind_eq_some_iff.1 h
    obtain ⟨l, h3, h4⟩ := Option.map_eq_some_iff.1 h2
    subst h4
    rw [rawN, Bool.and_eq_true] at hr ⊢
    exact ⟨nodeP_reb hg hr.1 h1 (rebL_sz _ _ _ h3).2.2, rebL_raw hg _ ar l h3 hr.2⟩
theorem rebL_raw {g : Int → Int → Int → Option Int} (hg : GRaw g) : ∀ (b : Int) (l m : List Tm), rebL g b l = some m → rawNL l = true → rawNL m = true
  | b, [], m, h, hr => by rw [rebL] at h; cases h; exact hr
  | b, t :: ts, m, h, hr => by
    rw [rebL] at h
    obtain ⟨t', h1, h2⟩ := Option.bind_eq_some_iff.1 h
    obtain ⟨l, h3, h4⟩ := Option.map_eq_some_iff.1 h2
    subst h4
    rw [rawNL, Bool.and_eq_true] at hr ⊢
    exact ⟨rebT_raw hg b t t' h1 hr.1, rebL_raw hg b ts l h3 hr.2⟩
end
theorem rebT_rawP {g : Int → Int → Int → Option Int} (hg : GRaw g) {b : Int} {t u : Tm} (h : rebT g b t = some u) (hr : rawP t = 0) : rawP u = 0 := by
  rw [rawP_zero] at hr ⊢
  have s := rebT_sz b t u h
  rw [s.1, s.2.1]
  exact ⟨hr.1, rebT_raw hg b t u h hr.2⟩
theorem shG_raw {up from_ : Int} (h : 0 ≤ up) : GRaw (shG up from_) := by
  intro k n b n' e
  unfold shG at e
  split at e
  · cases e; exact .inl rfl
  · split at e
    · cases e
      rename_i h1 h2
      exact .inr ⟨by omega, by omega, h2⟩
    · cases e
/-! ### Subst of a term that was shifted by 1 -/
theorem nodeP_lam {n : Int} {nm : ByteArray} {ar : List Tm} (h : nodeP (.mk 5 n nm ar) = true) : n = 0 ∧ nm = ⟨#[]⟩ ∧ ∃ a, ar = [a] := by
  rw [nodeP_mk] at h
  rw [if_neg (by omega), if_neg (by omega)] at h
  simp only [Bool.and_eq_true, beq_iff_eq] at h
  obtain ⟨_, h1, h2, h3⟩ := h
  refine ⟨h1, ?_, ?_⟩
  · apply ByteArray.ext
    apply Array.ext'
    rw [← ByteArray.toList_eq, h2]
  · match ar, h3 with
    | [a], _ => exact ⟨a, rfl⟩
theorem runW_rep (f : Nat) (hd : Tm → Int → Option Tm × Int) (c k n b : Int) (nm : ByteArray) (ar : List Tm) : runW (f + 1) (.rep hd c (.mk k n nm ar) b) =
    if k = 5 then match ar with
      | [] => none
      | a :: _ => match runW f (.rep hd c a (b + 1)) with
        | some (.inr (u, c')) => some (.inr (.mk 5 0 ⟨#[]⟩ [u], c'))
        | x => x
    else match listW (fun c t => runW f (.rep hd c t b)) c ar with
      | none => none
      | some (.inl e) => some (.inl e)
      | some (.inr (us, c')) => match hd (.mk k n nm ar) b with
        | (none, n') => some (.inr (.mk k n' nm us, c'))
        | (some s, _) => runW f (.app c' s us) := by
  rw [runW.eq_def]
  rfl
theorem runW_sub (f : Nat) (c : Int) (t s : Tm) (h : okS t = true) (h' : okS s = true) : runW (f + 1) (.sub c t s) = runW f (.rep (subHd s) c t 0) := by
  rw [runW.eq_def]
  simp [h, h']
/-- Replacing gives t back out of what a rebuilding made of it. -/
theorem rep_back (s : Tm) : ∀ (f : Nat) (t a : Tm) (b c : Int), t.sz ≤ f → rawN t = true → rebT (shG 1 0) b t = some a → runW f (.rep (subHd s) c a b) = some (.inr (t, c))
  | 0, t, a, b, c, hf, _, _ => by have := t.sz_pos; omega
  | f + 1, .mk k n nm ar, a, b, c, hf, hr, h => by
    rw [rebT] at h
    obtain ⟨n', h1, h2⟩ := Option.bind_eq_some_iff.1 h
    obtain ⟨l, h3, h4⟩ := Option.map_eq_some_iff.1 h2
    subst h4
    rw [rawN, Bool.and_eq_true] at hr
    rw [Tm.sz] at hf
    rw [runW_rep]
    by_cases hk : k = 5
    · subst hk
      obtain ⟨rfl, rfl, x, rfl⟩ := nodeP_lam hr.1
      rw [if_pos rfl] at h3 ⊢
      rw [rebL] at h3
      obtain ⟨x', h5, h6⟩ := Option.bind_eq_some_iff.1 h3
      rw [rebL] at h6
      cases h6
      have hx : rawN x = true := by have := hr.2; rw [rawNL, Bool.and_eq_true] at this; exact this.1
      have := rep_back s f x x' (b + 1) c (by simp only [Tm.szL] at hf; omega) hx h5
      simp only [this]
    · rw [if_neg hk] at h3 ⊢
      have hl : ∀ (ts ls : List Tm) (c : Int), Tm.szL ts ≤ f → rawNL ts = true → rebL (shG 1 0) b ts = some ls → listW (fun c t => runW f (.rep (subHd s) c t b)) c ls = some (.inr (ts, c)) := by
        intro ts
        induction ts with
        | nil => intro ls c _ _ e; rw [rebL] at e; cases e; rfl
        | cons t ts ih =>
          intro ls c hz hr' e
          rw [rebL] at e
          obtain ⟨t', h5, h6⟩ := Option.bind_eq_some_iff.1 e
          obtain ⟨l', h7, h8⟩ := Option.map_eq_some_iff.1 h6
          subst h8
          rw [rawNL, Bool.and_eq_true] at hr'
          rw [Tm.szL] at hz
          have := rep_back s f t t' b c (by omega) hr'.1 h5
          have h9 := ih l' c (by omega) hr'.2 h7
          simp only [listW, this, h9]
      have := hl ar l c (by omega) hr.2 h3
      simp only [this]
      have hh : subHd s (.mk k n' nm l) b = (none, n) := by
        show (if k ≠ 2 ∨ n' < b then (none, n') else if n' = b then (some (upB b s), 0) else (none, n' - 1)) = (none, n)
        unfold shG at h1
        split at h1
        · cases h1
          rw [if_pos (by omega)]
        · rename_i hq
          split at h1
          · cases h1
            rw [if_neg (by omega), if_neg (by omega)]
            congr 1
            omega
          · cases h1
      rw [hh]
mutual
theorem raw_small : ∀ t : Tm, rawN t = true → allN smallN t = true
  | .mk k n nm ar, h => by
    rw [rawN, Bool.and_eq_true] at h
    rw [allN, Bool.and_eq_true]
    refine ⟨?_, raw_smallL ar h.2⟩
    have h1 := h.1
    rw [nodeP_mk] at h1
    unfold smallN
    show decide (0 ≤ n ∧ n ≤ 1000000000) = true
    split at h1
    · simp only [Bool.and_eq_true, beq_iff_eq] at h1
      simp; omega
    · split at h1
      · simp only [Bool.and_eq_true, beq_iff_eq, decide_eq_true_eq] at h1
        simp; omega
      · simp only [Bool.and_eq_true, beq_iff_eq] at h1
        simp; omega
theorem raw_smallL : ∀ l : List Tm, rawNL l = true → allNL smallN l = true
  | [], _ => rfl
  | t :: ts, h => by
    rw [rawNL, Bool.and_eq_true] at h
    rw [allNL, raw_small t h.1, raw_smallL ts h.2]; rfl
end
theorem okS_raw {t : Tm} (h : rawP t = 0) : okS t = true := by
  rw [rawP_zero] at h
  unfold okS
  rw [raw_small t h.2]
  have := t.ld_sz
  simp; omega
mutual
theorem fits_raw : ∀ (t : Tm) (b : Int), rawN t = true → eachT (fun s u _ => s && decide (u.n ≤ 100000)) true b t = true
  | .mk k n nm ar, b, h => by
    rw [rawN, Bool.and_eq_true] at h
    have hn : decide ((Tm.mk k n nm ar).n ≤ 100000) = true := by
      have h1 := h.1
      rw [nodeP_mk] at h1
      show decide (n ≤ 100000) = true
      split at h1
      · simp only [Bool.and_eq_true, beq_iff_eq] at h1
        simp; omega
      · split at h1
        · simp only [Bool.and_eq_true, beq_iff_eq, decide_eq_true_eq] at h1
          simp; omega
        · simp only [Bool.and_eq_true, beq_iff_eq] at h1
          simp; omega
    rw [eachT, hn]
    exact fits_rawL ar _ h.2
theorem fits_rawL : ∀ (l : List Tm) (b : Int), rawNL l = true → eachL (fun s u _ => s && decide (u.n ≤ 100000)) true b l = true
  | [], b, _ => rfl
  | t :: ts, b, h => by
    rw [rawNL, Bool.and_eq_true] at h
    rw [eachL, fits_raw t b h.1]
    exact fits_rawL ts b h.2
end
theorem whole_raw {t : Tm} (h : rawP t = 0) : wholeS t = .inr t := by
  rw [rawP_zero] at h
  have h1 := (sizedM_zero t).2 h.1
  unfold wholeS fitsP
  rw [if_neg (by omega), fits_raw t 0 h.2, if_neg (by simp), if_pos h1]
theorem raws_two {a s : Tm} : rawsP [a, s] = if rawP a = 0 then rawP s else rawP a := by
  simp only [rawsP]
  split
  · split <;> simp_all
  · rfl
/-- What Subst of Shift(t, 1, 0) gives back. -/
def backS (t s : Tm) : Sum Int Tm := if codeS (shiftS t 1 0) = 0 ∧ rawP s = 0 then .inr t else .inl (rawsP [tmS (shiftS t 1 0), s])
theorem shiftS_ok {t : Tm} {up k : Int} (h : codeS (shiftS t up k) = 0) : askedP t up k = 0 ∧ ∃ u, shT up k t = some u ∧ shiftS t up k = .inr u ∧ rawP u = 0 := by
  unfold shiftS at h ⊢
  by_cases q : askedP t up k = 0
  · rw [if_pos q] at h ⊢
    refine ⟨q, ?_⟩
    cases e : shT up k t with
    | none => rw [e] at h; simp [sumO, codeS] at h
    | some u => exact ⟨u, rfl, rfl, rebT_rawP (shG_raw (asked_in q).2.1.1) e (asked_in q).1⟩
  · rw [if_neg q] at h
    exact absurd h q
theorem shiftS_no {t : Tm} {up k : Int} (h : codeS (shiftS t up k) ≠ 0) : tmS (shiftS t up k) = tm0 := by
  cases e : shiftS t up k with
  | inl c => rfl
  | inr u => rw [e] at h; exact absurd rfl h
theorem raw_tm0 : rawP tm0 ≠ 0 := by
  intro h
  have h2 := (rawP_zero tm0).1 h
  have h3 := h2.2
  unfold tm0 at h3
  rw [rawN] at h3
  simp [nodeP, Tm.k] at h3
theorem back_is (t s : Tm) : SubstIs (tmS (shiftS t 1 0)) s (backS t s) := by
  unfold backS
  by_cases h : codeS (shiftS t 1 0) = 0
  · obtain ⟨hq, u, h1, h2, h3⟩ := shiftS_ok h
    by_cases hs : rawP s = 0
    · rw [if_pos ⟨h, hs⟩, h2]
      show SubstIs u s _
      refine .inr ⟨by rw [raws_two, if_pos h3, hs], t.sz + 1, .inr (t, 0), ?_, ?_, ?_⟩
      · rw [runW_sub _ _ _ _ (okS_raw h3) (okS_raw hs)]
        exact rep_back s _ t u 0 0 (Nat.le_refl _) (rawN_of (asked_in hq).1) h1
      · rintro v c ⟨⟩
        have := ((rawP_zero t).1 (asked_in hq).1).1.1
        have := t.ld_sz
        omega
      · exact (whole_raw (asked_in hq).1).symm
    · rw [if_neg (fun q => hs q.2), h2]
      show SubstIs u s (.inl (rawsP [u, s]))
      exact .inl ⟨by rw [raws_two, if_pos h3]; exact hs, rfl⟩
  · rw [if_neg (fun q => h q.1)]
    rw [shiftS_no h]
    exact .inl ⟨by rw [raws_two, if_neg raw_tm0]; exact raw_tm0, rfl⟩
/-! ### Shifting twice -/
mutual
theorem shT_twice {p q k : Int} (hp : 0 ≤ p) (hq : 0 ≤ q) : ∀ (b : Int) (t u v : Tm), rebT (shG p k) b t = some u → rebT (shG q k) b u = some v → rebT (shG (p + q) k) b t = some v
  | b, .mk kk n nm ar, u, v, h, h' => by
    rw [rebT] at h
    obtain ⟨n', h1, h2⟩ := Option.bind_eq_some_iff.1 h
    obtain ⟨l, h3, h4⟩ := Option.map_eq_some_iff.1 h2
    subst h4
    rw [rebT] at h'
    obtain ⟨n'', h1', h2'⟩ := Option.bind_eq_some_iff.1 h'
    obtain ⟨l', h3', h4'⟩ := Option.map_eq_some_iff.1 h2'
    subst h4'
    have e := shL_twice hp hq _ ar l l' h3 h3'
    have e1 : shG (p + q) k kk n b = some n'' := by
      unfold shG at h1 h1' ⊢
      split at h1
      · cases h1
        rename_i c
        rw [if_pos c] at h1' ⊢
        exact h1'
      · rename_i c
        split at h1
        · cases h1
          rw [if_neg (by omega)] at h1'
          split at h1'
          · cases h1'
            rw [if_neg c, if_pos (by omega)]
            congr 1
            omega
          · cases h1'
        · cases h1
    rw [rebT, e1, e]
    rfl
theorem shL_twice {p q k : Int} (hp : 0 ≤ p) (hq : 0 ≤ q) : ∀ (b : Int) (t u v : List Tm), rebL (shG p k) b t = some u → rebL (shG q k) b u = some v → rebL (shG (p + q) k) b t = some v
  | b, [], u, v, h, h' => by
    rw [rebL] at h; cases h
    rw [rebL] at h' ⊢; exact h'
  | b, t :: ts, u, v, h, h' => by
    rw [rebL] at h
    obtain ⟨n', h1, h2⟩ := Option.bind_eq_some_iff.1 h
    obtain ⟨l, h3, h4⟩ := Option.map_eq_some_iff.1 h2
    subst h4
    rw [rebL] at h'
    obtain ⟨n'', h1', h2'⟩ := Option.bind_eq_some_iff.1 h'
    obtain ⟨l', h3', h4'⟩ := Option.map_eq_some_iff.1 h2'
    subst h4'
    rw [rebL, shT_twice hp hq b t _ _ h1 h1', shL_twice hp hq b ts _ _ h3 h3']
    rfl
end
end Go.Proofs.YtpgbeapojjinmaaGreatDoor
