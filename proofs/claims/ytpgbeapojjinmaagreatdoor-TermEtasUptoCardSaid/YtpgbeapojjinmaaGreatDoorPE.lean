/- Plain law of Eta: the program's and the document's. No law is proved here. -/
import Derived.Test.YtpgbeapojjinmaaGreatDoorPM
import Derived.Test.YtpgbeapojjinmaaGreatDoorLB
set_option linter.unusedVariables false
set_option linter.unusedSimpArgs false
namespace Go.Proofs.YtpgbeapojjinmaaGreatDoor
open Go.RowKit Go.Shelf Go.Proofs.YtpgbeapojjinmaaGreatDoorW.PrintLast
mutual
/-- No number is too great. -/
def smA : Int → Tm → Bool
  | g, .mk k n nm ar => decide (n ≤ g) && smAL g ar
def smAL : Int → List Tm → Bool
  | _, [] => true
  | g, t :: ts => smA g t && smAL g ts
end
mutual
theorem fits_smA : ∀ (t : Tm) (s : Bool) (b : Int), eachT (fun s u _ => s && decide (u.n ≤ 100000)) s b t = (s && smA 100000 t)
  | .mk k n nm ar, s, b => by
    rw [eachT, smA, fits_smAL ar]
    show (s && decide (n ≤ 100000) && smAL 100000 ar) = _
    cases s <;> cases decide (n ≤ 100000) <;> rfl
theorem fits_smAL : ∀ (l : List Tm) (s : Bool) (b : Int), eachL (fun s u _ => s && decide (u.n ≤ 100000)) s b l = (s && smAL 100000 l)
  | [], s, b => by rw [eachL, smAL]; cases s <;> rfl
  | t :: ts, s, b => by
    rw [eachL, smAL, fits_smAL ts, fits_smA t]
    cases s <;> cases smA 100000 t <;> rfl
end
theorem fitsP_smA (t : Tm) : fitsP t = smA 100000 t := by
  unfold fitsP
  rw [fits_smA]
  rfl
theorem prts2 {T : Ty} (h : T.ar.length = 2) : partsL T = T.ar.getD 0 ty0 :: partsL (T.ar.getD 1 ty0) ∧ partsR T = partsR (T.ar.getD 1 ty0) := by
  obtain ⟨nm, ar⟩ := T
  simp only [Ty.ar] at h ⊢
  match ar, h with
  | [a, b], _ => exact ⟨by rw [partsL]; rfl, by rw [partsR]; rfl⟩
theorem prts0 {T : Ty} (h : T.ar.length ≠ 2) : partsL T = [] ∧ partsR T = T.nm := by
  obtain ⟨nm, ar⟩ := T
  simp only [Ty.ar] at h
  match ar, h with
  | [], _ => exact ⟨by simp [partsL], by simp [partsR, Ty.nm]⟩
  | [a], _ => exact ⟨by simp [partsL], by simp [partsR, Ty.nm]⟩
  | [a, b], h => exact absurd rfl h
  | a :: b :: c :: l, _ => exact ⟨by simp [partsL], by simp [partsR, Ty.nm]⟩
theorem two_alt (ty : Ty) : (∃ nm a b, ty = .mk nm [a, b]) ∨ ty.ar.length ≠ 2 := by
  obtain ⟨nm, ar⟩ := ty
  match ar with
  | [] => exact .inr (by simp [Ty.ar])
  | [a] => exact .inr (by simp [Ty.ar])
  | [a, b] => exact .inl ⟨nm, a, b, rfl⟩
  | a :: b :: c :: l => exact .inr (by simp [Ty.ar])
theorem prts_sum : ∀ (n : Nat) (B : Ty), B.sz ≤ n → (partsL B).length + Ty.szL (partsL B) + 1 ≤ B.sz
  | 0, B, hn => by have := B.sz_pos; omega
  | n + 1, B, hn => by
    rcases two_alt B with ⟨nm, a, b, rfl⟩ | hl
    · simp only [Ty.sz, Ty.szL] at hn
      rw [(prts2 (T := .mk nm [a, b]) rfl).1]
      have := prts_sum n b (by omega)
      simp only [Ty.ar, List.getD_cons_zero, List.getD_cons_succ, List.length_cons, Ty.szL, Ty.sz]
      omega
    · rw [(prts0 hl).1]
      have := B.sz_pos
      simp [Ty.szL]
      omega
theorem lamsT_ld : ∀ (n : Nat) (t : Tm), (lamsT n t).ld = n + t.ld
  | 0, t => by simp [lamsT]
  | n + 1, t => by rw [lamsT, Tm.ld, Tm.ldL, Tm.ldL, lamsT_ld n t, Tm.one, if_pos rfl]; omega
mutual
theorem raw_smA : ∀ t : Tm, rawN t = true → smA 100000 t = true
  | .mk k n nm ar, h => by
    rw [rawN, Bool.and_eq_true] at h
    rw [smA, raw_smL ar h.2, Bool.and_true]
    exact decide_eq_true (nodeP_le h.1)
theorem raw_smL : ∀ l : List Tm, rawNL l = true → smAL 100000 l = true
  | [], _ => rfl
  | t :: ts, h => by
    rw [rawNL, Bool.and_eq_true] at h
    rw [smAL, raw_smA t h.1, raw_smL ts h.2]
    rfl
end
theorem raw_n {t : Tm} (h : rawP t = 0) : t.n ≤ 100000 := by
  have h1 := raw_smA t ((rawP_zero t).1 h).2
  obtain ⟨k, n, nm, ar⟩ := t
  rw [smA, Bool.and_eq_true, decide_eq_true_eq] at h1
  exact h1.1
/-- The eta-long forms of the arguments. -/
def etaSL (r : Int → Ty → Option Tm) : Int → List Ty → Option (List Tm)
  | _, [] => some []
  | m, a :: l => match r m a with
    | none => none
    | some u => match etaSL r (m - 1) l with
      | none => none
      | some us => some (u :: us)
/-- The eta-long form of a head; none where a part has more than eight arguments. -/
def etaS : Nat → Int → Int → ByteArray → Ty → Option Tm
  | 0, _, _, _, _ => none
  | f + 1, k, n, nm, ty => if 8 < (partsL ty).length then none else match etaSL (fun m a => etaS f 2 m ⟨#[]⟩ a) ((partsL ty).length - 1) (partsL ty) with
    | none => none
    | some us => some (lamsT (partsL ty).length (.mk k (if k = 2 then n + (partsL ty).length else n) nm us))
/-! ### The document's -/
def failE (E x : Int) : Int := if E = 0 then x else E
def rEtaL (r : Int → Int → Int → Ty → Tm × Int × Int) : Int → Int → Int → List Ty → List Tm × Int × Int
  | _, s, E, [] => ([], s, E)
  | m, s, E, a :: l => if E ≠ 0 then ([], s, E) else
      ((r (s + 1) (if 4000 < s + 1 then 2 else 0) m a).1 :: (rEtaL r (m - 1) (r (s + 1) (if 4000 < s + 1 then 2 else 0) m a).2.1 (r (s + 1) (if 4000 < s + 1 then 2 else 0) m a).2.2 l).1,
        (rEtaL r (m - 1) (r (s + 1) (if 4000 < s + 1 then 2 else 0) m a).2.1 (r (s + 1) (if 4000 < s + 1 then 2 else 0) m a).2.2 l).2)
def rEta : Nat → Int → Int → Int → Int → ByteArray → Ty → Tm × Int × Int
  | 0, s, E, _, _, _, _ => (tm0, s, E)
  | f + 1, s, E, k, n, nm, ty => (lamsT (partsL ty).length (.mk k (if k = 2 then n + (partsL ty).length else n) nm (rEtaL (fun s E m a => rEta f s E 2 m ⟨#[]⟩ a) ((partsL ty).length - 1) s (if 8 < (partsL ty).length then failE E 2 else E) (partsL ty)).1),
      (rEtaL (fun s E m a => rEta f s E 2 m ⟨#[]⟩ a) ((partsL ty).length - 1) s (if 8 < (partsL ty).length then failE E 2 else E) (partsL ty)).2)
def tooP (t : Tm) : Bool := decide (4000 < teN 4000 t 0 1000000) || decide (100000 < grT t)
def endD (x : Tm) (E : Int) : Tm × Int := if E ≠ 0 then (tm0, E) else if tooP x then (tm0, 2) else if 100 < teD x 101 then (tm0, 5) else (x, 0)
/-- What the document's Eta answers. -/
def rEtaD (t : Tm) (ty : Ty) : Tm × Int := if rawP t ≠ 0 then (tm0, rawP t) else if t.k = 5 ∨ 0 < t.ar.length then (tm0, 6) else if formTy ty ≠ 0 then (tm0, formTy ty) else endD (rEta ty.sz 0 0 t.k t.n t.nm ty).1 (rEta ty.sz 0 0 t.k t.n t.nm ty).2.2
theorem sz_mem {a : Ty} : ∀ {l : List Ty}, a ∈ l → a.sz ≤ Ty.szL l
  | [], h => by cases h
  | b :: l, h => by
    rcases List.mem_cons.1 h with rfl | h
    · simp only [Ty.szL]; omega
    · have := sz_mem h; simp only [Ty.szL]; omega
/-! ### Both do the same -/
def EtaAgree (f : Nat) : Prop := ∀ (ty : Ty) (k n : Int) (nm : ByteArray), ty.sz ≤ f → match etaS f k n nm ty with
  | none => (∀ c : Int, 0 ≤ c → c + ty.sz ≤ 4000 → etaF f c (.mk k n nm []) ty = some (.inl 2)) ∧ ∀ s : Int, 0 ≤ s → s + ty.sz ≤ 4001 → (rEta f s 0 k n nm ty).2.2 = 2
  | some u => u.sz ≤ ty.sz ∧ u.ld ≤ ty.sz ∧ (∀ c : Int, 0 ≤ c → c + ty.sz ≤ 4000 → ∃ c', etaF f c (.mk k n nm []) ty = some (.inr (u, c')) ∧ c ≤ c' ∧ c' ≤ c + ty.sz) ∧
      ∀ s : Int, 0 ≤ s → s + ty.sz ≤ 4001 → ∃ s', rEta f s 0 k n nm ty = (u, s', 0) ∧ s ≤ s' ∧ s' + 1 ≤ s + ty.sz
theorem rEtaL_stop {r : Int → Int → Int → Ty → Tm × Int × Int} {m s E : Int} {l : List Ty} (h : E ≠ 0) : rEtaL r m s E l = ([], s, E) := by
  cases l with
  | nil => rw [rEtaL]
  | cons a l => rw [rEtaL, if_pos h]
theorem agreeL {f : Nat} (IH : EtaAgree f) : ∀ (l : List Ty) (m : Int), (∀ a ∈ l, a.sz ≤ f) → (match etaSL (fun m a => etaS f 2 m ⟨#[]⟩ a) m l with
  | none => (∀ c : Int, 0 ≤ c → c + Ty.szL l ≤ 4000 → etaL (etaF f) m c l = some (.inl 2)) ∧ ∀ s : Int, 0 ≤ s → s + Ty.szL l ≤ 4000 → (rEtaL (fun s E m a => rEta f s E 2 m ⟨#[]⟩ a) m s 0 l).2.2 = 2
  | some us => us.length = l.length ∧ Tm.szL us ≤ Ty.szL l ∧ Tm.ldL us ≤ Ty.szL l ∧ (∀ c : Int, 0 ≤ c → c + Ty.szL l ≤ 4000 → ∃ c', etaL (etaF f) m c l = some (.inr (us, c')) ∧ c ≤ c' ∧ c' ≤ c + Ty.szL l) ∧
      ∀ s : Int, 0 ≤ s → s + Ty.szL l ≤ 4000 → ∃ s', rEtaL (fun s E m a => rEta f s E 2 m ⟨#[]⟩ a) m s 0 l = (us, s', 0) ∧ s ≤ s' ∧ s' ≤ s + Ty.szL l)
  | [], m, hl => by
    rw [etaSL]
    exact ⟨rfl, by simp [Tm.szL], by simp [Tm.ldL], fun c h0 h1 => ⟨c, by rw [etaL], by omega, by simp [Ty.szL]⟩, fun s h0 h1 => ⟨s, by rw [rEtaL], by omega, by simp [Ty.szL]⟩⟩
  | a :: l, m, hl => by
    have A := IH a 2 m ⟨#[]⟩ (hl a (by simp))
    have B := agreeL IH l (m - 1) (fun b hb => hl b (by simp [hb]))
    have hp := a.sz_pos
    rw [etaSL]
    simp only [Ty.szL]
    cases q : etaS f 2 m ⟨#[]⟩ a with
    | none =>
      rw [q] at A
      simp only [] at A ⊢
      refine ⟨fun c h0 h1 => by rw [etaL, A.1 c h0 (by omega)], fun s h0 h1 => ?_⟩
      have h4 : ¬ (4000 : Int) < s + 1 := by omega
      have hA := A.2 (s + 1) (by omega) (by omega)
      rw [rEtaL, if_neg (by decide), if_neg h4]
      try simp only []
      rw [rEtaL_stop (by rw [hA]; decide)]
      exact hA
    | some u =>
      rw [q] at A
      simp only [] at A ⊢
      obtain ⟨z1, z2, A1, A2⟩ := A
      cases q2 : etaSL (fun m a => etaS f 2 m ⟨#[]⟩ a) (m - 1) l with
      | none =>
        rw [q2] at B
        simp only [] at B ⊢
        refine ⟨fun c h0 h1 => ?_, fun s h0 h1 => ?_⟩
        · obtain ⟨c', e, b1, b2⟩ := A1 c h0 (by omega)
          rw [etaL, e]
          try simp only []
          rw [B.1 c' (by omega) (by omega)]
        · have h4 : ¬ (4000 : Int) < s + 1 := by omega
          obtain ⟨s', e, b1, b2⟩ := A2 (s + 1) (by omega) (by omega)
          rw [rEtaL, if_neg (by decide), if_neg h4]
          try simp only []
          rw [e]
          exact B.2 s' (by omega) (by omega)
      | some us =>
        rw [q2] at B
        simp only [] at B ⊢
        obtain ⟨y0, y1, y2, B1, B2⟩ := B
        refine ⟨by simp [y0], by simp only [Tm.szL]; omega, by simp only [Tm.ldL]; omega, fun c h0 h1 => ?_, fun s h0 h1 => ?_⟩
        · obtain ⟨c', e, b1, b2⟩ := A1 c h0 (by omega)
          obtain ⟨c'', e', b1', b2'⟩ := B1 c' (by omega) (by omega)
          refine ⟨c'', ?_, by omega, by omega⟩
          rw [etaL, e]
          try simp only []
          rw [e']
        · have h4 : ¬ (4000 : Int) < s + 1 := by omega
          obtain ⟨s', e, b1, b2⟩ := A2 (s + 1) (by omega) (by omega)
          obtain ⟨s'', e', b1', b2'⟩ := B2 s' (by omega) (by omega)
          refine ⟨s'', ?_, by omega, by omega⟩
          rw [rEtaL, if_neg (by decide), if_neg h4]
          try simp only []
          rw [e]
          try simp only []
          rw [e']
theorem sz_lams : ∀ (n : Nat) (t : Tm), (lamsT n t).sz = n + t.sz
  | 0, t => by simp [lamsT]
  | n + 1, t => by rw [lamsT, Tm.sz, Tm.szL, Tm.szL, sz_lams n t]; omega
theorem agree : ∀ f : Nat, EtaAgree f
  | 0 => fun ty k n nm h => by have := ty.sz_pos; omega
  | f + 1 => by
    intro ty k n nm h
    have hs := prts_sum ty.sz ty (Nat.le_refl _)
    have B := agreeL (agree f) (partsL ty) ((partsL ty).length - 1) (fun a ha => by have := sz_mem ha; omega)
    rw [etaS]
    by_cases h8 : 8 < (partsL ty).length
    · rw [if_pos h8]
      refine ⟨fun c h0 h1 => ?_, fun s h0 h1 => ?_⟩
      · rw [etaF, if_neg (by omega), if_neg (by omega)]
      · rw [rEta, if_pos h8]
        try simp only []
        rw [rEtaL_stop (by decide)]
        rfl
    · rw [if_neg h8]
      cases q : etaSL (fun m a => etaS f 2 m ⟨#[]⟩ a) ((partsL ty).length - 1) (partsL ty) with
      | none =>
        rw [q] at B
        simp only [] at B ⊢
        refine ⟨fun c h0 h1 => ?_, fun s h0 h1 => ?_⟩
        · rw [etaF, if_neg (by omega), if_pos (by omega), if_pos (by omega), B.1 _ (by omega) (by omega)]
        · rw [rEta, if_neg h8]
          exact B.2 s h0 (by omega)
      | some us =>
        rw [q] at B
        simp only [] at B ⊢
        obtain ⟨y0, y1, y2, B1, B2⟩ := B
        refine ⟨?_, ?_, fun c h0 h1 => ?_, fun s h0 h1 => ?_⟩
        · rw [sz_lams, Tm.sz]; omega
        · rw [lamsT_ld, Tm.ld]
          have := Tm.one_le k
          omega
        · obtain ⟨c', e, b1, b2⟩ := B1 (c + (1 + (partsL ty).length)) (by omega) (by omega)
          refine ⟨c', ?_, by omega, by omega⟩
          rw [etaF, if_neg (by omega), if_pos (by omega), if_pos (by omega), e]
        · obtain ⟨s', e, b1, b2⟩ := B2 s h0 (by omega)
          refine ⟨s', ?_, by omega, by omega⟩
          rw [rEta, if_neg h8]
          try simp only []
          rw [e]
mutual
theorem gr_small (g : Int) : ∀ t : Tm, smA g t = decide (grT t ≤ g)
  | .mk k n nm ar => by
    rw [smA, gr_smallL g ar, grT]
    have := grL_max ar n n
    by_cases h : n ≤ g
    · rw [decide_eq_true h, Bool.true_and]
      exact decide_eq_decide.2 (gr_iff g ar n h).symm
    · rw [decide_eq_false h, Bool.false_and]
      have := grL_ge ar n
      exact (decide_eq_false (by omega)).symm
theorem gr_smallL (g : Int) : ∀ l : List Tm, smAL g l = decide (∀ t ∈ l, grT t ≤ g)
  | [] => by simp [smAL]
  | t :: ts => by
    rw [smAL, gr_small g t, gr_smallL g ts]
    simp
theorem gr_iff (g : Int) : ∀ (l : List Tm) (n : Int), n ≤ g → (grL l n ≤ g ↔ ∀ t ∈ l, grT t ≤ g)
  | [], n, h => by simp [grL, h]
  | t :: ts, n, h => by
    rw [grL]
    by_cases ht : grT t ≤ g
    · rw [gr_iff g ts _ (by omega)]
      simp [ht]
    · have := grL_ge ts (max n (grT t))
      constructor
      · intro h'; omega
      · intro h'; exact absurd (h' t (by simp)) ht
end
mutual
theorem dep_sz : ∀ t : Tm, t.dep ≤ t.sz
  | .mk _ _ _ l => by have := depL_sz l; rw [Tm.dep, Tm.sz]; omega
theorem depL_sz : ∀ l : List Tm, Tm.depL l ≤ Tm.szL l
  | [] => by simp [Tm.depL, Tm.szL]
  | t :: ts => by have := dep_sz t; have := depL_sz ts; rw [Tm.depL, Tm.szL]; omega
end
mutual
theorem tn_le : ∀ (t : Tm) (n d : Int), teN 4000 t n d ≤ n + t.sz
  | .mk _ _ _ l, n, d => by have := tnL_le l (n + 1) d; rw [teN, Tm.sz]; omega
theorem tnL_le : ∀ (l : List Tm) (n d : Int), teNL 4000 l n d ≤ n + Tm.szL l
  | [], n, d => by rw [teNL, Tm.szL]; omega
  | t :: ts, n, d => by
    rw [teNL, Tm.szL]
    split
    · have := tn_le t n (d - 1)
      have := tnL_le ts (teN 4000 t n (d - 1)) d
      omega
    · omega
end
/-- The ends are the same. -/
theorem end_same {u : Tm} (h : u.sz ≤ 4000) : (tmS (wholeS u), codeS (wholeS u)) = endD u 0 := by
  have hd := dep_sz u
  have h1 := (teN_full u 0 1000000 (by omega)).1 (by omega)
  have h2 : tooP u = !smA 100000 u := by
    unfold tooP
    rw [gr_small, h1, decide_eq_false (by omega), Bool.false_or]
    by_cases c : grT u ≤ 100000
    · rw [decide_eq_true c, decide_eq_false (by omega)]; rfl
    · rw [decide_eq_false c, decide_eq_true (by omega)]; rfl
  have h3 := teD_eq u 101 (by omega)
  have hb := teN_bd 4000 u 0 101 (by omega)
  unfold endD
  rw [if_neg (by decide), h2]
  unfold wholeS
  rw [fitsP_smA]
  have hz := sizedM_zero u
  by_cases c : sizedM u = 2
  · exfalso
    rw [sizedM_eq] at c
    split at c
    · rename_i c2
      have := tn_le u 0 101
      omega
    · split at c <;> omega
  · rw [if_neg c]
    cases hs : smA 100000 u
    · rfl
    · simp only [Bool.true_eq_false, if_false, Bool.not_true, Bool.false_eq_true]
      by_cases c2 : sizedM u = 0
      · rw [if_pos c2, if_neg (by have := hz.1 c2; omega)]
        rfl
      · rw [if_neg c2]
        have c3 : sizedM u = 5 := by
          rw [sizedM_eq] at c c2 ⊢
          split
          · rename_i h; rw [if_pos h] at c; exact absurd rfl c
          · rename_i h
            rw [if_neg h] at c c2
            split
            · rfl
            · rename_i h'; rw [if_neg h'] at c2; exact absurd rfl c2
        rw [c3, if_pos (by
          by_cases h' : 100 < teD u 101
          · exact h'
          · exact absurd (hz.2 ⟨h, by omega⟩) c2)]
        rfl
/-- Eta of the program and of the document. -/
theorem etas_law (t : Tm) (ty : Ty) : ∃ o, EtaIs t ty o ∧ (tmS o, codeS o) = rEtaD t ty := by
  unfold rEtaD
  by_cases h1 : rawP t = 0
  · rw [if_neg (by omega)]
    by_cases h2 : t.k = 5 ∨ 0 < t.ar.length
    · rw [if_pos h2]
      exact ⟨.inl 6, .inr ⟨h1, .inl ⟨h2, rfl⟩⟩, rfl⟩
    · rw [if_neg h2]
      have h3 : t.k ≠ 5 ∧ t.ar.length = 0 := ⟨fun e => h2 (.inl e), by omega⟩
      have hck := checkP_eq [] ty
      unfold checkTy at hck
      by_cases h4 : formTy ty = 0
      · rw [if_neg (by omega)]
        rw [if_pos h4] at hck
        have h5 : checkP [] ty = 0 ∨ checkP [] ty = 40 := by rw [hck]; split <;> simp
        have hz := ((formTy_zero ty).1 h4).1.1
        have A := agree ty.sz ty t.k t.n t.nm (Nat.le_refl _)
        have hn := raw_n h1
        cases q : etaS ty.sz t.k t.n t.nm ty with
        | none =>
          rw [q] at A
          simp only [] at A
          refine ⟨.inl 2, .inr ⟨h1, .inr ⟨h3.1, h3.2, .inr ⟨h5, by omega, by omega, ty.sz, .inl 2, A.1 0 (by omega) (by omega), nofun, rfl⟩⟩⟩, ?_⟩
          rw [A.2 0 (by omega) (by omega)]
          rfl
        | some u =>
          rw [q] at A
          simp only [] at A
          obtain ⟨z1, z2, A1, A2⟩ := A
          obtain ⟨c', e, _, _⟩ := A1 0 (by omega) (by omega)
          obtain ⟨s', e', _, _⟩ := A2 0 (by omega) (by omega)
          refine ⟨wholeS u, .inr ⟨h1, .inr ⟨h3.1, h3.2, .inr ⟨h5, by omega, by omega, ty.sz, .inr (u, c'), e, fun u' c z => by cases z; omega, rfl⟩⟩⟩, ?_⟩
          rw [e']
          exact end_same (by omega)
      · rw [if_pos h4]
        rw [if_neg h4] at hck
        have := formTy_cases ty
        exact ⟨.inl (formTy ty), .inr ⟨h1, .inr ⟨h3.1, h3.2, .inl ⟨by omega, by omega, by rw [hck]⟩⟩⟩, rfl⟩
  · rw [if_pos h1]
    exact ⟨.inl (rawP t), .inl ⟨h1, rfl⟩, rfl⟩
end Go.Proofs.YtpgbeapojjinmaaGreatDoor
