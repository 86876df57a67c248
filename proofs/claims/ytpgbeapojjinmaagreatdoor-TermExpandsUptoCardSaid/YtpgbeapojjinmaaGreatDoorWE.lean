/- Plain law of eta-long forms. No law is proved here. -/
import Derived.Test.YtpgbeapojjinmaaGreatDoorWV
import Derived.Test.YtpgbeapojjinmaaGreatDoorLB
set_option linter.unusedVariables false
set_option linter.unusedSimpArgs false
namespace Go.Proofs.YtpgbeapojjinmaaGreatDoor
open Go.RowKit Go.Shelf Go.Proofs.YtpgbeapojjinmaaGreatDoorW.PrintLast
/-! ### Eta-long forms of plain terms -/
def etaE : Ty → La → La
  | .mk _ [a, b], h => .lam (etaE b (.app (La.ren Nat.succ h) (etaE a (.var 0))))
  | .mk _ _, h => h
theorem etaE_two (nm : ByteArray) (a b : Ty) (h : La) : etaE (.mk nm [a, b]) h = .lam (etaE b (.app (La.ren Nat.succ h) (etaE a (.var 0)))) := by rw [etaE]
theorem etaE_no {ty : Ty} (hl : ty.ar.length ≠ 2) (h : La) : etaE ty h = h := by
  obtain ⟨nm, ar⟩ := ty
  simp only [Ty.ar] at hl
  match ar, hl with
  | [], _ => rw [etaE]; simp
  | [a], _ => rw [etaE]; simp
  | [a, b], h => exact absurd rfl h
  | a :: b :: c :: l, _ => rw [etaE]; simp
theorem two_or (ty : Ty) : (∃ nm a b, ty = .mk nm [a, b]) ∨ ty.ar.length ≠ 2 := by
  obtain ⟨nm, ar⟩ := ty
  match ar with
  | [] => exact .inr (by simp [Ty.ar])
  | [a] => exact .inr (by simp [Ty.ar])
  | [a, b] => exact .inl ⟨nm, a, b, rfl⟩
  | a :: b :: c :: l => exact .inr (by simp [Ty.ar])
theorem etaE_sub : ∀ (n : Nat) (ty : Ty) (h : La) (s : Nat → La), ty.sz ≤ n → La.sub s (etaE ty h) = etaE ty (La.sub s h)
  | 0, ty, h, s, hn => by have := ty.sz_pos; omega
  | n + 1, ty, h, s, hn => by
    rcases two_or ty with ⟨nm, a, b, rfl⟩ | hl
    · simp only [Ty.sz, Ty.szL] at hn
      rw [etaE_two, etaE_two, La.sub, etaE_sub n b _ _ (by omega), La.sub, etaE_sub n a _ _ (by omega), La.sub_ren]
      simp only [La.sub, La.ups, La.ren_sub]
    · rw [etaE_no hl, etaE_no hl]
theorem etaE_ren (ty : Ty) (h : La) (f : Nat → Nat) : La.ren f (etaE ty h) = etaE ty (La.ren f h) := by
  rw [La.ren_is_sub, La.ren_is_sub, etaE_sub ty.sz ty h _ (Nat.le_refl _)]
theorem etaE_red : ∀ (n : Nat) (ty : Ty) {h h' : La}, ty.sz ≤ n → La.Red h h' → La.Red (etaE ty h) (etaE ty h')
  | 0, ty, h, h', hn, r => by have := ty.sz_pos; omega
  | n + 1, ty, h, h', hn, r => by
    rcases two_or ty with ⟨nm, a, b, rfl⟩ | hl
    · simp only [Ty.sz, Ty.szL] at hn
      rw [etaE_two, etaE_two]
      exact (etaE_red n b (by omega) ((r.ren _).app (.refl _))).lam
    · rw [etaE_no hl, etaE_no hl]; exact r
/-- Applications of plain terms. -/
def appsE : La → List La → La
  | h, [] => h
  | h, x :: xs => appsE (.app h x) xs
theorem embA_apps : ∀ (l : List Tm) (h : La), embA h l = appsE h (embS l)
  | [], h => by rw [embA, embS, appsE]
  | x :: xs, h => by rw [embA, embS, appsE, embA_apps xs]
/-- What is so of eta at smaller types: it does nothing to canonical terms. -/
def EtaId (p : Pg) (v q : List Ty) (B : Ty) : Prop := ∀ (r : List Ty) (u : Tm), shp u = true → okT p v q r u B = true → La.Red (etaE B (emb u)) (emb u)
inductive Reds : List La → List La → Prop
  | nil : Reds [] []
  | cons {a b : La} {l m : List La} : La.Red a b → Reds l m → Reds (a :: l) (b :: m)
theorem appsE_red {l m : List La} (h : Reds l m) : ∀ {a b : La}, La.Red a b → La.Red (appsE a l) (appsE b m) := by
  induction h with
  | nil => exact fun r => r
  | cons r _ ih => exact fun k => ih (k.app r)
theorem inst_ren (a b : La) : La.inst b (La.ren Nat.succ a) = a := by
  unfold La.inst
  rw [La.sub_ren]
  exact La.sub_var a
/-- An eta-long head that is applied to all that it takes. -/
theorem eta_app {p : Pg} {v q : List Ty} {r : List Ty} {f : Nat → Nat} : ∀ (us : List Tm) (B : Ty) (h : La) (vs : List La), (∀ A : Ty, A.sz < B.sz → EtaId p v q A) → shpL us = true → okL p v q r us (partsL B) = true → Reds vs ((embS us).map (La.ren f)) →
    La.Red (appsE (etaE B h) vs) (appsE h ((embS us).map (La.ren f)))
  | [], B, h, vs, hB, hs, ho, hv => by
    have : B.ar.length ≠ 2 := fun e => by
      rw [(parts2 e).1] at ho
      simp [okL] at ho
    rw [etaE_no this]
    cases hv
    exact .refl _
  | u :: us, B, h, vs, hB, hs, ho, hv => by
    rcases two_or B with ⟨nm, a, b, rfl⟩ | hl
    · rw [(parts2 (T := .mk nm [a, b]) rfl).1, okL, Bool.and_eq_true] at ho
      rw [shpL, Bool.and_eq_true] at hs
      simp only [Ty.ar, List.getD_cons_zero, List.getD_cons_succ] at ho
      simp only [embS, List.map_cons] at hv ⊢
      cases hv with
      | @cons v0 _ vs' _ r0 hv' =>
        rw [appsE, appsE, etaE_two]
        have hsz : a.sz < (Ty.mk nm [a, b]).sz ∧ b.sz < (Ty.mk nm [a, b]).sz := by have := a.sz_pos; have := b.sz_pos; simp only [Ty.sz, Ty.szL]; omega
        have e1 : La.inst v0 (etaE b (.app (La.ren Nat.succ h) (etaE a (.var 0)))) = etaE b (.app h (etaE a v0)) := by
          unfold La.inst
          rw [etaE_sub b.sz b _ _ (Nat.le_refl _), La.sub, etaE_sub a.sz a _ _ (Nat.le_refl _)]
          have := inst_ren h v0
          unfold La.inst at this
          rw [this]
          rfl
        have e2 : La.Red (etaE a v0) (La.ren f (emb u)) := by
          refine (etaE_red a.sz a (Nat.le_refl _) r0).trans ?_
          have := ((hB a hsz.1) r u hs.1 ho.1).ren f
          rw [etaE_ren] at this
          exact this
        have e3 : La.Red (.app (.lam (etaE b (.app (La.ren Nat.succ h) (etaE a (.var 0))))) v0) (etaE b (.app h (La.ren f (emb u)))) := by
          refine (La.Red.of (.beta (.refl _) (.refl _))).trans ?_
          rw [e1]
          exact etaE_red b.sz b (Nat.le_refl _) (La.Red.app (.refl _) e2)
        refine (appsE_red (m := vs') ?_ e3).trans (eta_app us b _ vs' (fun A hA => hB A (by omega)) hs.2 ho.2 hv')
        clear e3 e2 e1 hv' r0
        induction vs' with
        | nil => exact .nil
        | cons x l ih => exact .cons (.refl _) ih
    · rw [(parts0 hl).1] at ho
      simp [okL] at ho
/-- A substitution of variables, some of them eta-long. -/
structure EtaSub (p : Pg) (v q : List Ty) (r : List Ty) (s : Nat → La) (f : Nat → Nat) : Prop where
  at_ : ∀ (n : Nat) (B : Ty), r[n]? = some B → s n = .var (f n) ∨ (s n = etaE B (.var (f n)) ∧ ∀ A : Ty, A.sz < B.sz → EtaId p v q A)
theorem EtaSub.up {p : Pg} {v q r : List Ty} {s : Nat → La} {f : Nat → Nat} {a : Ty} (h : EtaSub p v q r s f) : EtaSub p v q (a :: r) (La.ups s) (La.upr f) := ⟨fun n B e => by
  cases n with
  | zero => exact .inl rfl
  | succ n =>
    rw [List.getElem?_cons_succ] at e
    rcases h.at_ n B e with h1 | ⟨h1, h2⟩
    · exact .inl (by simp only [La.ups, h1, La.ren, La.upr])
    · exact .inr ⟨by simp only [La.ups, h1, etaE_ren, La.ren, La.upr], h2⟩⟩
mutual
theorem eta_sub {p : Pg} {v q : List Ty} : ∀ (t : Tm) (r : List Ty) (ty : Ty) (s : Nat → La) (f : Nat → Nat), shp t = true → okT p v q r t ty = true → EtaSub p v q r s f → La.Red (La.sub s (emb t)) (La.ren f (emb t))
  | .mk k n nm ar, r, ty, s, f, hs, h, hS => by
    by_cases hk : k = 5
    · subst hk
      have hp := shp_lam hs
      have IH := fun x (e : ar = [x]) => eta_sub1 ar x e (p := p) (v := v) (q := q)
      obtain ⟨rfl, rfl, x, rfl, hx⟩ := hp
      rw [okT] at h
      split at h
      · rw [Bool.and_eq_true, okF] at h
        rw [emb_lam, La.sub, La.ren]
        exact (IH x rfl _ _ _ _ hx h.2 hS.up).lam
      · simp at h
    · rw [emb_node hk, embA_apps]
      rw [okT] at h
      split at h
      · have : (k == 5) = false := by simpa using hk
        rw [this] at h; cases h
      · split at h
        · cases h
        · rename_i own e
          simp only [Bool.and_eq_true, beq_iff_eq] at h
          rw [shp, Bool.and_eq_true] at hs
          have hl := eta_subL ar r (partsL own) s f hs.2 h.2 hS
          have hm : ∀ (l : List La) (h : La), La.sub s (appsE h l) = appsE (La.sub s h) (l.map (La.sub s)) := fun l => by
            induction l with
            | nil => intro h; rfl
            | cons x l ih => intro h; rw [appsE, ih, List.map_cons, appsE]; rfl
          have hm' : ∀ (l : List La) (h : La), La.ren f (appsE h l) = appsE (La.ren f h) (l.map (La.ren f)) := fun l => by
            induction l with
            | nil => intro h; rfl
            | cons x l ih => intro h; rw [appsE, ih, List.map_cons, appsE]; rfl
          rw [hm, hm']
          unfold hdE
          by_cases k2 : k = 2
          · rw [if_pos k2]
            have e' := e
            unfold hdT at e'
            rw [if_neg (by omega), if_pos k2] at e'
            rcases hS.at_ _ _ e' with h1 | ⟨h1, h2⟩
            · rw [La.sub, La.ren, h1]
              exact appsE_red hl (.refl _)
            · rw [La.sub, La.ren, h1]
              exact eta_app ar own _ _ h2 hs.2 h.2 hl
          · rw [if_neg k2]
            exact appsE_red hl (.refl _)
theorem eta_sub1 {p : Pg} {v q : List Ty} : ∀ (l : List Tm) (x : Tm), l = [x] → ∀ (r : List Ty) (ty : Ty) (s : Nat → La) (f : Nat → Nat), shp x = true → okT p v q r x ty = true → EtaSub p v q r s f → La.Red (La.sub s (emb x)) (La.ren f (emb x))
  | [], x, e => by cases e
  | y :: ys, x, e => by
    cases e
    exact eta_sub y
theorem eta_subL {p : Pg} {v q : List Ty} : ∀ (l : List Tm) (r : List Ty) (tys : List Ty) (s : Nat → La) (f : Nat → Nat), shpL l = true → okL p v q r l tys = true → EtaSub p v q r s f → Reds ((embS l).map (La.sub s)) ((embS l).map (La.ren f))
  | [], r, tys, s, f, hs, h, hS => .nil
  | x :: xs, r, [], s, f, hs, h, hS => by rw [okL] at h; cases h
  | x :: xs, r, a :: tys, s, f, hs, h, hS => by
    rw [shpL, Bool.and_eq_true] at hs
    rw [okL, Bool.and_eq_true] at h
    exact .cons (eta_sub x r a s f hs.1 h.1 hS) (eta_subL xs r tys s f hs.2 h.2 hS)
end
/-- Eta does nothing to canonical terms. -/
theorem eta_id (p : Pg) (v q : List Ty) : ∀ (n : Nat) (B : Ty), B.sz ≤ n → EtaId p v q B
  | 0, B, hn => by have := B.sz_pos; omega
  | n + 1, B, hn => by
    intro r u hs ho
    rcases two_or B with ⟨nm, a, b, rfl⟩ | hl
    · have pa := a.sz_pos
      have pb := b.sz_pos
      simp only [Ty.sz, Ty.szL] at hn
      obtain ⟨x, rfl, sx, ox⟩ := ok_two hs ho rfl
      simp only [Ty.ar, List.getD_cons_zero, List.getD_cons_succ] at ox
      rw [emb_lam, etaE_two]
      refine La.Red.lam ?_
      refine .trans (etaE_red b.sz b (Nat.le_refl _) (?_ : La.Red _ (emb x))) (eta_id p v q n b (by omega) _ x sx ox)
      rw [La.ren]
      refine (La.Red.of (.beta (.refl _) (.refl _))).trans ?_
      have := eta_sub x (a :: r) b (fun m => La.one (etaE a (.var 0)) (La.upr Nat.succ m)) (fun m => m) sx ox ⟨fun m C e => by
        cases m with
        | zero =>
          rw [List.getElem?_cons_zero] at e
          cases e
          exact .inr ⟨rfl, fun A hA => eta_id p v q n A (by omega)⟩
        | succ m => exact .inl rfl⟩
      rw [ren_id] at this
      unfold La.inst
      rw [La.sub_ren]
      exact this
    · rw [etaE_no hl]; exact .refl _
end Go.Proofs.YtpgbeapojjinmaaGreatDoor
