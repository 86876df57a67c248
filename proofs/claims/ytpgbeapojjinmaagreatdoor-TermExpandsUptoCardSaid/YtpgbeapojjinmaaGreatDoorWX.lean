/- Plain law of the statement TermExpands. No law is proved here. -/
import Derived.Test.YtpgbeapojjinmaaGreatDoorWF
set_option linter.unusedVariables false
set_option linter.unusedSimpArgs false
namespace Go.Proofs.YtpgbeapojjinmaaGreatDoor
open Go.RowKit Go.Shelf Go.Proofs.YtpgbeapojjinmaaGreatDoorW.PrintLast
theorem listW_err {r : Int → Tm → WRes} (hr : ∀ c t e, r c t = some (.inl e) → e = 2 ∨ e = 4) : ∀ (l : List Tm) (c e : Int), listW r c l = some (.inl e) → e = 2 ∨ e = 4
  | [], c, e, h => by cases h
  | t :: ts, c, e, h => by
    rw [listW] at h
    cases q : r c t with
    | none => rw [q] at h; cases h
    | some x =>
      rw [q] at h
      cases x with
      | inl x => cases h; exact hr c t e q
      | inr x =>
        obtain ⟨u, c'⟩ := x
        simp only [] at h
        cases q2 : listW r c' ts with
        | none => rw [q2] at h; cases h
        | some y =>
          rw [q2] at h
          cases y with
          | inl y => cases h; exact listW_err hr ts c' e q2
          | inr y => cases h
theorem runW_err : ∀ (f : Nat) (m : WCmd) (e : Int), runW f m = some (.inl e) → e = 2 ∨ e = 4
  | 0, m, e, h => by simp [runW] at h
  | f + 1, .rep hd c (.mk k n nm ar) b, e, h => by
    rw [runW_rep] at h
    split at h
    · cases ar with
      | nil => cases h
      | cons a l =>
        simp only [] at h
        cases q : runW f (.rep hd c a (b + 1)) with
        | none => rw [q] at h; cases h
        | some x =>
          rw [q] at h
          cases x with
          | inl x => cases h; exact runW_err f _ e q
          | inr x => cases h
    · cases q : listW (fun c t => runW f (.rep hd c t b)) c ar with
      | none => rw [q] at h; cases h
      | some x =>
        rw [q] at h
        cases x with
        | inl x => cases h; exact listW_err (fun c t e z => runW_err f _ e z) ar c e q
        | inr x =>
          obtain ⟨us, c'⟩ := x
          simp only [] at h
          split at h
          · cases h
          · exact runW_err f _ e h
  | f + 1, .app c t [], e, h => by rw [runW_app0] at h; cases h
  | f + 1, .app c (.mk k n nm ar) (a :: xs), e, h => by
    rw [runW_app] at h
    split at h
    · split at h
      · cases h
      · split at h
        · cases ar with
          | nil => cases h
          | cons body l =>
            simp only [] at h
            cases q : runW f (.sub (c + 1) body a) with
            | none => rw [q] at h; cases h
            | some x =>
              rw [q] at h
              cases x with
              | inl x => cases h; exact runW_err f _ e q
              | inr x =>
                obtain ⟨u, c'⟩ := x
                simp only [] at h
                split at h
                · exact runW_err f _ e h
                · split at h
                  · cases h; exact .inl rfl
                  · cases h
        · cases h; exact .inr rfl
    · cases h
  | f + 1, .sub c t s, e, h => by
    rw [runW_sub'] at h
    split at h
    · exact runW_err f _ e h
    · cases h
theorem shG_eq {up fr k n b n' : Int} (h : shG up fr k n b = some n') : n' = if k = 2 ∧ b + fr ≤ n then n + up else n := by
  unfold shG at h
  split at h
  · cases h; rw [if_neg (by omega)]
  · rename_i c
    split at h
    · cases h; rw [if_pos (by omega)]
    · cases h
mutual
theorem reb_shift {up fr : Int} : ∀ (t u : Tm) (b : Int), rebT (shG up fr) b t = some u → u = liftT up (b + fr) t
  | .mk k n nm ar, u, b, h => by
    rw [rebT] at h
    obtain ⟨n', h1, h2⟩ := Option.bind_eq_some_iff.1 h
    obtain ⟨l, h3, h4⟩ := Option.map_eq_some_iff.1 h2
    subst h4
    rw [liftT, reb_shiftL ar l _ h3, shG_eq h1]
    congr 1
    by_cases k5 : k = 5
    · rw [if_pos k5, if_pos k5]; congr 1; omega
    · rw [if_neg k5, if_neg k5]
theorem reb_shiftL {up fr : Int} : ∀ (l m : List Tm) (b : Int), rebL (shG up fr) b l = some m → m = liftL up (b + fr) l
  | [], m, b, h => by rw [rebL] at h; cases h; rfl
  | t :: ts, m, b, h => by
    rw [rebL] at h
    obtain ⟨t', h1, h2⟩ := Option.bind_eq_some_iff.1 h
    obtain ⟨l, h3, h4⟩ := Option.map_eq_some_iff.1 h2
    subst h4
    rw [liftL, reb_shift t t' b h1, reb_shiftL ts l b h3]
end
def B0 : Tm := .mk 2 0 ⟨#[]⟩ []
theorem raw_B0 : rawP B0 = 0 := by kernel_rfl
/-- Eta of a bound variable, and what comes of substituting it. -/
theorem expand_law {p : Pg} {v q G : List Ty} {Uy ty : Ty} {T : Tm} (hT : okT p v q (Uy :: G) T ty = true) (rT : rawP T = 0) (hU : checkP [] Uy = 0 ∨ checkP [] Uy = 40) (hz : Uy.sz ≤ 4000) (hG : G.length ≤ 900000) (hq : q.length ≤ 1000000) (hv : v.length ≤ 1000000) :
    ∃ o, EtaIs B0 Uy o ∧ (codeS o = 0 → rawP (tmS o) = 0 ∧ okT p v q (Uy :: G) (tmS o) Uy = true ∧
      (codeS (shiftS T 1 1) = 0 → ∃ o2, SubstIs (tmS (shiftS T 1 1)) (tmS o) o2 ∧ ((codeS o2 = 0 ∧ sameV (tmS o2) T = true) ∨ codeS o2 = 2 ∨ codeS o2 = 4))) := by
  obtain ⟨f, o1, e, r, re⟩ := eta_told p v q Uy.sz Uy 0 2 0 ⟨#[]⟩ (Nat.le_refl _) (by omega) (by omega) (by omega) (by kernel_rfl)
  refine ⟨finS o1, .inr ⟨raw_B0, .inr ⟨by decide, rfl, .inr ⟨hU, by decide, by omega, f, o1, e, fun u c z => ?_, rfl⟩⟩⟩, fun hc => ?_⟩
  · have := (r u c z).ld; omega
  · cases o1 with
    | inl x =>
      have := re x rfl
      subst this
      exact absurd hc (by decide)
    | inr z =>
      obtain ⟨u, c⟩ := z
      have R := r u c rfl
      have hw : finS (.inr (u, c)) = wholeS u := rfl
      rw [hw] at hc ⊢
      cases h : wholeS u with
      | inl x =>
        rw [h] at hc
        exact absurd hc (wholeS_nz h)
      | inr x =>
        obtain ⟨rfl, hr⟩ := whole_in R.shape h
        have okv : okT p v q (Uy :: G) x Uy = true := R.ok (Uy :: G) (by unfold hdT; rw [if_neg (by omega), if_pos rfl]; rfl)
        refine ⟨hr, okv, fun hs => ?_⟩
        obtain ⟨_, t, h1, h2, rt⟩ := shiftS_ok hs
        rw [h2]
        have ht : t = liftT 1 1 T := by
          have := reb_shift T t 0 h1
          simpa using this
        have sT := (raw_parts rT).2.1
        have okt : okT p v q (Uy :: Uy :: G) t ty = true := by
          have := ok_lift (p := p) (v := v) (q := q) (E := [Uy]) (G := G) T [Uy] ty sT hT
          rw [ht]
          exact this
        obtain ⟨⟨_, d1⟩, s1, m1⟩ := raw_parts rt
        obtain ⟨⟨_, d2⟩, s2, m2⟩ := raw_parts hr
        have l1 := ld_dep t
        have l2 := ld_dep x
        obtain ⟨g, o2, e2, r2⟩ := worker_told p v q 2000 0 (Uy :: G) Uy t x ty 2000000 (by omega) (by omega) (by omega) okt okv s1 s2 (mB_small t _ m1) (mB_small x _ m2) (by simp only [List.length_cons]; omega) (by simp only [List.length_cons]; omega) (by omega)
        have is : SubstIs t x (finS o2) := .inr ⟨by rw [raws_two, if_pos rt, hr], g, o2, e2, fun u c z => by
          have := (r2 u c z).ld
          have := (r2 u c z).c1
          have := (r2 u c z).c0
          omega, rfl⟩
        refine ⟨finS o2, is, ?_⟩
        cases o2 with
        | inl y =>
          rcases runW_err g _ y e2 with rfl | rfl
          · exact .inr (.inl rfl)
          · exact .inr (.inr rfl)
        | inr z =>
          obtain ⟨a, c2⟩ := z
          have S := r2 a c2 rfl
          have hred : La.Red (La.inst (emb x) (emb t)) (emb T) := by
            have he := emb_lift 1 1 T sT
            have e1 : emb t = La.ren (shf 1 1) (emb T) := by rw [ht]; exact he
            have e3 : emb x = etaE Uy (.var 0) := by rw [R.em]; rfl
            rw [e1, e3]
            unfold La.inst
            rw [La.sub_ren]
            have := eta_sub T (Uy :: G) ty (fun m => La.one (etaE Uy (.var 0)) (shf 1 1 m)) (fun m => m) sT hT ⟨fun m C e => by
              cases m with
              | zero =>
                rw [List.getElem?_cons_zero] at e
                cases e
                exact .inr ⟨rfl, fun A hA => eta_id p v q A.sz A (Nat.le_refl _)⟩
              | succ m =>
                refine .inl ?_
                show La.one _ (shf 1 1 (m + 1)) = _
                unfold shf
                rw [if_neg (by omega)]
                rfl⟩
            rw [ren_id] at this
            exact this
          have : emb a = emb T := La.unique S.red hred (emb_nf a S.shape) (emb_nf T sT)
          have := emb_inj a T S.shape sT this
          subst this
          have hw2 : finS (.inr (a, c2)) = wholeS a := rfl
          rw [hw2, whole_raw rT]
          exact .inl ⟨rfl, sameV_refl rT⟩
end Go.Proofs.YtpgbeapojjinmaaGreatDoor
