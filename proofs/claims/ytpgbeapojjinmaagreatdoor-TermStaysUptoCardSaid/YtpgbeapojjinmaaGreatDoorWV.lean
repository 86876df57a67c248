/- Plain law of substitution for canonical terms, and of two substitutions in either order. No law is proved here. -/
import Derived.Test.YtpgbeapojjinmaaGreatDoorWU
import Derived.Test.YtpgbeapojjinmaaGreatDoorQD
import Derived.Test.YtpgbeapojjinmaaGreatDoorAP
set_option linter.unusedVariables false
set_option linter.unusedSimpArgs false
namespace Go.Proofs.YtpgbeapojjinmaaGreatDoor
open Go.RowKit Go.Shelf Go.Proofs.YtpgbeapojjinmaaGreatDoorW.PrintLast
theorem raw_parts {t : Tm} (h : rawP t = 0) : (t.sz ≤ 4000 ∧ t.dep ≤ 100) ∧ shp t = true ∧ small 100000 t = true := by
  have h1 := (rawP_zero t).1 h
  have := h1.2
  rw [raw_shp, Bool.and_eq_true] at this
  exact ⟨h1.1, this⟩
mutual
theorem ld_dep : ∀ t : Tm, t.ld ≤ t.dep
  | .mk k n nm l => by have := ldL_dep l; have := Tm.one_le k; simp only [Tm.ld, Tm.dep]; omega
theorem ldL_dep : ∀ l : List Tm, Tm.ldL l ≤ Tm.depL l
  | [] => by simp [Tm.ldL, Tm.depL]
  | t :: ts => by have := ld_dep t; have := ldL_dep ts; simp only [Tm.ldL, Tm.depL]; omega
end
theorem whole_in {u x : Tm} (hs : shp u = true) (h : wholeS u = .inr x) : x = u ∧ rawP u = 0 := by
  unfold wholeS at h
  split at h
  · cases h
  · split at h
    · cases h
    · rename_i h1 h2
      split at h
      · rename_i h3
        cases h
        refine ⟨rfl, ?_⟩
        unfold rawP
        rw [if_pos h3, raw_shp, hs]
        have : fitsP u = true := by simpa using h2
        rw [fitsP_small] at this
        rw [this]
        rfl
      · cases h
theorem subst_no {t s : Tm} (h : rawP t ≠ 0 ∨ rawP s ≠ 0) : ∃ o, SubstIs t s o ∧ codeS o ≠ 0 := by
  have hr : rawsP [t, s] ≠ 0 := by
    rw [raws_two]
    split
    · rcases h with h | h
      · exact absurd ‹_› h
      · exact h
    · assumption
  exact ⟨.inl (rawsP [t, s]), .inl ⟨hr, rfl⟩, hr⟩
/-- What Subst gives for canonical terms. -/
theorem subst_is {p : Pg} {v q G : List Ty} {A ty : Ty} {t s : Tm} (ht : okT p v q (A :: G) t ty = true) (hs : okT p v q G s A = true) (rt : rawP t = 0) (rs : rawP s = 0) (hG : G.length ≤ 1000000) (hq : q.length ≤ 1000000) (hv : v.length ≤ 1000000) :
    ∃ o, SubstIs t s o ∧ (codeS o = 0 → rawP (tmS o) = 0 ∧ okT p v q G (tmS o) ty = true ∧ La.Red (La.inst (emb s) (emb t)) (emb (tmS o))) := by
  obtain ⟨⟨_, d1⟩, s1, m1⟩ := raw_parts rt
  obtain ⟨⟨_, d2⟩, s2, m2⟩ := raw_parts rs
  have l1 := ld_dep t
  have l2 := ld_dep s
  obtain ⟨f, o1, e, r⟩ := worker_told p v q 2000 0 G A t s ty (2000000) (by omega) (by omega) (by omega) ht hs s1 s2 (mB_small t _ m1) (mB_small s _ m2) (by omega) (by omega) (by omega)
  refine ⟨finS o1, .inr ⟨by rw [raws_two, if_pos rt, rs], f, o1, e, fun u c h => ?_, rfl⟩, fun hc => ?_⟩
  · have := (r u c h).ld
    have := (r u c h).c1
    have := (r u c h).c0
    omega
  · cases o1 with
    | inl x =>
      have := finS_nz e (c := x) rfl
      exact absurd hc this
    | inr z =>
      obtain ⟨u, c⟩ := z
      have R := r u c rfl
      have hw : finS (.inr (u, c)) = wholeS u := rfl
      rw [hw] at hc ⊢
      cases h : wholeS u with
      | inl x =>
        rw [h] at hc
        exact absurd hc (wholeS_nz h)
      | inr x =>
        obtain ⟨rfl, hr⟩ := whole_in R.shape h
        exact ⟨hr, R.ok, R.red⟩
theorem subst_any {p : Pg} {v q G : List Ty} {A ty : Ty} {t s : Tm} (ht : rawP t = 0 → okT p v q (A :: G) t ty = true) (hs : rawP s = 0 → okT p v q G s A = true) (hG : G.length ≤ 1000000) (hq : q.length ≤ 1000000) (hv : v.length ≤ 1000000) :
    ∃ o, SubstIs t s o ∧ (codeS o = 0 → rawP t = 0 ∧ rawP s = 0 ∧ rawP (tmS o) = 0 ∧ okT p v q G (tmS o) ty = true ∧ La.Red (La.inst (emb s) (emb t)) (emb (tmS o))) := by
  by_cases rt : rawP t = 0
  · by_cases rs : rawP s = 0
    · obtain ⟨o, h1, h2⟩ := subst_is (ht rt) (hs rs) rt rs hG hq hv
      exact ⟨o, h1, fun hc => ⟨rt, rs, h2 hc⟩⟩
    · obtain ⟨o, h1, h2⟩ := subst_no (t := t) (.inr rs)
      exact ⟨o, h1, fun hc => absurd hc h2⟩
  · obtain ⟨o, h1, h2⟩ := subst_no (s := s) (.inl rt)
    exact ⟨o, h1, fun hc => absurd hc h2⟩
theorem La.Par.lam_inv {a t : La} (h : La.Par (.lam a) t) : ∃ a', t = .lam a' ∧ La.Par a a' := by
  cases h with
  | lam h => exact ⟨_, rfl, h⟩
theorem La.Red.lam_inv' {x y : La} (h : La.Red x y) : ∀ a, x = .lam a → ∃ b, y = .lam b ∧ La.Red a b := by
  induction h with
  | refl => exact fun a e => ⟨a, e, .refl _⟩
  | step p _ ih =>
    intro a e
    subst e
    obtain ⟨a', rfl, h1⟩ := La.Par.lam_inv p
    obtain ⟨b, h2, h3⟩ := ih a' rfl
    exact ⟨b, h2, .step h1 h3⟩
theorem La.Red.lam_inv {a b : La} (h : La.Red (.lam a) (.lam b)) : La.Red a b := by
  obtain ⟨c, h1, h2⟩ := h.lam_inv' a rfl
  rw [La.lam.inj h1]
  exact h2
theorem sameV_refl {t : Tm} (h : rawP t = 0) : sameV t t = true := by
  unfold sameV
  rw [h, cmpT_self]
  rfl
/-- Terms that are reducts of the same are the same. -/
theorem same_reducts {E : La} {x y : Tm} (hx : La.Red E (emb x)) (hy : La.Red E (emb y)) (rx : rawP x = 0) (ry : rawP y = 0) : x = y := by
  have sx := (raw_parts rx).2.1
  have sy := (raw_parts ry).2.1
  exact emb_inj x y sx sy (La.unique hx hy (emb_nf x sx) (emb_nf y sy))
theorem raw_body {x : Tm} {n : Int} {nm : ByteArray} (h : rawP (.mk 5 n nm [x]) = 0) : rawP x = 0 := by
  rw [rawP_zero] at h ⊢
  have h2 := h.2
  rw [rawN, Bool.and_eq_true, rawNL, Bool.and_eq_true] at h2
  have h1 := h.1
  simp only [Tm.sz, Tm.szL, Tm.dep, Tm.depL] at h1
  exact ⟨by omega, h2.2.1⟩
theorem ok_lam {p : Pg} {v q r : List Ty} {x : Tm} {a b : Ty} (h : okT p v q (a :: r) x b = true) : okT p v q r (.mk 5 0 ⟨#[]⟩ [x]) (.mk ⟨#[45, 62]⟩ [a, b]) = true := by
  rw [okT]
  simp only [Ty.ar, List.length_cons, List.length_nil, List.getD_cons_zero, List.getD_cons_succ, okF, h]
  rfl
theorem emb_lam (x : Tm) : emb (.mk 5 0 ⟨#[]⟩ [x]) = .lam (emb x) := by rw [emb, if_pos rfl, embF]
/-- Two substitutions, in either order. -/
theorem swap_law {p : Pg} {v q G : List Ty} {ty Sy Uy : Ty} {T S U : Tm} (hT : okT p v q (Sy :: Uy :: G) T ty = true) (hS : okT p v q (Uy :: G) S Sy = true) (hU : okT p v q G U Uy = true) (rT : rawP T = 0) (rS : rawP S = 0) (rU : rawP U = 0) (hG : G.length ≤ 900000) (hq : q.length ≤ 1000000) (hv : v.length ≤ 1000000) :
    ∃ o1 o2 o3 o4, SubstIs T S o1 ∧ SubstIs (tmS o1) U o2 ∧ SubstIs (.mk 5 0 ⟨#[]⟩ [T]) U o3 ∧ SubstIs S U o4 ∧
      (codeS o1 = 0 → codeS o2 = 0 → codeS o3 = 0 → codeS o4 = 0 → ∃ x, tmS o3 = .mk 5 0 ⟨#[]⟩ [x] ∧ ∃ o5, SubstIs x (tmS o4) o5 ∧ (codeS o5 = 0 → sameV (tmS o5) (tmS o2) = true)) := by
  have hG1 : (Uy :: G).length ≤ 1000000 := by simp only [List.length_cons]; omega
  obtain ⟨o1, i1, k1⟩ := subst_is hT hS rT rS hG1 hq hv
  have ok1 : rawP (tmS o1) = 0 → okT p v q (Uy :: G) (tmS o1) ty = true := fun h => by
    by_cases c : codeS o1 = 0
    · exact (k1 c).2.1
    · cases o1 with
      | inl e => exact absurd h raw_tm0
      | inr u => exact absurd rfl c
  obtain ⟨o2, i2, k2⟩ := subst_any (t := tmS o1) (s := U) ok1 (fun _ => hU) (by omega) hq hv
  obtain ⟨o3, i3, k3⟩ := subst_any (t := .mk 5 0 ⟨#[]⟩ [T]) (s := U) (ty := .mk ⟨#[45, 62]⟩ [Sy, ty]) (fun _ => ok_lam hT) (fun _ => hU) (by omega) hq hv
  obtain ⟨o4, i4, k4⟩ := subst_is hS hU rS rU (by omega) hq hv
  refine ⟨o1, o2, o3, o4, i1, i2, i3, i4, fun c1 c2 c3 c4 => ?_⟩
  obtain ⟨ra, oa, da⟩ := k1 c1
  obtain ⟨_, _, rb, ob, db⟩ := k2 c2
  obtain ⟨_, _, rc, oc, dc⟩ := k3 c3
  obtain ⟨rd, od, dd⟩ := k4 c4
  obtain ⟨x, hx, sx, ox⟩ := ok_two (raw_parts rc).2.1 oc (by rfl)
  refine ⟨x, hx, ?_⟩
  rw [hx] at rc dc
  have rx := raw_body rc
  obtain ⟨o5, i5, k5⟩ := subst_is (A := Sy) (ty := ty) ox od rx rd (by omega) hq hv
  refine ⟨o5, i5, fun c5 => ?_⟩
  obtain ⟨ry, _, dy⟩ := k5 c5
  rw [emb_lam, emb_lam] at dc
  have dx : La.Red (La.sub (La.ups (La.one (emb U))) (emb T)) (emb x) := La.Red.lam_inv dc
  have e1 : La.Red (La.inst (emb U) (La.inst (emb S) (emb T))) (emb (tmS o2)) := (da.inst (.refl _)).trans db
  have e2 : La.Red (La.inst (emb U) (La.inst (emb S) (emb T))) (emb (tmS o5)) := by
    rw [La.swap]
    exact (dx.inst dd).trans dy
  rw [same_reducts e2 e1 ry rb]
  exact sameV_refl rb
end Go.Proofs.YtpgbeapojjinmaaGreatDoor
