/- Plain law of Eta: it is told, its result is canonical and the eta-long form. No law is proved here. -/
import Derived.Test.YtpgbeapojjinmaaGreatDoorWE
set_option linter.unusedVariables false
set_option linter.unusedSimpArgs false
namespace Go.Proofs.YtpgbeapojjinmaaGreatDoor
open Go.RowKit Go.Shelf Go.Proofs.YtpgbeapojjinmaaGreatDoorW.PrintLast
/-! ### Eta in one step -/
def argsE : List Ty → List La
  | [] => []
  | a :: l => etaE a (.var l.length) :: argsE l
def lamsE : Nat → La → La
  | 0, t => t
  | n + 1, t => .lam (lamsE n t)
def resT : Ty → Ty
  | .mk _ [_, b] => resT b
  | .mk nm l => .mk nm l
theorem resT_no {B : Ty} (h : B.ar.length ≠ 2) : resT B = B := by
  obtain ⟨nm, ar⟩ := B
  simp only [Ty.ar] at h
  match ar, h with
  | [], _ => rw [resT]; simp
  | [a], _ => rw [resT]; simp
  | [a, b], h => exact absurd rfl h
  | a :: b :: c :: l, _ => rw [resT]; simp
theorem resT_leaf : ∀ (n : Nat) (B : Ty), B.sz ≤ n → (resT B).ar.length ≠ 2 ∧ (resT B).nm = partsR B
  | 0, B, hn => by have := B.sz_pos; omega
  | n + 1, B, hn => by
    rcases two_or B with ⟨nm, a, b, rfl⟩ | hl
    · simp only [Ty.sz, Ty.szL] at hn
      rw [resT, (parts2 (T := .mk nm [a, b]) rfl).2]
      exact resT_leaf n b (by omega)
    · rw [resT_no hl, (parts0 hl).2]; exact ⟨hl, rfl⟩
theorem ren_apps (f : Nat → Nat) : ∀ (l : List La) (h : La), La.ren f (appsE h l) = appsE (La.ren f h) (l.map (La.ren f))
  | [], h => rfl
  | x :: l, h => by rw [appsE, ren_apps f l, List.map_cons, appsE]; rfl
theorem etaE_spine : ∀ (n : Nat) (B : Ty) (h : La), B.sz ≤ n → etaE B h = lamsE (partsL B).length (appsE (La.ren (fun i => i + (partsL B).length) h) (argsE (partsL B)))
  | 0, B, h, hn => by have := B.sz_pos; omega
  | n + 1, B, h, hn => by
    rcases two_or B with ⟨nm, a, b, rfl⟩ | hl
    · simp only [Ty.sz, Ty.szL] at hn
      rw [etaE_two, (parts2 (T := .mk nm [a, b]) rfl).1, etaE_spine n b _ (by omega)]
      simp only [Ty.ar, List.getD_cons_zero, List.getD_cons_succ, List.length_cons, lamsE, argsE, appsE, La.ren, La.ren_ren, etaE_ren]
      have hf : (fun i => Nat.succ i + (partsL b).length) = (fun i => i + ((partsL b).length + 1)) := by
        funext i
        omega
      simp only [Nat.zero_add, hf]
    · rw [etaE_no hl, (parts0 hl).1]
      simp only [List.length_nil, lamsE, argsE, appsE]
      exact (ren_id h).symm
theorem emb_lams : ∀ (n : Nat) (t : Tm), emb (lamsT n t) = lamsE n (emb t)
  | 0, t => rfl
  | n + 1, t => by rw [lamsT, emb_lam, emb_lams n t, lamsE]
theorem shp_lams : ∀ (n : Nat) (t : Tm), shp t = true → shp (lamsT n t) = true
  | 0, t, h => h
  | n + 1, t, h => by rw [lamsT]; exact shp_of_lam (shp_lams n t h)
theorem ld_lams : ∀ (n : Nat) (t : Tm), (lamsT n t).ld = n + t.ld
  | 0, t => by simp [lamsT]
  | n + 1, t => by rw [lamsT, Tm.ld, Tm.ldL, Tm.ldL, ld_lams n t, Tm.one, if_pos rfl]; omega
theorem ok_lams {p : Pg} {v q : List Ty} : ∀ (n : Nat) (B : Ty) (r : List Ty) (t : Tm), B.sz ≤ n → okT p v q ((partsL B).reverse ++ r) t (resT B) = true → okT p v q r (lamsT (partsL B).length t) B = true
  | 0, B, r, t, hn, h => by have := B.sz_pos; omega
  | n + 1, B, r, t, hn, h => by
    rcases two_or B with ⟨nm, a, b, rfl⟩ | hl
    · simp only [Ty.sz, Ty.szL] at hn
      rw [(parts2 (T := .mk nm [a, b]) rfl).1] at h ⊢
      simp only [Ty.ar, List.getD_cons_zero, List.getD_cons_succ, List.reverse_cons, List.append_assoc, List.cons_append, List.nil_append, resT] at h
      simp only [Ty.ar, List.getD_cons_zero, List.getD_cons_succ, List.length_cons, lamsT]
      have := ok_lams n b (a :: r) t (by omega) h
      rw [okT, if_pos rfl]
      simp only [Ty.ar, List.getD_cons_zero, List.getD_cons_succ, okF, this]
      rfl
    · rw [resT_no hl, (parts0 hl).1] at h
      rw [(parts0 hl).1]
      exact h
/-! ### It is told -/
theorem etaL_more {r r' : Int → Tm → Ty → WRes} (h : ∀ c t a o, r c t a = some o → r' c t a = some o) : ∀ (l : List Ty) (m c : Int) (o : Sum Int (List Tm × Int)), etaL r m c l = some o → etaL r' m c l = some o
  | [], m, c, o, e => e
  | a :: l, m, c, o, e => by
    rw [etaL] at e ⊢
    cases q : r c (.mk 2 m ⟨#[]⟩ []) a with
    | none => rw [q] at e; cases e
    | some x =>
      rw [q] at e
      rw [h c _ a x q]
      cases x with
      | inl x => exact e
      | inr x =>
        obtain ⟨u, c'⟩ := x
        simp only [] at e ⊢
        cases q2 : etaL r (m - 1) c' l with
        | none => rw [q2] at e; cases e
        | some y =>
          rw [q2] at e
          rw [etaL_more h l _ c' y q2]
          exact e
theorem etaF_more : ∀ (f : Nat) (c : Int) (t : Tm) (ty : Ty) (o : Sum Int (Tm × Int)), etaF f c t ty = some o → etaF (f + 1) c t ty = some o
  | 0, c, t, ty, o, e => by simp [etaF] at e
  | f + 1, c, .mk k n nm ar, ty, o, e => by
    rw [etaF] at e ⊢
    split
    · rename_i h; rw [if_pos h] at e; cases e
    · rename_i h
      rw [if_neg h] at e
      split
      · rename_i h1
        rw [if_pos h1] at e
        split
        · rename_i h2
          rw [if_pos h2] at e
          cases q : etaL (etaF f) ((partsL ty).length - 1) (c + (1 + (partsL ty).length)) (partsL ty) with
          | none => rw [q] at e; cases e
          | some x =>
            rw [q] at e
            rw [etaL_more (fun c t a o h => etaF_more f c t a o h) _ _ _ x q]
            exact e
        · rename_i h2; rw [if_neg h2] at e; exact e
      · rename_i h1; rw [if_neg h1] at e; exact e
theorem etaF_le {f g : Nat} (h : f ≤ g) {c : Int} {t : Tm} {ty : Ty} {o : Sum Int (Tm × Int)} (e : etaF f c t ty = some o) : etaF g c t ty = some o := by
  induction h with
  | refl => exact e
  | step _ ih => exact etaF_more _ _ _ _ _ ih
/-- What is so of Eta's inner result. -/
structure EtaR (p : Pg) (v q : List Ty) (k n : Int) (nm : ByteArray) (ty : Ty) (c : Int) (u : Tm) (c' : Int) : Prop where
  c0 : c ≤ c'
  c1 : c' ≤ 4000
  shape : shp u = true
  ld : u.ld ≤ ty.sz
  em : emb u = etaE ty (hdE k n nm)
  ok : ∀ r, hdT p v q r k n nm = some ty → okT p v q r u ty = true
structure EtaRL (p : Pg) (v q : List Ty) (l : List Ty) (c : Int) (us : List Tm) (c' : Int) : Prop where
  c0 : c ≤ c'
  c1 : c' ≤ 4000
  shape : shpL us = true
  len : us.length = l.length
  ld : Tm.ldL us ≤ Ty.szL l
  em : embS us = argsE l
  ok : ∀ r, okL p v q (l.reverse ++ r) us l = true
def EtaT (p : Pg) (v q : List Ty) (N : Nat) : Prop := ∀ (ty : Ty) (c k n : Int) (nm : ByteArray), ty.sz ≤ N → 0 ≤ c → c ≤ 4000 → k ≠ 5 → shpN k n nm 0 = true → ∃ f o, etaF f c (.mk k n nm []) ty = some o ∧ (∀ u c', o = .inr (u, c') → EtaR p v q k n nm ty c u c') ∧ (∀ e, o = .inl e → e = 2)
theorem etaL_told {p : Pg} {v q : List Ty} {N : Nat} (IH : EtaT p v q N) : ∀ (l : List Ty) (c : Int), (∀ a ∈ l, a.sz ≤ N) → 0 ≤ c → c ≤ 4000 → ∃ f o, etaL (etaF f) (l.length - 1) c l = some o ∧ (∀ us c', o = .inr (us, c') → EtaRL p v q l c us c') ∧ (∀ e, o = .inl e → e = 2)
  | [], c, hl, h0, h1 => ⟨0, .inr ([], c), rfl, fun us c' e => by cases e; exact ⟨Int.le_refl _, h1, rfl, rfl, Nat.zero_le _, rfl, fun r => rfl⟩, nofun⟩
  | a :: l, c, hl, h0, h1 => by
    obtain ⟨f, o, e, r, re⟩ := IH a c 2 l.length ⟨#[]⟩ (hl a (by simp)) h0 h1 (by omega) (by unfold shpN; rw [if_neg (by omega), if_pos (by omega)]; simp [ByteArray.toList_eq])
    have hm : ((a :: l).length : Int) - 1 = l.length := by simp
    rw [hm]
    cases o with
    | inl x => exact ⟨f, .inl x, by simp only [etaL, e], nofun, fun y z => by cases z; exact re _ rfl⟩
    | inr x =>
      obtain ⟨u, c'⟩ := x
      have R := r u c' rfl
      obtain ⟨g, o2, e2, r2, re2⟩ := etaL_told IH l c' (fun b hb => hl b (by simp [hb])) (by have := R.c0; omega) R.c1
      have e' := etaF_le (Nat.le_max_left f g) e
      have e2' := etaL_more (fun c t a o h => etaF_le (Nat.le_max_right f g) h) l _ c' o2 e2
      cases o2 with
      | inl y => exact ⟨max f g, .inl y, by simp only [etaL, e', e2'], nofun, re2⟩
      | inr y =>
        obtain ⟨us, c''⟩ := y
        have S := r2 us c'' rfl
        refine ⟨max f g, .inr (u :: us, c''), by simp only [etaL, e', e2'], fun us' c3 z => ?_, nofun⟩
        cases z
        refine ⟨Int.le_trans R.c0 S.c0, S.c1, by rw [shpL, R.shape, S.shape]; rfl, by simp [S.len], ?_, ?_, fun r => ?_⟩
        · have := R.ld; have := S.ld; simp only [Tm.ldL, Ty.szL]; omega
        · rw [embS, argsE, R.em, S.em]; simp [hdE]
        · rw [okL, Bool.and_eq_true]
          constructor
          · refine R.ok _ ?_
            unfold hdT
            rw [if_neg (by omega), if_pos rfl]
            simp
          · have := S.ok (a :: r)
            simpa using this
theorem parts_sum : ∀ (n : Nat) (B : Ty), B.sz ≤ n → (partsL B).length + Ty.szL (partsL B) + 1 ≤ B.sz
  | 0, B, hn => by have := B.sz_pos; omega
  | n + 1, B, hn => by
    rcases two_or B with ⟨nm, a, b, rfl⟩ | hl
    · simp only [Ty.sz, Ty.szL] at hn
      rw [(parts2 (T := .mk nm [a, b]) rfl).1]
      have := parts_sum n b (by omega)
      simp only [Ty.ar, List.getD_cons_zero, List.getD_cons_succ, List.length_cons, Ty.szL, Ty.sz]
      omega
    · rw [(parts0 hl).1]
      have := B.sz_pos
      simp [Ty.szL]
      omega
theorem eta_told (p : Pg) (v q : List Ty) : ∀ N : Nat, EtaT p v q N
  | 0 => fun ty c k n nm hN => by have := ty.sz_pos; omega
  | N + 1 => by
    intro ty c k n nm hN h0 h1 hk hs
    have hsum := parts_sum ty.sz ty (Nat.le_refl _)
    by_cases c1 : (partsL ty).length ≤ 8
    · by_cases c2 : c + (1 + (partsL ty).length) ≤ 4000
      · obtain ⟨f, o, e, r, re⟩ := etaL_told (eta_told p v q N) (partsL ty) (c + (1 + (partsL ty).length)) (fun a ha => by
          have : ∀ (l : List Ty), a ∈ l → a.sz ≤ Ty.szL l := fun l => by
            induction l with
            | nil => intro h; cases h
            | cons b l ih => intro h; rcases List.mem_cons.1 h with rfl | h; · simp only [Ty.szL]; omega
                             · have := ih h; simp only [Ty.szL]; omega
          have := this _ ha
          omega) (by omega) c2
        cases o with
        | inl x => exact ⟨f + 1, .inl x, by rw [etaF, if_neg (by omega), if_pos c1, if_pos c2, e], nofun, fun y z => by cases z; exact re _ rfl⟩
        | inr x =>
          obtain ⟨us, c'⟩ := x
          have R := r us c' rfl
          refine ⟨f + 1, .inr (lamsT (partsL ty).length (.mk k (if k = 2 then n + (partsL ty).length else n) nm us), c'), by rw [etaF, if_neg (by omega), if_pos c1, if_pos c2, e], fun u c3 z => ?_, nofun⟩
          cases z
          have hn0 := (shp_k hs).1
          have hsn : shpN k (if k = 2 then n + (partsL ty).length else n) nm us.length = true := by
            have hl : us.length ≤ 8 := by rw [R.len]; exact c1
            unfold shpN at hs ⊢
            split at hs
            · rename_i h
              rw [if_pos h, if_neg (by omega)]
              simp only [Bool.and_eq_true, decide_eq_true_eq] at hs ⊢
              exact ⟨hs.1, hs.2.1, hl⟩
            · rename_i h
              rw [if_neg h]
              split at hs
              · rename_i h2
                rw [if_pos h2]
                simp only [Bool.and_eq_true, decide_eq_true_eq] at hs ⊢
                exact ⟨by split <;> omega, hs.2.1, hl⟩
              · simp only [Bool.and_eq_true, beq_iff_eq] at hs
                exact absurd hs.1 hk
          refine ⟨by have := R.c0; omega, R.c1, shp_lams _ _ (by rw [shp, hsn, R.shape]; rfl), ?_, ?_, fun r hr => ?_⟩
          · rw [ld_lams, Tm.ld]
            unfold Tm.one
            rw [if_neg hk]
            have := R.ld
            omega
          · rw [emb_lams, emb_node hk, embA_apps, R.em, etaE_spine ty.sz ty _ (Nat.le_refl _)]
            congr 2
            unfold hdE
            by_cases k2 : k = 2
            · rw [if_pos k2, if_pos k2, if_pos k2, La.ren]
              congr 1
              omega
            · rw [if_neg k2, if_neg k2, if_neg k2]; rfl
          · refine ok_lams ty.sz ty r _ (Nat.le_refl _) ?_
            have hleaf := resT_leaf ty.sz ty (Nat.le_refl _)
            rw [okT, if_neg hleaf.1, if_neg hk]
            have := hdT_lift (D := []) (E := (partsL ty).reverse) (G := r) hn0 (by simpa using hr)
            simp only [List.nil_append, List.length_nil, List.length_reverse] at this
            have e2 : (if k = 2 ∧ ((0 : Nat) : Int) ≤ n then n + ((partsL ty).length : Int) else n) = (if k = 2 then n + ((partsL ty).length : Int) else n) := by
              by_cases k2 : k = 2
              · rw [if_pos ⟨k2, by omega⟩, if_pos k2]
              · rw [if_neg (fun z => k2 z.1), if_neg k2]
            rw [e2] at this
            rw [this]
            simp only [Bool.and_eq_true, beq_iff_eq]
            exact ⟨by rw [hleaf.2], R.ok r⟩
      · exact ⟨1, .inl 2, by rw [etaF, if_neg (by omega), if_pos c1, if_neg c2], nofun, fun e z => by cases z; rfl⟩
    · exact ⟨1, .inl 2, by rw [etaF, if_neg (by omega), if_neg c1], nofun, fun e z => by cases z; rfl⟩
end Go.Proofs.YtpgbeapojjinmaaGreatDoor
