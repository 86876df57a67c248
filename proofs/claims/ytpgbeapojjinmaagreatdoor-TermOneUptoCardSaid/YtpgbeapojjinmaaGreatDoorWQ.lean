/- Plain law of the worker: canonical terms, by structure. No law is proved here. -/
import Derived.Test.YtpgbeapojjinmaaGreatDoorWP
set_option linter.unusedVariables false
set_option linter.unusedSimpArgs false
namespace Go.Proofs.YtpgbeapojjinmaaGreatDoor
open Go.RowKit Go.Shelf Go.Proofs.YtpgbeapojjinmaaGreatDoorW.PrintLast
/-- The type of a head; the bound variables' types stand from the innermost on. -/
def hdT (p : Pg) (v q r : List Ty) (k n : Int) (nm : ByteArray) : Option Ty := if k = 1 then conO p nm else if k = 2 then r[n.toNat]? else if k = 3 then fromO q n else fromO v n
mutual
def okT (p : Pg) (v q : List Ty) : List Ty → Tm → Ty → Bool
  | r, .mk k n nm ar, ty => if ty.ar.length = 2 then k == 5 && okF p v q (ty.ar.getD 0 ty0 :: r) ar (ty.ar.getD 1 ty0)
    else if k = 5 then false else match hdT p v q r k n nm with
      | none => false
      | some own => (partsR own).toList == ty.nm.toList && okL p v q r ar (partsL own)
def okF (p : Pg) (v q : List Ty) : List Ty → List Tm → Ty → Bool
  | r, [], ty => false
  | r, x :: _, ty => okT p v q r x ty
def okL (p : Pg) (v q : List Ty) : List Ty → List Tm → List Ty → Bool
  | r, [], l => l.isEmpty
  | r, t :: ts, [] => false
  | r, t :: ts, a :: l => okT p v q r t a && okL p v q r ts l
end
theorem fromO_rev {b : List Ty} {n : Int} (h : 0 ≤ n) : fromO b (b.length - 1 - n) = b.reverse[n.toNat]? := by
  obtain ⟨j, rfl⟩ := Int.eq_ofNat_of_zero_le h
  unfold fromO
  by_cases c : j < b.length
  · rw [if_neg (by omega), show ((b.length : Int) - 1 - (j : Int)).toNat = b.length - 1 - j by omega, Int.toNat_natCast, List.getElem?_reverse c]
  · rw [if_pos (by omega), Int.toNat_natCast, List.getElem?_eq_none (by simp; omega)]
theorem typeOf_hd (p : Pg) (v q b : List Ty) {k n : Int} {nm : ByteArray} {ar : List Tm} (h : 0 ≤ n) : typeOfP p v q b (.mk k n nm ar) = hdT p v q b.reverse k n nm := by
  unfold typeOfP hdT
  show (if k = 1 then conO p nm else if k = 2 then fromO b (b.length - 1 - n) else if k = 3 then fromO q n else fromO v n) = _
  rw [fromO_rev h]
/-- The program's canonical is the one by structure. -/
theorem can_ok (p : Pg) (v q : List Ty) : ∀ (m : Nat) (t : Tm) (b : List Ty) (ty : Ty), t.sz ≤ m → shp t = true → canP p v q m b t ty = okT p v q b.reverse t ty
  | 0, t, b, ty, hm, h => by have := t.sz_pos; omega
  | m + 1, .mk k n nm ar, b, ty, hm, h => by
    rw [Tm.sz] at hm
    rw [canP, okT]
    show (if ty.ar.length = 2 then (if k = 5 then canP p v q m (b ++ [ty.ar.getD 0 ty0]) (ar.getD 0 tm0) (ty.ar.getD 1 ty0) else false) else if k = 5 then false else match typeOfP p v q b (.mk k n nm ar) with
      | none => false
      | some own => if ((partsR own).toList == ty.nm.toList && (partsL own).length == ar.length) = true then canAll (canP p v q m b) ar (partsL own) else false) = _
    by_cases h2 : ty.ar.length = 2
    · rw [if_pos h2, if_pos h2]
      by_cases hk : k = 5
      · subst hk
        obtain ⟨rfl, rfl, x, rfl, hx⟩ := shp_lam h
        rw [if_pos rfl, okF]
        have := can_ok p v q m x (b ++ [ty.ar.getD 0 ty0]) (ty.ar.getD 1 ty0) (by simp only [Tm.szL] at hm; omega) hx
        rw [List.reverse_append] at this
        exact this
      · rw [if_neg hk]
        have : (k == 5) = false := by simpa using hk
        rw [this]; rfl
    · rw [if_neg h2, if_neg h2]
      by_cases hk : k = 5
      · rw [if_pos hk, if_pos hk]
      · rw [if_neg hk, if_neg hk]
        rw [shp, Bool.and_eq_true] at h
        rw [typeOf_hd p v q b (shp_k h.1).1]
        cases hdT p v q b.reverse k n nm with
        | none => rfl
        | some own =>
          simp only []
          have hl : ∀ (ts : List Tm) (l : List Ty), Tm.szL ts ≤ m → shpL ts = true → (if l.length = ts.length then canAll (canP p v q m b) ts l else false) = okL p v q b.reverse ts l := by
            intro ts
            induction ts with
            | nil => intro l _ _; cases l <;> simp [okL, canAll]
            | cons t ts ih =>
              intro l hz hs
              rw [Tm.szL] at hz
              rw [shpL, Bool.and_eq_true] at hs
              cases l with
              | nil => simp [okL]
              | cons a l =>
                have e1 := can_ok p v q m t b a (by omega) hs.1
                have e2 := ih l (by omega) hs.2
                rw [okL, ← e1, ← e2, canAll]
                by_cases c : l.length = ts.length
                · rw [if_pos (by simpa using c), if_pos c]
                · rw [if_neg (by simpa using c), if_neg c, Bool.and_false]
          have := hl ar (partsL own) (by omega) h.2
          rw [← this]
          by_cases c1 : ((partsR own).toList == ty.nm.toList) = true
          · by_cases c2 : (partsL own).length = ar.length
            · simp [c1, c2]
            · simp [c1, c2]
          · have c1' : ((partsR own).toList == ty.nm.toList) = false := by simpa using c1
            simp [c1']
theorem okL_len {p : Pg} {v q : List Ty} {r : List Ty} : ∀ {ts : List Tm} {l : List Ty}, okL p v q r ts l = true → ts.length = l.length
  | [], [], _ => rfl
  | [], _ :: _, h => by simp [okL] at h
  | _ :: _, [], h => by simp [okL] at h
  | t :: ts, a :: l, h => by
    rw [okL, Bool.and_eq_true] at h
    rw [List.length_cons, List.length_cons, okL_len h.2]
/-! ### Weakening -/
theorem fromO_app {l m : List Ty} {n : Int} {u : Ty} (h : fromO l n = some u) : fromO (l ++ m) n = some u := by
  unfold fromO at h ⊢
  split at h
  · cases h
  · rw [if_neg (by simp; omega), List.getElem?_append_left (by omega)]
    exact h
theorem hdT_app {p : Pg} {v q r v' q' r' : List Ty} {k n : Int} {nm : ByteArray} {u : Ty} (h : hdT p v q r k n nm = some u) : hdT p (v ++ v') (q ++ q') (r ++ r') k n nm = some u := by
  unfold hdT at h ⊢
  split at h
  · rename_i c; rw [if_pos c]; exact h
  · rename_i c
    rw [if_neg c]
    split at h
    · rename_i c; rw [if_pos c]
      rw [List.getElem?_append_left (by have := List.getElem?_eq_some_iff.1 h; exact this.1)]
      exact h
    · rename_i c
      rw [if_neg c]
      split at h
      · rename_i c; rw [if_pos c]; exact fromO_app h
      · rename_i c; rw [if_neg c]; exact fromO_app h
mutual
theorem ok_app {p : Pg} {v q v' q' r' : List Ty} : ∀ (t : Tm) (r : List Ty) (ty : Ty), okT p v q r t ty = true → okT p (v ++ v') (q ++ q') (r ++ r') t ty = true
  | .mk k n nm ar, r, ty, h => by
    rw [okT] at h ⊢
    split at h
    · rename_i c
      rw [if_pos c]
      rw [Bool.and_eq_true] at h ⊢
      exact ⟨h.1, ok_appF ar _ _ h.2⟩
    · rename_i c
      rw [if_neg c]
      split at h
      · cases h
      · rename_i c
        rw [if_neg c]
        split at h
        · cases h
        · rename_i own e
          rw [hdT_app e]
          simp only [Bool.and_eq_true] at h ⊢
          exact ⟨h.1, ok_appL ar r _ h.2⟩
theorem ok_appF {p : Pg} {v q v' q' r' : List Ty} : ∀ (l : List Tm) (r : List Ty) (ty : Ty), okF p v q r l ty = true → okF p (v ++ v') (q ++ q') (r ++ r') l ty = true
  | [], r, ty, h => by rw [okF] at h; cases h
  | x :: xs, r, ty, h => by rw [okF] at h ⊢; exact ok_app x r ty h
theorem ok_appL {p : Pg} {v q v' q' r' : List Ty} : ∀ (l : List Tm) (r : List Ty) (tys : List Ty), okL p v q r l tys = true → okL p (v ++ v') (q ++ q') (r ++ r') l tys = true
  | [], r, tys, h => by rw [okL] at h ⊢; exact h
  | x :: xs, r, [], h => by rw [okL] at h; cases h
  | x :: xs, r, a :: tys, h => by
    rw [okL, Bool.and_eq_true] at h ⊢
    exact ⟨ok_app x r a h.1, ok_appL xs r tys h.2⟩
end
/-! ### Renaming -/
theorem hdT_lift {p : Pg} {v q D E G : List Ty} {k n : Int} {nm : ByteArray} {u : Ty} (hn : 0 ≤ n) (h : hdT p v q (D ++ G) k n nm = some u) :
    hdT p v q (D ++ E ++ G) k (if k = 2 ∧ (D.length : Int) ≤ n then n + E.length else n) nm = some u := by
  unfold hdT at h ⊢
  by_cases k1 : k = 1
  · rw [if_pos k1] at h ⊢; exact h
  · rw [if_neg k1] at h ⊢
    by_cases k2 : k = 2
    · rw [if_pos k2] at h ⊢
      by_cases c : (D.length : Int) ≤ n
      · rw [if_pos ⟨k2, c⟩]
        rw [List.getElem?_append_right (by omega)] at h
        rw [List.getElem?_append_right (by simp; omega), ← h]
        congr 1
        simp
        omega
      · rw [if_neg (fun q => c q.2)]
        rw [List.getElem?_append_left (by omega)] at h
        rw [List.append_assoc, List.getElem?_append_left (by omega)]
        exact h
    · rw [if_neg k2] at h ⊢
      have k2' : ¬ (k = 2 ∧ (D.length : Int) ≤ n) := fun z => k2 z.1
      rw [if_neg k2']
      exact h
mutual
theorem ok_lift {p : Pg} {v q E G : List Ty} : ∀ (t : Tm) (D : List Ty) (ty : Ty), shp t = true → okT p v q (D ++ G) t ty = true → okT p v q (D ++ E ++ G) (liftT E.length D.length t) ty = true
  | .mk k n nm ar, D, ty, hs, h => by
    rw [okT] at h
    rw [liftT, okT]
    rw [shp, Bool.and_eq_true] at hs
    split at h
    · rename_i c
      rw [if_pos c]
      rw [Bool.and_eq_true] at h ⊢
      have h5 : k = 5 := by simpa using h.1
      rw [if_pos h5]
      refine ⟨h.1, ?_⟩
      have := ok_liftF (p := p) (v := v) (q := q) (E := E) (G := G) ar (ty.ar.getD 0 ty0 :: D) _ hs.2 h.2
      simpa using this
    · rename_i c
      rw [if_neg c]
      split at h
      · cases h
      · rename_i c
        rw [if_neg c, if_neg c]
        split at h
        · cases h
        · rename_i own e
          rw [hdT_lift (shp_k hs.1).1 e]
          simp only [Bool.and_eq_true] at h ⊢
          exact ⟨h.1, ok_liftL ar D _ hs.2 h.2⟩
theorem ok_liftF {p : Pg} {v q E G : List Ty} : ∀ (l : List Tm) (D : List Ty) (ty : Ty), shpL l = true → okF p v q (D ++ G) l ty = true → okF p v q (D ++ E ++ G) (liftL E.length D.length l) ty = true
  | [], D, ty, hs, h => by rw [okF] at h; cases h
  | x :: xs, D, ty, hs, h => by
    rw [shpL, Bool.and_eq_true] at hs
    rw [okF] at h
    rw [liftL, okF]; exact ok_lift x D ty hs.1 h
theorem ok_liftL {p : Pg} {v q E G : List Ty} : ∀ (l : List Tm) (D : List Ty) (tys : List Ty), shpL l = true → okL p v q (D ++ G) l tys = true → okL p v q (D ++ E ++ G) (liftL E.length D.length l) tys = true
  | [], D, tys, hs, h => by rw [okL] at h; rw [liftL, okL]; exact h
  | x :: xs, D, [], hs, h => by rw [okL] at h; cases h
  | x :: xs, D, a :: tys, hs, h => by
    rw [shpL, Bool.and_eq_true] at hs
    rw [okL, Bool.and_eq_true] at h
    rw [liftL, okL, Bool.and_eq_true]
    exact ⟨ok_lift x D a hs.1 h.1, ok_liftL xs D tys hs.2 h.2⟩
end
/-! ### The type of a term with a head is told -/
theorem ok_leaf {p : Pg} {v q r : List Ty} {t : Tm} {a b : Ty} (hk : t.k ≠ 5) (ha : okT p v q r t a = true) (hb : okT p v q r t b = true) : a.ar.length ≠ 2 ∧ b.ar.length ≠ 2 ∧ a.nm.toList = b.nm.toList := by
  obtain ⟨k, n, nm, ar⟩ := t
  simp only [Tm.k] at hk
  rw [okT] at ha hb
  have h5 : (k == 5) = false := by simpa using hk
  split at ha
  · rw [h5] at ha; cases ha
  · split at hb
    · rw [h5] at hb; cases hb
    · rename_i c1 c2
      refine ⟨c1, c2, ?_⟩
      split at ha
      · cases ha
      · rename_i own e
        rw [e] at hb
        simp only [Bool.and_eq_true, beq_iff_eq] at ha hb
        rw [← ha.1, ← hb.1]
end Go.Proofs.YtpgbeapojjinmaaGreatDoor
