/- Plain law of types: what the program works out of a type is what the reference does. No program in sight. No law is proved here. -/
import Derived.Test.YtpgbeapojjinmaaGreatDoorP
set_option linter.unusedVariables false
set_option linter.unusedSimpArgs false
namespace Go.Proofs.YtpgbeapojjinmaaGreatDoor
theorem tyNL_stop {l : List Ty} {n d : Int} (h : 4000 < n) : tyNL 4000 l n d = n := by
  cases l with
  | nil => rw [tyNL]
  | cons t ts => rw [tyNL, if_neg (by omega)]
mutual
theorem wkT_eq : ∀ (t : Ty) (lv : Int) (m : Ms), 0 ≤ m.n → m.n ≤ 4000 → 1 ≤ lv → lv ≤ 101 → (wkT t lv m).n = tyN 4000 t m.n (102 - lv) ∧ ((wkT t lv m).ok = true ↔ tyN 4000 t m.n (102 - lv) ≤ 4000) ∧ ((wkT t lv m).ok = true → (wkT t lv m).d = max m.d (dpT t lv))
  | .mk nm l, lv, m, h0, h1, h2, h3 => by
    rw [wkT, tyN, dpT]
    by_cases c : 4000 < m.n + 1
    · rw [if_pos c, tyNL_stop c]
      exact ⟨rfl, ⟨fun h => by simp at h, fun h => by omega⟩, fun h => by simp at h⟩
    · rw [if_neg c]
      by_cases c2 : lv ≤ 100
      · rw [if_pos c2, if_pos c2]
        have := wkTL_eq l (lv + 1) ⟨m.n + 1, max m.d lv, true⟩ (by show 0 ≤ m.n + 1; omega) (by show m.n + 1 ≤ 4000; omega) rfl (by omega) (by omega)
        rw [show (103 : Int) - (lv + 1) = 102 - lv by omega] at this
        refine ⟨this.1, this.2.1, fun h => ?_⟩
        rw [this.2.2 h, dpTL_max]
      · rw [if_neg c2, if_neg c2]
        have hl : tyNL 4000 l (m.n + 1) (102 - lv) = m.n + 1 := by
          cases l with
          | nil => rw [tyNL]
          | cons t ts => rw [tyNL, if_neg (by omega)]
        rw [hl]
        exact ⟨rfl, ⟨fun _ => by omega, fun _ => rfl⟩, fun _ => rfl⟩
theorem wkTL_eq : ∀ (l : List Ty) (lv : Int) (m : Ms), 0 ≤ m.n → m.n ≤ 4000 → m.ok = true → 2 ≤ lv → lv ≤ 101 → (wkTL l lv m).n = tyNL 4000 l m.n (103 - lv) ∧ ((wkTL l lv m).ok = true ↔ tyNL 4000 l m.n (103 - lv) ≤ 4000) ∧ ((wkTL l lv m).ok = true → (wkTL l lv m).d = dpTL l lv m.d)
  | [], lv, m, h0, h1, hk, h2, h3 => by
    rw [wkTL, tyNL, dpTL]
    exact ⟨rfl, ⟨fun _ => h1, fun _ => hk⟩, fun _ => rfl⟩
  | t :: ts, lv, m, h0, h1, hk, h2, h3 => by
    have a := wkT_eq t lv m h0 h1 (by omega) h3
    have b := wkT_bd t lv m h0 h1
    rw [wkTL, tyNL, dpTL, if_pos (show m.n ≤ 4000 ∧ (1 : Int) < 103 - lv from ⟨h1, by omega⟩), show (103 : Int) - lv - 1 = 102 - lv by omega]
    by_cases c : (wkT t lv m).ok = true
    · rw [if_pos c]
      have := wkTL_eq ts lv (wkT t lv m) b.1 (b.2.2.1 c) c h2 h3
      rw [a.1, a.2.2 c] at this
      exact this
    · rw [if_neg c]
      have hn : 4000 < tyN 4000 t m.n (102 - lv) := by have := mt a.2.1.2 c; omega
      rw [tyNL_stop hn]
      exact ⟨a.1, ⟨fun h => absurd h c, fun h => by omega⟩, fun h => absurd h c⟩
theorem dpTL_max : ∀ (l : List Ty) (lv a b : Int), dpTL l lv (max a b) = max a (dpTL l lv b)
  | [], lv, a, b => by rw [dpTL, dpTL]
  | t :: ts, lv, a, b => by rw [dpTL, dpTL, ← dpTL_max ts]; congr 1; omega
end
mutual
theorem dpT_eq : ∀ (t : Ty) (lv : Int), 1 ≤ lv → lv ≤ 101 → dpT t lv = lv - 1 + tyD t (102 - lv)
  | .mk nm l, lv, h1, h2 => by
    rw [dpT, tyD]
    by_cases c : lv ≤ 100
    · have h := dpTL_eq l lv 0 h1 c (by omega) (by omega)
      rw [Int.add_zero] at h
      rw [if_pos c, h.1]
      omega
    · rw [if_neg c]
      have hl : tyDL l (102 - lv) 0 = 0 := by
        cases l with
        | nil => rw [tyDL]
        | cons t ts => rw [tyDL, if_neg (by omega)]
      rw [hl]
      omega
theorem dpTL_eq : ∀ (l : List Ty) (lv d : Int), 1 ≤ lv → lv ≤ 100 → 0 ≤ d → d ≤ 101 - lv → dpTL l (lv + 1) (lv + d) = lv + tyDL l (102 - lv) d ∧ tyDL l (102 - lv) d ≤ 101 - lv
  | [], lv, d, h1, h2, h3, h4 => by rw [dpTL, tyDL]; exact ⟨rfl, h4⟩
  | t :: ts, lv, d, h1, h2, h3, h4 => by
    have a := dpT_eq t (lv + 1) (by omega) (by omega)
    have b := tyD_bd t (102 - lv - 1) (by omega)
    rw [show (102 : Int) - (lv + 1) = 102 - lv - 1 by omega] at a
    rw [dpTL, tyDL, if_pos (by omega), a]
    have := dpTL_eq ts lv (max d (tyD t (102 - lv - 1))) h1 h2 (by omega) (by omega)
    rw [← this.1]
    refine ⟨?_, this.2⟩
    congr 1
    omega
end
theorem measT_eq (t : Ty) : measT t = (tyN 4000 t 0 101, tyD t 101) := by
  have a := wkT_eq t 1 ⟨0, 0, true⟩ (by decide) (by decide) (by omega) (by omega)
  have b := dpT_eq t 1 (by omega) (by omega)
  have c := tyD_bd t 101 (by omega)
  simp only [show (102 : Int) - 1 = 101 by omega] at a b
  unfold measT
  split
  · rename_i h
    rw [a.1, a.2.2 h, b]
    congr 1
    show max 0 (1 - 1 + tyD t 101) = tyD t 101
    omega
  · rw [a.1, b]
    congr 1
    omega
theorem sizedT_eq (t : Ty) : sizedT t = if 4000 < tyN 4000 t 0 101 then 2 else if 100 < tyD t 101 then 5 else 0 := by
  unfold sizedT
  rw [measT_eq]
theorem arrB_eq {nm : ByteArray} (h : arrB nm = true) : nm = ⟨#[45, 62]⟩ := by
  unfold arrB at h
  have h2 : nm.toList = [45, 62] := by simpa using h
  apply ByteArray.ext
  apply Array.ext'
  rw [← ByteArray.toList_eq, h2]
theorem ckTL_two {ss : List ByteArray} {a b : Ty} {x : Int} : ckTL ss [a, b] x = (ckT ss a x).bind (fun b' => ckT ss b b') := by
  rw [ckTL]
  cases ckT ss a x with
  | none => rfl
  | some y =>
    show ckTL ss [b] y = ckT ss b y
    rw [ckTL]
    cases ckT ss b y with
    | none => rfl
    | some z => show ckTL ss [] z = _; rw [ckTL]
theorem ckT_eq (ss : List ByteArray) : ∀ (n : Nat) (t : Ty) (_ : t.sz ≤ n) (x : Int), (formedT t = true → ckT ss t x = some (if basedT ss t = true then x else 40)) ∧ (formedT t = false → ckT ss t x = none)
  | 0, t, h, _ => by have := t.sz_pos; omega
  | n + 1, .mk nm l, h, x => by
    rw [ckT]
    cases c : arrB nm
    · rw [basedT_leaf c]
      have hf : formedT (.mk nm l) = (l.length == 0) := by unfold formedT; simp [c]
      rw [hf]
      match l with
      | [] =>
        simp only [okNode, c, List.length_nil]
        refine ⟨fun _ => ?_, fun h => by simp at h⟩
        cases hb : baseIn ss nm <;> simp [ckTL]
      | [a] => simp [okNode, c]
      | [a, b] => simp [okNode, c]
      | a :: b :: d :: e => simp [okNode, c]
    · match l, h with
      | [], _ => unfold formedT; simp [okNode, c]
      | [a], _ => unfold formedT; simp [okNode, c]
      | a :: b :: d :: e, _ => unfold formedT; simp [okNode, c]
      | [a, b], h =>
        have hf := formedT_two (a := a) (b := b) c
        have sa : a.sz ≤ n := by simp only [Ty.sz, Ty.szL] at h; omega
        have sb : b.sz ≤ n := by simp only [Ty.sz, Ty.szL] at h; omega
        rw [hf, basedT_two c]
        simp only [okNode, c, List.length_cons, List.length_nil]
        simp only [Nat.zero_add, Nat.reduceAdd, beq_self_eq_true, Bool.true_or, Bool.and_self, if_true, Bool.not_true, Bool.false_and, Bool.false_eq_true, if_false, ckTL_two]
        cases fa : formedT a
        · rw [(ckT_eq ss n a sa x).2 fa]
          exact ⟨fun h => by simp at h, fun _ => rfl⟩
        · rw [(ckT_eq ss n a sa x).1 fa]
          show (_ → ckT ss b _ = _) ∧ (_ → ckT ss b _ = _)
          have hb := ckT_eq ss n b sb (if basedT ss a = true then x else 40)
          refine ⟨fun h => ?_, fun h => hb.2 (by simpa using h)⟩
          rw [hb.1 (by simpa using h)]
          cases basedT ss a <;> cases basedT ss b <;> rfl
theorem checkP_eq (ss : List ByteArray) (t : Ty) : checkP ss t = checkTy ss t := by
  unfold checkP checkTy formTy
  rw [sizedT_eq]
  by_cases c1 : 4000 < tyN 4000 t 0 101
  · simp [c1]
  · by_cases c2 : 100 < tyD t 101
    · simp [c1, c2]
    · simp only [c1, c2, if_false, if_true]
      cases f : formedT t
      · rw [(ckT_eq ss t.sz t (Nat.le_refl _) 0).2 f]
        simp
      · rw [(ckT_eq ss t.sz t (Nat.le_refl _) 0).1 f]
        simp
theorem formTy_cases (t : Ty) : formTy t = 0 ∨ formTy t = 2 ∨ formTy t = 5 ∨ formTy t = 6 := by
  unfold formTy
  split
  · simp
  · split
    · simp
    · split <;> simp
theorem formP_eq (t : Ty) : formP t = (formTy t == 0) := by
  unfold formP
  rw [checkP_eq]
  unfold checkTy
  rcases formTy_cases t with h | h | h | h <;> rw [h]
  · cases basedT [] t <;> rfl
  · rfl
  · rfl
  · rfl
theorem sameP_eq (t u : Ty) : sameP t u = sameTy t u := by
  unfold sameP sameTy
  rw [formP_eq, formP_eq]
theorem PParts_eq (t : Ty) : PPartsL t = PartsL t ∧ PPartsR t = PartsR t := by
  unfold PPartsL PPartsR PartsL PartsR
  rw [formP_eq]
  by_cases h : formTy t = 0 <;> simp [h]
/-! ### The whole size and the whole depth -/
mutual
def Ty.dep : Ty → Int
  | .mk _ l => Ty.depL l + 1
def Ty.depL : List Ty → Int
  | [] => 0
  | t :: ts => max (Ty.dep t) (Ty.depL ts)
end
mutual
theorem Ty.dep_pos : ∀ t : Ty, 1 ≤ t.dep
  | .mk _ l => by have := Ty.depL_pos l; rw [Ty.dep]; omega
theorem Ty.depL_pos : ∀ l : List Ty, 0 ≤ Ty.depL l
  | [] => by simp [Ty.depL]
  | t :: ts => by have := Ty.depL_pos ts; rw [Ty.depL]; omega
end
mutual
theorem tyD_eq : ∀ (t : Ty) (m : Int), 1 ≤ m → tyD t m = min t.dep m
  | .mk _ l, m, h => by
    have := tyDL_eq l m 0 h (by omega)
    have h2 := Ty.depL_pos l
    rw [tyD, this, Ty.dep]
    omega
theorem tyDL_eq : ∀ (l : List Ty) (m d : Int), 1 ≤ m → 0 ≤ d → tyDL l m d = max d (min (Ty.depL l) (m - 1))
  | [], m, d, h, h0 => by rw [tyDL, Ty.depL]; omega
  | t :: ts, m, d, h, h0 => by
    have hp := Ty.dep_pos t
    have hq := Ty.depL_pos ts
    rw [tyDL, Ty.depL]
    split
    · have a := tyD_eq t (m - 1) (by omega)
      rw [tyDL_eq ts m _ h (by omega), a]
      omega
    · omega
end
mutual
theorem tyN_full : ∀ (t : Ty) (n m : Int), t.dep ≤ m → (n + t.sz ≤ 4000 → tyN 4000 t n m = n + t.sz) ∧ (4000 < n + t.sz → 4000 < tyN 4000 t n m)
  | .mk _ l, n, m, h => by
    rw [Ty.dep] at h
    have := tyNL_full l (n + 1) m (by omega)
    rw [tyN, Ty.sz]
    exact ⟨fun q => by rw [this.1 (by omega)]; omega, fun q => this.2 (by omega)⟩
theorem tyNL_full : ∀ (l : List Ty) (n m : Int), Ty.depL l ≤ m - 1 → (n + Ty.szL l ≤ 4000 → tyNL 4000 l n m = n + Ty.szL l) ∧ (4000 < n + Ty.szL l → 4000 < tyNL 4000 l n m)
  | [], n, m, h => by rw [tyNL, Ty.szL]; exact ⟨fun _ => by simp, fun q => by simpa using q⟩
  | t :: ts, n, m, h => by
    have hp := Ty.dep_pos t
    rw [Ty.depL] at h
    by_cases c : n ≤ 4000
    · have a := tyN_full t n (m - 1) (by omega)
      rw [tyNL, if_pos (show n ≤ 4000 ∧ (1 : Int) < m from ⟨c, by omega⟩), Ty.szL]
      by_cases c2 : n + t.sz ≤ 4000
      · rw [a.1 c2]
        have b := tyNL_full ts (n + t.sz) m (by omega)
        exact ⟨fun q => by rw [b.1 (by omega)]; omega, fun q => b.2 (by omega)⟩
      · have q := a.2 (by omega)
        rw [tyNL_stop q]
        exact ⟨fun q2 => by omega, fun _ => q⟩
    · rw [tyNL_stop (by omega)]
      exact ⟨fun q2 => by omega, fun _ => by omega⟩
end
theorem sizedT_zero (t : Ty) : sizedT t = 0 ↔ t.sz ≤ 4000 ∧ t.dep ≤ 100 := by
  have a := tyN_full t 0 101
  have b := tyD_eq t 101 (by omega)
  rw [sizedT_eq]
  constructor
  · intro h
    split at h
    · cases h
    · split at h
      · cases h
      · have h1 : t.dep ≤ 101 := by omega
        have := (a h1).2
        omega
  · rintro ⟨h1, h2⟩
    have := (a (by omega)).1 (by omega)
    rw [if_neg (by omega), if_neg (by omega)]
theorem formTy_eq (t : Ty) : formTy t = if sizedT t = 0 then (if formedT t then 0 else 6) else sizedT t := by
  rw [sizedT_eq]
  unfold formTy
  by_cases c1 : 4000 < tyN 4000 t 0 101
  · simp [c1]
  · by_cases c2 : 100 < tyD t 101 <;> simp [c1, c2]
theorem formTy_zero (t : Ty) : formTy t = 0 ↔ (t.sz ≤ 4000 ∧ t.dep ≤ 100) ∧ formedT t = true := by
  rw [formTy_eq, ← sizedT_zero]
  by_cases c : sizedT t = 0
  · cases f : formedT t <;> simp [c]
  · simp [c]
theorem formTy_two {nm : ByteArray} {a b : Ty} (h : formTy (.mk nm [a, b]) = 0) : arrB nm = true ∧ formTy a = 0 ∧ formTy b = 0 := by
  obtain ⟨⟨h1, h2⟩, h3⟩ := (formTy_zero _).1 h
  have ha := Ty.dep_pos a
  have hb := Ty.dep_pos b
  simp only [Ty.sz, Ty.szL] at h1
  simp only [Ty.dep, Ty.depL] at h2
  cases c : arrB nm
  · unfold formedT at h3; simp [c] at h3
  · rw [formedT_two c] at h3
    simp at h3
    exact ⟨rfl, (formTy_zero _).2 ⟨⟨by omega, by omega⟩, h3.1⟩, (formTy_zero _).2 ⟨⟨by omega, by omega⟩, h3.2⟩⟩
mutual
theorem sameT_refl : ∀ t : Ty, sameT t t = true
  | .mk _ l => by rw [sameT]; simp [sameTL_refl l]
theorem sameTL_refl : ∀ l : List Ty, sameTL l l = true
  | [] => by rw [sameTL]; simp
  | t :: ts => by rw [sameTL, sameT_refl t, sameTL_refl ts]; rfl
end
theorem sameTy_refl {t : Ty} (h : formTy t = 0) : sameTy t t = true := by simp [sameTy, h, sameT_refl]
theorem sameTys_refl : ∀ {l : List Ty}, (∀ t ∈ l, formTy t = 0) → sameTys l l = true
  | [], _ => by simp [sameTys]
  | t :: ts, h => by rw [sameTys, sameTy_refl (h t (by simp)), sameTys_refl (fun u hu => h u (by simp [hu]))]; rfl
theorem parts_form : ∀ (n : Nat) (t : Ty) (_ : t.sz ≤ n), formTy t = 0 → (∀ u ∈ partsL t, formTy u = 0) ∧ arrowT (partsR t) (partsL t) = t
  | 0, t, h, _ => by have := t.sz_pos; omega
  | n + 1, .mk nm [a, b], h, hf => by
    obtain ⟨c, fa, fb⟩ := formTy_two hf
    have ih := parts_form n b (by simp only [Ty.sz, Ty.szL] at h; omega) fb
    rw [parts_two.1, parts_two.2]
    refine ⟨fun u hu => ?_, ?_⟩
    · rcases List.mem_cons.1 hu with rfl | hu
      · exact fa
      · exact ih.1 u hu
    · rw [arrB_eq c]
      show Ty.mk _ [a, arrowT (partsR b) (partsL b)] = _
      rw [ih.2]
  | n + 1, .mk nm [], h, hf => by simp [partsL, partsR, arrowT]
  | n + 1, .mk nm [a], h, hf => by
    have := ((formTy_zero _).1 hf).2
    unfold formedT at this
    cases c : arrB nm <;> simp [c] at this
  | n + 1, .mk nm (a :: b :: d :: e), h, hf => by
    have := ((formTy_zero _).1 hf).2
    unfold formedT at this
    cases c : arrB nm <;> simp [c] at this
theorem PartsL_form (t : Ty) : ∀ u ∈ PartsL t, formTy u = 0 := by
  intro u hu
  unfold PartsL at hu
  split at hu
  · rename_i h
    exact (parts_form _ t (Nat.le_refl _) h).1 u hu
  · cases hu
theorem PartsL_arrow {t : Ty} (h : formTy t = 0) : sameTy (arrowT (PartsR t) (PartsL t)) t = true := by
  unfold PartsL PartsR
  rw [if_pos h, if_pos h, (parts_form _ t (Nat.le_refl _) h).2]
  exact sameTy_refl h
end Go.Proofs.YtpgbeapojjinmaaGreatDoor
