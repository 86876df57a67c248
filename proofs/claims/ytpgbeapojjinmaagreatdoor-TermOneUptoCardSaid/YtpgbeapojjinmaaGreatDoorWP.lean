/- Plain law of the worker: shape, renaming, reading as plain lambda terms. No law is proved here. -/
import Derived.Test.YtpgbeapojjinmaaGreatDoorPS
import Derived.Test.YtpgbeapojjinmaaGreatDoorCF
set_option linter.unusedVariables false
set_option linter.unusedSimpArgs false
namespace Go.Proofs.YtpgbeapojjinmaaGreatDoor
open Go.RowKit Go.Shelf Go.Proofs.YtpgbeapojjinmaaGreatDoorW.PrintLast
/-! ### 1. Shape: a raw term but for the greatest number -/
def shpN (k n : Int) (nm : ByteArray) (l : Nat) : Bool := if k = 1 then n == 0 && (isTok nm 1 && decide (l ≤ 8))
  else if k = 2 ∨ (k = 3 ∨ k = 4) then decide (0 ≤ n) && (nm.toList == [] && decide (l ≤ 8))
  else k == 5 && (n == 0 && (nm.toList == [] && l == 1))
mutual
def shp : Tm → Bool
  | .mk k n nm ar => shpN k n nm ar.length && shpL ar
def shpL : List Tm → Bool
  | [] => true
  | t :: ts => shp t && shpL ts
end
mutual
/-- No number is too great. -/
def small : Int → Tm → Bool
  | g, .mk k n nm ar => decide (n ≤ g) && smallL g ar
def smallL : Int → List Tm → Bool
  | _, [] => true
  | g, t :: ts => small g t && smallL g ts
end
theorem nodeP_shp (k n : Int) (nm : ByteArray) (ar : List Tm) : nodeP (.mk k n nm ar) = (shpN k n nm ar.length && decide (n ≤ 100000)) := by
  rw [nodeP_mk]
  unfold shpN
  by_cases h1 : k = 1
  · rw [if_pos h1, if_pos h1]
    by_cases h : n = 0
    · subst h; simp
    · have : (n == 0) = false := by simpa using h
      rw [this]; simp
  · rw [if_neg h1, if_neg h1]
    by_cases h2 : k = 2 ∨ (k = 3 ∨ k = 4)
    · rw [if_pos h2, if_pos h2]
      cases decide (0 ≤ n) <;> cases decide (n ≤ 100000) <;> cases (nm.toList == []) <;> cases decide (ar.length ≤ 8) <;> rfl
    · rw [if_neg h2, if_neg h2]
      by_cases h : n = 0
      · subst h; simp
      · have : (n == 0) = false := by simpa using h
        rw [this]; simp
mutual
theorem raw_shp : ∀ t : Tm, rawN t = (shp t && small 100000 t)
  | .mk k n nm ar => by
    rw [rawN, shp, small, nodeP_shp, raw_shpL ar]
    cases shpN k n nm ar.length <;> cases decide (n ≤ 100000) <;> cases shpL ar <;> cases smallL 100000 ar <;> rfl
theorem raw_shpL : ∀ l : List Tm, rawNL l = (shpL l && smallL 100000 l)
  | [] => rfl
  | t :: ts => by
    rw [rawNL, shpL, smallL, raw_shp t, raw_shpL ts]
    cases shp t <;> cases small 100000 t <;> cases shpL ts <;> cases smallL 100000 ts <;> rfl
end
mutual
theorem fits_small : ∀ (t : Tm) (s : Bool) (b : Int), eachT (fun s u _ => s && decide (u.n ≤ 100000)) s b t = (s && small 100000 t)
  | .mk k n nm ar, s, b => by
    rw [eachT, small, fits_smallL ar]
    show (s && decide (n ≤ 100000) && smallL 100000 ar) = _
    cases s <;> cases decide (n ≤ 100000) <;> rfl
theorem fits_smallL : ∀ (l : List Tm) (s : Bool) (b : Int), eachL (fun s u _ => s && decide (u.n ≤ 100000)) s b l = (s && smallL 100000 l)
  | [], s, b => by rw [eachL, smallL]; cases s <;> rfl
  | t :: ts, s, b => by
    rw [eachL, smallL, fits_smallL ts, fits_small t]
    cases s <;> cases small 100000 t <;> rfl
end
theorem fitsP_small (t : Tm) : fitsP t = small 100000 t := by
  unfold fitsP
  rw [fits_small]
  rfl
theorem shp_k {k n : Int} {nm : ByteArray} {l : Nat} (h : shpN k n nm l = true) : 0 ≤ n ∧ (k = 5 → n = 0 ∧ nm = ⟨#[]⟩ ∧ l = 1) ∧ (k = 1 ∨ k = 2 ∨ k = 3 ∨ k = 4 ∨ k = 5) ∧ (k = 1 → n = 0) := by
  unfold shpN at h
  split at h
  · simp only [Bool.and_eq_true, beq_iff_eq] at h; exact ⟨by omega, by omega, by omega, by omega⟩
  · split at h
    · simp only [Bool.and_eq_true, beq_iff_eq, decide_eq_true_eq] at h; exact ⟨by omega, by omega, by omega, by omega⟩
    · simp only [Bool.and_eq_true, beq_iff_eq] at h
      refine ⟨by omega, fun _ => ⟨h.2.1, ?_, h.2.2.2⟩, by omega, by omega⟩
      apply ByteArray.ext
      apply Array.ext'
      rw [← ByteArray.toList_eq, h.2.2.1]
theorem shpN_n {k n n' : Int} {nm : ByteArray} {l : Nat} (h : shpN k n nm l = true) (hk : k = 2 ∨ n' = n) (hn : 0 ≤ n') : shpN k n' nm l = true := by
  rcases hk with rfl | rfl
  · unfold shpN at h ⊢
    rw [if_neg (by omega), if_pos (by omega)] at h ⊢
    simp only [Bool.and_eq_true, decide_eq_true_eq] at h ⊢
    exact ⟨hn, h.2⟩
  · exact h
theorem shp_lam {n : Int} {nm : ByteArray} {ar : List Tm} (h : shp (.mk 5 n nm ar) = true) : n = 0 ∧ nm = ⟨#[]⟩ ∧ ∃ x, ar = [x] ∧ shp x = true := by
  rw [shp, Bool.and_eq_true] at h
  obtain ⟨h1, h2, h3⟩ := (shp_k h.1).2.1 rfl
  match ar, h3, h.2 with
  | [x], _, hx => exact ⟨h1, h2, x, rfl, by rw [shpL, Bool.and_eq_true] at hx; exact hx.1⟩
theorem shp_of_lam {x : Tm} (h : shp x = true) : shp (.mk 5 0 ⟨#[]⟩ [x]) = true := by
  rw [shp, shpL, h]
  simp [shpN, shpL, ByteArray.toList_eq]
/-! ### 2. Renaming -/
mutual
def liftT (up : Int) : Int → Tm → Tm
  | d, .mk k n nm ar => .mk k (if k = 2 ∧ d ≤ n then n + up else n) nm (liftL up (if k = 5 then d + 1 else d) ar)
def liftL (up : Int) : Int → List Tm → List Tm
  | _, [] => []
  | d, t :: ts => liftT up d t :: liftL up d ts
end
mutual
theorem reb_lift (up : Int) : ∀ (d : Int) (t : Tm), rebT (upG up) d t = some (liftT up d t)
  | d, .mk k n nm ar => by rw [rebT, reb_liftL up _ ar, liftT]; rfl
theorem reb_liftL (up : Int) : ∀ (d : Int) (l : List Tm), rebL (upG up) d l = some (liftL up d l)
  | d, [] => rfl
  | d, t :: ts => by rw [rebL, reb_lift up d t, reb_liftL up d ts, liftL]; rfl
end
mutual
theorem lift_zero : ∀ (d : Int) (t : Tm), liftT 0 d t = t
  | d, .mk k n nm ar => by rw [liftT, lift_zeroL _ ar]; congr 1; split <;> omega
theorem lift_zeroL : ∀ (d : Int) (l : List Tm), liftL 0 d l = l
  | d, [] => rfl
  | d, t :: ts => by rw [liftL, lift_zero d t, lift_zeroL d ts]
end
theorem upB_lift (b : Int) (s : Tm) : upB b s = liftT b 0 s := by
  unfold upB
  split
  · rename_i h; rw [h, lift_zero]
  · have h1 := upT_eq b s
    rw [reb_lift] at h1
    exact (Option.some.inj h1).symm
theorem liftL_len (up : Int) : ∀ (d : Int) (l : List Tm), (liftL up d l).length = l.length
  | d, [] => rfl
  | d, t :: ts => by rw [liftL, List.length_cons, List.length_cons, liftL_len up d ts]
mutual
theorem shp_lift {up : Int} (hu : 0 ≤ up) : ∀ (d : Int) (t : Tm), shp t = true → shp (liftT up d t) = true
  | d, .mk k n nm ar, h => by
    rw [shp, Bool.and_eq_true] at h
    rw [liftT, shp, liftL_len, shp_liftL hu _ ar h.2, Bool.and_true]
    have := (shp_k h.1).1
    exact shpN_n h.1 (by split <;> omega) (by split <;> omega)
theorem shp_liftL {up : Int} (hu : 0 ≤ up) : ∀ (d : Int) (l : List Tm), shpL l = true → shpL (liftL up d l) = true
  | d, [], h => rfl
  | d, t :: ts, h => by
    rw [shpL, Bool.and_eq_true] at h
    rw [liftL, shpL, shp_lift hu d t h.1, shp_liftL hu d ts h.2]
    rfl
end
mutual
theorem ld_lift {up : Int} : ∀ (d : Int) (t : Tm), (liftT up d t).ld = t.ld
  | d, .mk k n nm ar => by rw [liftT, Tm.ld, Tm.ld, ld_liftL _ ar]
theorem ld_liftL {up : Int} : ∀ (d : Int) (l : List Tm), Tm.ldL (liftL up d l) = Tm.ldL l
  | d, [] => rfl
  | d, t :: ts => by rw [liftL, Tm.ldL, Tm.ldL, ld_lift d t, ld_liftL d ts]
end
/-! ### 3. Terms as plain lambda terms -/
def hdE (k n : Int) (nm : ByteArray) : La := if k = 2 then .var n.toNat else .cst k n nm
mutual
def emb : Tm → La
  | .mk k n nm ar => if k = 5 then .lam (embF ar) else embA (hdE k n nm) ar
def embF : List Tm → La
  | [] => .cst 0 0 ⟨#[]⟩
  | x :: _ => emb x
def embA : La → List Tm → La
  | h, [] => h
  | h, x :: xs => embA (.app h (emb x)) xs
end
def isLam : La → Bool
  | .lam _ => true
  | _ => false
theorem hdE_no (k n : Int) (nm : ByteArray) : isLam (hdE k n nm) = false ∧ La.nf (hdE k n nm) = true := by
  unfold hdE
  split <;> exact ⟨rfl, rfl⟩
theorem nf_app {a b : La} (h : isLam a = false) (ha : La.nf a = true) (hb : La.nf b = true) : La.nf (.app a b) = true := by
  cases a with
  | var n => exact hb
  | cst k n m => exact hb
  | app c d => simp only [La.nf, Bool.and_eq_true]; exact ⟨ha, hb⟩
  | lam a => simp [isLam] at h
mutual
theorem emb_nf : ∀ t : Tm, shp t = true → La.nf (emb t) = true
  | .mk k n nm ar, h => by
    rw [emb]
    by_cases hk : k = 5
    · rw [if_pos hk]
      subst hk
      obtain ⟨_, _, x, rfl, hx⟩ := shp_lam h
      rw [embF]
      exact emb_nf x hx
    · rw [if_neg hk]
      rw [shp, Bool.and_eq_true] at h
      exact embA_nf _ ar (hdE_no k n nm).1 (hdE_no k n nm).2 h.2
theorem embA_nf : ∀ (h : La) (l : List Tm), isLam h = false → La.nf h = true → shpL l = true → La.nf (embA h l) = true
  | h, [], h1, h2, h3 => by rw [embA]; exact h2
  | h, x :: xs, h1, h2, h3 => by
    rw [shpL, Bool.and_eq_true] at h3
    rw [embA]
    exact embA_nf _ xs rfl (nf_app h1 h2 (emb_nf x h3.1)) h3.2
end
/-- Head and arguments of a plain term. -/
def unapp : La → La × List La
  | .app a b => ((unapp a).1, (unapp a).2 ++ [b])
  | t => (t, [])
def embS : List Tm → List La
  | [] => []
  | x :: xs => emb x :: embS xs
theorem unapp_embA : ∀ (l : List Tm) (h : La), unapp (embA h l) = ((unapp h).1, (unapp h).2 ++ embS l)
  | [], h => by rw [embA, embS, List.append_nil]
  | x :: xs, h => by rw [embA, unapp_embA xs, unapp, embS, List.append_assoc]; rfl
theorem unapp_hd (k n : Int) (nm : ByteArray) : unapp (hdE k n nm) = (hdE k n nm, []) := by
  unfold hdE
  split <;> rfl
theorem isLam_embA : ∀ (l : List Tm) (h : La), isLam h = false → isLam (embA h l) = false
  | [], h, e => by rw [embA]; exact e
  | x :: xs, h, e => by rw [embA]; exact isLam_embA xs _ rfl
mutual
theorem emb_inj : ∀ (t u : Tm), shp t = true → shp u = true → emb t = emb u → t = u
  | .mk k n nm ar, .mk k' n' nm' ar', h, h', e => by
    by_cases hk : k = 5
    · subst hk
      obtain ⟨rfl, rfl, x, rfl, hx⟩ := shp_lam h
      by_cases hk' : k' = 5
      · subst hk'
        obtain ⟨rfl, rfl, x', rfl, hx'⟩ := shp_lam h'
        rw [emb, emb, if_pos rfl, if_pos rfl, embF, embF] at e
        rw [emb_inj x x' hx hx' (La.lam.inj e)]
      · rw [emb, emb, if_pos rfl, if_neg hk'] at e
        have := isLam_embA ar' _ (hdE_no k' n' nm').1
        rw [← e] at this
        cases this
    · by_cases hk' : k' = 5
      · rw [emb, emb, if_neg hk, if_pos hk'] at e
        have := isLam_embA ar _ (hdE_no k n nm).1
        rw [e] at this
        cases this
      · rw [emb, emb, if_neg hk, if_neg hk'] at e
        have := congrArg unapp e
        rw [unapp_embA, unapp_embA, unapp_hd, unapp_hd] at this
        have e1 := (Prod.mk.inj this).1
        have e2 := (Prod.mk.inj this).2
        simp only [List.nil_append] at e2
        rw [shp, Bool.and_eq_true] at h h'
        have := embS_inj ar ar' h.2 h'.2 e2
        subst this
        have s1 := shp_k h.1
        have s2 := shp_k h'.1
        unfold hdE at e1
        split at e1
        · rename_i q
          subst q
          split at e1
          · rename_i q
            subst q
            have hn : n = n' := by have := La.var.inj e1; omega
            have hz : ∀ m : ByteArray, (m.toList == []) = true → m = ⟨#[]⟩ := fun m hm => by
              apply ByteArray.ext
              apply Array.ext'
              rw [← ByteArray.toList_eq, beq_iff_eq.1 hm]
            have h3 := h.1
            have h4 := h'.1
            unfold shpN at h3 h4
            rw [if_neg (by omega), if_pos (by omega)] at h3 h4
            simp only [Bool.and_eq_true] at h3 h4
            rw [hn, hz nm h3.2.1, hz nm' h4.2.1]
          · cases e1
        · split at e1
          · cases e1
          · obtain ⟨rfl, rfl, rfl⟩ := La.cst.inj e1
            rfl
theorem embS_inj : ∀ (l m : List Tm), shpL l = true → shpL m = true → embS l = embS m → l = m
  | [], [], _, _, _ => rfl
  | [], y :: ys, _, _, e => by rw [embS, embS] at e; cases e
  | x :: xs, [], _, _, e => by rw [embS, embS] at e; cases e
  | x :: xs, y :: ys, h, h', e => by
    rw [embS, embS] at e
    rw [shpL, Bool.and_eq_true] at h h'
    obtain ⟨e1, e2⟩ := List.cons.inj e
    rw [emb_inj x y h.1 h'.1 e1, embS_inj xs ys h.2 h'.2 e2]
end
/-- Renaming of plain terms from some depth on. -/
def shf (up d : Nat) : Nat → Nat := fun n => if n < d then n else n + up
theorem upr_shf (up d : Nat) : La.upr (shf up d) = shf up (d + 1) := by
  funext n
  cases n with
  | zero => simp [La.upr, shf]
  | succ n =>
    unfold La.upr shf
    simp only []
    by_cases h : n < d
    · rw [if_pos h, if_pos (by omega)]
    · rw [if_neg h, if_neg (by omega)]; omega
theorem embA_map (g : La → La) (hg : ∀ a b, g (.app a b) = .app (g a) (g b)) (f : Tm → Tm) : ∀ (l : List Tm) (h : La), (∀ x ∈ l, emb (f x) = g (emb x)) → g (embA h l) = embA (g h) (l.map f)
  | [], h, _ => by rw [List.map_nil, embA, embA]
  | x :: xs, h, H => by
    rw [embA, embA_map g hg f xs _ (fun y hy => H y (by simp [hy])), List.map_cons, embA, hg, H x (by simp)]
theorem liftL_map (up : Int) : ∀ (d : Int) (l : List Tm), liftL up d l = l.map (liftT up d)
  | d, [] => rfl
  | d, t :: ts => by rw [liftL, liftL_map up d ts, List.map_cons]
mutual
theorem emb_lift (up d : Nat) : ∀ t : Tm, shp t = true → emb (liftT up d t) = La.ren (shf up d) (emb t)
  | .mk k n nm ar, h => by
    by_cases hk : k = 5
    · subst hk
      obtain ⟨rfl, rfl, x, rfl, hx⟩ := shp_lam h
      rw [liftT, emb, emb, if_pos rfl, if_pos rfl, if_pos rfl, liftL, embF, embF, La.ren, upr_shf]
      have := emb_lift up (d + 1) x hx
      rw [← this]
      rfl
    · rw [liftT, emb, emb, if_neg hk, if_neg hk, if_neg hk]
      rw [shp, Bool.and_eq_true] at h
      rw [embA_lift up d ar h.2]
      congr 1
      have := (shp_k h.1).1
      unfold hdE
      by_cases q : k = 2
      · subst q
        rw [if_pos rfl, if_pos rfl]
        simp only [La.ren, shf, true_and]
        congr 1
        by_cases hd : (d : Int) ≤ n
        · rw [if_pos hd, if_neg (by omega)]; omega
        · rw [if_neg hd, if_pos (by omega)]
      · rw [if_neg q, if_neg q, if_neg (fun h => q h.1)]
        rfl
theorem embA_lift (up d : Nat) : ∀ l : List Tm, shpL l = true → ∀ h : La, La.ren (shf up d) (embA h l) = embA (La.ren (shf up d) h) (liftL up d l)
  | [], _, h => by rw [liftL, embA, embA]
  | x :: xs, hs, h => by
    rw [shpL, Bool.and_eq_true] at hs
    rw [embA, embA_lift up d xs hs.2, liftL, embA, emb_lift up d x hs.1]
    rfl
end
end Go.Proofs.YtpgbeapojjinmaaGreatDoor
