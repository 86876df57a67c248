/- Plain lambda terms: substitution, reduction, and that normal forms are unique. · Plain law of the worker: shape, renaming, reading as plain lambda terms. · Plain law of the worker: canonical terms, by structure. · Plain law of the worker: for canonical terms it ends; types stay, and what it makes is a reduct. · Plain law of the worker: for canonical terms it ends; types stay, and what it makes is a reduct. No law is proved here. -/
import Derived.Test.YtpgbeapojjinmaaGreatDoorA
import Derived.Test.YtpgbeapojjinmaaGreatDoorPS
set_option linter.unusedVariables false
set_option linter.unusedSimpArgs false
namespace Go.Proofs.YtpgbeapojjinmaaGreatDoor
/-- Lambda terms with constants. -/
inductive La where
  | var (n : Nat)
  | cst (k n : Int) (nm : ByteArray)
  | app (a b : La)
  | lam (a : La)
namespace La
def upr (f : Nat → Nat) : Nat → Nat | 0 => 0 | n + 1 => f n + 1
def ren : (Nat → Nat) → La → La
  | f, .var n => .var (f n)
  | _, .cst k n m => .cst k n m
  | f, .app a b => .app (ren f a) (ren f b)
  | f, .lam a => .lam (ren (upr f) a)
def ups (s : Nat → La) : Nat → La | 0 => .var 0 | n + 1 => ren Nat.succ (s n)
def sub : (Nat → La) → La → La
  | s, .var n => s n
  | _, .cst k n m => .cst k n m
  | s, .app a b => .app (sub s a) (sub s b)
  | s, .lam a => .lam (sub (ups s) a)
theorem upr_comp (f g : Nat → Nat) : (fun n => upr g (upr f n)) = upr (fun n => g (f n)) := by
  funext n
  cases n <;> rfl
theorem ren_ren : ∀ (t : La) (f g : Nat → Nat), ren g (ren f t) = ren (fun n => g (f n)) t
  | .var n, f, g => rfl
  | .cst .., f, g => rfl
  | .app a b, f, g => by simp only [ren, ren_ren a, ren_ren b]
  | .lam a, f, g => by simp only [ren, ren_ren a, upr_comp]
theorem ups_upr (s : Nat → La) (f : Nat → Nat) : (fun n => ups s (upr f n)) = ups (fun n => s (f n)) := by
  funext n
  cases n <;> rfl
theorem sub_ren : ∀ (t : La) (f : Nat → Nat) (s : Nat → La), sub s (ren f t) = sub (fun n => s (f n)) t
  | .var n, f, s => rfl
  | .cst .., f, s => rfl
  | .app a b, f, s => by simp only [ren, sub, sub_ren a, sub_ren b]
  | .lam a, f, s => by simp only [ren, sub, sub_ren a, ups_upr]
theorem ren_ups (f : Nat → Nat) (s : Nat → La) : (fun n => ren (upr f) (ups s n)) = ups (fun n => ren f (s n)) := by
  funext n
  cases n with
  | zero => rfl
  | succ n => simp only [ups, ren_ren]; rfl
theorem ren_sub : ∀ (t : La) (f : Nat → Nat) (s : Nat → La), ren f (sub s t) = sub (fun n => ren f (s n)) t
  | .var n, f, s => rfl
  | .cst .., f, s => rfl
  | .app a b, f, s => by simp only [ren, sub, ren_sub a, ren_sub b]
  | .lam a, f, s => by simp only [ren, sub, ren_sub a, ren_ups]
theorem sub_ups (s r : Nat → La) : (fun n => sub (ups r) (ups s n)) = ups (fun n => sub r (s n)) := by
  funext n
  cases n with
  | zero => rfl
  | succ n => simp only [ups, sub_ren, ren_sub]
theorem sub_sub : ∀ (t : La) (s r : Nat → La), sub r (sub s t) = sub (fun n => sub r (s n)) t
  | .var n, s, r => rfl
  | .cst .., s, r => rfl
  | .app a b, s, r => by simp only [sub, sub_sub a, sub_sub b]
  | .lam a, s, r => by simp only [sub, sub_sub a, sub_ups]
theorem ups_var : ups .var = .var := by
  funext n
  cases n <;> rfl
theorem sub_var : ∀ t : La, sub .var t = t
  | .var n => rfl
  | .cst .. => rfl
  | .app a b => by simp only [sub, sub_var a, sub_var b]
  | .lam a => by simp only [sub, ups_var, sub_var a]
theorem ren_is_sub : ∀ (t : La) (f : Nat → Nat), ren f t = sub (fun n => .var (f n)) t := fun t f => by
  have := sub_ren t f .var
  rw [sub_var] at this
  exact this
/-- The substitution of one term for the variable 0. -/
def one (b : La) : Nat → La | 0 => b | n + 1 => .var n
def inst (b a : La) : La := sub (one b) a
theorem sub_inst (s : Nat → La) (b a : La) : sub s (inst b a) = inst (sub s b) (sub (ups s) a) := by
  unfold inst
  rw [sub_sub, sub_sub]
  congr 1
  funext n
  cases n with
  | zero => rfl
  | succ n => simp only [one, sub, ups, sub_ren]; exact (sub_var _).symm
theorem ren_inst (f : Nat → Nat) (b a : La) : ren f (inst b a) = inst (ren f b) (ren (upr f) a) := by
  rw [ren_is_sub, ren_is_sub, ren_is_sub, sub_inst]
  congr 2
  funext n
  cases n <;> rfl
/-- Reduction of some redexes at once. -/
inductive Par : La → La → Prop
  | var (n : Nat) : Par (.var n) (.var n)
  | cst (k n : Int) (m : ByteArray) : Par (.cst k n m) (.cst k n m)
  | app {a a' b b' : La} : Par a a' → Par b b' → Par (.app a b) (.app a' b')
  | lam {a a' : La} : Par a a' → Par (.lam a) (.lam a')
  | beta {a a' b b' : La} : Par a a' → Par b b' → Par (.app (.lam a) b) (inst b' a')
theorem Par.refl : ∀ t : La, Par t t
  | .var n => .var n
  | .cst k n m => .cst k n m
  | .app a b => .app (Par.refl a) (Par.refl b)
  | .lam a => .lam (Par.refl a)
theorem Par.ren {t u : La} (h : Par t u) : ∀ f : Nat → Nat, Par (La.ren f t) (La.ren f u) := by
  induction h with
  | var n => exact fun f => .var _
  | cst k n m => exact fun f => .cst _ _ _
  | app _ _ ih ih' => exact fun f => .app (ih f) (ih' f)
  | lam _ ih => exact fun f => .lam (ih _)
  | beta _ _ ih ih' => intro f; rw [ren_inst]; exact .beta (ih _) (ih' f)
theorem Par.sub {t u : La} (h : Par t u) : ∀ s r : Nat → La, (∀ n, Par (s n) (r n)) → Par (La.sub s t) (La.sub r u) := by
  induction h with
  | var n => exact fun s r H => H n
  | cst k n m => exact fun s r H => .cst _ _ _
  | app _ _ ih ih' => exact fun s r H => .app (ih s r H) (ih' s r H)
  | lam _ ih =>
    exact fun s r H => .lam (ih _ _ (fun n => by
      cases n with
      | zero => exact .var 0
      | succ n => exact (H n).ren _))
  | beta _ _ ih ih' =>
    intro s r H
    rw [sub_inst]
    exact .beta (ih _ _ (fun n => by
      cases n with
      | zero => exact .var 0
      | succ n => exact (H n).ren _)) (ih' s r H)
theorem Par.inst {a a' b b' : La} (h : Par a a') (k : Par b b') : Par (La.inst b a) (La.inst b' a') :=
  h.sub _ _ (fun n => by
    cases n with
    | zero => exact k
    | succ n => exact .var n)
/-- All redexes at once. -/
def dev : La → La
  | .var n => .var n
  | .cst k n m => .cst k n m
  | .app (.lam a) b => inst (dev b) (dev a)
  | .app (.var n) b => .app (.var n) (dev b)
  | .app (.cst k n m) b => .app (.cst k n m) (dev b)
  | .app (.app a c) b => .app (dev (.app a c)) (dev b)
  | .lam a => .lam (dev a)
theorem Par.dev {t u : La} (h : Par t u) : Par u (La.dev t) := by
  induction h with
  | var n => exact .var n
  | cst k n m => exact .cst k n m
  | @app a a' b b' h1 h2 ih ih' =>
    cases a with
    | var n => simp only [La.dev] at ih ⊢; exact .app ih ih'
    | cst k n m => simp only [La.dev] at ih ⊢; exact .app ih ih'
    | app c d => simp only [La.dev] at ih ⊢; exact .app ih ih'
    | lam c =>
      cases h1 with
      | lam h1 =>
        simp only [La.dev] at ih ⊢
        cases ih with
        | lam ih => exact .beta ih ih'
  | lam _ ih => exact .lam ih
  | beta _ _ ih ih' => exact ih.inst ih'
/-- Some reductions, one behind the other. -/
inductive Red : La → La → Prop
  | refl (t : La) : Red t t
  | step {t u v : La} : Par t u → Red u v → Red t v
theorem Red.trans {t u v : La} (h : Red t u) (k : Red u v) : Red t v := by
  induction h with
  | refl => exact k
  | step p _ ih => exact .step p (ih k)
theorem Red.of {t u : La} (h : Par t u) : Red t u := .step h (.refl _)
theorem Red.lam {t u : La} (h : Red t u) : Red (.lam t) (.lam u) := by
  induction h with
  | refl => exact .refl _
  | step p _ ih => exact .step (.lam p) ih
theorem Red.app {a a' b b' : La} (h : Red a a') (k : Red b b') : Red (.app a b) (.app a' b') := by
  have h1 : Red (.app a b) (.app a' b) := by
    induction h with
    | refl => exact .refl _
    | step p _ ih => exact .step (.app p (Par.refl _)) ih
  refine h1.trans ?_
  clear h1 h
  induction k with
  | refl => exact .refl _
  | step p _ ih => exact .step (.app (Par.refl _) p) ih
theorem Red.ren {t u : La} (h : Red t u) (f : Nat → Nat) : Red (La.ren f t) (La.ren f u) := by
  induction h with
  | refl => exact .refl _
  | step p _ ih => exact .step (p.ren f) ih
theorem Red.sub {t u : La} (h : Red t u) (s : Nat → La) : Red (La.sub s t) (La.sub s u) := by
  induction h with
  | refl => exact .refl _
  | step p _ ih => exact .step (p.sub _ _ (fun n => Par.refl _)) ih
theorem Red.sub_right {b b' : La} (h : Red b b') (a : La) : Red (inst b a) (inst b' a) := by
  induction h with
  | refl => exact .refl _
  | step p _ ih => exact .step ((Par.refl a).inst p) ih
theorem Red.inst {a a' b b' : La} (h : Red a a') (k : Red b b') : Red (La.inst b a) (La.inst b' a') := (h.sub _).trans (k.sub_right _)
theorem strip {t u v : La} (h : Par t u) (k : Red t v) : ∃ x, Red u x ∧ Par v x := by
  induction k generalizing u with
  | refl => exact ⟨u, .refl _, h⟩
  | @step t t' v p _ ih =>
    obtain ⟨x, h1, h2⟩ := ih p.dev
    exact ⟨x, .step h.dev h1, h2⟩
theorem church {t u v : La} (h : Red t u) (k : Red t v) : ∃ x, Red u x ∧ Red v x := by
  induction h generalizing v with
  | refl => exact ⟨v, k, .refl _⟩
  | @step t t' u p _ ih =>
    obtain ⟨x, h1, h2⟩ := strip p k
    obtain ⟨y, h3, h4⟩ := ih h1
    exact ⟨y, h3, .step h2 h4⟩
/-- No redex. -/
def nf : La → Bool
  | .var _ => true
  | .cst .. => true
  | .app (.lam _) _ => false
  | .app (.var _) b => nf b
  | .app (.cst ..) b => nf b
  | .app (.app a c) b => nf (.app a c) && nf b
  | .lam a => nf a
theorem Par.nf {t u : La} (h : Par t u) : La.nf t = true → u = t := by
  induction h with
  | var n => exact fun _ => rfl
  | cst k n m => exact fun _ => rfl
  | @app a a' b b' h1 h2 ih ih' =>
    intro hn
    cases a with
    | var n => simp only [La.nf] at hn; rw [ih rfl, ih' hn]
    | cst k n m => simp only [La.nf] at hn; rw [ih rfl, ih' hn]
    | app c d => simp only [La.nf, Bool.and_eq_true] at hn; rw [ih hn.1, ih' hn.2]
    | lam c => simp [La.nf] at hn
  | lam _ ih => intro hn; rw [ih hn]
  | beta _ _ _ _ => intro hn; simp [La.nf] at hn
theorem Red.nf {t u : La} (h : Red t u) (hn : La.nf t = true) : u = t := by
  induction h with
  | refl => rfl
  | step p _ ih =>
    have := p.nf hn
    subst this
    exact ih hn
/-- Normal forms are unique. -/
theorem unique {t u v : La} (h : Red t u) (k : Red t v) (hu : La.nf u = true) (hv : La.nf v = true) : u = v := by
  obtain ⟨x, h1, h2⟩ := church h k
  rw [← h1.nf hu, ← h2.nf hv]
/-- Two substitutions, in either order. -/
theorem swap (t s u : La) : inst u (inst s t) = inst (inst u s) (sub (ups (one u)) t) := sub_inst (one u) s t
end La
end Go.Proofs.YtpgbeapojjinmaaGreatDoor
namespace Go.Proofs.YtpgbeapojjinmaaGreatDoor
open Go.RowKit Go.Shelf Go.Proofs.YtpgbeapojjinmaaGreatDoorW.PrintLast
/-! ### 1. Shape: a raw term but for the greatest number -/
def shpN (k n : Int) (nm : ByteArray) (l : Nat) : Bool := if k = 1 then n == 0 && (isTok nm 1 && decide (l ≤ 8))
  else if k = 2 ∨ (k = 3 ∨ k = 4) then decide (0 ≤ n) && (nm.toList == [] && decide (l ≤ 8))
  else k == 5 && (n == 0 && (nm.toList == [] && l == 1))
mutual
def shp : Tm → Bool
  | .mk k n nm ar => shpN k n nm ar.length && shpL ar
def shpL : List Tm → Bool
  | [] => true
  | t :: ts => shp t && shpL ts
end
mutual
/-- No number is too great. -/
def small : Int → Tm → Bool
  | g, .mk k n nm ar => decide (n ≤ g) && smallL g ar
def smallL : Int → List Tm → Bool
  | _, [] => true
  | g, t :: ts => small g t && smallL g ts
end
theorem nodeP_shp (k n : Int) (nm : ByteArray) (ar : List Tm) : nodeP (.mk k n nm ar) = (shpN k n nm ar.length && decide (n ≤ 100000)) := by
  rw [nodeP_mk]
  unfold shpN
  by_cases h1 : k = 1
  · rw [if_pos h1, if_pos h1]
    by_cases h : n = 0
    · subst h; simp
    · have : (n == 0) = false := by simpa using h
      rw [this]; simp
  · rw [if_neg h1, if_neg h1]
    by_cases h2 : k = 2 ∨ (k = 3 ∨ k = 4)
    · rw [if_pos h2, if_pos h2]
      cases decide (0 ≤ n) <;> cases decide (n ≤ 100000) <;> cases (nm.toList == []) <;> cases decide (ar.length ≤ 8) <;> rfl
    · rw [if_neg h2, if_neg h2]
      by_cases h : n = 0
      · subst h; simp
      · have : (n == 0) = false := by simpa using h
        rw [this]; simp
mutual
theorem raw_shp : ∀ t : Tm, rawN t = (shp t && small 100000 t)
  | .mk k n nm ar => by
    rw [rawN, shp, small, nodeP_shp, raw_shpL ar]
    cases shpN k n nm ar.length <;> cases decide (n ≤ 100000) <;> cases shpL ar <;> cases smallL 100000 ar <;> rfl
theorem raw_shpL : ∀ l : List Tm, rawNL l = (shpL l && smallL 100000 l)
  | [] => rfl
  | t :: ts => by
    rw [rawNL, shpL, smallL, raw_shp t, raw_shpL ts]
    cases shp t <;> cases small 100000 t <;> cases shpL ts <;> cases smallL 100000 ts <;> rfl
end
mutual
theorem fits_small : ∀ (t : Tm) (s : Bool) (b : Int), eachT (fun s u _ => s && decide (u.n ≤ 100000)) s b t = (s && small 100000 t)
  | .mk k n nm ar, s, b => by
    rw [eachT, small, fits_smallL ar]
    show (s && decide (n ≤ 100000) && smallL 100000 ar) = _
    cases s <;> cases decide (n ≤ 100000) <;> rfl
theorem fits_smallL : ∀ (l : List Tm) (s : Bool) (b : Int), eachL (fun s u _ => s && decide (u.n ≤ 100000)) s b l = (s && smallL 100000 l)
  | [], s, b => by rw [eachL, smallL]; cases s <;> rfl
  | t :: ts, s, b => by
    rw [eachL, smallL, fits_smallL ts, fits_small t]
    cases s <;> cases small 100000 t <;> rfl
end
theorem fitsP_small (t : Tm) : fitsP t = small 100000 t := by
  unfold fitsP
  rw [fits_small]
  rfl
theorem shp_k {k n : Int} {nm : ByteArray} {l : Nat} (h : shpN k n nm l = true) : 0 ≤ n ∧ (k = 5 → n = 0 ∧ nm = ⟨#[]⟩ ∧ l = 1) ∧ (k = 1 ∨ k = 2 ∨ k = 3 ∨ k = 4 ∨ k = 5) ∧ (k = 1 → n = 0) := by
  unfold shpN at h
  split at h
  · simp only [Bool.and_eq_true, beq_iff_eq] at h; exact ⟨by omega, by omega, by omega, by omega⟩
  · split at h
    · simp only [Bool.and_eq_true, beq_iff_eq, decide_eq_true_eq] at h; exact ⟨by omega, by omega, by omega, by omega⟩
    · simp only [Bool.and_eq_true, beq_iff_eq] at h
      refine ⟨by omega, fun _ => ⟨h.2.1, ?_, h.2.2.2⟩, by omega, by omega⟩
      apply ByteArray.ext
      apply Array.ext'
      rw [← ByteArray.toList_eq, h.2.2.1]
theorem shpN_n {k n n' : Int} {nm : ByteArray} {l : Nat} (h : shpN k n nm l = true) (hk : k = 2 ∨ n' = n) (hn : 0 ≤ n') : shpN k n' nm l = true := by
  rcases hk with rfl | rfl
  · unfold shpN at h ⊢
    rw [if_neg (by omega), if_pos (by omega)] at h ⊢
    simp only [Bool.and_eq_true, decide_eq_true_eq] at h ⊢
    exact ⟨hn, h.2⟩
  · exact h
theorem shp_lam {n : Int} {nm : ByteArray} {ar : List Tm} (h : shp (.mk 5 n nm ar) = true) : n = 0 ∧ nm = ⟨#[]⟩ ∧ ∃ x, ar = [x] ∧ shp x = true := by
  rw [shp, Bool.and_eq_true] at h
  obtain ⟨h1, h2, h3⟩ := (shp_k h.1).2.1 rfl
  match ar, h3, h.2 with
  | [x], _, hx => exact ⟨h1, h2, x, rfl, by rw [shpL, Bool.and_eq_true] at hx; exact hx.1⟩
theorem shp_of_lam {x : Tm} (h : shp x = true) : shp (.mk 5 0 ⟨#[]⟩ [x]) = true := by
  rw [shp, shpL, h]
  simp [shpN, shpL, ByteArray.toList_eq]
/-! ### 2. Renaming -/
mutual
def liftT (up : Int) : Int → Tm → Tm
  | d, .mk k n nm ar => .mk k (if k = 2 ∧ d ≤ n then n + up else n) nm (liftL up (if k = 5 then d + 1 else d) ar)
def liftL (up : Int) : Int → List Tm → List Tm
  | _, [] => []
  | d, t :: ts => liftT up d t :: liftL up d ts
end
mutual
theorem reb_lift (up : Int) : ∀ (d : Int) (t : Tm), rebT (upG up) d t = some (liftT up d t)
  | d, .mk k n nm ar => by rw [rebT, reb_liftL up _ ar, liftT]; rfl
theorem reb_liftL (up : Int) : ∀ (d : Int) (l : List Tm), rebL (upG up) d l = some (liftL up d l)
  | d, [] => rfl
  | d, t :: ts => by rw [rebL, reb_lift up d t, reb_liftL up d ts, liftL]; rfl
end
mutual
theorem lift_zero : ∀ (d : Int) (t : Tm), liftT 0 d t = t
  | d, .mk k n nm ar => by rw [liftT, lift_zeroL _ ar]; congr 1; split <;> omega
theorem lift_zeroL : ∀ (d : Int) (l : List Tm), liftL 0 d l = l
  | d, [] => rfl
  | d, t :: ts => by rw [liftL, lift_zero d t, lift_zeroL d ts]
end
theorem upB_lift (b : Int) (s : Tm) : upB b s = liftT b 0 s := by
  unfold upB
  split
  · rename_i h; rw [h, lift_zero]
  · have h1 := upT_eq b s
    rw [reb_lift] at h1
    exact (Option.some.inj h1).symm
theorem liftL_len (up : Int) : ∀ (d : Int) (l : List Tm), (liftL up d l).length = l.length
  | d, [] => rfl
  | d, t :: ts => by rw [liftL, List.length_cons, List.length_cons, liftL_len up d ts]
mutual
theorem shp_lift {up : Int} (hu : 0 ≤ up) : ∀ (d : Int) (t : Tm), shp t = true → shp (liftT up d t) = true
  | d, .mk k n nm ar, h => by
    rw [shp, Bool.and_eq_true] at h
    rw [liftT, shp, liftL_len, shp_liftL hu _ ar h.2, Bool.and_true]
    have := (shp_k h.1).1
    exact shpN_n h.1 (by split <;> omega) (by split <;> omega)
theorem shp_liftL {up : Int} (hu : 0 ≤ up) : ∀ (d : Int) (l : List Tm), shpL l = true → shpL (liftL up d l) = true
  | d, [], h => rfl
  | d, t :: ts, h => by
    rw [shpL, Bool.and_eq_true] at h
    rw [liftL, shpL, shp_lift hu d t h.1, shp_liftL hu d ts h.2]
    rfl
end
mutual
theorem ld_lift {up : Int} : ∀ (d : Int) (t : Tm), (liftT up d t).ld = t.ld
  | d, .mk k n nm ar => by rw [liftT, Tm.ld, Tm.ld, ld_liftL _ ar]
theorem ld_liftL {up : Int} : ∀ (d : Int) (l : List Tm), Tm.ldL (liftL up d l) = Tm.ldL l
  | d, [] => rfl
  | d, t :: ts => by rw [liftL, Tm.ldL, Tm.ldL, ld_lift d t, ld_liftL d ts]
end
/-! ### 3. Terms as plain lambda terms -/
def hdE (k n : Int) (nm : ByteArray) : La := if k = 2 then .var n.toNat else .cst k n nm
mutual
def emb : Tm → La
  | .mk k n nm ar => if k = 5 then .lam (embF ar) else embA (hdE k n nm) ar
def embF : List Tm → La
  | [] => .cst 0 0 ⟨#[]⟩
  | x :: _ => emb x
def embA : La → List Tm → La
  | h, [] => h
  | h, x :: xs => embA (.app h (emb x)) xs
end
def isLam : La → Bool
  | .lam _ => true
  | _ => false
theorem hdE_no (k n : Int) (nm : ByteArray) : isLam (hdE k n nm) = false ∧ La.nf (hdE k n nm) = true := by
  unfold hdE
  split <;> exact ⟨rfl, rfl⟩
theorem nf_app {a b : La} (h : isLam a = false) (ha : La.nf a = true) (hb : La.nf b = true) : La.nf (.app a b) = true := by
  cases a with
  | var n => exact hb
  | cst k n m => exact hb
  | app c d => simp only [La.nf, Bool.and_eq_true]; exact ⟨ha, hb⟩
  | lam a => simp [isLam] at h
mutual
theorem emb_nf : ∀ t : Tm, shp t = true → La.nf (emb t) = true
  | .mk k n nm ar, h => by
    rw [emb]
    by_cases hk : k = 5
    · rw [if_pos hk]
      subst hk
      obtain ⟨_, _, x, rfl, hx⟩ := shp_lam h
      rw [embF]
      exact emb_nf x hx
    · rw [if_neg hk]
      rw [shp, Bool.and_eq_true] at h
      exact embA_nf _ ar (hdE_no k n nm).1 (hdE_no k n nm).2 h.2
theorem embA_nf : ∀ (h : La) (l : List Tm), isLam h = false → La.nf h = true → shpL l = true → La.nf (embA h l) = true
  | h, [], h1, h2, h3 => by rw [embA]; exact h2
  | h, x :: xs, h1, h2, h3 => by
    rw [shpL, Bool.and_eq_true] at h3
    rw [embA]
    exact embA_nf _ xs rfl (nf_app h1 h2 (emb_nf x h3.1)) h3.2
end
/-- Head and arguments of a plain term. -/
def unapp : La → La × List La
  | .app a b => ((unapp a).1, (unapp a).2 ++ [b])
  | t => (t, [])
def embS : List Tm → List La
  | [] => []
  | x :: xs => emb x :: embS xs
theorem unapp_embA : ∀ (l : List Tm) (h : La), unapp (embA h l) = ((unapp h).1, (unapp h).2 ++ embS l)
  | [], h => by rw [embA, embS, List.append_nil]
  | x :: xs, h => by rw [embA, unapp_embA xs, unapp, embS, List.append_assoc]; rfl
theorem unapp_hd (k n : Int) (nm : ByteArray) : unapp (hdE k n nm) = (hdE k n nm, []) := by
  unfold hdE
  split <;> rfl
theorem isLam_embA : ∀ (l : List Tm) (h : La), isLam h = false → isLam (embA h l) = false
  | [], h, e => by rw [embA]; exact e
  | x :: xs, h, e => by rw [embA]; exact isLam_embA xs _ rfl
mutual
theorem emb_inj : ∀ (t u : Tm), shp t = true → shp u = true → emb t = emb u → t = u
  | .mk k n nm ar, .mk k' n' nm' ar', h, h', e => by
    by_cases hk : k = 5
    · subst hk
      obtain ⟨rfl, rfl, x, rfl, hx⟩ := shp_lam h
      by_cases hk' : k' = 5
      · subst hk'
        obtain ⟨rfl, rfl, x', rfl, hx'⟩ := shp_lam h'
        rw [emb, emb, if_pos rfl, if_pos rfl, embF, embF] at e
        rw [emb_inj x x' hx hx' (La.lam.inj e)]
      · rw [emb, emb, if_pos rfl, if_neg hk'] at e
        have := isLam_embA ar' _ (hdE_no k' n' nm').1
        rw [← e] at this
        cases this
    · by_cases hk' : k' = 5
      · rw [emb, emb, if_neg hk, if_pos hk'] at e
        have := isLam_embA ar _ (hdE_no k n nm).1
        rw [e] at this
        cases this
      · rw [emb, emb, if_neg hk, if_neg hk'] at e
        have := congrArg unapp e
        rw [unapp_embA, unapp_embA, unapp_hd, unapp_hd] at this
        have e1 := (Prod.mk.inj this).1
        have e2 := (Prod.mk.inj this).2
        simp only [List.nil_append] at e2
        rw [shp, Bool.and_eq_true] at h h'
        have := embS_inj ar ar' h.2 h'.2 e2
        subst this
        have s1 := shp_k h.1
        have s2 := shp_k h'.1
        unfold hdE at e1
        split at e1
        · rename_i q
          subst q
          split at e1
          · rename_i q
            subst q
            have hn : n = n' := by have := La.var.inj e1; omega
            have hz : ∀ m : ByteArray, (m.toList == []) = true → m = ⟨#[]⟩ := fun m hm => by
              apply ByteArray.ext
              apply Array.ext'
              rw [← ByteArray.toList_eq, beq_iff_eq.1 hm]
            have h3 := h.1
            have h4 := h'.1
            unfold shpN at h3 h4
            rw [if_neg (by omega), if_pos (by omega)] at h3 h4
            simp only [Bool.and_eq_true] at h3 h4
            rw [hn, hz nm h3.2.1, hz nm' h4.2.1]
          · cases e1
        · split at e1
          · cases e1
          · obtain ⟨rfl, rfl, rfl⟩ := La.cst.inj e1
            rfl
theorem embS_inj : ∀ (l m : List Tm), shpL l = true → shpL m = true → embS l = embS m → l = m
  | [], [], _, _, _ => rfl
  | [], y :: ys, _, _, e => by rw [embS, embS] at e; cases e
  | x :: xs, [], _, _, e => by rw [embS, embS] at e; cases e
  | x :: xs, y :: ys, h, h', e => by
    rw [embS, embS] at e
    rw [shpL, Bool.and_eq_true] at h h'
    obtain ⟨e1, e2⟩ := List.cons.inj e
    rw [emb_inj x y h.1 h'.1 e1, embS_inj xs ys h.2 h'.2 e2]
end
/-- Renaming of plain terms from some depth on. -/
def shf (up d : Nat) : Nat → Nat := fun n => if n < d then n else n + up
theorem upr_shf (up d : Nat) : La.upr (shf up d) = shf up (d + 1) := by
  funext n
  cases n with
  | zero => simp [La.upr, shf]
  | succ n =>
    unfold La.upr shf
    simp only []
    by_cases h : n < d
    · rw [if_pos h, if_pos (by omega)]
    · rw [if_neg h, if_neg (by omega)]; omega
theorem embA_map (g : La → La) (hg : ∀ a b, g (.app a b) = .app (g a) (g b)) (f : Tm → Tm) : ∀ (l : List Tm) (h : La), (∀ x ∈ l, emb (f x) = g (emb x)) → g (embA h l) = embA (g h) (l.map f)
  | [], h, _ => by rw [List.map_nil, embA, embA]
  | x :: xs, h, H => by
    rw [embA, embA_map g hg f xs _ (fun y hy => H y (by simp [hy])), List.map_cons, embA, hg, H x (by simp)]
theorem liftL_map (up : Int) : ∀ (d : Int) (l : List Tm), liftL up d l = l.map (liftT up d)
  | d, [] => rfl
  | d, t :: ts => by rw [liftL, liftL_map up d ts, List.map_cons]
mutual
theorem emb_lift (up d : Nat) : ∀ t : Tm, shp t = true → emb (liftT up d t) = La.ren (shf up d) (emb t)
  | .mk k n nm ar, h => by
    by_cases hk : k = 5
    · subst hk
      obtain ⟨rfl, rfl, x, rfl, hx⟩ := shp_lam h
      rw [liftT, emb, emb, if_pos rfl, if_pos rfl, if_pos rfl, liftL, embF, embF, La.ren, upr_shf]
      have := emb_lift up (d + 1) x hx
      rw [← this]
      rfl
    · rw [liftT, emb, emb, if_neg hk, if_neg hk, if_neg hk]
      rw [shp, Bool.and_eq_true] at h
      rw [embA_lift up d ar h.2]
      congr 1
      have := (shp_k h.1).1
      unfold hdE
      by_cases q : k = 2
      · subst q
        rw [if_pos rfl, if_pos rfl]
        simp only [La.ren, shf, true_and]
        congr 1
        by_cases hd : (d : Int) ≤ n
        · rw [if_pos hd, if_neg (by omega)]; omega
        · rw [if_neg hd, if_pos (by omega)]
      · rw [if_neg q, if_neg q, if_neg (fun h => q h.1)]
        rfl
theorem embA_lift (up d : Nat) : ∀ l : List Tm, shpL l = true → ∀ h : La, La.ren (shf up d) (embA h l) = embA (La.ren (shf up d) h) (liftL up d l)
  | [], _, h => by rw [liftL, embA, embA]
  | x :: xs, hs, h => by
    rw [shpL, Bool.and_eq_true] at hs
    rw [embA, embA_lift up d xs hs.2, liftL, embA, emb_lift up d x hs.1]
    rfl
end
end Go.Proofs.YtpgbeapojjinmaaGreatDoor
namespace Go.Proofs.YtpgbeapojjinmaaGreatDoor
open Go.RowKit Go.Shelf Go.Proofs.YtpgbeapojjinmaaGreatDoorW.PrintLast
/-- The type of a head; the bound variables' types stand from the innermost on. -/
def hdT (p : Pg) (v q r : List Ty) (k n : Int) (nm : ByteArray) : Option Ty := if k = 1 then conO p nm else if k = 2 then r[n.toNat]? else if k = 3 then fromO q n else fromO v n
mutual
def okT (p : Pg) (v q : List Ty) : List Ty → Tm → Ty → Bool
  | r, .mk k n nm ar, ty => if ty.ar.length = 2 then k == 5 && okF p v q (ty.ar.getD 0 ty0 :: r) ar (ty.ar.getD 1 ty0)
    else if k = 5 then false else match hdT p v q r k n nm with
      | none => false
      | some own => (partsR own).toList == ty.nm.toList && okL p v q r ar (partsL own)
def okF (p : Pg) (v q : List Ty) : List Ty → List Tm → Ty → Bool
  | r, [], ty => false
  | r, x :: _, ty => okT p v q r x ty
def okL (p : Pg) (v q : List Ty) : List Ty → List Tm → List Ty → Bool
  | r, [], l => l.isEmpty
  | r, t :: ts, [] => false
  | r, t :: ts, a :: l => okT p v q r t a && okL p v q r ts l
end
theorem fromO_rev {b : List Ty} {n : Int} (h : 0 ≤ n) : fromO b (b.length - 1 - n) = b.reverse[n.toNat]? := by
  obtain ⟨j, rfl⟩ := Int.eq_ofNat_of_zero_le h
  unfold fromO
  by_cases c : j < b.length
  · rw [if_neg (by omega), show ((b.length : Int) - 1 - (j : Int)).toNat = b.length - 1 - j by omega, Int.toNat_natCast, List.getElem?_reverse c]
  · rw [if_pos (by omega), Int.toNat_natCast, List.getElem?_eq_none (by simp; omega)]
theorem typeOf_hd (p : Pg) (v q b : List Ty) {k n : Int} {nm : ByteArray} {ar : List Tm} (h : 0 ≤ n) : typeOfP p v q b (.mk k n nm ar) = hdT p v q b.reverse k n nm := by
  unfold typeOfP hdT
  show (if k = 1 then conO p nm else if k = 2 then fromO b (b.length - 1 - n) else if k = 3 then fromO q n else fromO v n) = _
  rw [fromO_rev h]
/-- The program's canonical is the one by structure. -/
theorem can_ok (p : Pg) (v q : List Ty) : ∀ (m : Nat) (t : Tm) (b : List Ty) (ty : Ty), t.sz ≤ m → shp t = true → canP p v q m b t ty = okT p v q b.reverse t ty
  | 0, t, b, ty, hm, h => by have := t.sz_pos; omega
  | m + 1, .mk k n nm ar, b, ty, hm, h => by
    rw [Tm.sz] at hm
    rw [canP, okT]
    show (if ty.ar.length = 2 then (if k = 5 then canP p v q m (b ++ [ty.ar.getD 0 ty0]) (ar.getD 0 tm0) (ty.ar.getD 1 ty0) else false) else if k = 5 then false else match typeOfP p v q b (.mk k n nm ar) with
      | none => false
      | some own => if ((partsR own).toList == ty.nm.toList && (partsL own).length == ar.length) = true then canAll (canP p v q m b) ar (partsL own) else false) = _
    by_cases h2 : ty.ar.length = 2
    · rw [if_pos h2, if_pos h2]
      by_cases hk : k = 5
      · subst hk
        obtain ⟨rfl, rfl, x, rfl, hx⟩ := shp_lam h
        rw [if_pos rfl, okF]
        have := can_ok p v q m x (b ++ [ty.ar.getD 0 ty0]) (ty.ar.getD 1 ty0) (by simp only [Tm.szL] at hm; omega) hx
        rw [List.reverse_append] at this
        exact this
      · rw [if_neg hk]
        have : (k == 5) = false := by simpa using hk
        rw [this]; rfl
    · rw [if_neg h2, if_neg h2]
      by_cases hk : k = 5
      · rw [if_pos hk, if_pos hk]
      · rw [if_neg hk, if_neg hk]
        rw [shp, Bool.and_eq_true] at h
        rw [typeOf_hd p v q b (shp_k h.1).1]
        cases hdT p v q b.reverse k n nm with
        | none => rfl
        | some own =>
          simp only []
          have hl : ∀ (ts : List Tm) (l : List Ty), Tm.szL ts ≤ m → shpL ts = true → (if l.length = ts.length then canAll (canP p v q m b) ts l else false) = okL p v q b.reverse ts l := by
            intro ts
            induction ts with
            | nil => intro l _ _; cases l <;> simp [okL, canAll]
            | cons t ts ih =>
              intro l hz hs
              rw [Tm.szL] at hz
              rw [shpL, Bool.and_eq_true] at hs
              cases l with
              | nil => simp [okL]
              | cons a l =>
                have e1 := can_ok p v q m t b a (by omega) hs.1
                have e2 := ih l (by omega) hs.2
                rw [okL, ← e1, ← e2, canAll]
                by_cases c : l.length = ts.length
                · rw [if_pos (by simpa using c), if_pos c]
                · rw [if_neg (by simpa using c), if_neg c, Bool.and_false]
          have := hl ar (partsL own) (by omega) h.2
          rw [← this]
          by_cases c1 : ((partsR own).toList == ty.nm.toList) = true
          · by_cases c2 : (partsL own).length = ar.length
            · simp [c1, c2]
            · simp [c1, c2]
          · have c1' : ((partsR own).toList == ty.nm.toList) = false := by simpa using c1
            simp [c1']
theorem okL_len {p : Pg} {v q : List Ty} {r : List Ty} : ∀ {ts : List Tm} {l : List Ty}, okL p v q r ts l = true → ts.length = l.length
  | [], [], _ => rfl
  | [], _ :: _, h => by simp [okL] at h
  | _ :: _, [], h => by simp [okL] at h
  | t :: ts, a :: l, h => by
    rw [okL, Bool.and_eq_true] at h
    rw [List.length_cons, List.length_cons, okL_len h.2]
/-! ### Weakening -/
theorem fromO_app {l m : List Ty} {n : Int} {u : Ty} (h : fromO l n = some u) : fromO (l ++ m) n = some u := by
  unfold fromO at h ⊢
  split at h
  · cases h
  · rw [if_neg (by simp; omega), List.getElem?_append_left (by omega)]
    exact h
theorem hdT_app {p : Pg} {v q r v' q' r' : List Ty} {k n : Int} {nm : ByteArray} {u : Ty} (h : hdT p v q r k n nm = some u) : hdT p (v ++ v') (q ++ q') (r ++ r') k n nm = some u := by
  unfold hdT at h ⊢
  split at h
  · rename_i c; rw [if_pos c]; exact h
  · rename_i c
    rw [if_neg c]
    split at h
    · rename_i c; rw [if_pos c]
      rw [List.getElem?_append_left (by have := List.getElem?_eq_some_iff.1 h; exact this.1)]
      exact h
    · rename_i c
      rw [if_neg c]
      split at h
      · rename_i c; rw [if_pos c]; exact fromO_app h
      · rename_i c; rw [if_neg c]; exact fromO_app h
mutual
theorem ok_app {p : Pg} {v q v' q' r' : List Ty} : ∀ (t : Tm) (r : List Ty) (ty : Ty), okT p v q r t ty = true → okT p (v ++ v') (q ++ q') (r ++ r') t ty = true
  | .mk k n nm ar, r, ty, h => by
    rw [okT] at h ⊢
    split at h
    · rename_i c
      rw [if_pos c]
      rw [Bool.and_eq_true] at h ⊢
      exact ⟨h.1, ok_appF ar _ _ h.2⟩
    · rename_i c
      rw [if_neg c]
      split at h
      · cases h
      · rename_i c
        rw [if_neg c]
        split at h
        · cases h
        · rename_i own e
          rw [hdT_app e]
          simp only [Bool.and_eq_true] at h ⊢
          exact ⟨h.1, ok_appL ar r _ h.2⟩
theorem ok_appF {p : Pg} {v q v' q' r' : List Ty} : ∀ (l : List Tm) (r : List Ty) (ty : Ty), okF p v q r l ty = true → okF p (v ++ v') (q ++ q') (r ++ r') l ty = true
  | [], r, ty, h => by rw [okF] at h; cases h
  | x :: xs, r, ty, h => by rw [okF] at h ⊢; exact ok_app x r ty h
theorem ok_appL {p : Pg} {v q v' q' r' : List Ty} : ∀ (l : List Tm) (r : List Ty) (tys : List Ty), okL p v q r l tys = true → okL p (v ++ v') (q ++ q') (r ++ r') l tys = true
  | [], r, tys, h => by rw [okL] at h ⊢; exact h
  | x :: xs, r, [], h => by rw [okL] at h; cases h
  | x :: xs, r, a :: tys, h => by
    rw [okL, Bool.and_eq_true] at h ⊢
    exact ⟨ok_app x r a h.1, ok_appL xs r tys h.2⟩
end
/-! ### Renaming -/
theorem hdT_lift {p : Pg} {v q D E G : List Ty} {k n : Int} {nm : ByteArray} {u : Ty} (hn : 0 ≤ n) (h : hdT p v q (D ++ G) k n nm = some u) :
    hdT p v q (D ++ E ++ G) k (if k = 2 ∧ (D.length : Int) ≤ n then n + E.length else n) nm = some u := by
  unfold hdT at h ⊢
  by_cases k1 : k = 1
  · rw [if_pos k1] at h ⊢; exact h
  · rw [if_neg k1] at h ⊢
    by_cases k2 : k = 2
    · rw [if_pos k2] at h ⊢
      by_cases c : (D.length : Int) ≤ n
      · rw [if_pos ⟨k2, c⟩]
        rw [List.getElem?_append_right (by omega)] at h
        rw [List.getElem?_append_right (by simp; omega), ← h]
        congr 1
        simp
        omega
      · rw [if_neg (fun q => c q.2)]
        rw [List.getElem?_append_left (by omega)] at h
        rw [List.append_assoc, List.getElem?_append_left (by omega)]
        exact h
    · rw [if_neg k2] at h ⊢
      have k2' : ¬ (k = 2 ∧ (D.length : Int) ≤ n) := fun z => k2 z.1
      rw [if_neg k2']
      exact h
mutual
theorem ok_lift {p : Pg} {v q E G : List Ty} : ∀ (t : Tm) (D : List Ty) (ty : Ty), shp t = true → okT p v q (D ++ G) t ty = true → okT p v q (D ++ E ++ G) (liftT E.length D.length t) ty = true
  | .mk k n nm ar, D, ty, hs, h => by
    rw [okT] at h
    rw [liftT, okT]
    rw [shp, Bool.and_eq_true] at hs
    split at h
    · rename_i c
      rw [if_pos c]
      rw [Bool.and_eq_true] at h ⊢
      have h5 : k = 5 := by simpa using h.1
      rw [if_pos h5]
      refine ⟨h.1, ?_⟩
      have := ok_liftF (p := p) (v := v) (q := q) (E := E) (G := G) ar (ty.ar.getD 0 ty0 :: D) _ hs.2 h.2
      simpa using this
    · rename_i c
      rw [if_neg c]
      split at h
      · cases h
      · rename_i c
        rw [if_neg c, if_neg c]
        split at h
        · cases h
        · rename_i own e
          rw [hdT_lift (shp_k hs.1).1 e]
          simp only [Bool.and_eq_true] at h ⊢
          exact ⟨h.1, ok_liftL ar D _ hs.2 h.2⟩
theorem ok_liftF {p : Pg} {v q E G : List Ty} : ∀ (l : List Tm) (D : List Ty) (ty : Ty), shpL l = true → okF p v q (D ++ G) l ty = true → okF p v q (D ++ E ++ G) (liftL E.length D.length l) ty = true
  | [], D, ty, hs, h => by rw [okF] at h; cases h
  | x :: xs, D, ty, hs, h => by
    rw [shpL, Bool.and_eq_true] at hs
    rw [okF] at h
    rw [liftL, okF]; exact ok_lift x D ty hs.1 h
theorem ok_liftL {p : Pg} {v q E G : List Ty} : ∀ (l : List Tm) (D : List Ty) (tys : List Ty), shpL l = true → okL p v q (D ++ G) l tys = true → okL p v q (D ++ E ++ G) (liftL E.length D.length l) tys = true
  | [], D, tys, hs, h => by rw [okL] at h; rw [liftL, okL]; exact h
  | x :: xs, D, [], hs, h => by rw [okL] at h; cases h
  | x :: xs, D, a :: tys, hs, h => by
    rw [shpL, Bool.and_eq_true] at hs
    rw [okL, Bool.and_eq_true] at h
    rw [liftL, okL, Bool.and_eq_true]
    exact ⟨ok_lift x D a hs.1 h.1, ok_liftL xs D tys hs.2 h.2⟩
end
/-! ### The type of a term with a head is told -/
theorem ok_leaf {p : Pg} {v q r : List Ty} {t : Tm} {a b : Ty} (hk : t.k ≠ 5) (ha : okT p v q r t a = true) (hb : okT p v q r t b = true) : a.ar.length ≠ 2 ∧ b.ar.length ≠ 2 ∧ a.nm.toList = b.nm.toList := by
  obtain ⟨k, n, nm, ar⟩ := t
  simp only [Tm.k] at hk
  rw [okT] at ha hb
  have h5 : (k == 5) = false := by simpa using hk
  split at ha
  · rw [h5] at ha; cases ha
  · split at hb
    · rw [h5] at hb; cases hb
    · rename_i c1 c2
      refine ⟨c1, c2, ?_⟩
      split at ha
      · cases ha
      · rename_i own e
        rw [e] at hb
        simp only [Bool.and_eq_true, beq_iff_eq] at ha hb
        rw [← ha.1, ← hb.1]
end Go.Proofs.YtpgbeapojjinmaaGreatDoor
namespace Go.Proofs.YtpgbeapojjinmaaGreatDoor
open Go.RowKit Go.Shelf Go.Proofs.YtpgbeapojjinmaaGreatDoorW.PrintLast
/-! ### 1. Runs that are told -/
theorem listW_more {r r' : Int → Tm → WRes} (h : ∀ c t o, r c t = some o → r' c t = some o) : ∀ (l : List Tm) (c : Int) (o : Sum Int (List Tm × Int)), listW r c l = some o → listW r' c l = some o
  | [], c, o, e => e
  | t :: ts, c, o, e => by
    rw [listW] at e ⊢
    cases q : r c t with
    | none => rw [q] at e; cases e
    | some x =>
      rw [q] at e
      rw [h c t x q]
      cases x with
      | inl x => exact e
      | inr x =>
        obtain ⟨u, c'⟩ := x
        simp only [] at e ⊢
        cases q2 : listW r c' ts with
        | none => rw [q2] at e; cases e
        | some y =>
          rw [q2] at e
          rw [listW_more h ts c' y q2]
          exact e
theorem runW_app0 (f : Nat) (c : Int) (t : Tm) : runW (f + 1) (.app c t []) = some (.inr (t, c)) := by
  rw [runW.eq_def]
theorem runW_app (f : Nat) (c k n : Int) (nm : ByteArray) (ar : List Tm) (a : Tm) (xs : List Tm) : runW (f + 1) (.app c (.mk k n nm ar) (a :: xs)) =
    if k = 5 then if c < 0 ∨ 2000 < c then none else (if c + 1 ≤ 2000 then match ar with
        | [] => none
        | body :: _ => match runW f (.sub (c + 1) body a) with
          | some (.inr (u, c')) => if (measM u).1 ≤ 4000 ∧ fitsP u = true ∧ u.ld ≤ 1000000000 then runW f (.app c' u xs) else if u.ld ≤ 1000000000 then some (.inl 2) else none
          | x => x
      else some (.inl 4))
    else none := by
  rw [runW.eq_def]
  rfl
theorem runW_sub' (f : Nat) (c : Int) (t s : Tm) : runW (f + 1) (.sub c t s) = if okS t && okS s then runW f (.rep (subHd s) c t 0) else none := by
  rw [runW.eq_def]
theorem runW_more : ∀ (f : Nat) (m : WCmd) (o : Sum Int (Tm × Int)), runW f m = some o → runW (f + 1) m = some o
  | 0, m, o, e => by simp [runW] at e
  | f + 1, .rep hd c (.mk k n nm ar) b, o, e => by
    rw [runW_rep] at e ⊢
    split
    · rename_i hk
      rw [if_pos hk] at e
      cases ar with
      | nil => exact e
      | cons a l =>
        simp only [] at e ⊢
        cases q : runW f (.rep hd c a (b + 1)) with
        | none => rw [q] at e; cases e
        | some x => rw [q] at e; rw [runW_more f _ x q]; exact e
    · rename_i hk
      rw [if_neg hk] at e
      cases q : listW (fun c t => runW f (.rep hd c t b)) c ar with
      | none => rw [q] at e; cases e
      | some x =>
        rw [q] at e
        rw [listW_more (fun c t o h => runW_more f _ o h) ar c x q]
        cases x with
        | inl x => exact e
        | inr x =>
          obtain ⟨us, c'⟩ := x
          simp only [] at e ⊢
          split
          · rename_i z; rw [z] at e; exact e
          · rename_i z; rw [z] at e; exact runW_more f _ o e
  | f + 1, .app c t [], o, e => by rw [runW_app0] at e ⊢; exact e
  | f + 1, .app c (.mk k n nm ar) (a :: xs), o, e => by
    rw [runW_app] at e ⊢
    split
    · rename_i hk
      rw [if_pos hk] at e
      split
      · rename_i hc; rw [if_pos hc] at e; cases e
      · rename_i hc
        rw [if_neg hc] at e
        split
        · rename_i h1
          rw [if_pos h1] at e
          cases ar with
          | nil => cases e
          | cons body l =>
            simp only [] at e ⊢
            cases q : runW f (.sub (c + 1) body a) with
            | none => rw [q] at e; cases e
            | some x =>
              rw [q] at e
              rw [runW_more f _ x q]
              cases x with
              | inl x => exact e
              | inr x =>
                obtain ⟨u, c'⟩ := x
                simp only [] at e ⊢
                split
                · rename_i h2; rw [if_pos h2] at e; exact runW_more f _ o e
                · rename_i h2; rw [if_neg h2] at e; exact e
        · rename_i h1; rw [if_neg h1] at e; exact e
    · rename_i hk; rw [if_neg hk] at e; cases e
  | f + 1, .sub c t s, o, e => by
    rw [runW_sub'] at e ⊢
    split
    · rename_i h; rw [if_pos h] at e; exact runW_more f _ o e
    · rename_i h; rw [if_neg h] at e; cases e
theorem runW_le {f g : Nat} (h : f ≤ g) {m : WCmd} {o : Sum Int (Tm × Int)} (e : runW f m = some o) : runW g m = some o := by
  induction h with
  | refl => exact e
  | step _ ih => exact runW_more _ _ _ ih
/-- A run that is told, and what is so of its result. -/
def Ends (m : WCmd) (R : Tm → Int → Prop) : Prop := ∃ f o, runW f m = some o ∧ ∀ u c, o = .inr (u, c) → R u c
def EndsL (hd : Tm → Int → Option Tm × Int) (b c : Int) (l : List Tm) (R : List Tm → Int → Prop) : Prop := ∃ f o, listW (fun c t => runW f (.rep hd c t b)) c l = some o ∧ ∀ us c, o = .inr (us, c) → R us c
theorem Ends.mono {m : WCmd} {R R' : Tm → Int → Prop} (h : Ends m R) (k : ∀ u c, R u c → R' u c) : Ends m R' := by
  obtain ⟨f, o, e, r⟩ := h
  exact ⟨f, o, e, fun u c q => k u c (r u c q)⟩
theorem endsL_nil {hd : Tm → Int → Option Tm × Int} {b c : Int} {R : List Tm → Int → Prop} (h : R [] c) : EndsL hd b c [] R := ⟨0, .inr ([], c), rfl, fun us c' e => by cases e; exact h⟩
theorem endsL_cons {hd : Tm → Int → Option Tm × Int} {b c : Int} {t : Tm} {ts : List Tm} {R : List Tm → Int → Prop} {R1 : Tm → Int → Prop} (h : Ends (.rep hd c t b) R1) (k : ∀ u c', R1 u c' → EndsL hd b c' ts (fun us c'' => R (u :: us) c'')) : EndsL hd b c (t :: ts) R := by
  obtain ⟨f, o, e, r⟩ := h
  cases o with
  | inl x => exact ⟨f, .inl x, by simp only [listW, e], nofun⟩
  | inr x =>
    obtain ⟨u, c'⟩ := x
    obtain ⟨g, o2, e2, r2⟩ := k u c' (r u c' rfl)
    have e' := runW_le (Nat.le_max_left f g) e
    have e2' := listW_more (fun c t o h => runW_le (Nat.le_max_right f g) h) ts c' o2 e2
    cases o2 with
    | inl y => exact ⟨max f g, .inl y, by simp only [listW, e', e2'], nofun⟩
    | inr y =>
      obtain ⟨us, c''⟩ := y
      exact ⟨max f g, .inr (u :: us, c''), by simp only [listW, e', e2'], fun us' c3 q => by cases q; exact r2 us c'' rfl⟩
theorem ends_lam {hd : Tm → Int → Option Tm × Int} {b c n : Int} {nm : ByteArray} {x : Tm} {l : List Tm} {R : Tm → Int → Prop} (h : Ends (.rep hd c x (b + 1)) (fun u c' => R (.mk 5 0 ⟨#[]⟩ [u]) c')) : Ends (.rep hd c (.mk 5 n nm (x :: l)) b) R := by
  obtain ⟨f, o, e, r⟩ := h
  cases o with
  | inl y => exact ⟨f + 1, .inl y, by rw [runW_rep, if_pos rfl]; simp only [e], nofun⟩
  | inr y =>
    obtain ⟨u, c'⟩ := y
    exact ⟨f + 1, .inr (.mk 5 0 ⟨#[]⟩ [u], c'), by rw [runW_rep, if_pos rfl]; simp only [e], fun u' c2 q => by cases q; exact r u c' rfl⟩
theorem ends_node {hd : Tm → Int → Option Tm × Int} {b c k n : Int} {nm : ByteArray} {ar : List Tm} {R : Tm → Int → Prop} (hk : k ≠ 5) (h : EndsL hd b c ar (fun us c' => (∀ n', hd (.mk k n nm ar) b = (none, n') → R (.mk k n' nm us) c') ∧ (∀ s n', hd (.mk k n nm ar) b = (some s, n') → Ends (.app c' s us) R))) : Ends (.rep hd c (.mk k n nm ar) b) R := by
  obtain ⟨f, o, e, r⟩ := h
  cases o with
  | inl y => exact ⟨f + 1, .inl y, by rw [runW_rep, if_neg hk]; simp only [e], nofun⟩
  | inr y =>
    obtain ⟨us, c'⟩ := y
    obtain ⟨r1, r2⟩ := r us c' rfl
    rcases q : hd (.mk k n nm ar) b with ⟨os, n'⟩
    cases os with
    | none => exact ⟨f + 1, .inr (.mk k n' nm us, c'), by rw [runW_rep, if_neg hk]; simp only [e, q], fun u' c2 z => by cases z; exact r1 n' q⟩
    | some s =>
      obtain ⟨g, o2, e2, r3⟩ := r2 s n' q
      exact ⟨max f g + 1, o2, by
        rw [runW_rep, if_neg hk, listW_more (fun c t o h => runW_le (Nat.le_max_left f g) h) ar c _ e]
        simp only [q]
        exact runW_le (Nat.le_max_right f g) e2, r3⟩
theorem ends_app0 {c : Int} {t : Tm} {R : Tm → Int → Prop} (h : R t c) : Ends (.app c t []) R := ⟨1, .inr (t, c), runW_app0 0 c t, fun u c' e => by cases e; exact h⟩
theorem ends_app {c n : Int} {nm : ByteArray} {body a : Tm} {l xs : List Tm} {R : Tm → Int → Prop} (hc : 0 ≤ c ∧ c ≤ 2000) (h : c + 1 ≤ 2000 → Ends (.sub (c + 1) body a) (fun u c' => u.ld ≤ 1000000000 ∧ (fitsP u = true → Ends (.app c' u xs) R))) : Ends (.app c (.mk 5 n nm (body :: l)) (a :: xs)) R := by
  by_cases h1 : c + 1 ≤ 2000
  · obtain ⟨f, o, e, r⟩ := h h1
    cases o with
    | inl y => exact ⟨f + 1, .inl y, by rw [runW_app, if_pos rfl, if_neg (by omega), if_pos h1]; simp only [e], nofun⟩
    | inr y =>
      obtain ⟨u, c'⟩ := y
      obtain ⟨hl, r1⟩ := r u c' rfl
      by_cases hq : (measM u).1 ≤ 4000 ∧ fitsP u = true ∧ u.ld ≤ 1000000000
      · obtain ⟨g, o2, e2, r2⟩ := r1 hq.2.1
        exact ⟨max f g + 1, o2, by
          rw [runW_app, if_pos rfl, if_neg (by omega), if_pos h1]
          simp only [runW_le (Nat.le_max_left f g) e]
          rw [if_pos hq]
          exact runW_le (Nat.le_max_right f g) e2, r2⟩
      · exact ⟨f + 1, .inl 2, by rw [runW_app, if_pos rfl, if_neg (by omega), if_pos h1]; simp only [e]; rw [if_neg hq, if_pos hl], nofun⟩
  · exact ⟨1, .inl 4, by rw [runW_app, if_pos rfl, if_neg (by omega), if_neg h1], nofun⟩
theorem ends_sub {c : Int} {t s : Tm} {R : Tm → Int → Prop} (ht : okS t = true) (hs : okS s = true) (h : Ends (.rep (subHd s) c t 0) R) : Ends (.sub c t s) R := by
  obtain ⟨f, o, e, r⟩ := h
  exact ⟨f + 1, o, by rw [runW_sub', ht, hs]; exact e, r⟩
/-! ### 2. Bounds -/
mutual
/-- The occurrences that are bound within have no great numbers. -/
def mB : Int → Tm → Bool
  | d, .mk k n nm ar => (!(k == 2) || (decide (d ≤ n) || decide (n ≤ 100000))) && mBL (if k = 5 then d + 1 else d) ar
def mBL : Int → List Tm → Bool
  | _, [] => true
  | d, t :: ts => mB d t && mBL d ts
end
mutual
theorem mB_mono : ∀ (t : Tm) (d d' : Int), d' ≤ d → mB d t = true → mB d' t = true
  | .mk k n nm ar, d, d', h, e => by
    rw [mB, Bool.and_eq_true] at e ⊢
    refine ⟨?_, mBL_mono ar _ _ (by split <;> omega) e.2⟩
    have := e.1
    simp only [Bool.or_eq_true, decide_eq_true_eq] at this ⊢
    rcases this with h1 | h1 | h1
    · exact .inl h1
    · exact .inr (.inl (by omega))
    · exact .inr (.inr h1)
theorem mBL_mono : ∀ (l : List Tm) (d d' : Int), d' ≤ d → mBL d l = true → mBL d' l = true
  | [], d, d', h, e => rfl
  | t :: ts, d, d', h, e => by
    rw [mBL, Bool.and_eq_true] at e ⊢
    exact ⟨mB_mono t d d' h e.1, mBL_mono ts d d' h e.2⟩
end
mutual
theorem mB_small : ∀ (t : Tm) (d : Int), small 100000 t = true → mB d t = true
  | .mk k n nm ar, d, h => by
    rw [small, Bool.and_eq_true] at h
    rw [mB, mBL_small ar _ h.2, h.1]
    simp
theorem mBL_small : ∀ (l : List Tm) (d : Int), smallL 100000 l = true → mBL d l = true
  | [], d, h => rfl
  | t :: ts, d, h => by
    rw [smallL, Bool.and_eq_true] at h
    rw [mBL, mB_small t d h.1, mBL_small ts d h.2]
    rfl
end
mutual
theorem mB_lift {b : Int} (hb : 0 ≤ b) : ∀ (t : Tm) (d : Int), mB d t = true → mB (b + d) (liftT b d t) = true
  | .mk k n nm ar, d, h => by
    rw [mB, Bool.and_eq_true] at h
    rw [liftT, mB, Bool.and_eq_true]
    refine ⟨?_, ?_⟩
    · have h1 := h.1
      by_cases k2 : k = 2
      · subst k2
        simp only [Bool.or_eq_true, decide_eq_true_eq] at h1 ⊢
        simp only [true_and]
        by_cases c : d ≤ n
        · rw [if_pos c]; exact .inr (.inl (by omega))
        · rw [if_neg c]
          rcases h1 with h1 | h1 | h1
          · exact .inl h1
          · exact absurd h1 c
          · exact .inr (.inr h1)
      · have : (k == 2) = false := by simpa using k2
        rw [this]; rfl
    · have := mBL_lift hb ar (if k = 5 then d + 1 else d) h.2
      rw [show (if k = 5 then b + d + 1 else b + d) = b + (if k = 5 then d + 1 else d) by split <;> omega]
      exact this
theorem mBL_lift {b : Int} (hb : 0 ≤ b) : ∀ (l : List Tm) (d : Int), mBL d l = true → mBL (b + d) (liftL b d l) = true
  | [], d, h => rfl
  | t :: ts, d, h => by
    rw [mBL, Bool.and_eq_true] at h
    rw [liftL, mBL, mB_lift hb t d h.1, mBL_lift hb ts d h.2]
    rfl
end
theorem fromO_lt {l : List Ty} {n : Int} {u : Ty} (h : fromO l n = some u) : n < l.length := by
  unfold fromO at h
  split at h
  · cases h
  · omega
theorem hdT_lt {p : Pg} {v q r : List Ty} {k n : Int} {nm : ByteArray} {u : Ty} (hn : 0 ≤ n) (hk : k = 1 → n = 0) (h : hdT p v q r k n nm = some u) : n ≤ r.length + (q.length + v.length) := by
  unfold hdT at h
  split at h
  · have := hk ‹_›; omega
  · split at h
    · have := (List.getElem?_eq_some_iff.1 h).1; omega
    · split at h
      · have := fromO_lt h; omega
      · have := fromO_lt h; omega
mutual
theorem ok_small {p : Pg} {v q : List Ty} : ∀ (t : Tm) (r : List Ty) (ty : Ty), shp t = true → okT p v q r t ty = true → t.ld + r.length + (q.length + v.length) ≤ 1000000000 → allN smallN t = true
  | .mk k n nm ar, r, ty, hs, h, hl => by
    rw [shp, Bool.and_eq_true] at hs
    have h0 := shp_k hs.1
    rw [Tm.ld] at hl
    unfold Tm.one at hl
    rw [okT] at h
    rw [allN, Bool.and_eq_true]
    show decide (0 ≤ n ∧ n ≤ 1000000000) = true ∧ _
    split at h
    · rw [Bool.and_eq_true] at h
      have h5 : k = 5 := by simpa using h.1
      rw [if_pos h5] at hl
      exact ⟨by have := (h0.2.1 h5).1; simp; omega, ok_smallF ar _ _ hs.2 h.2 (by simp only [List.length_cons]; omega) (h0.2.1 h5).2.2⟩
    · split at h
      · cases h
      · rename_i h5
        rw [if_neg h5] at hl
        split at h
        · cases h
        · rename_i own e
          rw [Bool.and_eq_true] at h
          have := hdT_lt h0.1 h0.2.2.2 e
          exact ⟨by simp; omega, ok_smallL ar _ _ hs.2 h.2 (by omega)⟩
theorem ok_smallF {p : Pg} {v q : List Ty} : ∀ (l : List Tm) (r : List Ty) (ty : Ty), shpL l = true → okF p v q r l ty = true → Tm.ldL l + r.length + (q.length + v.length) ≤ 1000000000 → l.length = 1 → allNL smallN l = true
  | [], r, ty, hs, h, hl, _ => rfl
  | [x], r, ty, hs, h, hl, _ => by
    rw [shpL, Bool.and_eq_true] at hs
    rw [okF] at h
    rw [Tm.ldL] at hl
    rw [allNL, ok_small x r ty hs.1 h (by omega)]
    rfl
theorem ok_smallL {p : Pg} {v q : List Ty} : ∀ (l : List Tm) (r : List Ty) (tys : List Ty), shpL l = true → okL p v q r l tys = true → Tm.ldL l + r.length + (q.length + v.length) ≤ 1000000000 → allNL smallN l = true
  | [], r, tys, hs, h, hl => rfl
  | x :: xs, r, [], hs, h, hl => by rw [okL] at h; cases h
  | x :: xs, r, a :: tys, hs, h, hl => by
    rw [shpL, Bool.and_eq_true] at hs
    rw [okL, Bool.and_eq_true] at h
    rw [Tm.ldL] at hl
    rw [allNL, ok_small x r a hs.1 h.1 (by omega), ok_smallL xs r tys hs.2 h.2 (by omega)]
    rfl
end
end Go.Proofs.YtpgbeapojjinmaaGreatDoor
namespace Go.Proofs.YtpgbeapojjinmaaGreatDoor
open Go.RowKit Go.Shelf Go.Proofs.YtpgbeapojjinmaaGreatDoorW.PrintLast
/-- What stands for the variables where one is replaced, below some binders. -/
def hS (b : Nat) (S : La) : Nat → La := fun n => if n < b then .var n else if n = b then La.ren (shf b 0) S else .var (n - 1)
theorem ren_id : ∀ t : La, La.ren (fun n => n) t = t := fun t => by
  rw [La.ren_is_sub]
  exact La.sub_var t
theorem shf_zero (d : Nat) : shf 0 d = fun n => n := by
  funext n
  unfold shf
  split <;> omega
theorem hS_zero (S : La) : hS 0 S = La.one S := by
  funext n
  cases n with
  | zero => simp only [hS, shf_zero, ren_id, La.one]; rfl
  | succ n => simp [hS, La.one]
theorem hS_ups (b : Nat) (S : La) : La.ups (hS b S) = hS (b + 1) S := by
  funext n
  cases n with
  | zero => simp [La.ups, hS]
  | succ n =>
    simp only [La.ups, hS]
    by_cases h1 : n < b
    · rw [if_pos h1, if_pos (show n + 1 < b + 1 by omega)]; rfl
    · rw [if_neg h1, if_neg (show ¬ n + 1 < b + 1 by omega)]
      by_cases h2 : n = b
      · rw [if_pos h2, if_pos (show n + 1 = b + 1 by omega), La.ren_ren]
        congr 1
      · rw [if_neg h2, if_neg (show ¬ n + 1 = b + 1 by omega)]
        simp only [La.ren]
        congr 1
        omega
theorem liftL_zero : ∀ (l : List Tm), liftL 0 0 l = l := fun l => lift_zeroL 0 l
/-- A term of a base type is one of each type of the same name. -/
theorem ok_name {p : Pg} {v q r : List Ty} {t : Tm} {T ty : Ty} (h1 : T.ar.length ≠ 2) (h2 : ty.ar.length ≠ 2) (h3 : T.nm.toList = ty.nm.toList) : okT p v q r t T = okT p v q r t ty := by
  obtain ⟨k, n, nm, ar⟩ := t
  rw [okT, okT, if_neg h1, if_neg h2, h3]
theorem parts2 {T : Ty} (h : T.ar.length = 2) : partsL T = T.ar.getD 0 ty0 :: partsL (T.ar.getD 1 ty0) ∧ partsR T = partsR (T.ar.getD 1 ty0) := by
  obtain ⟨nm, ar⟩ := T
  simp only [Ty.ar] at h ⊢
  match ar, h with
  | [a, b], _ => exact ⟨by rw [partsL]; rfl, by rw [partsR]; rfl⟩
theorem parts0 {T : Ty} (h : T.ar.length ≠ 2) : partsL T = [] ∧ partsR T = T.nm := by
  obtain ⟨nm, ar⟩ := T
  simp only [Ty.ar] at h
  match ar, h with
  | [], _ => exact ⟨by simp [partsL], by simp [partsR, Ty.nm]⟩
  | [a], _ => exact ⟨by simp [partsL], by simp [partsR, Ty.nm]⟩
  | [a, b], h => exact absurd rfl h
  | a :: b :: c :: l, _ => exact ⟨by simp [partsL], by simp [partsR, Ty.nm]⟩
theorem ok_two {p : Pg} {v q r : List Ty} {t : Tm} {T : Ty} (hs : shp t = true) (h : okT p v q r t T = true) (h2 : T.ar.length = 2) : ∃ x, t = .mk 5 0 ⟨#[]⟩ [x] ∧ shp x = true ∧ okT p v q (T.ar.getD 0 ty0 :: r) x (T.ar.getD 1 ty0) = true := by
  obtain ⟨k, n, nm, ar⟩ := t
  rw [okT, if_pos h2, Bool.and_eq_true] at h
  have h5 : k = 5 := by simpa using h.1
  subst h5
  obtain ⟨rfl, rfl, x, rfl, hx⟩ := shp_lam hs
  exact ⟨x, rfl, hx, h.2⟩
/-- What is so of a result: its type, shape, bounds, and that it is a reduct. -/
structure Res (p : Pg) (v q r : List Ty) (ty : Ty) (X c : Int) (d : Int) (E : La) (u : Tm) (c' : Int) : Prop where
  ok : okT p v q r u ty = true
  shape : shp u = true
  mb : mB d u = true
  c0 : c ≤ c'
  c1 : c' ≤ 2000
  ld : (u.ld : Int) + r.length ≤ X + 200000 * (c' - c)
  red : La.Red E (emb u)
structure ResL (p : Pg) (v q r : List Ty) (tys : List Ty) (X c : Int) (d : Int) (s : Nat → La) (ts : List Tm) (us : List Tm) (c' : Int) : Prop where
  ok : okL p v q r us tys = true
  shape : shpL us = true
  mb : mBL d us = true
  c0 : c ≤ c'
  c1 : c' ≤ 2000
  ld : (Tm.ldL us : Int) + r.length ≤ X + 200000 * (c' - c)
  red : ∀ h h', La.Red (La.sub s h) h' → La.Red (La.sub s (embA h ts)) (embA h' us)
/-- What is so of an application's result. -/
structure ResA (p : Pg) (v q r : List Ty) (ty : Ty) (Y c : Int) (t : Tm) (xs : List Tm) (u : Tm) (c' : Int) : Prop where
  ok : okT p v q r u ty = true
  shape : shp u = true
  nil : xs = [] → u = t
  cons : xs ≠ [] → small 100000 u = true
  c0 : c ≤ c'
  c1 : c' ≤ 2000
  ld : (u.ld : Int) + r.length ≤ Y + 200000 * (c' - c)
  red : La.Red (embA (emb t) xs) (emb u)
def SubT (p : Pg) (v q : List Ty) (N : Nat) : Prop := ∀ (c : Int) (G : List Ty) (A : Ty) (t s : Tm) (ty : Ty) (X : Int), 2000 - c ≤ N → 0 ≤ c → c ≤ 2000 → okT p v q (A :: G) t ty = true → okT p v q G s A = true → shp t = true → shp s = true → mB 1 t = true → mB 0 s = true →
  (t.ld : Int) + G.length + 1 ≤ X → (s.ld : Int) + G.length + 100000 ≤ X → X + 200000 * (2001 - c) + (q.length + v.length) ≤ 900000000 → Ends (.sub c t s) (Res p v q G ty X c 0 (La.inst (emb s) (emb t)))
def AppT (p : Pg) (v q : List Ty) (N : Nat) : Prop := ∀ (xs : List Tm) (c : Int) (G : List Ty) (T : Ty) (t : Tm) (ty : Ty) (Y : Int), 2000 - c ≤ N → 0 ≤ c → c ≤ 2000 → okT p v q G t T = true → okL p v q G xs (partsL T) = true → ty.ar.length ≠ 2 → (partsR T).toList = ty.nm.toList → shp t = true → shpL xs = true → mB 0 t = true → mBL 0 xs = true →
  (t.ld : Int) + G.length ≤ Y → (Tm.ldL xs : Int) + G.length ≤ Y → Y + 200000 * (2001 - c) + (q.length + v.length) ≤ 900000000 → Ends (.app c t xs) (ResA p v q G ty Y c t xs)
def RepT (p : Pg) (v q : List Ty) (N : Nat) (t : Tm) : Prop := ∀ (c : Int) (D G : List Ty) (A : Ty) (s : Tm) (ty : Ty) (X : Int), 2000 - c ≤ N → 0 ≤ c → c ≤ 2000 → okT p v q (D ++ A :: G) t ty = true → okT p v q G s A = true → shp t = true → shp s = true → mB (D.length + 1) t = true → mB 0 s = true →
  (t.ld : Int) + D.length + G.length ≤ X → (s.ld : Int) + G.length + 100000 ≤ X → X + 200000 * (2001 - c) + (q.length + v.length) ≤ 900000000 → Ends (.rep (subHd s) c t D.length) (Res p v q (D ++ G) ty X c D.length (La.sub (hS D.length (emb s)) (emb t)))
def RepTL (p : Pg) (v q : List Ty) (N : Nat) (ts : List Tm) : Prop := ∀ (c : Int) (D G : List Ty) (A : Ty) (s : Tm) (tys : List Ty) (X : Int), 2000 - c ≤ N → 0 ≤ c → c ≤ 2000 → okL p v q (D ++ A :: G) ts tys = true → okT p v q G s A = true → shpL ts = true → shp s = true → mBL (D.length + 1) ts = true → mB 0 s = true →
  (Tm.ldL ts : Int) + D.length + G.length ≤ X → (s.ld : Int) + G.length + 100000 ≤ X → X + 200000 * (2001 - c) + (q.length + v.length) ≤ 900000000 → EndsL (subHd s) D.length c ts (ResL p v q (D ++ G) tys X c D.length (hS D.length (emb s)) ts)
theorem embA_red : ∀ (xs : List Tm) {h h' : La}, La.Red h h' → La.Red (embA h xs) (embA h' xs)
  | [], h, h', e => by rw [embA, embA]; exact e
  | x :: xs, h, h', e => by rw [embA, embA]; exact embA_red xs (e.app (.refl _))
theorem app_told {p : Pg} {v q : List Ty} {N : Nat} (IS : ∀ M < N, SubT p v q M) : AppT p v q N := by
  intro xs
  induction xs with
  | nil =>
    intro c G T t ty Y hN h0 h1 ht hx hty hnm hs hxs hm hmx hl hlx hX
    have hT : T.ar.length ≠ 2 := fun e => by
      rw [(parts2 e).1] at hx
      simp [okL] at hx
    exact ends_app0 ⟨by rw [← ok_name hT hty (by rw [← (parts0 hT).2]; exact hnm)]; exact ht, hs, fun _ => rfl, fun h => absurd rfl h, by omega, h1, by omega, by rw [embA]; exact .refl _⟩
  | cons a xs ih =>
    intro c G T t ty Y hN h0 h1 ht hx hty hnm hs hxs hm hmx hl hlx hX
    have hT : T.ar.length = 2 := by
      by_cases e : T.ar.length = 2
      · exact e
      · rw [(parts0 e).1] at hx
        simp [okL] at hx
    obtain ⟨x, rfl, sx, ox⟩ := ok_two hs ht hT
    rw [(parts2 hT).1, okL, Bool.and_eq_true] at hx
    rw [(parts2 hT).2] at hnm
    rw [shpL, Bool.and_eq_true] at hxs
    rw [mBL, Bool.and_eq_true] at hmx
    rw [Tm.ldL] at hlx
    have hld : ((Tm.mk 5 0 ⟨#[]⟩ [x]).ld : Int) = x.ld + 1 := by simp only [Tm.ld, Tm.ldL, Tm.one, if_true]; omega
    rw [hld] at hl
    have hmx' : mB 1 x = true := by
      rw [mB, Bool.and_eq_true, if_pos rfl, mBL, Bool.and_eq_true] at hm
      exact hm.2.1
    refine ends_app ⟨h0, h1⟩ (fun hc => ?_)
    have hNp : 0 < N := by omega
    refine (IS (N - 1) (by omega) (c + 1) G _ x a _ (Y + 100000) (by omega) (by omega) hc ox hx.1 sx hxs.1 hmx' hmx.1 (by omega) (by omega) (by omega)).mono ?_
    intro u c' R
    have r0 := R.c0
    have r1 := R.c1
    have r2 := R.ld
    refine ⟨by omega, fun hf => ?_⟩
    rw [fitsP_small] at hf
    refine (ih c' G _ u ty (Y + 200000 * (c' - c)) (by omega) (by omega) r1 R.ok hx.2 hty hnm R.shape hxs.2 (mB_small u 0 hf) hmx.2 (by omega) (by omega) (by omega)).mono ?_
    intro u' c'' R'
    have s0 := R'.c0
    have s2 := R'.ld
    refine ⟨R'.ok, R'.shape, nofun, fun _ => ?_, by omega, R'.c1, by omega, ?_⟩
    · by_cases hxn : xs = []
      · rw [R'.nil hxn]; exact hf
      · exact R'.cons hxn
    · rw [embA]
      refine (embA_red xs ?_).trans R'.red
      refine .trans ?_ R.red
      rw [emb, if_pos rfl, embF]
      exact .of (.beta (.refl _) (.refl _))
theorem emb_node {k n : Int} {nm : ByteArray} {ar : List Tm} (hk : k ≠ 5) : emb (.mk k n nm ar) = embA (hdE k n nm) ar := by rw [emb, if_neg hk]
theorem mB_node {d k n : Int} {nm : ByteArray} {ar : List Tm} (h : mB d (.mk k n nm ar) = true) (hk : k = 2) : d ≤ n ∨ n ≤ 100000 := by
  rw [mB, Bool.and_eq_true] at h
  have := h.1
  simp only [Bool.or_eq_true, decide_eq_true_eq] at this
  rcases this with h1 | h1
  · subst hk; simp at h1
  · exact h1
/-- The type of a head behind the replaced variable, or ahead of it. -/
theorem hdT_rep {p : Pg} {v q D G : List Ty} {A : Ty} {k n : Int} {nm : ByteArray} {u : Ty} (hn : 0 ≤ n) (h : hdT p v q (D ++ A :: G) k n nm = some u) :
    (k = 2 ∧ n = D.length ∧ u = A) ∨ ((k ≠ 2 ∨ n < D.length) ∧ hdT p v q (D ++ G) k n nm = some u) ∨ (k = 2 ∧ (D.length : Int) < n ∧ hdT p v q (D ++ G) k (n - 1) nm = some u) := by
  unfold hdT at h ⊢
  by_cases k1 : k = 1
  · rw [if_pos k1] at h
    rw [if_pos k1]
    exact .inr (.inl ⟨.inl (by omega), h⟩)
  · rw [if_neg k1] at h
    rw [if_neg k1, if_neg k1]
    by_cases k2 : k = 2
    · rw [if_pos k2] at h
      rw [if_pos k2, if_pos k2]
      rcases Int.lt_trichotomy n D.length with c | c | c
      · rw [List.getElem?_append_left (by omega)] at h
        exact .inr (.inl ⟨.inr c, by rw [List.getElem?_append_left (by omega)]; exact h⟩)
      · rw [List.getElem?_append_right (by omega), show n.toNat - D.length = 0 by omega] at h
        exact .inl ⟨k2, c, by simpa using h.symm⟩
      · rw [List.getElem?_append_right (by omega), show n.toNat - D.length = (n - 1).toNat - D.length + 1 by omega] at h
        exact .inr (.inr ⟨k2, c, by rw [List.getElem?_append_right (by omega)]; simpa using h⟩)
    · rw [if_neg k2] at h
      rw [if_neg k2]
      exact .inr (.inl ⟨.inl k2, h⟩)
mutual
theorem rep_told {p : Pg} {v q : List Ty} {N : Nat} (IA : AppT p v q N) : ∀ t : Tm, RepT p v q N t
  | .mk k n nm ar => by
    intro c D G A s ty X hN h0 h1 ht hsA hs hss hm hms hl hls hX
    have IHL := rep_toldL IA ar
    by_cases hk : k = 5
    · subst hk
      obtain ⟨rfl, rfl, x, rfl, hx⟩ := shp_lam hs
      have IHx := rep_told1 IA [x] x rfl
      rw [okT] at ht
      split at ht
      · rename_i h2
        rw [Bool.and_eq_true, okF] at ht
        rw [mB, Bool.and_eq_true, if_pos rfl, mBL, Bool.and_eq_true] at hm
        have hld : ((Tm.mk 5 0 ⟨#[]⟩ [x]).ld : Int) = x.ld + 1 := by simp only [Tm.ld, Tm.ldL, Tm.one, if_true]; omega
        rw [hld] at hl
        have R := IHx c (ty.ar.getD 0 ty0 :: D) G A s (ty.ar.getD 1 ty0) X hN h0 h1 (by simpa using ht.2) hsA hx hss (by simpa using hm.2.1) hms (by simp only [List.length_cons]; omega) hls hX
        refine ends_lam ?_
        rw [show ((D.length : Int) + 1) = (((ty.ar.getD 0 ty0 :: D).length : Nat) : Int) by simp]
        refine R.mono ?_
        intro u c' r
        have r2 := r.ld
        refine ⟨?_, shp_of_lam r.shape, ?_, r.c0, r.c1, ?_, ?_⟩
        · rw [okT, if_pos h2, okF]
          have := r.ok
          simpa using this
        · rw [mB, if_pos rfl, mBL, mBL]
          have := r.mb
          simp only [List.length_cons] at this
          simpa using this
        · have : ((Tm.mk 5 0 ⟨#[]⟩ [u]).ld : Int) = u.ld + 1 := by simp only [Tm.ld, Tm.ldL, Tm.one, if_true]; omega
          rw [this]
          simp only [List.length_cons, List.length_append] at r2 ⊢
          omega
        · rw [emb, if_pos rfl, embF, emb, if_pos rfl, embF, La.sub, hS_ups]
          exact r.red.lam
      · rw [if_pos rfl] at ht; cases ht
    · rw [okT] at ht
      split at ht
      · rename_i h2
        have : (k == 5) = false := by simpa using hk
        rw [this] at ht; cases ht
      · rename_i h2
        split at ht
        · cases ht
        · rename_i own e
          simp only [Bool.and_eq_true, beq_iff_eq] at ht
          rw [shp, Bool.and_eq_true] at hs
          have hn0 := (shp_k hs.1).1
          have hlen := (okL_len ht.2)
          have hmL : mBL (D.length + 1) ar = true := by
            have := hm
            rw [mB, Bool.and_eq_true, if_neg hk] at this
            exact this.2
          have hlL : (Tm.ldL ar : Int) + D.length + G.length ≤ X := by
            rw [Tm.ld] at hl
            unfold Tm.one at hl
            rw [if_neg hk] at hl
            omega
          refine ends_node hk ?_
          have R := IHL c D G A s (partsL own) X hN h0 h1 ht.2 hsA hs.2 hss hmL hms hlL hls hX
          obtain ⟨f, o, e1, r1⟩ := R
          refine ⟨f, o, e1, fun us c' q1 => ?_⟩
          have r := r1 us c' q1
          have r0 := r.c0
          have r2 := r.ld
          have hus : us.length = ar.length := by rw [okL_len r.ok, ← hlen]
          have hldU : ∀ n', ((Tm.mk k n' nm us).ld : Int) + (D ++ G).length ≤ X + 200000 * (c' - c) := fun n' => by
            rw [Tm.ld]
            unfold Tm.one
            rw [if_neg hk]
            omega
          have hshU : ∀ n', 0 ≤ n' → (k = 2 ∨ n' = n) → shp (.mk k n' nm us) = true := fun n' h h' => by
            rw [shp, hus, r.shape, Bool.and_true]
            exact shpN_n hs.1 h' h
          have hokU : ∀ n', hdT p v q (D ++ G) k n' nm = some own → okT p v q (D ++ G) (.mk k n' nm us) ty = true := fun n' h => by
            rw [okT, if_neg h2, if_neg hk, h]
            simp only [Bool.and_eq_true, beq_iff_eq]
            exact ⟨ht.1, r.ok⟩
          have hhd : subHd s (.mk k n nm ar) D.length = if k ≠ 2 ∨ n < D.length then (none, n) else if n = D.length then (some (upB D.length s), 0) else (none, n - 1) := rfl
          rcases hdT_rep hn0 e with ⟨rfl, hnD, rfl⟩ | ⟨hnD, e'⟩ | ⟨rfl, hnD, e'⟩
          · -- the variable itself
            refine ⟨fun n' z => ?_, fun s' n' z => ?_⟩
            · rw [hhd, if_neg (by omega), if_pos hnD] at z; cases z
            · rw [hhd, if_neg (by omega), if_pos hnD] at z
              cases z
              have hDb : (D.length : Int) ≤ 100000 := by
                rcases mB_node hm rfl with h | h <;> omega
              rw [upB_lift]
              have olift : okT p v q (D ++ G) (liftT D.length 0 s) own = true := by
                have := ok_lift (p := p) (v := v) (q := q) (E := D) (G := G) s [] own hss hsA
                simpa using this
              have hm0 : mB 0 (liftT D.length 0 s) = true := mB_mono _ (D.length + 0) 0 (by omega) (mB_lift (by omega) s 0 hms)
              have hmb : mB D.length (liftT D.length 0 s) = true := by have := mB_lift (b := D.length) (by omega) s 0 hms; simpa using this
              have hml0 : mBL 0 us = true := mBL_mono us D.length 0 (by omega) r.mb
              refine (IA us c' (D ++ G) own (liftT D.length 0 s) ty (X + 200000 * (c' - c)) (by omega) (by omega) r.c1 olift r.ok h2 ht.1 (shp_lift (by omega) 0 s hss) r.shape hm0 hml0 (by rw [ld_lift]; simp only [List.length_append]; omega) r2 (by omega)).mono ?_
              intro u c'' R'
              have s0 := R'.c0
              have s2 := R'.ld
              refine ⟨R'.ok, R'.shape, ?_, by omega, R'.c1, by omega, ?_⟩
              · by_cases hx : us = []
                · rw [R'.nil hx]; exact hmb
                · exact mB_small u _ (R'.cons hx)
              · rw [emb_node hk]
                refine (r.red (hdE 2 n nm) (emb (liftT D.length 0 s)) ?_).trans R'.red
                unfold hdE
                rw [if_pos rfl, La.sub, hS, if_neg (by omega), if_pos (by omega)]
                have := emb_lift D.length 0 s hss
                rw [← this]
                exact .refl _
          · -- another head, or one within
            refine ⟨fun n' z => ?_, fun s' n' z => ?_⟩
            · rw [hhd, if_pos (by omega)] at z
              cases z
              refine ⟨hokU n e', hshU n hn0 (.inr rfl), ?_, r0, r.c1, hldU n, ?_⟩
              · rw [mB, if_neg hk, r.mb, Bool.and_true]
                by_cases hk2 : k = 2
                · rcases mB_node hm hk2 with h | h
                  · simp; exact .inr (.inl (by omega))
                  · simp; exact .inr (.inr h)
                · have : (k == 2) = false := by simpa using hk2
                  rw [this]; rfl
              · rw [emb_node hk, emb_node hk]
                refine r.red _ _ ?_
                unfold hdE
                by_cases hk2 : k = 2
                · rw [if_pos hk2, La.sub, hS, if_pos (by omega)]; exact .refl _
                · rw [if_neg hk2]; exact .refl _
            · rw [hhd, if_pos (by omega)] at z; cases z
          · -- one behind
            refine ⟨fun n' z => ?_, fun s' n' z => ?_⟩
            · rw [hhd, if_neg (by omega), if_neg (by omega)] at z
              cases z
              refine ⟨hokU (n - 1) e', hshU (n - 1) (by omega) (.inl rfl), ?_, r0, r.c1, hldU (n - 1), ?_⟩
              · rw [mB, if_neg hk, r.mb, Bool.and_true]
                simp; exact .inl (by omega)
              · rw [emb_node hk, emb_node hk]
                refine r.red _ _ ?_
                unfold hdE
                rw [if_pos rfl, if_pos rfl, La.sub, hS, if_neg (by omega), if_neg (by omega), show (n - 1).toNat = n.toNat - 1 by omega]
                exact .refl _
            · rw [hhd, if_neg (by omega), if_neg (by omega)] at z; cases z
theorem rep_told1 {p : Pg} {v q : List Ty} {N : Nat} (IA : AppT p v q N) : ∀ (l : List Tm) (x : Tm), l = [x] → RepT p v q N x
  | [], x, e => by cases e
  | y :: ys, x, e => by
    cases e
    exact rep_told IA y
theorem rep_toldL {p : Pg} {v q : List Ty} {N : Nat} (IA : AppT p v q N) : ∀ ts : List Tm, RepTL p v q N ts
  | [] => by
    intro c D G A s tys X hN h0 h1 ht hsA hs hss hm hms hl hls hX
    refine endsL_nil ⟨by cases tys <;> simp_all [okL], rfl, rfl, by omega, h1, ?_, ?_⟩
    · simp only [Tm.ldL, List.length_append] at hl ⊢; omega
    · intro h h' e; rw [embA, embA]; exact e
  | t :: ts => by
    intro c D G A s tys X hN h0 h1 ht hsA hs hss hm hms hl hls hX
    cases tys with
    | nil => rw [okL] at ht; cases ht
    | cons ty tys =>
      rw [okL, Bool.and_eq_true] at ht
      rw [shpL, Bool.and_eq_true] at hs
      rw [mBL, Bool.and_eq_true] at hm
      rw [Tm.ldL] at hl
      refine endsL_cons (rep_told IA t c D G A s ty X hN h0 h1 ht.1 hsA hs.1 hss hm.1 hms (by omega) hls hX) ?_
      intro u c' r
      have r0 := r.c0
      have r2 := r.ld
      obtain ⟨f, o, e1, r1⟩ := rep_toldL IA ts c' D G A s tys (X + 200000 * (c' - c)) (by omega) (by omega) r.c1 ht.2 hsA hs.2 hss hm.2 hms (by omega) (by omega) (by omega)
      refine ⟨f, o, e1, fun us c'' q1 => ?_⟩
      have z := r1 us c'' q1
      have z0 := z.c0
      have z2 := z.ld
      refine ⟨by rw [okL, r.ok, z.ok]; rfl, by rw [shpL, r.shape, z.shape]; rfl, by rw [mBL, r.mb, z.mb]; rfl, by omega, z.c1, by rw [Tm.ldL]; omega, ?_⟩
      intro h h' e
      rw [embA, embA]
      refine z.red _ _ ?_
      rw [La.sub]
      exact e.app r.red
end
theorem sub_told {p : Pg} {v q : List Ty} {N : Nat} (IR : ∀ t, RepT p v q N t) : SubT p v q N := by
  intro c G A t s ty X hN h0 h1 ht hsA hs hss hm hms hl hls hX
  have st := ok_small t (A :: G) ty hs ht (by simp only [List.length_cons]; omega)
  have ss := ok_small s G A hss hsA (by omega)
  refine ends_sub (by unfold okS; rw [st]; simp; omega) (by unfold okS; rw [ss]; simp; omega) ?_
  have := IR t c [] G A s ty X hN h0 h1 ht hsA hs hss hm hms (by simp only [List.length_nil]; omega) hls hX
  refine this.mono ?_
  intro u c' r
  have e := r.red
  simp only [List.length_nil] at e
  rw [hS_zero] at e
  exact ⟨r.ok, r.shape, r.mb, r.c0, r.c1, r.ld, e⟩
theorem worker_told (p : Pg) (v q : List Ty) (N : Nat) : SubT p v q N := by
  induction N using Nat.strongRecOn with
  | ind N ih => exact sub_told (rep_told (app_told ih))
end Go.Proofs.YtpgbeapojjinmaaGreatDoor
