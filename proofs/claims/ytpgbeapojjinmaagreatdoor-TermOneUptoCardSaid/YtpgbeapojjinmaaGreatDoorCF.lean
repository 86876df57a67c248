/- Plain lambda terms: substitution, reduction, and that normal forms are unique. No law is proved here. -/
import Derived.Test.YtpgbeapojjinmaaGreatDoorA
set_option linter.unusedVariables false
set_option linter.unusedSimpArgs false
namespace Go.Proofs.YtpgbeapojjinmaaGreatDoor
/-- Lambda terms with constants. -/
inductive La where
  | var (n : Nat)
  | cst (k n : Int) (nm : ByteArray)
  | app (a b : La)
  | lam (a : La)
namespace La
def upr (f : Nat → Nat) : Nat → Nat | 0 => 0 | n + 1 => f n + 1
def ren : (Nat → Nat) → La → La
  | f, .var n => .var (f n)
  | _, .cst k n m => .cst k n m
  | f, .app a b => .app (ren f a) (ren f b)
  | f, .lam a => .lam (ren (upr f) a)
def ups (s : Nat → La) : Nat → La | 0 => .var 0 | n + 1 => ren Nat.succ (s n)
def sub : (Nat → La) → La → La
  | s, .var n => s n
  | _, .cst k n m => .cst k n m
  | s, .app a b => .app (sub s a) (sub s b)
  | s, .lam a => .lam (sub (ups s) a)
theorem upr_comp (f g : Nat → Nat) : (fun n => upr g (upr f n)) = upr (fun n => g (f n)) := by
  funext n
  cases n <;> rfl
theorem ren_ren : ∀ (t : La) (f g : Nat → Nat), ren g (ren f t) = ren (fun n => g (f n)) t
  | .var n, f, g => rfl
  | .cst .., f, g => rfl
  | .app a b, f, g => by simp only [ren, ren_ren a, ren_ren b]
  | .lam a, f, g => by simp only [ren, ren_ren a, upr_comp]
theorem ups_upr (s : Nat → La) (f : Nat → Nat) : (fun n => ups s (upr f n)) = ups (fun n => s (f n)) := by
  funext n
  cases n <;> rfl
theorem sub_ren : ∀ (t : La) (f : Nat → Nat) (s : Nat → La), sub s (ren f t) = sub (fun n => s (f n)) t
  | .var n, f, s => rfl
  | .cst .., f, s => rfl
  | .app a b, f, s => by simp only [ren, sub, sub_ren a, sub_ren b]
  | .lam a, f, s => by simp only [ren, sub, sub_ren a, ups_upr]
theorem ren_ups (f : Nat → Nat) (s : Nat → La) : (fun n => ren (upr f) (ups s n)) = ups (fun n => ren f (s n)) := by
  funext n
  cases n with
  | zero => rfl
  | succ n => simp only [ups, ren_ren]; rfl
theorem ren_sub : ∀ (t : La) (f : Nat → Nat) (s : Nat → La), ren f (sub s t) = sub (fun n => ren f (s n)) t
  | .var n, f, s => rfl
  | .cst .., f, s => rfl
  | .app a b, f, s => by simp only [ren, sub, ren_sub a, ren_sub b]
  | .lam a, f, s => by simp only [ren, sub, ren_sub a, ren_ups]
theorem sub_ups (s r : Nat → La) : (fun n => sub (ups r) (ups s n)) = ups (fun n => sub r (s n)) := by
  funext n
  cases n with
  | zero => rfl
  | succ n => simp only [ups, sub_ren, ren_sub]
theorem sub_sub : ∀ (t : La) (s r : Nat → La), sub r (sub s t) = sub (fun n => sub r (s n)) t
  | .var n, s, r => rfl
  | .cst .., s, r => rfl
  | .app a b, s, r => by simp only [sub, sub_sub a, sub_sub b]
  | .lam a, s, r => by simp only [sub, sub_sub a, sub_ups]
theorem ups_var : ups .var = .var := by
  funext n
  cases n <;> rfl
theorem sub_var : ∀ t : La, sub .var t = t
  | .var n => rfl
  | .cst .. => rfl
  | .app a b => by simp only [sub, sub_var a, sub_var b]
  | .lam a => by simp only [sub, ups_var, sub_var a]
theorem ren_is_sub : ∀ (t : La) (f : Nat → Nat), ren f t = sub (fun n => .var (f n)) t := fun t f => by
  have := sub_ren t f .var
  rw [sub_var] at this
  exact this
/-- The substitution of one term for the variable 0. -/
def one (b : La) : Nat → La | 0 => b | n + 1 => .var n
def inst (b a : La) : La := sub (one b) a
theorem sub_inst (s : Nat → La) (b a : La) : sub s (inst b a) = inst (sub s b) (sub (ups s) a) := by
  unfold inst
  rw [sub_sub, sub_sub]
  congr 1
  funext n
  cases n with
  | zero => rfl
  | succ n => simp only [one, sub, ups, sub_ren]; exact (sub_var _).symm
theorem ren_inst (f : Nat → Nat) (b a : La) : ren f (inst b a) = inst (ren f b) (ren (upr f) a) := by
  rw [ren_is_sub, ren_is_sub, ren_is_sub, sub_inst]
  congr 2
  funext n
  cases n <;> rfl
/-- Reduction of some redexes at once. -/
inductive Par : La → La → Prop
  | var (n : Nat) : Par (.var n) (.var n)
  | cst (k n : Int) (m : ByteArray) : Par (.cst k n m) (.cst k n m)
  | app {a a' b b' : La} : Par a a' → Par b b' → Par (.app a b) (.app a' b')
  | lam {a a' : La} : Par a a' → Par (.lam a) (.lam a')
  | beta {a a' b b' : La} : Par a a' → Par b b' → Par (.app (.lam a) b) (inst b' a')
theorem Par.refl : ∀ t : La, Par t t
  | .var n => .var n
  | .cst k n m => .cst k n m
  | .app a b => .app (Par.refl a) (Par.refl b)
  | .lam a => .lam (Par.refl a)
theorem Par.ren {t u : La} (h : Par t u) : ∀ f : Nat → Nat, Par (La.ren f t) (La.ren f u) := by
  induction h with
  | var n => exact fun f => .var _
  | cst k n m => exact fun f => .cst _ _ _
  | app _ _ ih ih' => exact fun f => .app (ih f) (ih' f)
  | lam _ ih => exact fun f => .lam (ih _)
  | beta _ _ ih ih' => intro f; rw [ren_inst]; exact .beta (ih _) (ih' f)
theorem Par.sub {t u : La} (h : Par t u) : ∀ s r : Nat → La, (∀ n, Par (s n) (r n)) → Par (La.sub s t) (La.sub r u) := by
  induction h with
  | var n => exact fun s r H => H n
  | cst k n m => exact fun s r H => .cst _ _ _
  | app _ _ ih ih' => exact fun s r H => .app (ih s r H) (ih' s r H)
  | lam _ ih =>
    exact fun s r H => .lam (ih _ _ (fun n => by
      cases n with
      | zero => exact .var 0
      | succ n => exact (H n).ren _))
  | beta _ _ ih ih' =>
    intro s r H
    rw [sub_inst]
    exact .beta (ih _ _ (fun n => by
      cases n with
      | zero => exact .var 0
      | succ n => exact (H n).ren _)) (ih' s r H)
theorem Par.inst {a a' b b' : La} (h : Par a a') (k : Par b b') : Par (La.inst b a) (La.inst b' a') :=
  h.sub _ _ (fun n => by
    cases n with
    | zero => exact k
    | succ n => exact .var n)
/-- All redexes at once. -/
def dev : La → La
  | .var n => .var n
  | .cst k n m => .cst k n m
  | .app (.lam a) b => inst (dev b) (dev a)
  | .app (.var n) b => .app (.var n) (dev b)
  | .app (.cst k n m) b => .app (.cst k n m) (dev b)
  | .app (.app a c) b => .app (dev (.app a c)) (dev b)
  | .lam a => .lam (dev a)
theorem Par.dev {t u : La} (h : Par t u) : Par u (La.dev t) := by
  induction h with
  | var n => exact .var n
  | cst k n m => exact .cst k n m
  | @app a a' b b' h1 h2 ih ih' =>
    cases a with
    | var n => simp only [La.dev] at ih ⊢; exact .app ih ih'
    | cst k n m => simp only [La.dev] at ih ⊢; exact .app ih ih'
    | app c d => simp only [La.dev] at ih ⊢; exact .app ih ih'
    | lam c =>
      cases h1 with
      | lam h1 =>
        simp only [La.dev] at ih ⊢
        cases ih with
        | lam ih => exact .beta ih ih'
  | lam _ ih => exact .lam ih
  | beta _ _ ih ih' => exact ih.inst ih'
/-- Some reductions, one behind the other. -/
inductive Red : La → La → Prop
  | refl (t : La) : Red t t
  | step {t u v : La} : Par t u → Red u v → Red t v
theorem Red.trans {t u v : La} (h : Red t u) (k : Red u v) : Red t v := by
  induction h with
  | refl => exact k
  | step p _ ih => exact .step p (ih k)
theorem Red.of {t u : La} (h : Par t u) : Red t u := .step h (.refl _)
theorem Red.lam {t u : La} (h : Red t u) : Red (.lam t) (.lam u) := by
  induction h with
  | refl => exact .refl _
  | step p _ ih => exact .step (.lam p) ih
theorem Red.app {a a' b b' : La} (h : Red a a') (k : Red b b') : Red (.app a b) (.app a' b') := by
  have h1 : Red (.app a b) (.app a' b) := by
    induction h with
    | refl => exact .refl _
    | step p _ ih => exact .step (.app p (Par.refl _)) ih
  refine h1.trans ?_
  clear h1 h
  induction k with
  | refl => exact .refl _
  | step p _ ih => exact .step (.app (Par.refl _) p) ih
theorem Red.ren {t u : La} (h : Red t u) (f : Nat → Nat) : Red (La.ren f t) (La.ren f u) := by
  induction h with
  | refl => exact .refl _
  | step p _ ih => exact .step (p.ren f) ih
theorem Red.sub {t u : La} (h : Red t u) (s : Nat → La) : Red (La.sub s t) (La.sub s u) := by
  induction h with
  | refl => exact .refl _
  | step p _ ih => exact .step (p.sub _ _ (fun n => Par.refl _)) ih
theorem Red.sub_right {b b' : La} (h : Red b b') (a : La) : Red (inst b a) (inst b' a) := by
  induction h with
  | refl => exact .refl _
  | step p _ ih => exact .step ((Par.refl a).inst p) ih
theorem Red.inst {a a' b b' : La} (h : Red a a') (k : Red b b') : Red (La.inst b a) (La.inst b' a') := (h.sub _).trans (k.sub_right _)
theorem strip {t u v : La} (h : Par t u) (k : Red t v) : ∃ x, Red u x ∧ Par v x := by
  induction k generalizing u with
  | refl => exact ⟨u, .refl _, h⟩
  | @step t t' v p _ ih =>
    obtain ⟨x, h1, h2⟩ := ih p.dev
    exact ⟨x, .step h.dev h1, h2⟩
theorem church {t u v : La} (h : Red t u) (k : Red t v) : ∃ x, Red u x ∧ Red v x := by
  induction h generalizing v with
  | refl => exact ⟨v, k, .refl _⟩
  | @step t t' u p _ ih =>
    obtain ⟨x, h1, h2⟩ := strip p k
    obtain ⟨y, h3, h4⟩ := ih h1
    exact ⟨y, h3, .step h2 h4⟩
/-- No redex. -/
def nf : La → Bool
  | .var _ => true
  | .cst .. => true
  | .app (.lam _) _ => false
  | .app (.var _) b => nf b
  | .app (.cst ..) b => nf b
  | .app (.app a c) b => nf (.app a c) && nf b
  | .lam a => nf a
theorem Par.nf {t u : La} (h : Par t u) : La.nf t = true → u = t := by
  induction h with
  | var n => exact fun _ => rfl
  | cst k n m => exact fun _ => rfl
  | @app a a' b b' h1 h2 ih ih' =>
    intro hn
    cases a with
    | var n => simp only [La.nf] at hn; rw [ih rfl, ih' hn]
    | cst k n m => simp only [La.nf] at hn; rw [ih rfl, ih' hn]
    | app c d => simp only [La.nf, Bool.and_eq_true] at hn; rw [ih hn.1, ih' hn.2]
    | lam c => simp [La.nf] at hn
  | lam _ ih => intro hn; rw [ih hn]
  | beta _ _ _ _ => intro hn; simp [La.nf] at hn
theorem Red.nf {t u : La} (h : Red t u) (hn : La.nf t = true) : u = t := by
  induction h with
  | refl => rfl
  | step p _ ih =>
    have := p.nf hn
    subst this
    exact ih hn
/-- Normal forms are unique. -/
theorem unique {t u v : La} (h : Red t u) (k : Red t v) (hu : La.nf u = true) (hv : La.nf v = true) : u = v := by
  obtain ⟨x, h1, h2⟩ := church h k
  rw [← h1.nf hu, ← h2.nf hv]
/-- Two substitutions, in either order. -/
theorem swap (t s u : La) : inst u (inst s t) = inst (inst u s) (sub (ups (one u)) t) := sub_inst (one u) s t
end La
end Go.Proofs.YtpgbeapojjinmaaGreatDoor
