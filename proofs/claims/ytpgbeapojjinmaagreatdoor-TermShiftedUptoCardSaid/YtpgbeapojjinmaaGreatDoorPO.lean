/- The order of terms, in plain Lean. No law is proved here. -/
import Derived.Test.YtpgbeapojjinmaaGreatDoorA
import Derived.Lib.Bytealg
set_option linter.unusedVariables false
set_option linter.unusedSimpArgs false
namespace Go.Proofs.YtpgbeapojjinmaaGreatDoor
/-- Which of two numbers is less. -/
def cmpI (a b : Int) : Int := if a < b then -1 else if b < a then 1 else 0
/-- The first that is not 0. -/
def orI (a b : Int) : Int := if a = 0 then b else a
/-- What three comparisons of three things have to do with one another. -/
def T3 (x y z : Int) : Prop := (x = 0 → z = y) ∧ (y = 0 → z = x) ∧ (x < 0 → y < 0 → z < 0) ∧ (0 < x → 0 < y → 0 < z)
theorem cmpI_T3 (a b c : Int) : T3 (cmpI a b) (cmpI b c) (cmpI a c) := by
  unfold T3 cmpI
  refine ⟨?_, ?_, ?_, ?_⟩ <;> (split <;> split <;> split <;> (try split) <;> (try split) <;> (try split) <;> omega)
theorem cmpI_anti (a b : Int) : cmpI b a = - cmpI a b := by
  unfold cmpI
  split <;> split <;> omega
theorem cmpI_self (a : Int) : cmpI a a = 0 := by simp [cmpI]
theorem cmpI_abs (a b : Int) : -1 ≤ cmpI a b ∧ cmpI a b ≤ 1 := by
  unfold cmpI
  split <;> (try split) <;> omega
theorem orI_T3 {x y z x' y' z' : Int} (h : T3 x y z) (h' : T3 x' y' z') : T3 (orI x x') (orI y y') (orI z z') := by
  unfold T3 orI at *
  obtain ⟨h1, h2, h3, h4⟩ := h
  obtain ⟨k1, k2, k3, k4⟩ := h'
  refine ⟨?_, ?_, ?_, ?_⟩ <;> (split <;> split <;> split <;> omega)
theorem orI_anti {x y x' y' : Int} (h : y = -x) (h' : y' = -x') : orI y y' = - orI x x' := by
  unfold orI
  split <;> split <;> omega
theorem orI_zero {x y : Int} (h : x = 0) (h' : y = 0) : orI x y = 0 := by simp [orI, h, h']
theorem orI_abs {x y : Int} (h : -1 ≤ x ∧ x ≤ 1) (h' : -1 ≤ y ∧ y ≤ 1) : -1 ≤ orI x y ∧ orI x y ≤ 1 := by
  unfold orI
  split <;> omega
theorem bytes_T3 : ∀ a b c : List UInt8, T3 (Lib.compareBytes a b) (Lib.compareBytes b c) (Lib.compareBytes a c)
  | [], [], [] => by simp [T3, Lib.compareBytes]
  | [], [], _ :: _ => by simp [T3, Lib.compareBytes]
  | [], _ :: _, [] => by simp [T3, Lib.compareBytes]
  | [], _ :: _, _ :: _ => by unfold T3; simp [Lib.compareBytes]
  | _ :: _, [], [] => by simp [T3, Lib.compareBytes]
  | _ :: _, [], _ :: _ => by unfold T3; simp [Lib.compareBytes]
  | _ :: _, _ :: _, [] => by unfold T3; simp [Lib.compareBytes]
  | x :: a, y :: b, z :: c => by
    have ih := bytes_T3 a b c
    unfold T3 at *
    simp only [Lib.compareBytes, UInt8.lt_iff_toNat_lt]
    generalize x.toNat = x' at *
    generalize y.toNat = y' at *
    generalize z.toNat = z' at *
    generalize Lib.compareBytes a b = p at *
    generalize Lib.compareBytes b c = q at *
    generalize Lib.compareBytes a c = r at *
    obtain ⟨h1, h2, h3, h4⟩ := ih
    refine ⟨?_, ?_, ?_, ?_⟩ <;> (repeat' split) <;> omega
theorem bytes_anti : ∀ a b : List UInt8, Lib.compareBytes b a = - Lib.compareBytes a b
  | [], [] => rfl
  | [], _ :: _ => rfl
  | _ :: _, [] => rfl
  | x :: a, y :: b => by
    have ih := bytes_anti a b
    simp only [Lib.compareBytes, UInt8.lt_iff_toNat_lt]
    (repeat' split) <;> omega
theorem bytes_self : ∀ a : List UInt8, Lib.compareBytes a a = 0
  | [] => rfl
  | x :: a => by simp [Lib.compareBytes, bytes_self a]
theorem bytes_abs : ∀ a b : List UInt8, -1 ≤ Lib.compareBytes a b ∧ Lib.compareBytes a b ≤ 1
  | [], [] => by simp [Lib.compareBytes]
  | [], _ :: _ => by simp [Lib.compareBytes]
  | _ :: _, [] => by simp [Lib.compareBytes]
  | x :: a, y :: b => by
    have ih := bytes_abs a b
    simp only [Lib.compareBytes]
    (repeat' split) <;> omega
/-- The order of two texts. -/
def cmpS (a b : ByteArray) : Int := Lib.compareBytes a.data.toList b.data.toList
/-- The first difference of two heads. -/
def cmpH (s t : Tm) : Int := orI (cmpI s.k t.k) (orI (cmpI s.n t.n) (orI (cmpS s.nm t.nm) (cmpI s.ar.length t.ar.length)))
theorem cmpH_T3 (a b c : Tm) : T3 (cmpH a b) (cmpH b c) (cmpH a c) :=
  orI_T3 (cmpI_T3 _ _ _) (orI_T3 (cmpI_T3 _ _ _) (orI_T3 (bytes_T3 _ _ _) (cmpI_T3 _ _ _)))
theorem cmpH_anti (a b : Tm) : cmpH b a = - cmpH a b := orI_anti (cmpI_anti _ _) (orI_anti (cmpI_anti _ _) (orI_anti (bytes_anti _ _) (cmpI_anti _ _)))
theorem cmpH_self (a : Tm) : cmpH a a = 0 := orI_zero (cmpI_self _) (orI_zero (cmpI_self _) (orI_zero (bytes_self _) (cmpI_self _)))
theorem cmpH_abs (a b : Tm) : -1 ≤ cmpH a b ∧ cmpH a b ≤ 1 := orI_abs (cmpI_abs _ _) (orI_abs (cmpI_abs _ _) (orI_abs (bytes_abs _ _) (cmpI_abs _ _)))
mutual
/-- The order of terms. -/
def cmpT : Tm → Tm → Int
  | .mk k n nm ar, t => orI (cmpH (.mk k n nm ar) t) (cmpTL ar t.ar)
def cmpTL : List Tm → List Tm → Int
  | [], [] => 0
  | [], _ :: _ => -1
  | _ :: _, [] => 1
  | x :: xs, y :: ys => orI (cmpT x y) (cmpTL xs ys)
end
theorem cmpT_eq (a b : Tm) : cmpT a b = orI (cmpH a b) (cmpTL a.ar b.ar) := by cases a; rw [cmpT]; rfl
mutual
theorem cmpT_T3 : ∀ a b c : Tm, T3 (cmpT a b) (cmpT b c) (cmpT a c)
  | .mk k n nm ar, b, c => by
    rw [cmpT_eq, cmpT_eq, cmpT_eq]
    exact orI_T3 (cmpH_T3 _ _ _) (cmpTL_T3 ar b.ar c.ar)
theorem cmpTL_T3 : ∀ a b c : List Tm, T3 (cmpTL a b) (cmpTL b c) (cmpTL a c)
  | [], [], [] => by simp [T3, cmpTL]
  | [], [], _ :: _ => by simp [T3, cmpTL]
  | [], _ :: _, [] => by simp [T3, cmpTL]
  | [], _ :: _, _ :: _ => by unfold T3; simp [cmpTL]
  | _ :: _, [], [] => by simp [T3, cmpTL]
  | _ :: _, [], _ :: _ => by unfold T3; simp [cmpTL]
  | _ :: _, _ :: _, [] => by unfold T3; simp [cmpTL]
  | x :: xs, y :: ys, z :: zs => by
    rw [cmpTL, cmpTL, cmpTL]
    exact orI_T3 (cmpT_T3 x y z) (cmpTL_T3 xs ys zs)
end
mutual
theorem cmpT_anti : ∀ a b : Tm, cmpT b a = - cmpT a b
  | .mk k n nm ar, b => by
    rw [cmpT_eq, cmpT_eq]
    exact orI_anti (cmpH_anti _ _) (cmpTL_anti ar b.ar)
theorem cmpTL_anti : ∀ a b : List Tm, cmpTL b a = - cmpTL a b
  | [], [] => by simp [cmpTL]
  | [], _ :: _ => by simp [cmpTL]
  | _ :: _, [] => by simp [cmpTL]
  | x :: xs, y :: ys => by
    rw [cmpTL, cmpTL]
    exact orI_anti (cmpT_anti x y) (cmpTL_anti xs ys)
end
mutual
theorem cmpT_self : ∀ a : Tm, cmpT a a = 0
  | .mk k n nm ar => by
    rw [cmpT_eq]
    exact orI_zero (cmpH_self _) (cmpTL_self ar)
theorem cmpTL_self : ∀ a : List Tm, cmpTL a a = 0
  | [] => by simp [cmpTL]
  | x :: xs => by
    rw [cmpTL]
    exact orI_zero (cmpT_self x) (cmpTL_self xs)
end
mutual
theorem cmpT_abs : ∀ a b : Tm, -1 ≤ cmpT a b ∧ cmpT a b ≤ 1
  | .mk k n nm ar, b => by
    rw [cmpT_eq]
    exact orI_abs (cmpH_abs _ _) (cmpTL_abs ar b.ar)
theorem cmpTL_abs : ∀ a b : List Tm, -1 ≤ cmpTL a b ∧ cmpTL a b ≤ 1
  | [], [] => by simp [cmpTL]
  | [], _ :: _ => by simp [cmpTL]
  | _ :: _, [] => by simp [cmpTL]
  | x :: xs, y :: ys => by
    rw [cmpTL]
    exact orI_abs (cmpT_abs x y) (cmpTL_abs xs ys)
end
/-- The order of all terms: those that are not raw come first. -/
def cmpP (r s : Bool) (a b : Tm) : Int := if r then (if s then cmpT a b else 1) else if s then -1 else 0
theorem cmpP_T3 (r s q : Bool) (a b c : Tm) : T3 (cmpP r s a b) (cmpP s q b c) (cmpP r q a c) := by
  have h := cmpT_T3 a b c
  unfold cmpP
  cases r <;> cases s <;> cases q <;> simp only [Bool.false_eq_true, if_true, if_false] <;> first | exact h | (unfold T3; omega)
theorem cmpP_anti (r s : Bool) (a b : Tm) : cmpP s r b a = - cmpP r s a b := by
  have h := cmpT_anti a b
  unfold cmpP
  cases r <;> cases s <;> simp only [Bool.false_eq_true, if_true, if_false] <;> first | exact h | omega
theorem cmpP_self (r : Bool) (a : Tm) : cmpP r r a a = 0 := by
  unfold cmpP
  cases r <;> simp [cmpT_self]
theorem cmpP_abs (r s : Bool) (a b : Tm) : -1 ≤ cmpP r s a b ∧ cmpP r s a b ≤ 1 := by
  have h := cmpT_abs a b
  unfold cmpP
  cases r <;> cases s <;> simp only [Bool.false_eq_true, if_true, if_false] <;> first | exact h | omega
/-- What the law asks of three comparisons. -/
theorem T3_law {x y z : Int} (h : T3 x y z) : ((decide (x > 0) || (decide (y > 0) || decide (z ≤ 0))) && ((decide (x ≥ 0) || (decide (y > 0) || decide (z < 0))) && (decide (x > 0) || (decide (y ≥ 0) || decide (z < 0))))) = true := by
  unfold T3 at h
  obtain ⟨h1, h2, h3, h4⟩ := h
  simp only [Bool.and_eq_true, Bool.or_eq_true, decide_eq_true_eq]
  omega
end Go.Proofs.YtpgbeapojjinmaaGreatDoor
