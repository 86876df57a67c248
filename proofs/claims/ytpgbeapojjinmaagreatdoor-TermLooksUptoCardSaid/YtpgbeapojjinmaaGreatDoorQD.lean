/- The order of terms, in plain Lean. · The laying of strings.Compare, in plain words (a tool of the kit printed it). · cmp.Compare, strings.Compare, cmp.Or. · term.compared. · term.Compare, term.Same. No law is proved here. -/
import Derived.Test.YtpgbeapojjinmaaGreatDoorA
import Derived.Lib.Bytealg
import Derived.Test.YtpgbeapojjinmaaGreatDoorProg
import Derived.Shelf.Small.Strs
import Derived.Shelf.LaysM
import Derived.Test.YtpgbeapojjinmaaGreatDoorN
import Derived.Test.YtpgbeapojjinmaaGreatDoorCC
set_option linter.unusedVariables false
set_option linter.unusedSimpArgs false
namespace Go.Proofs.YtpgbeapojjinmaaGreatDoor
/-- Which of two numbers is less. -/
def cmpI (a b : Int) : Int := if a < b then -1 else if b < a then 1 else 0
/-- The first that is not 0. -/
def orI (a b : Int) : Int := if a = 0 then b else a
/-- What three comparisons of three things have to do with one another. -/
def T3 (x y z : Int) : Prop := (x = 0 → z = y) ∧ (y = 0 → z = x) ∧ (x < 0 → y < 0 → z < 0) ∧ (0 < x → 0 < y → 0 < z)
theorem cmpI_T3 (a b c : Int) : T3 (cmpI a b) (cmpI b c) (cmpI a c) := by
  unfold T3 cmpI
  refine ⟨?_, ?_, ?_, ?_⟩ <;> (split <;> split <;> split <;> (try split) <;> (try split) <;> (try split) <;> omega)
theorem cmpI_anti (a b : Int) : cmpI b a = - cmpI a b := by
  unfold cmpI
  split <;> split <;> omega
theorem cmpI_self (a : Int) : cmpI a a = 0 := by simp [cmpI]
theorem cmpI_abs (a b : Int) : -1 ≤ cmpI a b ∧ cmpI a b ≤ 1 := by
  unfold cmpI
  split <;> (try split) <;> omega
theorem orI_T3 {x y z x' y' z' : Int} (h : T3 x y z) (h' : T3 x' y' z') : T3 (orI x x') (orI y y') (orI z z') := by
  unfold T3 orI at *
  obtain ⟨h1, h2, h3, h4⟩ := h
  obtain ⟨k1, k2, k3, k4⟩ := h'
  refine ⟨?_, ?_, ?_, ?_⟩ <;> (split <;> split <;> split <;> omega)
theorem orI_anti {x y x' y' : Int} (h : y = -x) (h' : y' = -x') : orI y y' = - orI x x' := by
  unfold orI
  split <;> split <;> omega
theorem orI_zero {x y : Int} (h : x = 0) (h' : y = 0) : orI x y = 0 := by simp [orI, h, h']
theorem orI_abs {x y : Int} (h : -1 ≤ x ∧ x ≤ 1) (h' : -1 ≤ y ∧ y ≤ 1) : -1 ≤ orI x y ∧ orI x y ≤ 1 := by
  unfold orI
  split <;> omega
theorem bytes_T3 : ∀ a b c : List UInt8, T3 (Lib.compareBytes a b) (Lib.compareBytes b c) (Lib.compareBytes a c)
  | [], [], [] => by simp [T3, Lib.compareBytes]
  | [], [], _ :: _ => by simp [T3, Lib.compareBytes]
  | [], _ :: _, [] => by simp [T3, Lib.compareBytes]
  | [], _ :: _, _ :: _ => by unfold T3; simp [Lib.compareBytes]
  | _ :: _, [], [] => by simp [T3, Lib.compareBytes]
  | _ :: _, [], _ :: _ => by unfold T3; simp [Lib.compareBytes]
  | _ :: _, _ :: _, [] => by unfold T3; simp [Lib.compareBytes]
  | x :: a, y :: b, z :: c => by
    have ih := bytes_T3 a b c
    unfold T3 at *
    simp only [Lib.compareBytes, UInt8.lt_iff_toNat_lt]
    generalize x.toNat = x' at *
    generalize y.toNat = y' at *
    generalize z.toNat = z' at *
    generalize Lib.compareBytes a b = p at *
    generalize Lib.compareBytes b c = q at *
    generalize Lib.compareBytes a c = r at *
    obtain ⟨h1, h2, h3, h4⟩ := ih
    refine ⟨?_, ?_, ?_, ?_⟩ <;> (repeat' split) <;> omega
theorem bytes_anti : ∀ a b : List UInt8, Lib.compareBytes b a = - Lib.compareBytes a b
  | [], [] => rfl
  | [], _ :: _ => rfl
  | _ :: _, [] => rfl
  | x :: a, y :: b => by
    have ih := bytes_anti a b
    simp only [Lib.compareBytes, UInt8.lt_iff_toNat_lt]
    (repeat' split) <;> omega
theorem bytes_self : ∀ a : List UInt8, Lib.compareBytes a a = 0
  | [] => rfl
  | x :: a => by simp [Lib.compareBytes, bytes_self a]
theorem bytes_abs : ∀ a b : List UInt8, -1 ≤ Lib.compareBytes a b ∧ Lib.compareBytes a b ≤ 1
  | [], [] => by simp [Lib.compareBytes]
  | [], _ :: _ => by simp [Lib.compareBytes]
  | _ :: _, [] => by simp [Lib.compareBytes]
  | x :: a, y :: b => by
    have ih := bytes_abs a b
    simp only [Lib.compareBytes]
    (repeat' split) <;> omega
/-- The order of two texts. -/
def cmpS (a b : ByteArray) : Int := Lib.compareBytes a.data.toList b.data.toList
/-- The first difference of two heads. -/
def cmpH (s t : Tm) : Int := orI (cmpI s.k t.k) (orI (cmpI s.n t.n) (orI (cmpS s.nm t.nm) (cmpI s.ar.length t.ar.length)))
theorem cmpH_T3 (a b c : Tm) : T3 (cmpH a b) (cmpH b c) (cmpH a c) :=
  orI_T3 (cmpI_T3 _ _ _) (orI_T3 (cmpI_T3 _ _ _) (orI_T3 (bytes_T3 _ _ _) (cmpI_T3 _ _ _)))
theorem cmpH_anti (a b : Tm) : cmpH b a = - cmpH a b := orI_anti (cmpI_anti _ _) (orI_anti (cmpI_anti _ _) (orI_anti (bytes_anti _ _) (cmpI_anti _ _)))
theorem cmpH_self (a : Tm) : cmpH a a = 0 := orI_zero (cmpI_self _) (orI_zero (cmpI_self _) (orI_zero (bytes_self _) (cmpI_self _)))
theorem cmpH_abs (a b : Tm) : -1 ≤ cmpH a b ∧ cmpH a b ≤ 1 := orI_abs (cmpI_abs _ _) (orI_abs (cmpI_abs _ _) (orI_abs (bytes_abs _ _) (cmpI_abs _ _)))
mutual
/-- The order of terms. -/
def cmpT : Tm → Tm → Int
  | .mk k n nm ar, t => orI (cmpH (.mk k n nm ar) t) (cmpTL ar t.ar)
def cmpTL : List Tm → List Tm → Int
  | [], [] => 0
  | [], _ :: _ => -1
  | _ :: _, [] => 1
  | x :: xs, y :: ys => orI (cmpT x y) (cmpTL xs ys)
end
theorem cmpT_eq (a b : Tm) : cmpT a b = orI (cmpH a b) (cmpTL a.ar b.ar) := by cases a; rw [cmpT]; rfl
mutual
theorem cmpT_T3 : ∀ a b c : Tm, T3 (cmpT a b) (cmpT b c) (cmpT a c)
  | .mk k n nm ar, b, c => by
    rw [cmpT_eq, cmpT_eq, cmpT_eq]
    exact orI_T3 (cmpH_T3 _ _ _) (cmpTL_T3 ar b.ar c.ar)
theorem cmpTL_T3 : ∀ a b c : List Tm, T3 (cmpTL a b) (cmpTL b c) (cmpTL a c)
  | [], [], [] => by simp [T3, cmpTL]
  | [], [], _ :: _ => by simp [T3, cmpTL]
  | [], _ :: _, [] => by simp [T3, cmpTL]
  | [], _ :: _, _ :: _ => by unfold T3; simp [cmpTL]
  | _ :: _, [], [] => by simp [T3, cmpTL]
  | _ :: _, [], _ :: _ => by unfold T3; simp [cmpTL]
  | _ :: _, _ :: _, [] => by unfold T3; simp [cmpTL]
  | x :: xs, y :: ys, z :: zs => by
    rw [cmpTL, cmpTL, cmpTL]
    exact orI_T3 (cmpT_T3 x y z) (cmpTL_T3 xs ys zs)
end
mutual
theorem cmpT_anti : ∀ a b : Tm, cmpT b a = - cmpT a b
  | .mk k n nm ar, b => by
    rw [cmpT_eq, cmpT_eq]
    exact orI_anti (cmpH_anti _ _) (cmpTL_anti ar b.ar)
theorem cmpTL_anti : ∀ a b : List Tm, cmpTL b a = - cmpTL a b
  | [], [] => by simp [cmpTL]
  | [], _ :: _ => by simp [cmpTL]
  | _ :: _, [] => by simp [cmpTL]
  | x :: xs, y :: ys => by
    rw [cmpTL, cmpTL]
    exact orI_anti (cmpT_anti x y) (cmpTL_anti xs ys)
end
mutual
theorem cmpT_self : ∀ a : Tm, cmpT a a = 0
  | .mk k n nm ar => by
    rw [cmpT_eq]
    exact orI_zero (cmpH_self _) (cmpTL_self ar)
theorem cmpTL_self : ∀ a : List Tm, cmpTL a a = 0
  | [] => by simp [cmpTL]
  | x :: xs => by
    rw [cmpTL]
    exact orI_zero (cmpT_self x) (cmpTL_self xs)
end
mutual
theorem cmpT_abs : ∀ a b : Tm, -1 ≤ cmpT a b ∧ cmpT a b ≤ 1
  | .mk k n nm ar, b => by
    rw [cmpT_eq]
    exact orI_abs (cmpH_abs _ _) (cmpTL_abs ar b.ar)
theorem cmpTL_abs : ∀ a b : List Tm, -1 ≤ cmpTL a b ∧ cmpTL a b ≤ 1
  | [], [] => by simp [cmpTL]
  | [], _ :: _ => by simp [cmpTL]
  | _ :: _, [] => by simp [cmpTL]
  | x :: xs, y :: ys => by
    rw [cmpTL]
    exact orI_abs (cmpT_abs x y) (cmpTL_abs xs ys)
end
/-- The order of all terms: those that are not raw come first. -/
def cmpP (r s : Bool) (a b : Tm) : Int := if r then (if s then cmpT a b else 1) else if s then -1 else 0
theorem cmpP_T3 (r s q : Bool) (a b c : Tm) : T3 (cmpP r s a b) (cmpP s q b c) (cmpP r q a c) := by
  have h := cmpT_T3 a b c
  unfold cmpP
  cases r <;> cases s <;> cases q <;> simp only [Bool.false_eq_true, if_true, if_false] <;> first | exact h | (unfold T3; omega)
theorem cmpP_anti (r s : Bool) (a b : Tm) : cmpP s r b a = - cmpP r s a b := by
  have h := cmpT_anti a b
  unfold cmpP
  cases r <;> cases s <;> simp only [Bool.false_eq_true, if_true, if_false] <;> first | exact h | omega
theorem cmpP_self (r : Bool) (a : Tm) : cmpP r r a a = 0 := by
  unfold cmpP
  cases r <;> simp [cmpT_self]
theorem cmpP_abs (r s : Bool) (a b : Tm) : -1 ≤ cmpP r s a b ∧ cmpP r s a b ≤ 1 := by
  have h := cmpT_abs a b
  unfold cmpP
  cases r <;> cases s <;> simp only [Bool.false_eq_true, if_true, if_false] <;> first | exact h | omega
/-- What the law asks of three comparisons. -/
theorem T3_law {x y z : Int} (h : T3 x y z) : ((decide (x > 0) || (decide (y > 0) || decide (z ≤ 0))) && ((decide (x ≥ 0) || (decide (y > 0) || decide (z < 0))) && (decide (x > 0) || (decide (y ≥ 0) || decide (z < 0))))) = true := by
  unfold T3 at h
  obtain ⟨h1, h2, h3, h4⟩ := h
  simp only [Bool.and_eq_true, Bool.or_eq_true, decide_eq_true_eq]
  omega
end Go.Proofs.YtpgbeapojjinmaaGreatDoor
namespace Go.Proofs
open Go.Shelf
def Tryz.lays106_ren : Go.Shelf.Ren := ⟨fun | 106 => 183 | 213 => 226 | 265 => 246 | n => n, fun | 9 => 9 | 3 => 3 | n => n, fun | n => n⟩
theorem Tryz.lays106 : Go.Proofs.Lays.n106 Tryz.prog Tryz.lays106_ren := {
  mixed := by kernel_rfl
  f106 := Tryz.func183.trans (congrArg some (by kernel_rfl))
  f213 := Tryz.func226.trans (congrArg some (by kernel_rfl))
  f265 := Tryz.func246.trans (congrArg some (by kernel_rfl))
  t3 := Tryz.underlying3
  a3 := Tryz.isAgg3
  z3 := Tryz.sizeOf3
  v3 := Tryz.zeroValue3
  t9 := Tryz.underlying9
  a9 := Tryz.isAgg9
  z9 := Tryz.sizeOf9
  v9 := Tryz.zeroValue9 }
end Go.Proofs
namespace Go.Proofs.YtpgbeapojjinmaaGreatDoor
open Go.RowKit Go.Shelf Go.Proofs.YtpgbeapojjinmaaGreatDoorW.PrintLast
set_option maxRecDepth 100000 in
set_option maxHeartbeats 4000000 in
theorem isNaN_calls (a : Int) (w : World) : Calls Tryz.prog 225 #[.int .i64 a] w fun e w' => e = .returned (.bool false) ∧ w' = w := by
  go_enter Tryz.func225, Tryz.ntmps225
  go_wp2_with fail
  go_ret
  exact ⟨by simp, rfl⟩
set_option maxRecDepth 100000 in
set_option maxHeartbeats 4000000 in
theorem CompareI_calls (a b : Int) (w : World) : Calls Tryz.prog 182 #[.int .i64 a, .int .i64 b] w fun e w' => e = .returned (.int .i64 (cmpI a b)) ∧ w' = w := by
  have hn := isNaN_calls
  by_cases h1 : a < b
  · have e1 : cmpI a b = -1 := by simp [cmpI, h1]
    rw [e1]
    go_enter Tryz.func182, Tryz.ntmps182
    go_wp2_with fail
    refine (isNaN_calls _ _).mono ?_
    rintro e w' ⟨rfl, rfl⟩
    go_wp2_with fail
    refine (isNaN_calls _ _).mono ?_
    rintro e w' ⟨rfl, rfl⟩
    go_wp2_with fail
    go_ret
    exact ⟨rfl, rfl⟩
  · by_cases h2 : b < a
    · have e1 : cmpI a b = 1 := by simp [cmpI, h1, h2]
      rw [e1]
      go_enter Tryz.func182, Tryz.ntmps182
      go_wp2_with fail
      refine (isNaN_calls _ _).mono ?_
      rintro e w' ⟨rfl, rfl⟩
      go_wp2_with fail
      refine (isNaN_calls _ _).mono ?_
      rintro e w' ⟨rfl, rfl⟩
      go_wp2_with fail
      go_ret
      exact ⟨rfl, rfl⟩
    · have e1 : cmpI a b = 0 := by simp [cmpI, h1, h2]
      rw [e1]
      go_enter Tryz.func182, Tryz.ntmps182
      go_wp2_with fail
      refine (isNaN_calls _ _).mono ?_
      rintro e w' ⟨rfl, rfl⟩
      go_wp2_with fail
      refine (isNaN_calls _ _).mono ?_
      rintro e w' ⟨rfl, rfl⟩
      go_wp2_with fail
      go_ret
      exact ⟨rfl, rfl⟩
theorem CompareS_calls (a b : ByteArray) (w : World) : Calls Tryz.prog 183 #[.string a, .string b] w fun e w' => e = .returned (.int .i64 (cmpS a b)) ∧ w' = w := Any.strings_Compare Tryz.lays106 a b w
/-- The first that is not 0. -/
def orL : List Int → Int
  | [] => 0
  | x :: xs => orI x (orL xs)
set_option maxRecDepth 100000 in
set_option maxHeartbeats 4000000 in
theorem Or_calls (xs : List Int) (b : Nat) (w : World) (hx : ∀ j (hj : j < xs.length), w.cell? ⟨b, j, none⟩ = some (.int .i64 xs[j])) (hlen : xs.length = 4) :
    Calls Tryz.prog 181 #[.slice (some ⟨b, 0, none⟩) 4 4] w fun e w' => e = .returned (.int .i64 (orL xs)) ∧ Below w.heap.size w w' := by
  have hx' := Lib.hid hx
  have hlen' := Lib.hid hlen
  clear hx hlen
  go_enter Tryz.func181, Tryz.ntmps181
  go_wp2_with fail
  go_loopw [8] (fun i wr => ∃ j : Nat, j ≤ 4 ∧ i = .int .i64 j ∧ Hid (orL (xs.drop j) = orL xs) ∧ Below w.heap.size w wr) (fun i _ => 4 - (intOf i).toNat)
  case atStart => exact ⟨0, by omega, rfl, by show orL _ = _; simp, Below.refl _ _⟩
  case round =>
    obtain ⟨j, hj, rfl, hI, hbel⟩ := hrel
    by_cases hlt : j < 4
    · have hlt' : j < xs.length := by rw [hlen'.out]; exact hlt
      have hc := cell_below (hx'.out j hlt') hbel
      obtain ⟨v, hv⟩ : ∃ v, xs[j] = v := ⟨_, rfl⟩
      have hI' : Hid (orI v (orL (xs.drop (j + 1))) = orL xs) := by
        have := hI.out
        rw [List.drop_eq_getElem_cons hlt', orL, hv] at this
        exact this
      rw [hv] at hc
      clear hv hI hlt'
      by_cases hz : v = 0
      · have hI2 : Hid (orL (xs.drop (j + 1)) = orL xs) := by have := hI'.out; rw [orI, if_pos hz] at this; exact this
        subst hz
        clear hI'
        go_wp2_with fail
        exact ⟨⟨j + 1, by omega, by go_num, hI2, hbel⟩, by simp [intOf]; omega⟩
      · have hI2 : Hid (orL xs = v) := by have := hI'.out; rw [orI, if_neg hz] at this; exact this.symm
        clear hI'
        go_wp2_with fail
        go_ret
        exact ⟨by rw [hI2.out]; rfl, hbel⟩
    · have hI2 : Hid (orL xs = 0) := by
        have := hI.out
        rw [List.drop_eq_nil_of_le (by rw [hlen'.out]; omega)] at this
        exact this.symm
      clear hI
      go_wp2_with fail
      go_ret
      exact ⟨by rw [hI2.out]; rfl, hbel⟩
end Go.Proofs.YtpgbeapojjinmaaGreatDoor
namespace Go.Proofs.YtpgbeapojjinmaaGreatDoor
open Go.RowKit Go.Shelf Go.Proofs.YtpgbeapojjinmaaGreatDoorW.PrintLast
theorem CompareI_below (a b : Int) (w : World) : Calls Tryz.prog 182 #[.int .i64 a, .int .i64 b] w fun e w' => e = .returned (.int .i64 (cmpI a b)) ∧ Below w.heap.size w w' :=
  (CompareI_calls a b w).mono (by rintro e w' ⟨rfl, rfl⟩; exact ⟨rfl, Below.refl _ _⟩)
theorem CompareS_below (a b : ByteArray) (w : World) : Calls Tryz.prog 183 #[.string a, .string b] w fun e w' => e = .returned (.int .i64 (cmpS a b)) ∧ Below w.heap.size w w' :=
  (CompareS_calls a b w).mono (by rintro e w' ⟨rfl, rfl⟩; exact ⟨rfl, Below.refl _ _⟩)
theorem orI_right (a : Int) : orI a 0 = a := by unfold orI; split <;> omega
theorem orL_head (s t : Tm) : orL [cmpI s.k t.k, cmpI s.n t.n, cmpS s.nm t.nm, cmpI s.ar.length t.ar.length] = cmpH s t := by
  simp only [orL, orI_right]; rfl
set_option maxRecDepth 100000 in
set_option maxHeartbeats 4000000 in
theorem CompareFunc_calls (m : Nat) (l k : List Tm) (v u : Value) (w : World) (h : Snap) (H : Has w h) (r : TmS h l v) (q : TmS h k u) (hs : ∀ j (hj : j < l.length), l[j].sz ≤ m)
    (ih : ∀ (t u : Tm) (_ : t.sz ≤ m) (cs ds : List Value) (w : World) (h : Snap) (H : Has w h) (r : TmR h t cs) (q : TmR h u ds), Calls Tryz.prog 133 #[.agg cs.toArray, .agg ds.toArray] w fun e w' => e = .returned (.int .i64 (cmpT t u)) ∧ Below w.heap.size w w') :
    Calls Tryz.prog 184 #[v, u, .func (.func 133) #[] #[]] w fun e w' => e = .returned (.int .i64 (cmpTL l k)) ∧ Below w.heap.size w w' := by
  obtain ⟨A, cap, rfl, hl, hm, hr⟩ := r
  obtain ⟨B, dap, rfl, gl, gm, gr⟩ := q
  have hu34 := Tryz.underlying34
  have IH := Lib.hid ih
  have hs' := Lib.hid hs
  clear ih hs
  unfold lim at hm gm
  go_enter Tryz.func184, Tryz.ntmps184
  go_wp2_with fail
  go_loopw [13] (fun i wr => ∃ j : Nat, j ≤ l.length ∧ j ≤ k.length ∧ i = .int .i64 j ∧ Hid (cmpTL (l.drop j) (k.drop j) = cmpTL l k) ∧ Below w.heap.size w wr) (fun i _ => l.length - (intOf i).toNat)
  case atStart => exact ⟨0, by omega, by omega, rfl, by show cmpTL _ _ = _; simp, Below.refl _ _⟩
  case round =>
    obtain ⟨j, hj, hjk, rfl, hI, hbel⟩ := hrel
    by_cases hlt : j < l.length
    · obtain ⟨b, o, A', cap', rfl, e0, e1, e2, e3, rt⟩ := hr.get j hlt
      have hw := H.below hbel
      have hc0 := hw.cell _ _ e0
      have hc1 := hw.cell _ _ e1
      have hc2 := hw.cell _ _ e2
      have hc3 := hw.cell _ _ e3
      have lb := hw.lt e0
      by_cases hlt' : j < k.length
      · obtain ⟨b', o', B', dap', rfl, f0, f1, f2, f3, rq⟩ := gr.get j hlt'
        have hd0 := hw.cell _ _ f0
        have hd1 := hw.cell _ _ f1
        have hd2 := hw.cell _ _ f2
        have hd3 := hw.cell _ _ f3
        have lb' := hw.lt f0
        have hI' : Hid (orI (cmpT l[j] k[j]) (cmpTL (l.drop (j + 1)) (k.drop (j + 1))) = cmpTL l k) := by
          have := hI.out
          rw [List.drop_eq_getElem_cons hlt, List.drop_eq_getElem_cons hlt', cmpTL] at this
          exact this
        clear hI
        go_wp2_with fail
        refine (IH.out l[j] k[j] (hs'.out j hlt) _ _ _ h ((hw.alloc _).alloc _) rt rq).mono ?_
        rintro e w1 ⟨rfl, b1⟩
        have hb1 := below_then ((hbel.alloc hbel.size (.cells #[.int .i64 l[j].k, .int .i64 l[j].n, .string l[j].nm, .slice A' l[j].ar.length cap'] 34)).alloc (by have := hbel.size; simp <;> omega) (.cells #[.int .i64 k[j].k, .int .i64 k[j].n, .string k[j].nm, .slice B' k[j].ar.length dap'] 34)) b1 (by have := hbel.size; simp <;> omega)
        obtain ⟨c, hc⟩ : ∃ c, cmpT l[j] k[j] = c := ⟨_, rfl⟩
        rw [hc] at hI' ⊢
        clear hc
        by_cases hz : c = 0
        · have hI2 : Hid (cmpTL (l.drop (j + 1)) (k.drop (j + 1)) = cmpTL l k) := by have := hI'.out; rw [orI, if_pos hz] at this; exact this
          subst hz
          clear hI'
          go_wp2_with fail
          exact ⟨⟨j + 1, by omega, by omega, by go_num, hI2, hb1⟩, by simp [intOf]; omega⟩
        · have hI2 : Hid (cmpTL l k = c) := by have := hI'.out; rw [orI, if_neg hz] at this; exact this.symm
          clear hI'
          go_wp2_with fail
          go_ret
          exact ⟨by rw [hI2.out]; rfl, hb1⟩
      · have hI2 : Hid (cmpTL l k = 1) := by
          have := hI.out
          rw [List.drop_eq_getElem_cons hlt, List.drop_eq_nil_of_le (show k.length ≤ j by omega), cmpTL] at this
          exact this.symm
        clear hI
        have hb0 := hbel.alloc hbel.size (.cells #[.int .i64 l[j].k, .int .i64 l[j].n, .string l[j].nm, .slice A' l[j].ar.length cap'] 34)
        go_wp2_with fail
        go_ret
        exact ⟨by rw [hI2.out]; rfl, hb0⟩
    · have hjl : j = l.length := by omega
      by_cases hlk : l.length < k.length
      · have hI2 : Hid (cmpTL l k = -1) := by
          have := hI.out
          rw [List.drop_eq_nil_of_le (show l.length ≤ j by omega), List.drop_eq_getElem_cons (show j < k.length by omega), cmpTL] at this
          exact this.symm
        clear hI
        go_wp2_with fail
        go_ret
        exact ⟨by rw [hI2.out]; rfl, hbel⟩
      · have hI2 : Hid (cmpTL l k = 0) := by
          have := hI.out
          rw [List.drop_eq_nil_of_le (show l.length ≤ j by omega), List.drop_eq_nil_of_le (show k.length ≤ j by omega), cmpTL] at this
          exact this.symm
        clear hI
        go_wp2_with fail
        go_ret
        exact ⟨by rw [hI2.out]; rfl, hbel⟩
set_option maxRecDepth 100000 in
set_option maxHeartbeats 4000000 in
theorem compared_calls : ∀ (m : Nat) (t u : Tm) (_ : t.sz ≤ m) (cs ds : List Value) (w : World) (h : Snap) (H : Has w h) (r : TmR h t cs) (q : TmR h u ds),
    Calls Tryz.prog 133 #[.agg cs.toArray, .agg ds.toArray] w fun e w' => e = .returned (.int .i64 (cmpT t u)) ∧ Below w.heap.size w w' := by
  intro m
  induction m with
  | zero => intro t u ht; have := t.sz_pos; omega
  | succ m ih =>
  intro t u ht cs ds w h H r q
  have hs := Lib.hid (show ∀ j (hj : j < t.ar.length), t.ar[j].sz ≤ m from fun j hj => by cases t with | mk k n nm ar => have h2 := Tm.sz_at ar j hj; simp only [Tm.sz] at ht; simp only [Tm.ar] at *; omega)
  obtain ⟨A, cap, rfl, hl, hm, hk1, hn1, hr⟩ := r.open_
  obtain ⟨B, dap, rfl, gl, gm, gk1, gn1, gr⟩ := q.open_
  have hu34 := Tryz.underlying34
  have hu85 := Tryz.underlying85
  have IH := Lib.hid ih
  clear ih
  obtain ⟨p1, p2, hb⟩ := alloc2 w (.cells #[.int .i64 t.k, .int .i64 t.n, .string t.nm, .slice A t.ar.length cap] 34) (.cells #[.int .i64 u.k, .int .i64 u.n, .string u.nm, .slice B u.ar.length dap] 34)
  have rA' : Hid (TmS h t.ar (.slice A t.ar.length cap)) := Lib.hid ⟨A, cap, rfl, hl, hm, hr⟩
  have rB' : Hid (TmS h u.ar (.slice B u.ar.length dap)) := Lib.hid ⟨B, dap, rfl, gl, gm, gr⟩
  have G := Lib.hid (cmpT_eq t u)
  have GH := Lib.hid (orL_head t u)
  unfold lim at hm gm
  clear r q hr gr hk1 hn1 gk1 gn1 hl gl ht
  go_enter Tryz.func133, Tryz.ntmps133
  go_wp2_with fail
  obtain ⟨W2, hW2⟩ : ∃ W2, (w.alloc (.cells #[.int .i64 t.k, .int .i64 t.n, .string t.nm, .slice A t.ar.length cap] 34)).alloc (.cells #[.int .i64 u.k, .int .i64 u.n, .string u.nm, .slice B u.ar.length dap] 34) = W2 := ⟨_, rfl⟩
  rw [hW2] at p1 p2 hb ⊢
  clear hW2
  have x0 := (box4 p1).1
  have x1 := (box4 p1).2.1
  have x2 := (box4 p1).2.2.1
  have x3 := (box4 p1).2.2.2
  have y0 := (box4 p2).1
  have y1 := (box4 p2).2.1
  have y2 := (box4 p2).2.2.1
  have y3 := (box4 p2).2.2.2
  refine rgs 25 (fun V => Below W2.heap.size W2 V) [] rfl ((Below.refl _ _).drew) (fun hS => ?_)
  refine rgt 0 (.pointer (some ⟨w.heap.size, 0, none⟩)) rfl (by kernel_rfl) (fun _ _ _ h => h) (by kernel_rfl) hS (fun V hV => by go_simp) ?_
  refine rgt 1 (.int .i64 t.k) rfl (by kernel_rfl) (fun _ _ _ h => h) (by kernel_rfl) hS (fun V hV => by have q0 := cell_below x0 hV; go_simp) ?_
  refine rgt 2 (.pointer (some ⟨w.heap.size + 1, 0, none⟩)) rfl (by kernel_rfl) (fun _ _ _ h => h) (by kernel_rfl) hS (fun V hV => by go_simp) ?_
  refine rgt 3 (.int .i64 u.k) rfl (by kernel_rfl) (fun _ _ _ h => h) (by kernel_rfl) hS (fun V hV => by have q0 := cell_below y0 hV; go_simp) ?_
  refine rgt 5 (.pointer (some ⟨w.heap.size, 1, none⟩)) rfl (by kernel_rfl) (fun _ _ _ h => h) (by kernel_rfl) hS (fun V hV => by go_simp) ?_
  refine rgt 6 (.int .i64 t.n) rfl (by kernel_rfl) (fun _ _ _ h => h) (by kernel_rfl) hS (fun V hV => by have q0 := cell_below x1 hV; go_simp) ?_
  refine rgt 7 (.pointer (some ⟨w.heap.size + 1, 1, none⟩)) rfl (by kernel_rfl) (fun _ _ _ h => h) (by kernel_rfl) hS (fun V hV => by go_simp) ?_
  refine rgt 8 (.int .i64 u.n) rfl (by kernel_rfl) (fun _ _ _ h => h) (by kernel_rfl) hS (fun V hV => by have q0 := cell_below y1 hV; go_simp) ?_
  refine rgt 10 (.pointer (some ⟨w.heap.size, 2, none⟩)) rfl (by kernel_rfl) (fun _ _ _ h => h) (by kernel_rfl) hS (fun V hV => by go_simp) ?_
  refine rgt 11 (.string t.nm) rfl (by kernel_rfl) (fun _ _ _ h => h) (by kernel_rfl) hS (fun V hV => by have q0 := cell_below x2 hV; go_simp) ?_
  refine rgt 12 (.pointer (some ⟨w.heap.size + 1, 2, none⟩)) rfl (by kernel_rfl) (fun _ _ _ h => h) (by kernel_rfl) hS (fun V hV => by go_simp) ?_
  refine rgt 13 (.string u.nm) rfl (by kernel_rfl) (fun _ _ _ h => h) (by kernel_rfl) hS (fun V hV => by have q0 := cell_below y2 hV; go_simp) ?_
  refine rgt 15 (.pointer (some ⟨w.heap.size, 3, none⟩)) rfl (by kernel_rfl) (fun _ _ _ h => h) (by kernel_rfl) hS (fun V hV => by go_simp) ?_
  refine rgt 16 (.slice A t.ar.length cap) rfl (by kernel_rfl) (fun _ _ _ h => h) (by kernel_rfl) hS (fun V hV => by have q0 := cell_below x3 hV; go_simp) ?_
  refine rgt 17 (.int .i64 t.ar.length) rfl (by kernel_rfl) (fun _ _ _ h => h) (by kernel_rfl) hS (fun V hV => by go_simp) ?_
  refine rgt 18 (.pointer (some ⟨w.heap.size + 1, 3, none⟩)) rfl (by kernel_rfl) (fun _ _ _ h => h) (by kernel_rfl) hS (fun V hV => by go_simp) ?_
  refine rgt 19 (.slice B u.ar.length dap) rfl (by kernel_rfl) (fun _ _ _ h => h) (by kernel_rfl) hS (fun V hV => by have q0 := cell_below y3 hV; go_simp) ?_
  refine rgt 20 (.int .i64 u.ar.length) rfl (by kernel_rfl) (fun _ _ _ h => h) (by kernel_rfl) hS (fun V hV => by go_simp) ?_
  refine rg1 4 rfl (by kernel_rfl) (by decide) (by kernel_rfl) (fun K hK => ?_)
  have hS0 := hS
  go_simp
  refine (CompareI_below t.k u.k _).mono ?_
  rintro e WN ⟨rfl, kN⟩
  simp only []
  refine hK.out _ _ (below_then hS0 kN hS0.size) (fun hS => ?_)
  refine rg1 9 rfl (by kernel_rfl) (by decide) (by kernel_rfl) (fun K hK => ?_)
  have hS0 := hS
  go_simp
  refine (CompareI_below t.n u.n _).mono ?_
  rintro e WN ⟨rfl, kN⟩
  simp only []
  refine hK.out _ _ (below_then hS0 kN hS0.size) (fun hS => ?_)
  refine rg1 14 rfl (by kernel_rfl) (by decide) (by kernel_rfl) (fun K hK => ?_)
  have hS0 := hS
  go_simp
  refine (CompareS_below t.nm u.nm _).mono ?_
  rintro e WN ⟨rfl, kN⟩
  simp only []
  refine hK.out _ _ (below_then hS0 kN hS0.size) (fun hS => ?_)
  refine rg1 21 rfl (by kernel_rfl) (by decide) (by kernel_rfl) (fun K hK => ?_)
  have hS0 := hS
  go_simp
  refine (CompareI_below t.ar.length u.ar.length _).mono ?_
  rintro e WN ⟨rfl, kN⟩
  simp only []
  refine hK.out _ _ (below_then hS0 kN hS0.size) (fun hS => ?_)
  refine rg1 22 rfl (by kernel_rfl) (by decide) (by kernel_rfl) (fun K hK => ?_)
  have hS0 := hS
  go_simp
  have b5 := box4 (blk_new WN (.cells #[.int .i64 (cmpI t.k u.k), .int .i64 (cmpI t.n u.n), .int .i64 (cmpS t.nm u.nm), .int .i64 (cmpI t.ar.length u.ar.length)] 3))
  obtain ⟨W5, hW5⟩ : ∃ W5, WN.alloc (.cells #[.int .i64 (cmpI t.k u.k), .int .i64 (cmpI t.n u.n), .int .i64 (cmpS t.nm u.nm), .int .i64 (cmpI t.ar.length u.ar.length)] 3) = W5 := ⟨_, rfl⟩
  rw [hW5] at b5 ⊢
  have hS5 : Below W2.heap.size W2 W5 := by rw [← hW5]; exact hS0.alloc hS0.size _
  clear hW5
  refine hK.out _ _ hS5 (fun hS => ?_)
  refine rg1 23 rfl (by kernel_rfl) (by decide) (by kernel_rfl) (fun K hK => ?_)
  have hS0 := hS
  go_simp
  refine (Or_calls [cmpI t.k u.k, cmpI t.n u.n, cmpS t.nm u.nm, cmpI t.ar.length u.ar.length] WN.heap.size _ (fun j hj => by
    match j, hj with
    | 0, _ => exact b5.1
    | 1, _ => exact b5.2.1
    | 2, _ => exact b5.2.2.1
    | 3, _ => exact b5.2.2.2
    | n + 4, h => simp at h; omega) rfl).mono ?_
  rintro e W6 ⟨rfl, k6⟩
  rw [GH.out]
  simp only []
  refine hK.out _ _ (below_then hS0 k6 hS0.size) (fun hS => ?_)
  refine rgt 24 (.int .i64 (cmpH t u)) rfl (by kernel_rfl) (fun _ _ _ h => h) (by kernel_rfl) hS (fun V hV => by go_simp) ?_
  refine rgd (by kernel_rfl) ?_
  have kE := below_then hb hS hb.size
  have z3 := cell_below x3 hS
  have z4 := cell_below y3 hS
  obtain ⟨c, hc⟩ : ∃ c, cmpH t u = c := ⟨_, rfl⟩
  have G' : Hid (cmpT t u = orI c (cmpTL t.ar u.ar)) := Lib.hid (by rw [← hc]; exact G.out)
  rw [hc]
  clear hc G GH b5 x0 x1 x2 x3 y0 y1 y2 y3 p1 p2 hS0 hS5 k6
  by_cases hz : c = 0
  · subst hz
    go_wp2_with fail
    refine (CompareFunc_calls m t.ar u.ar _ _ _ h (H.below kE) rA'.out rB'.out hs.out IH.out).mono ?_
    rintro e w7 ⟨rfl, k7⟩
    have kF := below_then kE k7 kE.size
    go_wp2_with fail
    go_ret
    exact ⟨by rw [G'.out, orI, if_pos rfl]; rfl, kF⟩
  · go_wp2_with fail
    go_ret
    exact ⟨by rw [G'.out, orI, if_neg hz]; rfl, kE⟩
end Go.Proofs.YtpgbeapojjinmaaGreatDoor
namespace Go.Proofs.YtpgbeapojjinmaaGreatDoor
open Go.RowKit Go.Shelf Go.Proofs.YtpgbeapojjinmaaGreatDoorW.PrintLast
/-- What 'Compare' returns. -/
def cmpV (a b : Tm) : Int := cmpP (rawP a == 0) (rawP b == 0) a b
/-- What 'Same' returns. -/
def sameV (a b : Tm) : Bool := rawP a == 0 && (rawP b == 0 && cmpT a b == 0)
set_option maxRecDepth 100000 in
set_option maxHeartbeats 4000000 in
theorem Compare_calls (a b : Tm) (ca cb : List Value) (w : World) (h : Snap) (H : Has w h) (ra : TmR h a ca) (rb : TmR h b cb) :
    Calls Tryz.prog 54 #[.agg ca.toArray, .agg cb.toArray] w fun e w' => e = .returned (.int .i64 (cmpV a b)) ∧ Below w.heap.size w w' := by
  have ra0 := Lib.hid ra
  have rb0 := Lib.hid rb
  obtain ⟨A, cap, rfl, hl, hm, hk1, hn1, hr⟩ := ra.open_
  obtain ⟨B, dap, rfl, gl, gm, gk1, gn1, gr⟩ := rb.open_
  have hu34 := Tryz.underlying34
  have hu42 := Tryz.underlying42
  obtain ⟨p1, p2, hb⟩ := alloc2 w (.cells #[.int .i64 a.k, .int .i64 a.n, .string a.nm, .slice A a.ar.length cap] 34) (.cells #[.int .i64 b.k, .int .i64 b.n, .string b.nm, .slice B b.ar.length dap] 34)
  have G := Lib.hid (show cmpV a b = cmpP (rawP a == 0) (rawP b == 0) a b from rfl)
  unfold lim at hm gm
  clear ra rb hr gr hk1 hn1 gk1 gn1 hl gl
  go_enter Tryz.func54, Tryz.ntmps54
  go_wp2_with fail
  obtain ⟨W2, hW2⟩ : ∃ W2, (w.alloc (.cells #[.int .i64 a.k, .int .i64 a.n, .string a.nm, .slice A a.ar.length cap] 34)).alloc (.cells #[.int .i64 b.k, .int .i64 b.n, .string b.nm, .slice B b.ar.length dap] 34) = W2 := ⟨_, rfl⟩
  rw [hW2] at p1 p2 hb ⊢
  clear hW2
  have x0 := (box4 p1).1
  have x1 := (box4 p1).2.1
  have x2 := (box4 p1).2.2.1
  have x3 := (box4 p1).2.2.2
  have y0 := (box4 p2).1
  have y1 := (box4 p2).2.1
  have y2 := (box4 p2).2.2.1
  have y3 := (box4 p2).2.2.2
  have H2 := H.below hb
  obtain ⟨ea, hea⟩ : ∃ e, rawP a = e := ⟨_, rfl⟩
  obtain ⟨eb, heb⟩ : ∃ e, rawP b = e := ⟨_, rfl⟩
  rw [hea, heb] at G
  have hea' := Lib.hid hea
  have heb' := Lib.hid heb
  clear hea heb
  refine rgs 8 (fun V => Below W2.heap.size W2 V) [] rfl ((Below.refl _ _).drew) (fun hS => ?_)
  refine rgt 0 (.agg #[.int .i64 a.k, .int .i64 a.n, .string a.nm, .slice A a.ar.length cap]) rfl (by kernel_rfl) (fun _ _ _ h => h) (by kernel_rfl) hS (fun V hV => by have q0 := cell_below x0 hV; have q1 := cell_below x1 hV; have q2 := cell_below x2 hV; have q3 := cell_below x3 hV; go_simp) ?_
  refine rgt 3 (.agg #[.int .i64 b.k, .int .i64 b.n, .string b.nm, .slice B b.ar.length dap]) rfl (by kernel_rfl) (fun _ _ _ h => h) (by kernel_rfl) hS (fun V hV => by have q0 := cell_below y0 hV; have q1 := cell_below y1 hV; have q2 := cell_below y2 hV; have q3 := cell_below y3 hV; go_simp) ?_
  refine rg1 1 rfl (by kernel_rfl) (by decide) (by kernel_rfl) (fun K hK => ?_)
  have hS0 := hS
  go_simp
  refine (Raw_calls a _ _ h (H2.below hS0) ra0.out).mono ?_
  rintro e WN ⟨rfl, kN⟩
  rw [hea'.out]
  simp only []
  refine hK.out _ _ (below_then hS0 kN hS0.size) (fun hS => ?_)
  refine rgt 2 (.bool (ea == 0)) rfl (by kernel_rfl) (fun _ _ _ h => h) (by kernel_rfl) hS (fun V hV => by go_simp) ?_
  refine rg1 4 rfl (by kernel_rfl) (by decide) (by kernel_rfl) (fun K hK => ?_)
  have hS0 := hS
  go_simp
  refine (Raw_calls b _ _ h (H2.below hS0) rb0.out).mono ?_
  rintro e WN ⟨rfl, kN⟩
  rw [heb'.out]
  simp only []
  refine hK.out _ _ (below_then hS0 kN hS0.size) (fun hS => ?_)
  refine rgp 5 (.bool (eb == 0)) rfl (by kernel_rfl) (fun _ _ _ h => h) (by kernel_rfl) (fun V => by go_simp) ?_
  refine rgt 6 (.bool (ea == 0)) rfl (by kernel_rfl) (fun _ _ _ h => h) (by kernel_rfl) hS (fun V hV => by go_simp) ?_
  refine rgt 7 (.bool (eb == 0)) rfl (by kernel_rfl) (fun _ _ _ h => h) (by kernel_rfl) hS (fun V hV => by go_simp) ?_
  refine rgd (by kernel_rfl) ?_
  have kE := below_then hb hS hb.size
  have z0 := cell_below x0 hS
  have z1 := cell_below x1 hS
  have z2 := cell_below x2 hS
  have z3 := cell_below x3 hS
  have u0 := cell_below y0 hS
  have u1 := cell_below y1 hS
  have u2 := cell_below y2 hS
  have u3 := cell_below y3 hS
  clear x0 x1 x2 x3 y0 y1 y2 y3 p1 p2 hS0 hea' heb'
  cases qa : ea == 0
  · rw [qa] at G
    cases qb : eb == 0
    · rw [qb] at G
      go_wp2_with fail
      go_ret
      exact ⟨by rw [G.out]; rfl, kE⟩
    · rw [qb] at G
      go_wp2_with fail
      go_ret
      exact ⟨by rw [G.out]; rfl, kE⟩
  · rw [qa] at G
    cases qb : eb == 0
    · rw [qb] at G
      go_wp2_with fail
      go_ret
      exact ⟨by rw [G.out]; rfl, kE⟩
    · rw [qb] at G
      go_wp2_with fail
      refine (compared_calls _ a b (Nat.le_refl _) _ _ _ h (H.below kE) ra0.out rb0.out).mono ?_
      rintro e w7 ⟨rfl, k7⟩
      have kF := below_then kE k7 kE.size
      go_wp2_with fail
      go_ret
      exact ⟨by rw [G.out]; rfl, kF⟩
set_option maxRecDepth 100000 in
set_option maxHeartbeats 4000000 in
theorem Same_calls (a b : Tm) (ca cb : List Value) (w : World) (h : Snap) (H : Has w h) (ra : TmR h a ca) (rb : TmR h b cb) :
    Calls Tryz.prog 52 #[.agg ca.toArray, .agg cb.toArray] w fun e w' => e = .returned (.bool (sameV a b)) ∧ Below w.heap.size w w' := by
  have ra0 := Lib.hid ra
  have rb0 := Lib.hid rb
  obtain ⟨A, cap, rfl, hl, hm, hk1, hn1, hr⟩ := ra.open_
  obtain ⟨B, dap, rfl, gl, gm, gk1, gn1, gr⟩ := rb.open_
  have hu34 := Tryz.underlying34
  have hu42 := Tryz.underlying42
  obtain ⟨p1, p2, hb⟩ := alloc2 w (.cells #[.int .i64 a.k, .int .i64 a.n, .string a.nm, .slice A a.ar.length cap] 34) (.cells #[.int .i64 b.k, .int .i64 b.n, .string b.nm, .slice B b.ar.length dap] 34)
  have G := Lib.hid (show sameV a b = (rawP a == 0 && (rawP b == 0 && cmpT a b == 0)) from rfl)
  unfold lim at hm gm
  clear ra rb hr gr hk1 hn1 gk1 gn1 hl gl
  go_enter Tryz.func52, Tryz.ntmps52
  go_wp2_with fail
  refine (Raw_calls a _ _ h (H.below hb) ra0.out).mono ?_
  rintro e w1 ⟨rfl, k1⟩
  have kk1 := below_then hb k1 hb.size
  obtain ⟨ea, hea⟩ : ∃ e, rawP a = e := ⟨_, rfl⟩
  rw [hea] at G ⊢
  clear hea
  have d1 := box4 (box_below p1 k1)
  have d2 := box4 (box_below p2 k1)
  have l1 := blk_lt (box_below p1 k1)
  have l2 := blk_lt (box_below p2 k1)
  cases qa : ea == 0
  · rw [qa] at G
    go_wp2_with fail
    go_ret
    exact ⟨by rw [G.out]; rfl, kk1⟩
  · rw [qa] at G
    go_wp2_with fail
    refine (Raw_calls b _ _ h (H.below kk1) rb0.out).mono ?_
    rintro e w2 ⟨rfl, k2⟩
    have kk2 := below_then kk1 k2 kk1.size
    obtain ⟨eb, heb⟩ : ∃ e, rawP b = e := ⟨_, rfl⟩
    rw [heb] at G ⊢
    clear heb
    have f1 := box4 (box_below (box_below p1 k1) k2)
    have f2 := box4 (box_below (box_below p2 k1) k2)
    clear d1 d2
    cases qb : eb == 0
    · rw [qb] at G
      go_wp2_with fail
      go_ret
      exact ⟨by rw [G.out]; rfl, kk2⟩
    · rw [qb] at G
      go_wp2_with fail
      refine (compared_calls _ a b (Nat.le_refl _) _ _ _ h (H.below kk2) ra0.out rb0.out).mono ?_
      rintro e w3 ⟨rfl, k3⟩
      have kk3 := below_then kk2 k3 kk2.size
      go_wp2_with fail
      go_ret
      exact ⟨by rw [G.out]; rfl, kk3⟩
end Go.Proofs.YtpgbeapojjinmaaGreatDoor
