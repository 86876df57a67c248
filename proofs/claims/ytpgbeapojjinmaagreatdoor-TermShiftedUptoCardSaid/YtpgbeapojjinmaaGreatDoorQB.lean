/- cmp.Compare, strings.Compare, cmp.Or. No law is proved here. -/
import Derived.Test.YtpgbeapojjinmaaGreatDoorN
import Derived.Test.YtpgbeapojjinmaaGreatDoorPO
import Derived.Test.YtpgbeapojjinmaaGreatDoorSI
set_option linter.unusedVariables false
set_option linter.unusedSimpArgs false
namespace Go.Proofs.YtpgbeapojjinmaaGreatDoor
open Go.RowKit Go.Shelf Go.Proofs.YtpgbeapojjinmaaGreatDoorW.PrintLast
set_option maxRecDepth 100000 in
set_option maxHeartbeats 4000000 in
theorem isNaN_calls (a : Int) (w : World) : Calls Tryz.prog 225 #[.int .i64 a] w fun e w' => e = .returned (.bool false) ∧ w' = w := by
  go_enter Tryz.func225, Tryz.ntmps225
  go_wp2_with fail
  go_ret
  exact ⟨by simp, rfl⟩
set_option maxRecDepth 100000 in
set_option maxHeartbeats 4000000 in
theorem CompareI_calls (a b : Int) (w : World) : Calls Tryz.prog 182 #[.int .i64 a, .int .i64 b] w fun e w' => e = .returned (.int .i64 (cmpI a b)) ∧ w' = w := by
  have hn := isNaN_calls
  by_cases h1 : a < b
  · have e1 : cmpI a b = -1 := by simp [cmpI, h1]
    rw [e1]
    go_enter Tryz.func182, Tryz.ntmps182
    go_wp2_with fail
    refine (isNaN_calls _ _).mono ?_
    rintro e w' ⟨rfl, rfl⟩
    go_wp2_with fail
    refine (isNaN_calls _ _).mono ?_
    rintro e w' ⟨rfl, rfl⟩
    go_wp2_with fail
    go_ret
    exact ⟨rfl, rfl⟩
  · by_cases h2 : b < a
    · have e1 : cmpI a b = 1 := by simp [cmpI, h1, h2]
      rw [e1]
      go_enter Tryz.func182, Tryz.ntmps182
      go_wp2_with fail
      refine (isNaN_calls _ _).mono ?_
      rintro e w' ⟨rfl, rfl⟩
      go_wp2_with fail
      refine (isNaN_calls _ _).mono ?_
      rintro e w' ⟨rfl, rfl⟩
      go_wp2_with fail
      go_ret
      exact ⟨rfl, rfl⟩
    · have e1 : cmpI a b = 0 := by simp [cmpI, h1, h2]
      rw [e1]
      go_enter Tryz.func182, Tryz.ntmps182
      go_wp2_with fail
      refine (isNaN_calls _ _).mono ?_
      rintro e w' ⟨rfl, rfl⟩
      go_wp2_with fail
      refine (isNaN_calls _ _).mono ?_
      rintro e w' ⟨rfl, rfl⟩
      go_wp2_with fail
      go_ret
      exact ⟨rfl, rfl⟩
theorem CompareS_calls (a b : ByteArray) (w : World) : Calls Tryz.prog 183 #[.string a, .string b] w fun e w' => e = .returned (.int .i64 (cmpS a b)) ∧ w' = w := Any.strings_Compare Tryz.lays106 a b w
/-- The first that is not 0. -/
def orL : List Int → Int
  | [] => 0
  | x :: xs => orI x (orL xs)
set_option maxRecDepth 100000 in
set_option maxHeartbeats 4000000 in
theorem Or_calls (xs : List Int) (b : Nat) (w : World) (hx : ∀ j (hj : j < xs.length), w.cell? ⟨b, j, none⟩ = some (.int .i64 xs[j])) (hlen : xs.length = 4) :
    Calls Tryz.prog 181 #[.slice (some ⟨b, 0, none⟩) 4 4] w fun e w' => e = .returned (.int .i64 (orL xs)) ∧ Below w.heap.size w w' := by
  have hx' := Lib.hid hx
  have hlen' := Lib.hid hlen
  clear hx hlen
  go_enter Tryz.func181, Tryz.ntmps181
  go_wp2_with fail
  go_loopw [8] (fun i wr => ∃ j : Nat, j ≤ 4 ∧ i = .int .i64 j ∧ Hid (orL (xs.drop j) = orL xs) ∧ Below w.heap.size w wr) (fun i _ => 4 - (intOf i).toNat)
  case atStart => exact ⟨0, by omega, rfl, by show orL _ = _; simp, Below.refl _ _⟩
  case round =>
    obtain ⟨j, hj, rfl, hI, hbel⟩ := hrel
    by_cases hlt : j < 4
    · have hlt' : j < xs.length := by rw [hlen'.out]; exact hlt
      have hc := cell_below (hx'.out j hlt') hbel
      obtain ⟨v, hv⟩ : ∃ v, xs[j] = v := ⟨_, rfl⟩
      have hI' : Hid (orI v (orL (xs.drop (j + 1))) = orL xs) := by
        have := hI.out
        rw [List.drop_eq_getElem_cons hlt', orL, hv] at this
        exact this
      rw [hv] at hc
      clear hv hI hlt'
      by_cases hz : v = 0
      · have hI2 : Hid (orL (xs.drop (j + 1)) = orL xs) := by have := hI'.out; rw [orI, if_pos hz] at this; exact this
        subst hz
        clear hI'
        go_wp2_with fail
        exact ⟨⟨j + 1, by omega, by go_num, hI2, hbel⟩, by simp [intOf]; omega⟩
      · have hI2 : Hid (orL xs = v) := by have := hI'.out; rw [orI, if_neg hz] at this; exact this.symm
        clear hI'
        go_wp2_with fail
        go_ret
        exact ⟨by rw [hI2.out]; rfl, hbel⟩
    · have hI2 : Hid (orL xs = 0) := by
        have := hI.out
        rw [List.drop_eq_nil_of_le (by rw [hlen'.out]; omega)] at this
        exact this.symm
      clear hI
      go_wp2_with fail
      go_ret
      exact ⟨by rw [hI2.out]; rfl, hbel⟩
end Go.Proofs.YtpgbeapojjinmaaGreatDoor
