/- The document's Order, Strings, compare, Compare, Same (package peculiumref04). No law is proved here. -/
import Derived.Test.YtpgbeapojjinmaaGreatDoorRB
import Derived.Test.YtpgbeapojjinmaaGreatDoorQD
set_option linter.unusedVariables false
set_option linter.unusedSimpArgs false
namespace Go.Proofs.YtpgbeapojjinmaaGreatDoor
open Go.RowKit Go.Shelf Go.Proofs.YtpgbeapojjinmaaGreatDoorW.PrintLast
set_option maxRecDepth 100000 in
set_option maxHeartbeats 4000000 in
theorem Order_calls (a b : Int) (w : World) : Calls Tryz.prog 190 #[.int .i64 a, .int .i64 b] w fun e w' => e = .returned (.int .i64 (cmpI a b)) ∧ Below w.heap.size w w' := by
  unfold cmpI
  by_cases c1 : a < b
  · rw [if_pos c1]
    go_enter Tryz.func190, Tryz.ntmps190
    go_wp2_with fail
    go_ret
    exact ⟨rfl, Below.refl _ w⟩
  · rw [if_neg c1]
    by_cases c2 : b < a
    · rw [if_pos c2]
      go_enter Tryz.func190, Tryz.ntmps190
      go_wp2_with fail
      go_ret
      exact ⟨rfl, Below.refl _ w⟩
    · rw [if_neg c2]
      go_enter Tryz.func190, Tryz.ntmps190
      go_wp2_with fail
      go_ret
      exact ⟨rfl, Below.refl _ w⟩
theorem less_cmp : ∀ x y : List UInt8, Op.bytesLess x y = decide (Lib.compareBytes x y < 0)
  | [], [] => rfl
  | [], _ :: _ => rfl
  | _ :: _, [] => rfl
  | x :: a, y :: b => by
    have ih := less_cmp a b
    simp only [Op.bytesLess, Lib.compareBytes]
    by_cases h1 : x < y
    · simp [h1]
    · by_cases h2 : y < x
      · have h3 : x ≠ y := fun e => by subst e; exact h1 h2
        simp [h1, h2, h3]
      · have h3 : x = y := by
          have a1 := UInt8.not_lt.1 h1
          have a2 := UInt8.not_lt.1 h2
          exact UInt8.le_antisymm a2 a1
        simp [h1, h2, h3, ih]
theorem run_gtS (a b : ByteArray) (w : World) : (binOp BinOp.gtr 9 (.string a) (.string b)).run Tryz.prog w = .ok (.bool !(Op.bytesLess a.toList b.toList || a.toList == b.toList)) w := by kernel_rfl
theorem cmp_zero : ∀ x y : List UInt8, Lib.compareBytes x y = 0 → x = y
  | [], [], _ => rfl
  | [], _ :: _, h => by simp [Lib.compareBytes] at h
  | _ :: _, [], h => by simp [Lib.compareBytes] at h
  | x :: a, y :: b, h => by
    simp only [Lib.compareBytes] at h
    split at h
    · omega
    · split at h
      · omega
      · rename_i h1 h2
        have h3 : x = y := UInt8.le_antisymm (UInt8.not_lt.1 h2) (UInt8.not_lt.1 h1)
        rw [h3, cmp_zero a b h]
set_option maxRecDepth 100000 in
set_option maxHeartbeats 4000000 in
theorem Strings_calls (a b : ByteArray) (w : World) : Calls Tryz.prog 191 #[.string a, .string b] w fun e w' => e = .returned (.int .i64 (cmpS a b)) ∧ Below w.heap.size w w' := by
  have hgt := run_gtS a b
  have hab := bytes_abs a.toList b.toList
  have h1 := less_cmp a.toList b.toList
  have hG : cmpS a b = Lib.compareBytes a.toList b.toList := by unfold cmpS; rw [ByteArray.toList_eq, ByteArray.toList_eq]
  have h2 : (a.toList == b.toList) = decide (Lib.compareBytes a.toList b.toList = 0) := by
    by_cases e : Lib.compareBytes a.toList b.toList = 0
    · rw [decide_eq_true e, beq_iff_eq]; exact cmp_zero _ _ e
    · rw [decide_eq_false e, beq_eq_false_iff_ne]
      intro h
      rw [h, bytes_self] at e
      exact e rfl
  rw [hG]
  clear hG
  generalize Lib.compareBytes a.toList b.toList = c at *
  rw [h1, h2] at hgt
  by_cases c1 : c < 0
  · rw [decide_eq_true c1] at h1
    clear h2 hgt
    go_enter Tryz.func191, Tryz.ntmps191
    go_wp2_with fail
    go_ret
    exact ⟨ret_int (by omega), Below.refl _ w⟩
  · rw [decide_eq_false c1] at h1 hgt
    by_cases c2 : c = 0
    · rw [decide_eq_true c2] at hgt
      clear h2
      go_enter Tryz.func191, Tryz.ntmps191
      go_wp2_with fail
      go_ret
      exact ⟨ret_int (by omega), Below.refl _ w⟩
    · rw [decide_eq_false c2] at hgt
      clear h2
      go_enter Tryz.func191, Tryz.ntmps191
      go_wp2_with fail
      go_ret
      exact ⟨ret_int (by omega), Below.refl _ w⟩
end Go.Proofs.YtpgbeapojjinmaaGreatDoor
