/- term.letter, strconv.Itoa of small numbers, strings.Join. No law is proved here. -/
import Derived.Test.YtpgbeapojjinmaaGreatDoorKC
import Derived.Test.YtpgbeapojjinmaaGreatDoorSH
set_option linter.unusedVariables false
set_option linter.unusedSimpArgs false
namespace Go.Proofs
open Go.RowKit Go.Shelf
namespace YtpgbeapojjinmaaGreatDoor
open Go.RowKit Go.Shelf Go.Proofs.YtpgbeapojjinmaaGreatDoorW.PrintLast
/-- The letter of a kind. -/
def letB (k : Int) : ByteArray := if k = 2 then ⟨#[66]⟩ else if k = 3 then ⟨#[80]⟩ else ⟨#[86]⟩
theorem zero9 (w : World) : (zeroValue 9).run Tryz.prog w = .ok (.string ⟨#[]⟩) w := by kernel_rfl
set_option maxRecDepth 100000 in
set_option maxHeartbeats 4000000 in
theorem letter_calls (k : Int) (hk : k = 2 ∨ (k = 3 ∨ k = 4)) (w : World) :
    Calls Tryz.prog 151 #[.int .i64 k] w fun e w' => e = .returned (.string (letB k)) ∧ Below w.heap.size w w' := by
  have hmm := @run_makeMap Tryz.prog
  have hkey : ∀ {k : Int}, 0 ≤ k → k ≤ 10 → keyOf Tryz.prog 3 (.int .i64 k) = some (.int .i64 k) := fun h1 h2 => key3 ⟨h1, by omega⟩
  have b0 := blk_new w (.map #[] 0)
  obtain ⟨W1, hW1, k1⟩ : ∃ W1, w.alloc (.map #[] 0) = W1 ∧ Below w.heap.size w W1 := ⟨_, rfl, (Below.refl _ w).alloc (Nat.le_refl _) _⟩
  rw [hW1] at b0
  have e1 : (Instr.mapUpdate 219 (.map (some w.heap.size)) (.int .i64 2) (.string ⟨#[66]⟩)).run Tryz.prog W1 = .ok () (mapSet W1 w.heap.size (.map #[{ key := .int .i64 2, val := .string ⟨#[66]⟩, born := 0 }] 1)) := by
    rcases look_run Tryz.underlying219 keyed3 zero9 b0 (hkey (k := 2) (by omega) (by omega)) (fun e he => by simp at he) with ⟨_, _, h⟩ | ⟨e, he, _⟩
    · exact h _
    · simp at he
  have b1 := mapSet_at b0 (.map #[{ key := .int .i64 2, val := .string ⟨#[66]⟩, born := 0 }] 1)
  have q1 := mapSet_kp W1 w.heap.size (.map #[{ key := .int .i64 2, val := .string ⟨#[66]⟩, born := 0 }] 1)
  generalize mapSet W1 w.heap.size (.map #[{ key := .int .i64 2, val := .string ⟨#[66]⟩, born := 0 }] 1) = W2 at *
  have e2 : (Instr.mapUpdate 219 (.map (some w.heap.size)) (.int .i64 3) (.string ⟨#[80]⟩)).run Tryz.prog W2 = .ok () (mapSet W2 w.heap.size (.map #[{ key := .int .i64 2, val := .string ⟨#[66]⟩, born := 0 }, { key := .int .i64 3, val := .string ⟨#[80]⟩, born := 1 }] 2)) := by
    rcases look_run Tryz.underlying219 keyed3 zero9 b1 (hkey (k := 3) (by omega) (by omega)) (fun e he => by simp at he; subst he; exact ⟨_, hkey (by omega) (by omega)⟩) with ⟨_, _, h⟩ | ⟨e, he, h, _⟩
    · exact h _
    · simp at he; subst he; simp at h
  have b2 := mapSet_at b1 (.map #[{ key := .int .i64 2, val := .string ⟨#[66]⟩, born := 0 }, { key := .int .i64 3, val := .string ⟨#[80]⟩, born := 1 }] 2)
  have q2 := mapSet_kp W2 w.heap.size (.map #[{ key := .int .i64 2, val := .string ⟨#[66]⟩, born := 0 }, { key := .int .i64 3, val := .string ⟨#[80]⟩, born := 1 }] 2)
  generalize mapSet W2 w.heap.size (.map #[{ key := .int .i64 2, val := .string ⟨#[66]⟩, born := 0 }, { key := .int .i64 3, val := .string ⟨#[80]⟩, born := 1 }] 2) = W3 at *
  have e3 : (Instr.mapUpdate 219 (.map (some w.heap.size)) (.int .i64 4) (.string ⟨#[86]⟩)).run Tryz.prog W3 = .ok () (mapSet W3 w.heap.size (.map #[{ key := .int .i64 2, val := .string ⟨#[66]⟩, born := 0 }, { key := .int .i64 3, val := .string ⟨#[80]⟩, born := 1 }, { key := .int .i64 4, val := .string ⟨#[86]⟩, born := 2 }] 3)) := by
    rcases look_run Tryz.underlying219 keyed3 zero9 b2 (hkey (k := 4) (by omega) (by omega)) (fun e he => by simp at he; rcases he with rfl | rfl <;> exact ⟨_, hkey (by omega) (by omega)⟩) with ⟨_, _, h⟩ | ⟨e, he, h, _⟩
    · exact h _
    · simp at he; rcases he with rfl | rfl <;> simp at h
  have b3 := mapSet_at b2 (.map #[{ key := .int .i64 2, val := .string ⟨#[66]⟩, born := 0 }, { key := .int .i64 3, val := .string ⟨#[80]⟩, born := 1 }, { key := .int .i64 4, val := .string ⟨#[86]⟩, born := 2 }] 3)
  have q3 := mapSet_kp W3 w.heap.size (.map #[{ key := .int .i64 2, val := .string ⟨#[66]⟩, born := 0 }, { key := .int .i64 3, val := .string ⟨#[80]⟩, born := 1 }, { key := .int .i64 4, val := .string ⟨#[86]⟩, born := 2 }] 3)
  generalize mapSet W3 w.heap.size (.map #[{ key := .int .i64 2, val := .string ⟨#[66]⟩, born := 0 }, { key := .int .i64 3, val := .string ⟨#[80]⟩, born := 1 }, { key := .int .i64 4, val := .string ⟨#[86]⟩, born := 2 }] 3) = W4 at *
  have e4 : (Instr.lookup 219 (.map (some w.heap.size)) (.int .i64 k) false).run Tryz.prog W4 = .ok (.string (letB k)) W4 := by
    rcases look_run Tryz.underlying219 keyed3 zero9 b3 (hkey (k := k) (by omega) (by omega)) (fun e he => by simp at he; rcases he with rfl | rfl | rfl <;> exact ⟨_, hkey (by omega) (by omega)⟩) with ⟨h, _, _⟩ | ⟨e, he, h, _, h2⟩
    · exfalso
      rcases hk with rfl | rfl | rfl
      · exact h { key := .int .i64 2, val := .string ⟨#[66]⟩, born := 0 } (by simp) rfl
      · exact h { key := .int .i64 3, val := .string ⟨#[80]⟩, born := 1 } (by simp) rfl
      · exact h { key := .int .i64 4, val := .string ⟨#[86]⟩, born := 2 } (by simp) rfl
    · rw [h2]
      simp at he
      rcases he with rfl | rfl | rfl
      · cases h; rfl
      · cases h; rfl
      · cases h; rfl
  have kk : Below w.heap.size w W4 := ((((Kp.of_below (fun q => q = w.heap.size) k1).trans q1 (fun _ _ e => e)).trans q2 (fun _ _ e => e)).trans q3 (fun _ _ e => e)).below (fun i hi => by omega)
  clear q1 q2 q3 b0 b1 b2 b3 hk hkey k1
  go_enter Tryz.func151, Tryz.ntmps151
  go_wp2_with fail
  go_ret
  exact ⟨rfl, kk⟩
end YtpgbeapojjinmaaGreatDoor
theorem Tryz.Builder_Extra_156 : Builder.Extra Tryz.prog Tryz.lays156_ren := {
  sizeBuilder := by kernel_rfl
  liesBuilder := by kernel_rfl
  t5 := Tryz.underlying5
  a5 := Tryz.isAgg5
  z5 := Tryz.sizeOf5
  v5 := Tryz.zeroValue5
  infoByte := by kernel_rfl
  cellsByte := by kernel_rfl
  sizeByte := by kernel_rfl
  neB5 := by decide }
namespace YtpgbeapojjinmaaGreatDoor
open Go.RowKit Go.Shelf Go.Proofs.YtpgbeapojjinmaaGreatDoorW.PrintLast
/-- The decimal numeral. -/
def itoaB (n : Int) : ByteArray := ⟨(Lib.itoa n).toArray⟩
theorem Itoa_small (n : Int) (h0 : 0 ≤ n) (h1 : n < 100) (w : World) : Calls Tryz.prog 152 #[.int .i64 n] w fun e w' => e = .returned (.string (itoaB n)) ∧ w' = w := by
  obtain ⟨i, rfl⟩ : ∃ i : Nat, n = i := Int.eq_ofNat_of_zero_le h0
  unfold itoaB
  rw [Lib.itoa_nonneg]
  exact Any.strconv_Itoa_small Tryz.lays171 i (by omega) w
theorem Join_calls (bk o c : Nat) (xs : List ByteArray) (sep : ByteArray) (w : World) (hcells : ∀ (j : Nat) x, xs[j]? = some x → w.cell? ⟨bk, o + j, none⟩ = some (.string x))
    (hbk : bk < w.heap.size) (hN : xs.length ≤ 140737488355328) (hcap : xs.length ≤ c) (hlen : (Lib.join (xs.map (·.data.toList)) sep.data.toList).length ≤ 140737488355328) :
    Calls Tryz.prog 153 #[.slice (some ⟨bk, o, none⟩) xs.length c, .string sep] w fun e w' => e = .returned (.string ⟨(Lib.join (xs.map (·.data.toList)) sep.data.toList).toArray⟩) ∧ Below w.heap.size w w' :=
  Any.strings_Join Tryz.lays156 Tryz.Builder_Extra_156 bk o c xs sep w hcells hbk hN hcap hlen
end YtpgbeapojjinmaaGreatDoor
end Go.Proofs
