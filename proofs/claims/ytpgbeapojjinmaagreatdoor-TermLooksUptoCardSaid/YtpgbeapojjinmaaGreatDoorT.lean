/- lex: tokens, Scan. No law is proved here. -/
import Derived.Test.YtpgbeapojjinmaaGreatDoorS
import Derived.Test.YtpgbeapojjinmaaGreatDoorSC
import Derived.Test.YtpgbeapojjinmaaGreatDoorSE
set_option linter.unusedVariables false
set_option linter.unusedSimpArgs false
namespace Go.Proofs.YtpgbeapojjinmaaGreatDoor
open Go.RowKit Go.Shelf Go.Proofs.YtpgbeapojjinmaaGreatDoorW.PrintLast
attribute [local go_sem] Oper.semAt_some
structure Tok where
  k : Int
  t : ByteArray
  p : Nat
def Tok.cells (x : Tok) : Array Value := #[.int .i64 x.k, .string x.t, .int .i64 x.p]
/-- The tokens of a text from an offset on, and where and why it stops. -/
def lexRun (s : ByteArray) : Nat → Nat → Nat → List Tok × Option (Nat × Int)
  | 0, _, _ => ([], none)
  | f + 1, p, many => if p < s.size then
      match tokK (s.extract p s.size) with
      | none => ([], some (p, 10))
      | some (k, n) => if many = 6000 then ([], some (p, 2)) else if (k = 1 ∨ k = 2) ∧ 40 < n then ([], some (p, 11)) else
          (⟨k, (s.extract p s.size).extract 0 n, p⟩ :: (lexRun s f (p + n + skipK false (s.data.toList.drop (p + n))) (many + 1)).1, (lexRun s f (p + n + skipK false (s.data.toList.drop (p + n))) (many + 1)).2)
    else ([], none)
def lexAll (s : ByteArray) : List Tok × Option (Nat × Int) := lexRun s (s.size + 1) (skipK false s.data.toList) 0
theorem runK_pos {l : List UInt8} {b : UInt8} (h : l.head? = some b) (hb : isPart b = true) : 1 ≤ runK l := by
  cases l with
  | nil => cases h
  | cons c cs => simp at h; subst h; rw [runK, List.takeWhile_cons_of_pos hb]; simp
theorem nameN_bounds (l : List UInt8) : runK l ≤ nameN l ∧ nameN l ≤ l.length := by
  unfold nameN
  split
  · rename_i h
    have h1 : runK l + 1 < l.length := by
      have := h.2
      cases hx : l[runK l + 1]? with
      | none => rw [hx] at this; cases this
      | some c => exact (List.getElem?_eq_some_iff.1 hx).1
    have := runK_le (l.drop (runK l + 1))
    rw [List.length_drop] at this
    omega
  · exact ⟨Nat.le_refl _, runK_le l⟩
theorem tokK_len {r : ByteArray} {k : Int} {n : Nat} (h0 : 0 < r.size) (h : tokK r = some (k, n)) : 1 ≤ n ∧ n ≤ r.size := by
  have hd : r.data.toList.head? = some r[0] := by
    have := drop_at r 0 h0; rw [List.drop_zero] at this; rw [this]; rfl
  have hh : r.data.toList.headD 0 = r[0] := by rw [List.headD_eq_head?_getD, hd]; rfl
  have hlen : r.data.toList.length = r.size := (Lib.size_eq r).symm
  have hnb := nameN_bounds r.data.toList
  have hrl := runK_le r.data.toList
  rw [tokK] at h
  split at h
  · rename_i hs
    rw [hh] at hs
    have hp := runK_pos hd (by simp [isPart, hs])
    split at h
    · rename_i hsg
      have : r.data.toList[1]? = some 45 := by simp at hsg; simpa using hsg.2
      have := (List.getElem?_eq_some_iff.1 this).1
      cases h; omega
    · split at h <;> (cases h; omega)
  · split at h
    · rename_i hs
      rw [hh] at hs
      have hp := runK_pos hd (by simp [isPart, hs])
      cases h; omega
    · split at h
      · rename_i hp
        have : 2 ≤ r.data.toList.length := by
          simp only [Bool.or_eq_true] at hp
          rcases hp with hp | hp | hp <;> exact prefix_len hp
        cases h; omega
      · split at h
        · rename_i hp
          have : 2 ≤ r.data.toList.length := prefix_len hp
          split at h
          · cases h
          · cases h; omega
        · split at h
          · cases h; omega
          · cases h
def stopV (p : Nat) (c : Int) : Value := .iface 210 (.agg #[.int .i64 p, .int .i64 c])
def stopC (p : Nat) (c : Int) : List PanicEntry := [{ v := stopV p c, recovered := false }]
def endT : Option (Nat × Int) → Ending
  | none => .returned (.tuple #[])
  | some (p, c) => .panicked (stopC p c)
/-- One step of 'lexRun'. -/
theorem lexRun_end {s : ByteArray} {f p many : Nat} (h : ¬ p < s.size) : lexRun s (f + 1) p many = ([], none) := by rw [lexRun, if_neg h]
theorem lexRun_char {s : ByteArray} {f p many : Nat} (h : p < s.size) (ht : tokK (s.extract p s.size) = none) : lexRun s (f + 1) p many = ([], some (p, 10)) := by rw [lexRun, if_pos h, ht]
theorem lexRun_long {s : ByteArray} {f p : Nat} {k : Int} {n : Nat} (h : p < s.size) (ht : tokK (s.extract p s.size) = some (k, n)) : lexRun s (f + 1) p 6000 = ([], some (p, 2)) := by rw [lexRun, if_pos h, ht]; simp
theorem lexRun_name {s : ByteArray} {f p many : Nat} {k : Int} {n : Nat} (h : p < s.size) (ht : tokK (s.extract p s.size) = some (k, n)) (hm : many ≠ 6000) (hn : (k = 1 ∨ k = 2) ∧ 40 < n) : lexRun s (f + 1) p many = ([], some (p, 11)) := by rw [lexRun, if_pos h, ht]; simp only; rw [if_neg hm, if_pos hn]
theorem lexRun_tok {s : ByteArray} {f p many : Nat} {k : Int} {n : Nat} (h : p < s.size) (ht : tokK (s.extract p s.size) = some (k, n)) (hm : many ≠ 6000) (hn : ¬ ((k = 1 ∨ k = 2) ∧ 40 < n)) : lexRun s (f + 1) p many =
    (⟨k, (s.extract p s.size).extract 0 n, p⟩ :: (lexRun s f (p + n + skipK false (s.data.toList.drop (p + n))) (many + 1)).1, (lexRun s f (p + n + skipK false (s.data.toList.drop (p + n))) (many + 1)).2) := by
  rw [lexRun, if_pos h, ht]; simp only; rw [if_neg hm, if_neg hn]
theorem token_calls (s : ByteArray) (p : Nat) (hs : s.size ≤ 20000) (hp : p < s.size) (w : World) :
    Calls Tryz.prog 230 #[.string s, .int .i64 p] w fun e w' => e = .returned (tokV p (s.extract p s.size) (tokK (s.extract p s.size))) ∧ Below w.heap.size w w' := by
  rcases sel_all (s.extract p s.size) with h | h | h | h | h
  · exact tokenA_calls s p hs hp w h
  · exact tokenB_calls s p hs hp w h
  · exact tokenC_calls s p hs hp w h
  · exact tokenD_calls s p hs hp w h
  · exact tokenE_calls s p hs hp w h
set_option maxRecDepth 100000 in
set_option maxHeartbeats 4000000 in
/-- The iterator of tokens, for every loop body that goes on. -/
theorem tokens1_in (n : Nat) (hn : 1 ≤ n) (l Bs : Nat) (s : ByteArray) (hs : s.size ≤ 20000) (J : List Tok → World → Prop)
    (hJ : ∀ pre W W', J pre W → Below W.heap.size W W' → J pre W') (hB : ∀ pre W, J pre W → W.cell? ⟨Bs, 0, none⟩ = some (.string s))
    (hY : ∀ pre x W W1, J pre W → Below W.heap.size W W1 → pre.length < 6000 → YieldAt Fence.wide (n - 1) Tryz.prog l #[.agg (Tok.cells x)] W1 fun e W' => e = .returned (.bool true) ∧ J (pre ++ [x]) W' ∧ ∀ b, W.heap.size ≤ b → b < W1.heap.size → W'.heap[b]? = W1.heap[b]?) (W : World) (h0 : J [] W) :
    CallsIn Fence.wide n Tryz.prog 228 #[.func (.yield l) #[] #[], .pointer (some ⟨Bs, 0, none⟩)] W fun e W' => e = endT (lexAll s).2 ∧ J (lexAll s).1 W' := by
  have hpn := run_panic
  refine callsIn_of_wp Tryz.func228 rfl trivial ?_ rfl
  simp only [Tryz.ntmps228, List.size_toArray, List.length_cons, List.length_nil, Nat.reduceAdd, Nat.reduceSub, Array.replicate_succ, Array.replicate_zero, List.push_toArray, List.append_toArray, List.nil_append, List.cons_append]
  have hc := hB _ _ h0
  have hsk := skip_calls s 0 hs (Nat.zero_le _) W
  rw [List.drop_zero, Nat.zero_add] at hsk
  gi_wp2_with (refine ⟨trivial, ?_⟩; gi_at_call 229; refine (callsIn_wide.2 hsk).mono ?_; rintro e w' ⟨rfl, rfl⟩)
  gi_loopw [3, 4, 5, 6] (fun m p t o wr => ∃ (pre : List Tok) (q many f : Nat), m = .int .i64 many ∧ p = .int .i64 q ∧ many ≤ 6000 ∧ pre.length = many ∧ q ≤ s.size ∧ s.size < f + q ∧ J pre wr ∧ Hid (pre ++ (lexRun s f q many).1 = (lexAll s).1 ∧ (lexRun s f q many).2 = (lexAll s).2)) (fun _ p _ _ _ => s.size - (intOf p).toNat)
  case atStart => exact ⟨[], _, 0, s.size + 1, rfl, rfl, by omega, rfl, by rw [Lib.size_eq]; exact skipK_le _ _, by omega, h0, Lib.hid ⟨rfl, rfl⟩⟩
  case round =>
    obtain ⟨pre, q, many, f, rfl, rfl, hm, hpl, hq, hf, hJs, hall⟩ := hrel
    have hc := hB _ _ hJs
    have hpl := Lib.hid hpl
    by_cases hlt : q < s.size
    · gi_wp2_with fail
      refine ⟨trivial, ?_⟩
      refine (callsIn_wide.2 (token_calls s q hs hlt wr)).mono ?_
      rintro e w1 ⟨rfl, k1⟩
      have J1 := hJ _ _ _ hJs k1
      obtain ⟨f, rfl⟩ : ∃ f', f = f' + 1 := ⟨f - 1, by omega⟩
      have hr0 : 0 < (s.extract q s.size).size := by simp; omega
      have hrs : (s.extract q s.size).size = s.size - q := by simp
      cases htk : tokK (s.extract q s.size) with
      | none =>
        have hl := lexRun_char (f := f) (many := many) hlt htk
        rw [hl] at hall
        have J2 := hJ _ _ _ J1 (alloc1 w1 (.cells #[.int .i64 0, .string ⟨#[]⟩, .int .i64 0] 170)).2
        dsimp only [tokV]
        gi_wp2_with fail
        exact ⟨rfl, by rw [← hall.out.2]; rfl, by rw [← hall.out.1]; simpa using J2⟩
      | some kn =>
        obtain ⟨k, n⟩ := kn
        obtain ⟨t, ht⟩ : ∃ t, (s.extract q s.size).extract 0 n = t := ⟨_, rfl⟩
        obtain ⟨hn1, hn2⟩ := tokK_len hr0 htk
        have hts : t.size = n := by rw [← ht]; simp; omega
        have hts' : (t.size : Int) = n := by omega
        have ha := alloc1 w1 (.cells #[.int .i64 k, .string t, .int .i64 q] 170)
        have J2 := hJ _ _ _ J1 ha.2
        have hc2 := hB _ _ J2
        have n3 := box3 ha.1
        dsimp only [tokV]
        rw [ht]
        by_cases h6 : many = 6000
        · subst h6
          have hl := lexRun_long (f := f) hlt htk
          rw [hl] at hall
          gi_wp2_with fail
          exact ⟨rfl, by rw [← hall.out.2]; rfl, by rw [← hall.out.1]; simpa using J2⟩
        · have h6' : ((many : Int) == 6000) = false := by rw [beq_eq_false_iff_ne]; omega
          by_cases hnm : (k = 1 ∨ k = 2) ∧ 40 < n
          · have hl := lexRun_name (f := f) hlt htk h6 hnm
            rw [hl] at hall
            have h40 : (40 : Int) < n := by omega
            rcases hnm.1 with rfl | rfl
            · gi_wp2_with fail
              exact ⟨rfl, by rw [← hall.out.2]; rfl, by rw [← hall.out.1]; simpa using J2⟩
            · gi_wp2_with fail
              exact ⟨rfl, by rw [← hall.out.2]; rfl, by rw [← hall.out.1]; simpa using J2⟩
          · have hl := lexRun_tok (f := f) hlt htk h6 hnm
            rw [hl, ht] at hall
            have kb : Below wr.heap.size wr (w1.alloc (.cells #[.int .i64 k, .string t, .int .i64 q] 170)) := below_then k1 ha.2 k1.size
            obtain ⟨fn, tmps, assign, body, hy, hR⟩ := hY pre ⟨k, t, q⟩ _ _ hJs kb (by have := hpl.out; omega)
            dsimp only [Tok.cells] at hy
            have hs1 := k1.size
            have hs2 := (blk_lt ha.1)
            have hqn : q + n ≤ s.size := by omega
            have hsk := skipK_le (s.data.toList.drop (q + n)) false
            rw [List.length_drop, ← Lib.size_eq] at hsk
            have hcase : (k = 1 ∧ ¬ (40 < (n : Int))) ∨ (k = 2 ∧ ¬ (40 < (n : Int))) ∨ ((k == 1) = false ∧ (k == 2) = false) := by
              by_cases h1 : k = 1
              · exact .inl ⟨h1, by omega⟩
              · by_cases h2 : k = 2
                · exact .inr (.inl ⟨h2, by omega⟩)
                · exact .inr (.inr ⟨beq_eq_false_iff_ne.2 h1, beq_eq_false_iff_ne.2 h2⟩)
            rcases hcase with ⟨rfl, h40⟩ | ⟨rfl, h40⟩ | ⟨hk1, hk2⟩
            all_goals
              gi_wp2_with fail
              refine hR.mono ?_
              rintro e W3 ⟨rfl, hJ3, hk3⟩
              have q3 := (hk3 _ (by omega) hs2).trans ha.1
              have n4 := box3 q3
              have hc3 := hB _ _ hJ3
              gi_wp2_with fail
              refine ⟨trivial, ?_⟩
              refine (callsIn_wide.2 (skip_calls s (q + n) hs hqn _)).mono ?_
              rintro e w' ⟨rfl, rfl⟩
              gi_wp2_with fail
              go_roundw
              case rel => exact ⟨pre ++ [⟨_, t, q⟩], q + n + skipK false (s.data.toList.drop (q + n)), many + 1, f, by simp, by simp, by omega, by simp [hpl.out], by omega, by omega, hJ3, Lib.hid ⟨by rw [← hall.out.1]; simp, hall.out.2⟩⟩
              case measure => simp [intOf]; omega
    · obtain ⟨f, rfl⟩ : ∃ f', f = f' + 1 := ⟨f - 1, by omega⟩
      have hl := lexRun_end (f := f) (many := many) hlt
      rw [hl] at hall
      gi_wp2_with fail
      go_end0
      exact ⟨by rw [← hall.out.2]; rfl, by rw [← hall.out.1]; simpa using hJs⟩
end Go.Proofs.YtpgbeapojjinmaaGreatDoor
