/- The document's lex (package peculiumref01): bytes, run, isAt. · The document's token (package peculiumref01). · A name, as the document says it. · The document's Check and IsName (package peculiumref01), shaped and Raw (package peculiumref04). No law is proved here. -/
import Derived.Test.YtpgbeapojjinmaaGreatDoorS
import Derived.Test.YtpgbeapojjinmaaGreatDoorCC
import Derived.Test.YtpgbeapojjinmaaGreatDoorPB
set_option linter.unusedVariables false
set_option linter.unusedSimpArgs false
namespace Go.Proofs.YtpgbeapojjinmaaGreatDoor
open Go.RowKit Go.Shelf Go.Proofs.YtpgbeapojjinmaaGreatDoorW.PrintLast
set_option maxRecDepth 100000 in
set_option maxHeartbeats 4000000 in
theorem Rsmall_calls (c : UInt8) (w : World) : Calls Tryz.prog 234 #[.int .u8 c.toNat] w fun e w' => e = .returned (.bool (isSmall c)) ∧ w' = w := by
  have hc := c.toNat_lt
  by_cases h1 : 97 ≤ c.toNat
  · by_cases h2 : c.toNat ≤ 122
    · go_enter Tryz.func234, Tryz.ntmps234
      go_wp2_with fail
      go_ret
      simp [isSmall, isCap, h1, h2] <;> omega
    · go_enter Tryz.func234, Tryz.ntmps234
      go_wp2_with fail
      go_ret
      simp [isSmall, isCap, h1, h2] <;> omega
  · go_enter Tryz.func234, Tryz.ntmps234
    go_wp2_with fail
    go_ret
    simp [isSmall, isCap, h1] <;> omega
set_option maxRecDepth 100000 in
set_option maxHeartbeats 4000000 in
theorem Rcapital_calls (c : UInt8) (w : World) : Calls Tryz.prog 232 #[.int .u8 c.toNat] w fun e w' => e = .returned (.bool (isCap c)) ∧ w' = w := by
  have hc := c.toNat_lt
  by_cases h1 : 65 ≤ c.toNat
  · by_cases h2 : c.toNat ≤ 90
    · go_enter Tryz.func232, Tryz.ntmps232
      go_wp2_with fail
      go_ret
      simp [isSmall, isCap, h1, h2] <;> omega
    · go_enter Tryz.func232, Tryz.ntmps232
      go_wp2_with fail
      go_ret
      simp [isSmall, isCap, h1, h2] <;> omega
  · go_enter Tryz.func232, Tryz.ntmps232
    go_wp2_with fail
    go_ret
    simp [isSmall, isCap, h1] <;> omega
set_option maxRecDepth 100000 in
set_option maxHeartbeats 4000000 in
theorem Rblank_calls (c : UInt8) (w : World) : Calls Tryz.prog 198 #[.int .u8 c.toNat] w fun e w' => e = .returned (.bool (isBlank c)) ∧ w' = w := by
  have hc := c.toNat_lt
  have t1 : (((c.toNat : Nat) : Int) == 32) = (c == 32) := byte_eq _ 32
  have t2 : (((c.toNat : Nat) : Int) == 9) = (c == 9) := byte_eq _ 9
  have t3 : (((c.toNat : Nat) : Int) == 10) = (c == 10) := byte_eq _ 10
  have hb : isBlank c = (c == 32 || (c == 9 || c == 10)) := rfl
  rw [hb]
  clear hb
  obtain ⟨e1, h1⟩ : ∃ e, (c == 32) = e := ⟨_, rfl⟩
  obtain ⟨e2, h2⟩ : ∃ e, (c == 9) = e := ⟨_, rfl⟩
  obtain ⟨e3, h3⟩ : ∃ e, (c == 10) = e := ⟨_, rfl⟩
  rw [h1] at t1 ⊢
  rw [h2] at t2 ⊢
  rw [h3] at t3 ⊢
  clear h1 h2 h3
  cases e1 <;> cases e2 <;> cases e3
  all_goals
    go_enter Tryz.func198, Tryz.ntmps198
    go_wp2_with fail
    go_ret
    exact ⟨rfl, rfl⟩
set_option maxRecDepth 100000 in
set_option maxHeartbeats 4000000 in
theorem Rpart_calls (c : UInt8) (w : World) : Calls Tryz.prog 237 #[.int .u8 c.toNat] w fun e w' => e = .returned (.bool (isPart c)) ∧ w' = w := by
  have hc := c.toNat_lt
  have k1 := Rsmall_calls c w
  have k2 := Rcapital_calls c w
  have t4 : (((c.toNat : Nat) : Int) == 95) = (c == 95) := byte_eq _ 95
  have t5 : (((c.toNat : Nat) : Int) == 39) = (c == 39) := byte_eq _ 39
  have hb : isPart c = (isSmall c || (isCap c || (decide (48 ≤ c.toNat) && decide (c.toNat ≤ 57) || (c == 95 || c == 39)))) := rfl
  rw [hb]
  clear hb
  obtain ⟨e1, h1⟩ : ∃ e, isSmall c = e := ⟨_, rfl⟩
  obtain ⟨e2, h2⟩ : ∃ e, isCap c = e := ⟨_, rfl⟩
  obtain ⟨e4, h4⟩ : ∃ e, (c == 95) = e := ⟨_, rfl⟩
  obtain ⟨e5, h5⟩ : ∃ e, (c == 39) = e := ⟨_, rfl⟩
  rw [h1] at k1 ⊢
  rw [h2] at k2 ⊢
  rw [h4] at t4 ⊢
  rw [h5] at t5 ⊢
  have k1' := Lib.hid k1
  have k2' := Lib.hid k2
  clear h1 h2 h4 h5 k1 k2
  cases e1
  · cases e2
    · by_cases q1 : 48 ≤ c.toNat
      · by_cases q2 : c.toNat ≤ 57
        · go_enter Tryz.func237, Tryz.ntmps237
          go_wp2_with fail
          refine k1'.out.mono ?_
          rintro e w' ⟨rfl, rfl⟩
          go_wp2_with fail
          refine k2'.out.mono ?_
          rintro e w' ⟨rfl, rfl⟩
          go_wp2_with fail
          go_ret
          simp [q1, q2] <;> omega
        · cases e4 <;> cases e5
          all_goals
            go_enter Tryz.func237, Tryz.ntmps237
            go_wp2_with fail
            refine k1'.out.mono ?_
            rintro e w' ⟨rfl, rfl⟩
            go_wp2_with fail
            refine k2'.out.mono ?_
            rintro e w' ⟨rfl, rfl⟩
            go_wp2_with fail
            go_ret
            simp [q1, q2] <;> omega
      · cases e4 <;> cases e5
        all_goals
          go_enter Tryz.func237, Tryz.ntmps237
          go_wp2_with fail
          refine k1'.out.mono ?_
          rintro e w' ⟨rfl, rfl⟩
          go_wp2_with fail
          refine k2'.out.mono ?_
          rintro e w' ⟨rfl, rfl⟩
          go_wp2_with fail
          go_ret
          simp [q1] <;> omega
    · go_enter Tryz.func237, Tryz.ntmps237
      go_wp2_with fail
      refine k1'.out.mono ?_
      rintro e w' ⟨rfl, rfl⟩
      go_wp2_with fail
      refine k2'.out.mono ?_
      rintro e w' ⟨rfl, rfl⟩
      go_wp2_with fail
      go_ret
      exact ⟨rfl, rfl⟩
  · go_enter Tryz.func237, Tryz.ntmps237
    go_wp2_with fail
    refine k1'.out.mono ?_
    rintro e w' ⟨rfl, rfl⟩
    go_wp2_with fail
    go_ret
    exact ⟨rfl, rfl⟩
set_option maxRecDepth 100000 in
set_option maxHeartbeats 4000000 in
theorem Rrun_calls (r : ByteArray) (n : Nat) (hs : r.size ≤ 20000) (hn : n ≤ r.size) (w : World) :
    Calls Tryz.prog 233 #[.string r, .int .i64 n] w fun e w' => e = .returned (.int .i64 ((n + runK (r.data.toList.drop n) : Nat) : Int)) ∧ w' = w := by
  go_enter Tryz.func233, Tryz.ntmps233
  go_wp2_with fail
  go_loopw [1] (fun i wr => ∃ p : Nat, p ≤ r.size ∧ i = .int .i64 p ∧ wr = w ∧ Hid (p + runK (r.data.toList.drop p) = n + runK (r.data.toList.drop n))) (fun i _ => (r.size : Int).toNat - (intOf i).toNat)
  case atStart => exact ⟨n, hn, rfl, rfl, Lib.hid rfl⟩
  case round =>
    obtain ⟨p, hple, rfl, rfl, hrel⟩ := hrel
    by_cases hlt : p < r.size
    · have hd := Lib.hid (drop_at r p hlt)
      have k1 := Rpart_calls r[p] wr
      obtain ⟨b, hb⟩ : ∃ b, isPart r[p] = b := ⟨_, rfl⟩
      rw [hb] at k1
      have k1' := Lib.hid k1
      have hb' := Lib.hid hb
      clear hb k1
      go_wp2_with fail
      refine k1'.out.mono ?_
      rintro e w' ⟨rfl, rfl⟩
      cases b with
      | true =>
        have fin' := Lib.hid (show p + 1 + runK (r.data.toList.drop (p + 1)) = n + runK (r.data.toList.drop n) by
          rw [← hrel.out, hd.out, runK, runK, List.takeWhile_cons_of_pos hb'.out]; simp; omega)
        go_wp2_with fail
        exact ⟨⟨p + 1, by omega, by simp, trivial, fin'⟩, by simp [intOf]; omega⟩
      | false =>
        have fin' := Lib.hid (show (p : Int) = ((n + runK (r.data.toList.drop n) : Nat) : Int) by
          rw [← hrel.out, hd.out, runK, List.takeWhile_cons_of_neg (by rw [hb'.out]; simp)]; simp)
        go_wp2_with fail
        go_ret
        exact ⟨ret_int fin'.out, rfl⟩
    · obtain rfl : p = r.size := by omega
      have fin' := Lib.hid (show (r.size : Int) = ((n + runK (r.data.toList.drop n) : Nat) : Int) by
        rw [← hrel.out, List.drop_eq_nil_of_le (by rw [← Lib.size_eq]; exact Nat.le_refl _)]; simp [runK])
      go_wp2_with fail
      go_ret
      exact ⟨ret_int fin'.out, rfl⟩
theorem isAt_raw (s : ByteArray) (i : Nat) (p : ByteArray) (hi : i ≤ s.size) : (decide (i + p.size ≤ s.size) && ((s.extract i (i + p.size)).toList == p.toList)) = Lib.hasPrefix (s.data.toList.drop i) p.data.toList := by
  rw [Lib.extract_toList, Lib.toList_data, ← Lib.hasPrefix_of_take, List.length_drop, ← Lib.size_eq, ← Lib.size_eq]
  congr 1
  · simp only [decide_eq_decide]; omega
  · congr 2; omega
set_option maxRecDepth 100000 in
set_option maxHeartbeats 4000000 in
theorem RisAt_calls (s : ByteArray) (i : Nat) (p : ByteArray) (hs : s.size ≤ 20000) (hi : i ≤ s.size) (hp : p.size ≤ 20000) (w : World) :
    Calls Tryz.prog 235 #[.string s, .int .i64 i, .string p] w fun e w' => e = .returned (.bool (Lib.hasPrefix (s.data.toList.drop i) p.data.toList)) ∧ w' = w := by
  have h := Lib.hid (isAt_raw s i p hi)
  by_cases hl : i + p.size ≤ s.size
  · go_enter Tryz.func235, Tryz.ntmps235
    go_wp2_with fail
    go_ret
    have := h.out
    rw [← this]; simp [hl]
  · have hl' : ¬ ((i : Int) + (p.size : Int) ≤ (s.size : Int)) := by omega
    go_enter Tryz.func235, Tryz.ntmps235
    go_wp2_with fail
    go_ret
    have := h.out
    rw [← this]; simp [hl]
set_option maxRecDepth 100000 in
set_option maxHeartbeats 4000000 in
theorem Words_calls (w : World) (h : Snap) (H : Has w h) : Calls Tryz.prog 236 #[] w fun e w' => ∃ v h', e = .returned v ∧ StS h' kwB v ∧ Mk w h w' h' ∧ Below w.heap.size w w' := by
  have hk := sts_new kwB H (by simp [kwB, lim]) 9
  have hb := (alloc1 w (.cells (kwB.map Value.string).toArray 9)).2
  go_enter Tryz.func236, Tryz.ntmps236
  go_wp2_with fail
  go_ret
  obtain ⟨h', r, m⟩ := hk
  exact ⟨_, h', rfl, r, m, hb⟩
/-- The signs. -/
def signB : List ByteArray := [⟨#[45, 111]⟩, ⟨#[111, 45]⟩, ⟨#[61, 62]⟩, ⟨#[60, 61]⟩, ⟨#[45, 62]⟩, ⟨#[42]⟩, ⟨#[38]⟩, ⟨#[43]⟩, ⟨#[33]⟩, ⟨#[123]⟩, ⟨#[125]⟩, ⟨#[40]⟩, ⟨#[41]⟩, ⟨#[46]⟩, ⟨#[44]⟩, ⟨#[58]⟩, ⟨#[92]⟩]
set_option maxRecDepth 100000 in
set_option maxHeartbeats 4000000 in
theorem Signs_calls (w : World) (h : Snap) (H : Has w h) : Calls Tryz.prog 238 #[] w fun e w' => ∃ v h', e = .returned v ∧ StS h' signB v ∧ Mk w h w' h' ∧ Below w.heap.size w w' := by
  have hk := sts_new signB H (by simp [signB, lim]) 9
  have hb := (alloc1 w (.cells (signB.map Value.string).toArray 9)).2
  go_enter Tryz.func238, Tryz.ntmps238
  go_wp2_with fail
  go_ret
  obtain ⟨h', r, m⟩ := hk
  exact ⟨_, h', rfl, r, m, hb⟩
end Go.Proofs.YtpgbeapojjinmaaGreatDoor
namespace Go.Proofs.YtpgbeapojjinmaaGreatDoor
open Go.RowKit Go.Shelf Go.Proofs.YtpgbeapojjinmaaGreatDoorW.PrintLast
/-- What 'token' returns. -/
def tokI (i : Nat) : Option (Int × Nat) → Value
  | none => .tuple #[.int .i64 0, .int .i64 0]
  | some (k, n) => .tuple #[.int .i64 k, .int .i64 ((i + n : Nat) : Int)]
/-- The first of some signs with which a text begins. -/
def sgF (l : List UInt8) : List ByteArray → Option Nat
  | [] => none
  | p :: ps => if Lib.hasPrefix l p.data.toList then some p.size else sgF l ps
theorem prefix_one (c x : UInt8) (t : List UInt8) : Lib.hasPrefix (c :: t) [x] = (x == c) := by
  unfold Lib.hasPrefix
  simp [List.isPrefixOf]
def sg1 (c : UInt8) : Option Nat := if (42 : UInt8) == c then some 1 else if (38 : UInt8) == c then some 1 else if (43 : UInt8) == c then some 1 else if (33 : UInt8) == c then some 1 else if (123 : UInt8) == c then some 1 else if (125 : UInt8) == c then some 1
  else if (40 : UInt8) == c then some 1 else if (41 : UInt8) == c then some 1 else if (46 : UInt8) == c then some 1 else if (44 : UInt8) == c then some 1 else if (58 : UInt8) == c then some 1 else if (92 : UInt8) == c then some 1 else none
set_option maxRecDepth 100000 in
theorem sg1_fin : ∀ i : Fin 256, sg1 (UInt8.ofNat i.val) = if 0 ≤ Lib.indexByte marksB (UInt8.ofNat i.val) then some 1 else none := by decide
theorem sg1_eq (c : UInt8) : sg1 c = if 0 ≤ Lib.indexByte marksB c then some 1 else none := by
  have := sg1_fin ⟨c.toNat, c.toNat_lt⟩
  rwa [UInt8.ofNat_toNat] at this
theorem tokK_sgF {r : ByteArray} {c : UInt8} {t : List UInt8} (hr : r.data.toList = c :: t) (h1 : isSmall c = false) (h2 : isCap c = false) (h3 : Lib.hasPrefix r.data.toList [45, 111] = false) : tokK r = (sgF r.data.toList (signB.drop 2)).map (fun n => ((3 : Int), n)) := by
  have hh : r.data.toList.headD 0 = c := by rw [hr]; rfl
  unfold tokK
  rw [hh, h1, h2, h3]
  have hs : sgF r.data.toList (signB.drop 2) = if Lib.hasPrefix r.data.toList [61, 62] then some 2 else if Lib.hasPrefix r.data.toList [60, 61] then some 2 else if Lib.hasPrefix r.data.toList [45, 62] then some 2 else sg1 c := by
    rw [hr]
    simp only [signB, List.drop_succ_cons, List.drop_zero, sgF, prefix_one, sg1]
    rfl
  rw [hs, sg1_eq]
  cases Lib.hasPrefix r.data.toList [45, 62] <;> cases Lib.hasPrefix r.data.toList [61, 62] <;> cases Lib.hasPrefix r.data.toList [60, 61] <;> simp
theorem tokK_capital {r : ByteArray} {c : UInt8} {t : List UInt8} (hr : r.data.toList = c :: t) (h2 : isCap c = true) : tokK r = some (2, runK r.data.toList) := by
  have hh : r.data.toList.headD 0 = c := by rw [hr]; rfl
  have h1 : isSmall c = false := by
    unfold isSmall; unfold isCap at h2
    simp at h2 ⊢
    omega
  unfold tokK
  rw [hh, h1, h2]
  rfl
/-- How long a name is, from an offset on. -/
theorem name_at (s : ByteArray) (i j : Nat) (hj : i + runK (s.data.toList.drop i) = j) :
    (∃ h : j + 1 < s.size, (((s[j]'(by omega)).toNat : Int) == 64) = true ∧ isSmall (s[j + 1]'h) = true ∧ i + nameN (s.data.toList.drop i) = j + 1 + runK (s.data.toList.drop (j + 1))) ∨
    (∃ h : j + 1 < s.size, (((s[j]'(by omega)).toNat : Int) == 64) = true ∧ isSmall (s[j + 1]'h) = false ∧ i + nameN (s.data.toList.drop i) = j) ∨
    (∃ h : j + 1 < s.size, (((s[j]'(by omega)).toNat : Int) == 64) = false ∧ i + nameN (s.data.toList.drop i) = j) ∨
    (¬ j + 1 < s.size ∧ i + nameN (s.data.toList.drop i) = j) := by
  subst hj
  unfold nameN
  generalize hn : runK (s.data.toList.drop i) = n0
  rw [List.getElem?_drop, List.getElem?_drop, List.drop_drop]
  by_cases h : i + n0 + 1 < s.size
  · have d0 := data_at s (i + n0) (by omega)
    have d1 := data_at s (i + (n0 + 1)) (by omega)
    have hb : ((((s[i + n0]'(by omega)).toNat : Nat) : Int) == 64) = (s[i + n0]'(by omega) == 64) := byte_eq _ 64
    rw [d0, d1]
    by_cases h64 : s[i + n0]'(by omega) = 64
    · have hb1 := hb.trans (beq_iff_eq.2 h64)
      have e : s[i + (n0 + 1)]'(by omega) = s[i + n0 + 1]'h := rfl
      rw [e]
      cases hs : isSmall (s[i + n0 + 1]'h) with
      | true => exact .inl ⟨h, hb1, hs, by rw [if_pos ⟨by rw [h64], by simp [hs]⟩]; have e2 : i + (n0 + 1) = i + n0 + 1 := rfl; rw [e2]; omega⟩
      | false => exact .inr (.inl ⟨h, hb1, hs, by rw [if_neg (by simp [hs])]⟩)
    · exact .inr (.inr (.inl ⟨h, hb.trans (beq_eq_false_iff_ne.2 h64), by rw [if_neg (by simp [h64])]⟩))
  · exact .inr (.inr (.inr ⟨h, by rw [if_neg (by rw [data_out s (i + (n0 + 1)) (by omega)]; simp)]⟩))
theorem ext_pre (s : ByteArray) (i n : Nat) (h : i + n ≤ s.size) : ((s.extract i s.size).extract 0 n).toList = (s.extract i (i + n)).toList := by
  rw [Lib.extract_toList, Lib.extract_toList, Lib.extract_to_end]
  simp
theorem base_toList {ss : List ByteArray} {a b : ByteArray} (h : a.toList = b.toList) : baseIn ss a = baseIn ss b := by unfold baseIn; rw [h]
/-- What follows the length of a name. -/
theorem tokK_small {s : ByteArray} {i j : Nat} (hi : i < s.size) (h1 : isSmall s[i] = true) (hj : i + nameN (s.data.toList.drop i) = j) :
    j ≤ s.size ∧ tokK (s.extract i s.size) = if ((s.extract i j).toList == [111] && Lib.hasPrefix (s.data.toList.drop j) [45]) = true then some (3, j + 1 - i) else if baseIn kwB (s.extract i j) = true then some (4, j - i) else some (1, j - i) := by
  have hr := Lib.extract_to_end s i
  have hd := drop_at s i hi
  have hb := nameN_bounds (s.data.toList.drop i)
  rw [List.length_drop, ← Lib.size_eq] at hb
  have hjl : j ≤ s.size := by omega
  refine ⟨hjl, ?_⟩
  have hh : (s.extract i s.size).data.toList.headD 0 = s[i] := by rw [hr, hd]; rfl
  unfold tokK
  rw [hh, if_pos h1, hr]
  have hn : nameN (s.data.toList.drop i) = j - i := by omega
  rw [hn]
  have e1 := ext_pre s i (j - i) (by omega)
  rw [show i + (j - i) = j by omega] at e1
  rw [e1, base_toList e1]
  by_cases c : (s.extract i j).toList = [111]
  · have hl := congrArg List.length c
    rw [Lib.extract_toList] at hl
    simp only [List.length_take, List.length_drop, List.length_cons, List.length_nil] at hl
    rw [← Lib.size_eq] at hl
    have hj1 : j = i + 1 := by omega
    subst hj1
    rw [c]
    have e2 : (s.data.toList.drop i)[1]? = (s.data.toList.drop (i + 1)).head? := by
      rw [List.getElem?_drop, List.head?_drop]
    have e3 : Lib.hasPrefix (s.data.toList.drop (i + 1)) [45] = ((s.data.toList.drop i)[1]? == some 45) := by
      rw [e2]
      cases s.data.toList.drop (i + 1) with
      | nil => rfl
      | cons x xs => rw [prefix_one, List.head?_cons]; simp [eq_comm, Bool.beq_eq_decide_eq]
    rw [e3]
    have e4 : i + 1 + 1 - i = 2 := by omega
    rw [e4]
  · have c' : ((s.extract i j).toList == [111]) = false := by simpa using c
    rw [c']
    rfl
theorem tokI_none (i : Nat) {o : Option (Int × Nat)} (h : o = none) : tokI i o = .tuple #[.int .i64 0, .int .i64 0] := by subst h; rfl
theorem tokI_some {i n : Nat} {k : Int} {o : Option (Int × Nat)} {j : Int} (h : o = some (k, n)) (hj : ((i + n : Nat) : Int) = j) : tokI i o = .tuple #[.int .i64 k, .int .i64 j] := by subst h; subst hj; rfl
theorem signB_at (k : Nat) (h : k < signB.length) : signB[k].size ≤ 20000 := by
  have : ∀ p ∈ signB, p.size ≤ 20000 := by decide
  exact this _ (List.getElem_mem h)
set_option maxRecDepth 100000 in
set_option maxHeartbeats 8000000 in
theorem Rtoken_calls (s : ByteArray) (i : Nat) (hs : s.size ≤ 20000) (hi : i < s.size) (w : World) (h : Snap) (H : Has w h) :
    Calls Tryz.prog 200 #[.string s, .int .i64 i] w fun e w' => e = .returned (tokI i (tokK (s.extract i s.size))) ∧ Below w.heap.size w w' := by
  have hr := Lib.extract_to_end s i
  have hd := drop_at s i hi
  have hr' := hr.trans hd
  have hb0 := Below.refl w.heap.size w
  have kc := Rcapital_calls s[i] w
  have ks := Rsmall_calls s[i] w
  have kr := Lib.hid (Rrun_calls s i hs (by omega) w)
  have hrl := runK_le (s.data.toList.drop i)
  rw [List.length_drop, ← Lib.size_eq] at hrl
  cases h1 : isCap s[i]
  · rw [h1] at kc
    have kc' := Lib.hid kc
    clear kc
    cases h2 : isSmall s[i]
    · rw [h2] at ks
      have ks' := Lib.hid ks
      clear ks
      have ka := Lib.hid (RisAt_calls s i ⟨#[45, 111]⟩ hs (by omega) (by decide) w)
      obtain ⟨q, hq⟩ : ∃ q, Lib.hasPrefix (s.data.toList.drop i) (⟨#[45, 111]⟩ : ByteArray).data.toList = q := ⟨_, rfl⟩
      rw [hq] at ka
      cases q
      · have G := Lib.hid (tokK_sgF hr' h2 h1 (by rw [hr]; exact hq))
        clear hq h1 h2
        go_enter Tryz.func200, Tryz.ntmps200
        go_wp2_with fail
        refine kc'.out.mono ?_
        rintro e w' ⟨rfl, rfl⟩
        go_wp2_with fail
        refine ks'.out.mono ?_
        rintro e w1 ⟨rfl, rfl⟩
        go_wp2_with fail
        refine ka.out.mono ?_
        rintro e w2 ⟨rfl, rfl⟩
        go_wp2_with fail
        refine (Signs_calls _ h H).mono ?_
        rintro e w3 ⟨v, h3, rfl, r3, m3, k3⟩
        obtain ⟨A, cap, rfl, hl, hlm, hat⟩ := id r3
        go_wp2_with fail
        have H3 := m3.has
        have hcap : signB.length = 17 := rfl
        have G2 := Lib.hid (show tokK (s.extract i s.size) = Option.map (fun n => ((3 : Int), n)) (sgF (s.data.toList.drop i) (signB.drop 2)) by rw [← hr]; exact G.out)
        clear G
        go_loopw [8] (fun v wr => ∃ k : Nat, k ≤ signB.length ∧ v = .int .i64 k ∧ wr = w3 ∧ Hid (sgF (s.data.toList.drop i) (signB.drop k) = sgF (s.data.toList.drop i) (signB.drop 2))) (fun v _ => signB.length - (intOf v).toNat)
        case atStart => exact ⟨2, by decide, rfl, rfl, Lib.hid rfl⟩
        case round =>
          obtain ⟨k, hk, rfl, rfl, hI⟩ := hrel
          by_cases hlt : k < signB.length
          · obtain ⟨b, o, rfl, e0⟩ := hat k hlt
            have x0 := H3.cell _ _ e0
            have kat := Lib.hid (RisAt_calls s i signB[k] hs (by omega) (signB_at k hlt) wr)
            have hz := signB_at k hlt
            obtain ⟨q, hq⟩ : ∃ q, Lib.hasPrefix (s.data.toList.drop i) signB[k].data.toList = q := ⟨_, rfl⟩
            rw [hq] at kat
            cases q
            · have hI' : Hid (sgF (s.data.toList.drop i) (signB.drop (k + 1)) = sgF (s.data.toList.drop i) (signB.drop 2)) := by
                have := hI.out
                rw [List.drop_eq_getElem_cons hlt, sgF, hq] at this
                exact this
              clear hq
              go_wp2_with fail
              refine kat.out.mono ?_
              rintro e w4 ⟨rfl, rfl⟩
              go_wp2_with fail
              refine ⟨?_, by simp [intOf]; omega⟩
              repeat apply Exists.intro
              refine ⟨?_, rfl⟩
              exact ⟨k + 1, by omega, by simp, trivial, hI'⟩
            · have hI' : Hid (some signB[k].size = sgF (s.data.toList.drop i) (signB.drop 2)) := by
                have := hI.out
                rw [List.drop_eq_getElem_cons hlt, sgF, hq] at this
                exact this
              clear hq
              have fin := Lib.hid (tokI_some (o := tokK (s.extract i s.size)) (i := i) (n := signB[k].size) (k := 3) (j := (i : Int) + (signB[k].size : Int)) (by rw [G2.out, ← hI'.out]; rfl) (by omega))
              go_wp2_with fail
              refine kat.out.mono ?_
              rintro e w4 ⟨rfl, rfl⟩
              go_wp2_with fail
              go_quiet (fail)
              all_goals go_wp2_with fail
              go_ret2
              rw [fin.out]
              exact ⟨rfl, below_drewN k3 _⟩
          · have fin := Lib.hid (tokI_none i (o := tokK (s.extract i s.size)) (by rw [G2.out, ← hI.out, show List.drop k signB = [] from List.drop_eq_nil_of_le (by omega)]; rfl))
            go_wp2_with fail
            go_ret2
            rw [fin.out]
            exact ⟨rfl, k3⟩
      · -- "-o"
        have hq' : Lib.hasPrefix (s.extract i s.size).data.toList [45, 111] = true := by rw [hr]; exact hq
        have hlen := prefix_len hq'
        rw [hr, List.length_drop, ← Lib.size_eq] at hlen
        simp only [List.length_cons, List.length_nil] at hlen
        have hno : (Lib.hasPrefix (s.extract i s.size).data.toList [45, 62] || (Lib.hasPrefix (s.extract i s.size).data.toList [61, 62] || Lib.hasPrefix (s.extract i s.size).data.toList [60, 61])) = false := by
          revert hq'
          rw [hr, hd]
          unfold Lib.hasPrefix
          cases s.data.toList.drop (i + 1) with
          | nil => simp [List.isPrefixOf]
          | cons x xs =>
            simp only [List.isPrefixOf, Bool.and_true, Bool.and_eq_true, beq_iff_eq]
            rintro ⟨e1, e2⟩
            rw [← e1, ← e2]
            decide
        have hh : (s.extract i s.size).data.toList.headD 0 = s[i] := by rw [hr']; rfl
        have G : tokK (s.extract i s.size) = if ((s.data.toList.drop i)[2]?).any isPart then none else some (3, 2) := by
          unfold tokK
          rw [hh, h1, h2, hno, hq', hr]
          rfl
        rw [List.getElem?_drop] at G
        by_cases hl : i + 2 < s.size
        · have kp := Rpart_calls (s[i + 2]'hl) w
          rw [data_at s (i + 2) hl] at G
          obtain ⟨q, hpq⟩ : ∃ q, isPart (s[i + 2]'hl) = q := ⟨_, rfl⟩
          rw [hpq] at kp
          rw [Option.any_some, hpq] at G
          have kp' := Lib.hid kp
          have G' := Lib.hid G
          clear hpq kp G hq hq' hlen hno hh h1 h2
          cases q
          · have fin := Lib.hid (tokI_some (o := tokK (s.extract i s.size)) (i := i) (n := 2) (k := 3) (j := (i : Int) + 2) (by rw [G'.out]; rfl) (by omega))
            go_enter Tryz.func200, Tryz.ntmps200
            go_wp2_with fail
            refine kc'.out.mono ?_
            rintro e w' ⟨rfl, rfl⟩
            go_wp2_with fail
            refine ks'.out.mono ?_
            rintro e w1 ⟨rfl, rfl⟩
            go_wp2_with fail
            refine ka.out.mono ?_
            rintro e w2 ⟨rfl, rfl⟩
            go_wp2_with fail
            refine kp'.out.mono ?_
            rintro e w3 ⟨rfl, rfl⟩
            go_wp2_with fail
            go_ret2
            rw [fin.out]
            exact ⟨rfl, hb0⟩
          · have fin := Lib.hid (tokI_none i (o := tokK (s.extract i s.size)) (by rw [G'.out]; rfl))
            go_enter Tryz.func200, Tryz.ntmps200
            go_wp2_with fail
            refine kc'.out.mono ?_
            rintro e w' ⟨rfl, rfl⟩
            go_wp2_with fail
            refine ks'.out.mono ?_
            rintro e w1 ⟨rfl, rfl⟩
            go_wp2_with fail
            refine ka.out.mono ?_
            rintro e w2 ⟨rfl, rfl⟩
            go_wp2_with fail
            refine kp'.out.mono ?_
            rintro e w3 ⟨rfl, rfl⟩
            go_wp2_with fail
            go_ret2
            rw [fin.out]
            exact ⟨rfl, hb0⟩
        · rw [data_out s (i + 2) (by omega)] at G
          have fin := Lib.hid (tokI_some (o := tokK (s.extract i s.size)) (i := i) (n := 2) (k := 3) (j := (i : Int) + 2) (by rw [G]; rfl) (by omega))
          have hl' : ¬ ((i : Int) + 2 < (s.size : Int)) := by omega
          clear hq hq' hno hh h1 h2 G
          go_enter Tryz.func200, Tryz.ntmps200
          go_wp2_with fail
          refine kc'.out.mono ?_
          rintro e w' ⟨rfl, rfl⟩
          go_wp2_with fail
          refine ks'.out.mono ?_
          rintro e w1 ⟨rfl, rfl⟩
          go_wp2_with fail
          refine ka.out.mono ?_
          rintro e w2 ⟨rfl, rfl⟩
          go_wp2_with fail
          go_ret2
          rw [fin.out]
          exact ⟨rfl, hb0⟩
    · rw [h2] at ks
      have ks' := Lib.hid ks
      clear ks
      obtain ⟨j0, hj0⟩ : ∃ j0, i + runK (s.data.toList.drop i) = j0 := ⟨_, rfl⟩
      rw [hj0] at kr
      have hj0l : j0 ≤ s.size := by omega
      have hcase := name_at s i j0 hj0
      have hTK : ∀ j, i + nameN (s.data.toList.drop i) = j → _ := fun j hj => tokK_small hi h2 hj
      rcases hcase with ⟨hl, t1, t2, hn⟩ | ⟨hl, t1, t2, hn⟩ | ⟨hl, t1, hn⟩ | ⟨hl, hn⟩
      · have kq := Lib.hid (Rsmall_calls (s[j0 + 1]'hl) w)
        rw [t2] at kq
        have kr2 := Lib.hid (Rrun_calls s (j0 + 1) hs (by omega) w)
        obtain ⟨j, hj⟩ : ∃ j, j0 + 1 + runK (s.data.toList.drop (j0 + 1)) = j := ⟨_, rfl⟩
        rw [hj] at kr2 hn
        obtain ⟨hjl, hT⟩ := hTK _ hn
        have hij : i ≤ j := by omega
        clear hTK hn hj0 hrl h1 h2 hr hr' hd
        go_enter Tryz.func200, Tryz.ntmps200
        go_wp2_with fail
        refine kc'.out.mono ?_
        rintro e w' ⟨rfl, rfl⟩
        go_wp2_with fail
        refine ks'.out.mono ?_
        rintro e w' ⟨rfl, rfl⟩
        go_wp2_with fail
        refine kr.out.mono ?_
        rintro e w1 ⟨rfl, rfl⟩
        go_wp2_with fail
        refine kq.out.mono ?_
        rintro e w2 ⟨rfl, rfl⟩
        go_wp2_with fail
        refine kr2.out.mono ?_
        rintro e w3 ⟨rfl, rfl⟩
        rcases hq1 : ((s.extract i j).toList == [111])
        · rw [hq1] at hT
          simp only [Bool.false_and, Bool.false_eq_true, if_false] at hT
          have hT' := Lib.hid hT
          clear hT
          go_wp2_with fail
          refine rgs 7 (fun V => Below w3.heap.size w3 V) [] rfl ((Below.refl _ _).drew) (fun hS => ?_)
          refine rgt 1 (.string s) rfl (by kernel_rfl) (fun _ _ _ h => h) (by kernel_rfl) hS (fun V hV => by go_simp) ?_
          refine rgt 2 (.int .i64 i) rfl (by kernel_rfl) (fun _ _ _ h => h) (by kernel_rfl) hS (fun V hV => by go_simp) ?_
          refine rgt 3 (.int .i64 j) rfl (by kernel_rfl) (fun _ _ _ h => h) (by kernel_rfl) hS (fun V hV => by go_simp) ?_
          refine rgt 4 (.string (s.extract i j)) rfl (by kernel_rfl) (fun _ _ _ h => h) (by kernel_rfl) hS (fun V hV => by go_simp) ?_
          refine rg1 0 rfl (by kernel_rfl) (by decide) (by kernel_rfl) (fun K hK => ?_)
          have hS0 := hS
          go_simp
          refine (Words_calls _ h H.drew).mono ?_
          rintro e W1 ⟨v, h1, rfl, r1, m1, k1⟩
          simp only []
          refine hK.out _ _ (below_then hS0 k1 hS0.size) (fun hS => ?_)
          refine rg1 5 rfl (by kernel_rfl) (by decide) (by kernel_rfl) (fun K hK => ?_)
          have hS1 := hS
          have hz := idxS_ge kwB (s.extract i j) 0 (by omega)
          go_simp
          refine (Index_calls kwB (s.extract i j) v W1 h1 m1.has r1).mono ?_
          rintro e W2 ⟨rfl, rfl⟩
          simp only []
          refine hK.out _ _ hS1 (fun hS => ?_)
          generalize idxS kwB (s.extract i j) 0 = z at *
          by_cases hz0 : 0 ≤ z
          · have hb := hz.1 hz0
            have fin := Lib.hid (tokI_some (o := tokK (s.extract i s.size)) (i := i) (n := j - i) (k := 4) (j := (j : Int)) (by rw [hT'.out, if_pos (show baseIn kwB (s.extract i j) = true from hb)]) (by omega))
            clear hT' hb hz
            refine rgt 6 (.bool true) rfl (by kernel_rfl) (fun _ _ _ h => h) (by kernel_rfl) hS (fun V hV => by go_simp) ?_
            refine rgd (by kernel_rfl) ?_
            go_wp2_with fail
            go_ret2
            rw [fin.out]
            exact ⟨rfl, hS⟩
          · have hb : ¬ (baseIn kwB (s.extract i j) = true) := fun q => hz0 (hz.2 q)
            have fin := Lib.hid (tokI_some (o := tokK (s.extract i s.size)) (i := i) (n := j - i) (k := 1) (j := (j : Int)) (by rw [hT'.out, if_neg hb]) (by omega))
            clear hT' hb hz
            refine rgt 6 (.bool false) rfl (by kernel_rfl) (fun _ _ _ h => h) (by kernel_rfl) hS (fun V hV => by go_simp) ?_
            refine rgd (by kernel_rfl) ?_
            go_wp2_with fail
            go_ret2
            rw [fin.out]
            exact ⟨rfl, hS⟩
        · rw [hq1, Bool.true_and] at hT
          have ka := Lib.hid (RisAt_calls s j ⟨#[45]⟩ hs hjl (by decide) w3)
          rcases hq2 : Lib.hasPrefix (s.data.toList.drop j) [45]
          · rw [hq2] at hT
            have hq3 : Lib.hasPrefix (s.data.toList.drop j) (⟨#[45]⟩ : ByteArray).data.toList = false := hq2
            rw [hq3] at ka
            simp only [Bool.false_eq_true, if_false] at hT
            have hT' := Lib.hid hT
            clear hT hq2 hq3
            go_wp2_with fail
            refine ka.out.mono ?_
            rintro e wk ⟨rfl, rfl⟩
            go_wp2_with fail
            refine rgs 7 (fun V => Below wk.heap.size wk V) [] rfl ((Below.refl _ _).drew) (fun hS => ?_)
            refine rgt 1 (.string s) rfl (by kernel_rfl) (fun _ _ _ h => h) (by kernel_rfl) hS (fun V hV => by go_simp) ?_
            refine rgt 2 (.int .i64 i) rfl (by kernel_rfl) (fun _ _ _ h => h) (by kernel_rfl) hS (fun V hV => by go_simp) ?_
            refine rgt 3 (.int .i64 j) rfl (by kernel_rfl) (fun _ _ _ h => h) (by kernel_rfl) hS (fun V hV => by go_simp) ?_
            refine rgt 4 (.string (s.extract i j)) rfl (by kernel_rfl) (fun _ _ _ h => h) (by kernel_rfl) hS (fun V hV => by go_simp) ?_
            refine rg1 0 rfl (by kernel_rfl) (by decide) (by kernel_rfl) (fun K hK => ?_)
            have hS0 := hS
            go_simp
            refine (Words_calls _ h H.drew).mono ?_
            rintro e W1 ⟨v, h1, rfl, r1, m1, k1⟩
            simp only []
            refine hK.out _ _ (below_then hS0 k1 hS0.size) (fun hS => ?_)
            refine rg1 5 rfl (by kernel_rfl) (by decide) (by kernel_rfl) (fun K hK => ?_)
            have hS1 := hS
            have hz := idxS_ge kwB (s.extract i j) 0 (by omega)
            go_simp
            refine (Index_calls kwB (s.extract i j) v W1 h1 m1.has r1).mono ?_
            rintro e W2 ⟨rfl, rfl⟩
            simp only []
            refine hK.out _ _ hS1 (fun hS => ?_)
            generalize idxS kwB (s.extract i j) 0 = z at *
            by_cases hz0 : 0 ≤ z
            · have hb := hz.1 hz0
              have fin := Lib.hid (tokI_some (o := tokK (s.extract i s.size)) (i := i) (n := j - i) (k := 4) (j := (j : Int)) (by rw [hT'.out, if_pos (show baseIn kwB (s.extract i j) = true from hb)]) (by omega))
              clear hT' hb hz
              refine rgt 6 (.bool true) rfl (by kernel_rfl) (fun _ _ _ h => h) (by kernel_rfl) hS (fun V hV => by go_simp) ?_
              refine rgd (by kernel_rfl) ?_
              go_wp2_with fail
              go_ret2
              rw [fin.out]
              exact ⟨rfl, hS⟩
            · have hb : ¬ (baseIn kwB (s.extract i j) = true) := fun q => hz0 (hz.2 q)
              have fin := Lib.hid (tokI_some (o := tokK (s.extract i s.size)) (i := i) (n := j - i) (k := 1) (j := (j : Int)) (by rw [hT'.out, if_neg hb]) (by omega))
              clear hT' hb hz
              refine rgt 6 (.bool false) rfl (by kernel_rfl) (fun _ _ _ h => h) (by kernel_rfl) hS (fun V hV => by go_simp) ?_
              refine rgd (by kernel_rfl) ?_
              go_wp2_with fail
              go_ret2
              rw [fin.out]
              exact ⟨rfl, hS⟩
          · rw [hq2] at hT
            have hq3 : Lib.hasPrefix (s.data.toList.drop j) (⟨#[45]⟩ : ByteArray).data.toList = true := hq2
            rw [hq3] at ka
            have fin := Lib.hid (tokI_some (o := tokK (s.extract i s.size)) (i := i) (n := j + 1 - i) (k := 3) (j := (j : Int) + 1) (by rw [hT]; rfl) (by omega))
            clear hT hq2 hq3
            go_wp2_with fail
            refine ka.out.mono ?_
            rintro e wk ⟨rfl, rfl⟩
            go_wp2_with fail
            go_ret2
            rw [fin.out]
            exact ⟨rfl, hb0⟩
      · have kq := Lib.hid (Rsmall_calls (s[j0 + 1]'hl) w)
        rw [t2] at kq
        obtain ⟨j, hj⟩ : ∃ j, j0 = j := ⟨_, rfl⟩
        rw [hj] at hn
        subst hj
        obtain ⟨hjl, hT⟩ := hTK _ hn
        have hij : i ≤ j0 := by omega
        clear hTK hn hj0 hrl h1 h2 hr hr' hd
        go_enter Tryz.func200, Tryz.ntmps200
        go_wp2_with fail
        refine kc'.out.mono ?_
        rintro e w' ⟨rfl, rfl⟩
        go_wp2_with fail
        refine ks'.out.mono ?_
        rintro e w' ⟨rfl, rfl⟩
        go_wp2_with fail
        refine kr.out.mono ?_
        rintro e w1 ⟨rfl, rfl⟩
        go_wp2_with fail
        refine kq.out.mono ?_
        rintro e w2 ⟨rfl, rfl⟩
        rcases hq1 : ((s.extract i j0).toList == [111])
        · rw [hq1] at hT
          simp only [Bool.false_and, Bool.false_eq_true, if_false] at hT
          have hT' := Lib.hid hT
          clear hT
          go_wp2_with fail
          refine rgs 7 (fun V => Below w2.heap.size w2 V) [] rfl ((Below.refl _ _).drew) (fun hS => ?_)
          refine rgt 1 (.string s) rfl (by kernel_rfl) (fun _ _ _ h => h) (by kernel_rfl) hS (fun V hV => by go_simp) ?_
          refine rgt 2 (.int .i64 i) rfl (by kernel_rfl) (fun _ _ _ h => h) (by kernel_rfl) hS (fun V hV => by go_simp) ?_
          refine rgt 3 (.int .i64 j0) rfl (by kernel_rfl) (fun _ _ _ h => h) (by kernel_rfl) hS (fun V hV => by go_simp) ?_
          refine rgt 4 (.string (s.extract i j0)) rfl (by kernel_rfl) (fun _ _ _ h => h) (by kernel_rfl) hS (fun V hV => by go_simp) ?_
          refine rg1 0 rfl (by kernel_rfl) (by decide) (by kernel_rfl) (fun K hK => ?_)
          have hS0 := hS
          go_simp
          refine (Words_calls _ h H.drew).mono ?_
          rintro e W1 ⟨v, h1, rfl, r1, m1, k1⟩
          simp only []
          refine hK.out _ _ (below_then hS0 k1 hS0.size) (fun hS => ?_)
          refine rg1 5 rfl (by kernel_rfl) (by decide) (by kernel_rfl) (fun K hK => ?_)
          have hS1 := hS
          have hz := idxS_ge kwB (s.extract i j0) 0 (by omega)
          go_simp
          refine (Index_calls kwB (s.extract i j0) v W1 h1 m1.has r1).mono ?_
          rintro e W2 ⟨rfl, rfl⟩
          simp only []
          refine hK.out _ _ hS1 (fun hS => ?_)
          generalize idxS kwB (s.extract i j0) 0 = z at *
          by_cases hz0 : 0 ≤ z
          · have hb := hz.1 hz0
            have fin := Lib.hid (tokI_some (o := tokK (s.extract i s.size)) (i := i) (n := j0 - i) (k := 4) (j := (j0 : Int)) (by rw [hT'.out, if_pos (show baseIn kwB (s.extract i j0) = true from hb)]) (by omega))
            clear hT' hb hz
            refine rgt 6 (.bool true) rfl (by kernel_rfl) (fun _ _ _ h => h) (by kernel_rfl) hS (fun V hV => by go_simp) ?_
            refine rgd (by kernel_rfl) ?_
            go_wp2_with fail
            go_ret2
            rw [fin.out]
            exact ⟨rfl, hS⟩
          · have hb : ¬ (baseIn kwB (s.extract i j0) = true) := fun q => hz0 (hz.2 q)
            have fin := Lib.hid (tokI_some (o := tokK (s.extract i s.size)) (i := i) (n := j0 - i) (k := 1) (j := (j0 : Int)) (by rw [hT'.out, if_neg hb]) (by omega))
            clear hT' hb hz
            refine rgt 6 (.bool false) rfl (by kernel_rfl) (fun _ _ _ h => h) (by kernel_rfl) hS (fun V hV => by go_simp) ?_
            refine rgd (by kernel_rfl) ?_
            go_wp2_with fail
            go_ret2
            rw [fin.out]
            exact ⟨rfl, hS⟩
        · rw [hq1, Bool.true_and] at hT
          have ka := Lib.hid (RisAt_calls s j0 ⟨#[45]⟩ hs hjl (by decide) w2)
          rcases hq2 : Lib.hasPrefix (s.data.toList.drop j0) [45]
          · rw [hq2] at hT
            have hq3 : Lib.hasPrefix (s.data.toList.drop j0) (⟨#[45]⟩ : ByteArray).data.toList = false := hq2
            rw [hq3] at ka
            simp only [Bool.false_eq_true, if_false] at hT
            have hT' := Lib.hid hT
            clear hT hq2 hq3
            go_wp2_with fail
            refine ka.out.mono ?_
            rintro e wk ⟨rfl, rfl⟩
            go_wp2_with fail
            refine rgs 7 (fun V => Below wk.heap.size wk V) [] rfl ((Below.refl _ _).drew) (fun hS => ?_)
            refine rgt 1 (.string s) rfl (by kernel_rfl) (fun _ _ _ h => h) (by kernel_rfl) hS (fun V hV => by go_simp) ?_
            refine rgt 2 (.int .i64 i) rfl (by kernel_rfl) (fun _ _ _ h => h) (by kernel_rfl) hS (fun V hV => by go_simp) ?_
            refine rgt 3 (.int .i64 j0) rfl (by kernel_rfl) (fun _ _ _ h => h) (by kernel_rfl) hS (fun V hV => by go_simp) ?_
            refine rgt 4 (.string (s.extract i j0)) rfl (by kernel_rfl) (fun _ _ _ h => h) (by kernel_rfl) hS (fun V hV => by go_simp) ?_
            refine rg1 0 rfl (by kernel_rfl) (by decide) (by kernel_rfl) (fun K hK => ?_)
            have hS0 := hS
            go_simp
            refine (Words_calls _ h H.drew).mono ?_
            rintro e W1 ⟨v, h1, rfl, r1, m1, k1⟩
            simp only []
            refine hK.out _ _ (below_then hS0 k1 hS0.size) (fun hS => ?_)
            refine rg1 5 rfl (by kernel_rfl) (by decide) (by kernel_rfl) (fun K hK => ?_)
            have hS1 := hS
            have hz := idxS_ge kwB (s.extract i j0) 0 (by omega)
            go_simp
            refine (Index_calls kwB (s.extract i j0) v W1 h1 m1.has r1).mono ?_
            rintro e W2 ⟨rfl, rfl⟩
            simp only []
            refine hK.out _ _ hS1 (fun hS => ?_)
            generalize idxS kwB (s.extract i j0) 0 = z at *
            by_cases hz0 : 0 ≤ z
            · have hb := hz.1 hz0
              have fin := Lib.hid (tokI_some (o := tokK (s.extract i s.size)) (i := i) (n := j0 - i) (k := 4) (j := (j0 : Int)) (by rw [hT'.out, if_pos (show baseIn kwB (s.extract i j0) = true from hb)]) (by omega))
              clear hT' hb hz
              refine rgt 6 (.bool true) rfl (by kernel_rfl) (fun _ _ _ h => h) (by kernel_rfl) hS (fun V hV => by go_simp) ?_
              refine rgd (by kernel_rfl) ?_
              go_wp2_with fail
              go_ret2
              rw [fin.out]
              exact ⟨rfl, hS⟩
            · have hb : ¬ (baseIn kwB (s.extract i j0) = true) := fun q => hz0 (hz.2 q)
              have fin := Lib.hid (tokI_some (o := tokK (s.extract i s.size)) (i := i) (n := j0 - i) (k := 1) (j := (j0 : Int)) (by rw [hT'.out, if_neg hb]) (by omega))
              clear hT' hb hz
              refine rgt 6 (.bool false) rfl (by kernel_rfl) (fun _ _ _ h => h) (by kernel_rfl) hS (fun V hV => by go_simp) ?_
              refine rgd (by kernel_rfl) ?_
              go_wp2_with fail
              go_ret2
              rw [fin.out]
              exact ⟨rfl, hS⟩
          · rw [hq2] at hT
            have hq3 : Lib.hasPrefix (s.data.toList.drop j0) (⟨#[45]⟩ : ByteArray).data.toList = true := hq2
            rw [hq3] at ka
            have fin := Lib.hid (tokI_some (o := tokK (s.extract i s.size)) (i := i) (n := j0 + 1 - i) (k := 3) (j := (j0 : Int) + 1) (by rw [hT]; rfl) (by omega))
            clear hT hq2 hq3
            go_wp2_with fail
            refine ka.out.mono ?_
            rintro e wk ⟨rfl, rfl⟩
            go_wp2_with fail
            go_ret2
            rw [fin.out]
            exact ⟨rfl, hb0⟩
      · obtain ⟨j, hj⟩ : ∃ j, j0 = j := ⟨_, rfl⟩
        rw [hj] at hn
        subst hj
        obtain ⟨hjl, hT⟩ := hTK _ hn
        have hij : i ≤ j0 := by omega
        clear hTK hn hj0 hrl h1 h2 hr hr' hd
        go_enter Tryz.func200, Tryz.ntmps200
        go_wp2_with fail
        refine kc'.out.mono ?_
        rintro e w' ⟨rfl, rfl⟩
        go_wp2_with fail
        refine ks'.out.mono ?_
        rintro e w' ⟨rfl, rfl⟩
        go_wp2_with fail
        refine kr.out.mono ?_
        rintro e w1 ⟨rfl, rfl⟩
        rcases hq1 : ((s.extract i j0).toList == [111])
        · rw [hq1] at hT
          simp only [Bool.false_and, Bool.false_eq_true, if_false] at hT
          have hT' := Lib.hid hT
          clear hT
          go_wp2_with fail
          refine rgs 7 (fun V => Below w1.heap.size w1 V) [] rfl ((Below.refl _ _).drew) (fun hS => ?_)
          refine rgt 1 (.string s) rfl (by kernel_rfl) (fun _ _ _ h => h) (by kernel_rfl) hS (fun V hV => by go_simp) ?_
          refine rgt 2 (.int .i64 i) rfl (by kernel_rfl) (fun _ _ _ h => h) (by kernel_rfl) hS (fun V hV => by go_simp) ?_
          refine rgt 3 (.int .i64 j0) rfl (by kernel_rfl) (fun _ _ _ h => h) (by kernel_rfl) hS (fun V hV => by go_simp) ?_
          refine rgt 4 (.string (s.extract i j0)) rfl (by kernel_rfl) (fun _ _ _ h => h) (by kernel_rfl) hS (fun V hV => by go_simp) ?_
          refine rg1 0 rfl (by kernel_rfl) (by decide) (by kernel_rfl) (fun K hK => ?_)
          have hS0 := hS
          go_simp
          refine (Words_calls _ h H.drew).mono ?_
          rintro e W1 ⟨v, h1, rfl, r1, m1, k1⟩
          simp only []
          refine hK.out _ _ (below_then hS0 k1 hS0.size) (fun hS => ?_)
          refine rg1 5 rfl (by kernel_rfl) (by decide) (by kernel_rfl) (fun K hK => ?_)
          have hS1 := hS
          have hz := idxS_ge kwB (s.extract i j0) 0 (by omega)
          go_simp
          refine (Index_calls kwB (s.extract i j0) v W1 h1 m1.has r1).mono ?_
          rintro e W2 ⟨rfl, rfl⟩
          simp only []
          refine hK.out _ _ hS1 (fun hS => ?_)
          generalize idxS kwB (s.extract i j0) 0 = z at *
          by_cases hz0 : 0 ≤ z
          · have hb := hz.1 hz0
            have fin := Lib.hid (tokI_some (o := tokK (s.extract i s.size)) (i := i) (n := j0 - i) (k := 4) (j := (j0 : Int)) (by rw [hT'.out, if_pos (show baseIn kwB (s.extract i j0) = true from hb)]) (by omega))
            clear hT' hb hz
            refine rgt 6 (.bool true) rfl (by kernel_rfl) (fun _ _ _ h => h) (by kernel_rfl) hS (fun V hV => by go_simp) ?_
            refine rgd (by kernel_rfl) ?_
            go_wp2_with fail
            go_ret2
            rw [fin.out]
            exact ⟨rfl, hS⟩
          · have hb : ¬ (baseIn kwB (s.extract i j0) = true) := fun q => hz0 (hz.2 q)
            have fin := Lib.hid (tokI_some (o := tokK (s.extract i s.size)) (i := i) (n := j0 - i) (k := 1) (j := (j0 : Int)) (by rw [hT'.out, if_neg hb]) (by omega))
            clear hT' hb hz
            refine rgt 6 (.bool false) rfl (by kernel_rfl) (fun _ _ _ h => h) (by kernel_rfl) hS (fun V hV => by go_simp) ?_
            refine rgd (by kernel_rfl) ?_
            go_wp2_with fail
            go_ret2
            rw [fin.out]
            exact ⟨rfl, hS⟩
        · rw [hq1, Bool.true_and] at hT
          have ka := Lib.hid (RisAt_calls s j0 ⟨#[45]⟩ hs hjl (by decide) w1)
          rcases hq2 : Lib.hasPrefix (s.data.toList.drop j0) [45]
          · rw [hq2] at hT
            have hq3 : Lib.hasPrefix (s.data.toList.drop j0) (⟨#[45]⟩ : ByteArray).data.toList = false := hq2
            rw [hq3] at ka
            simp only [Bool.false_eq_true, if_false] at hT
            have hT' := Lib.hid hT
            clear hT hq2 hq3
            go_wp2_with fail
            refine ka.out.mono ?_
            rintro e wk ⟨rfl, rfl⟩
            go_wp2_with fail
            refine rgs 7 (fun V => Below wk.heap.size wk V) [] rfl ((Below.refl _ _).drew) (fun hS => ?_)
            refine rgt 1 (.string s) rfl (by kernel_rfl) (fun _ _ _ h => h) (by kernel_rfl) hS (fun V hV => by go_simp) ?_
            refine rgt 2 (.int .i64 i) rfl (by kernel_rfl) (fun _ _ _ h => h) (by kernel_rfl) hS (fun V hV => by go_simp) ?_
            refine rgt 3 (.int .i64 j0) rfl (by kernel_rfl) (fun _ _ _ h => h) (by kernel_rfl) hS (fun V hV => by go_simp) ?_
            refine rgt 4 (.string (s.extract i j0)) rfl (by kernel_rfl) (fun _ _ _ h => h) (by kernel_rfl) hS (fun V hV => by go_simp) ?_
            refine rg1 0 rfl (by kernel_rfl) (by decide) (by kernel_rfl) (fun K hK => ?_)
            have hS0 := hS
            go_simp
            refine (Words_calls _ h H.drew).mono ?_
            rintro e W1 ⟨v, h1, rfl, r1, m1, k1⟩
            simp only []
            refine hK.out _ _ (below_then hS0 k1 hS0.size) (fun hS => ?_)
            refine rg1 5 rfl (by kernel_rfl) (by decide) (by kernel_rfl) (fun K hK => ?_)
            have hS1 := hS
            have hz := idxS_ge kwB (s.extract i j0) 0 (by omega)
            go_simp
            refine (Index_calls kwB (s.extract i j0) v W1 h1 m1.has r1).mono ?_
            rintro e W2 ⟨rfl, rfl⟩
            simp only []
            refine hK.out _ _ hS1 (fun hS => ?_)
            generalize idxS kwB (s.extract i j0) 0 = z at *
            by_cases hz0 : 0 ≤ z
            · have hb := hz.1 hz0
              have fin := Lib.hid (tokI_some (o := tokK (s.extract i s.size)) (i := i) (n := j0 - i) (k := 4) (j := (j0 : Int)) (by rw [hT'.out, if_pos (show baseIn kwB (s.extract i j0) = true from hb)]) (by omega))
              clear hT' hb hz
              refine rgt 6 (.bool true) rfl (by kernel_rfl) (fun _ _ _ h => h) (by kernel_rfl) hS (fun V hV => by go_simp) ?_
              refine rgd (by kernel_rfl) ?_
              go_wp2_with fail
              go_ret2
              rw [fin.out]
              exact ⟨rfl, hS⟩
            · have hb : ¬ (baseIn kwB (s.extract i j0) = true) := fun q => hz0 (hz.2 q)
              have fin := Lib.hid (tokI_some (o := tokK (s.extract i s.size)) (i := i) (n := j0 - i) (k := 1) (j := (j0 : Int)) (by rw [hT'.out, if_neg hb]) (by omega))
              clear hT' hb hz
              refine rgt 6 (.bool false) rfl (by kernel_rfl) (fun _ _ _ h => h) (by kernel_rfl) hS (fun V hV => by go_simp) ?_
              refine rgd (by kernel_rfl) ?_
              go_wp2_with fail
              go_ret2
              rw [fin.out]
              exact ⟨rfl, hS⟩
          · rw [hq2] at hT
            have hq3 : Lib.hasPrefix (s.data.toList.drop j0) (⟨#[45]⟩ : ByteArray).data.toList = true := hq2
            rw [hq3] at ka
            have fin := Lib.hid (tokI_some (o := tokK (s.extract i s.size)) (i := i) (n := j0 + 1 - i) (k := 3) (j := (j0 : Int) + 1) (by rw [hT]; rfl) (by omega))
            clear hT hq2 hq3
            go_wp2_with fail
            refine ka.out.mono ?_
            rintro e wk ⟨rfl, rfl⟩
            go_wp2_with fail
            go_ret2
            rw [fin.out]
            exact ⟨rfl, hb0⟩
      · obtain ⟨j, hj⟩ : ∃ j, j0 = j := ⟨_, rfl⟩
        rw [hj] at hn
        subst hj
        have hl' : ¬ ((j0 : Int) + 1 < (s.size : Int)) := by omega
        obtain ⟨hjl, hT⟩ := hTK _ hn
        have hij : i ≤ j0 := by omega
        clear hTK hn hj0 hrl h1 h2 hr hr' hd
        go_enter Tryz.func200, Tryz.ntmps200
        go_wp2_with fail
        refine kc'.out.mono ?_
        rintro e w' ⟨rfl, rfl⟩
        go_wp2_with fail
        refine ks'.out.mono ?_
        rintro e w' ⟨rfl, rfl⟩
        go_wp2_with fail
        refine kr.out.mono ?_
        rintro e w1 ⟨rfl, rfl⟩
        rcases hq1 : ((s.extract i j0).toList == [111])
        · rw [hq1] at hT
          simp only [Bool.false_and, Bool.false_eq_true, if_false] at hT
          have hT' := Lib.hid hT
          clear hT
          go_wp2_with fail
          refine rgs 7 (fun V => Below w1.heap.size w1 V) [] rfl ((Below.refl _ _).drew) (fun hS => ?_)
          refine rgt 1 (.string s) rfl (by kernel_rfl) (fun _ _ _ h => h) (by kernel_rfl) hS (fun V hV => by go_simp) ?_
          refine rgt 2 (.int .i64 i) rfl (by kernel_rfl) (fun _ _ _ h => h) (by kernel_rfl) hS (fun V hV => by go_simp) ?_
          refine rgt 3 (.int .i64 j0) rfl (by kernel_rfl) (fun _ _ _ h => h) (by kernel_rfl) hS (fun V hV => by go_simp) ?_
          refine rgt 4 (.string (s.extract i j0)) rfl (by kernel_rfl) (fun _ _ _ h => h) (by kernel_rfl) hS (fun V hV => by go_simp) ?_
          refine rg1 0 rfl (by kernel_rfl) (by decide) (by kernel_rfl) (fun K hK => ?_)
          have hS0 := hS
          go_simp
          refine (Words_calls _ h H.drew).mono ?_
          rintro e W1 ⟨v, h1, rfl, r1, m1, k1⟩
          simp only []
          refine hK.out _ _ (below_then hS0 k1 hS0.size) (fun hS => ?_)
          refine rg1 5 rfl (by kernel_rfl) (by decide) (by kernel_rfl) (fun K hK => ?_)
          have hS1 := hS
          have hz := idxS_ge kwB (s.extract i j0) 0 (by omega)
          go_simp
          refine (Index_calls kwB (s.extract i j0) v W1 h1 m1.has r1).mono ?_
          rintro e W2 ⟨rfl, rfl⟩
          simp only []
          refine hK.out _ _ hS1 (fun hS => ?_)
          generalize idxS kwB (s.extract i j0) 0 = z at *
          by_cases hz0 : 0 ≤ z
          · have hb := hz.1 hz0
            have fin := Lib.hid (tokI_some (o := tokK (s.extract i s.size)) (i := i) (n := j0 - i) (k := 4) (j := (j0 : Int)) (by rw [hT'.out, if_pos (show baseIn kwB (s.extract i j0) = true from hb)]) (by omega))
            clear hT' hb hz
            refine rgt 6 (.bool true) rfl (by kernel_rfl) (fun _ _ _ h => h) (by kernel_rfl) hS (fun V hV => by go_simp) ?_
            refine rgd (by kernel_rfl) ?_
            go_wp2_with fail
            go_ret2
            rw [fin.out]
            exact ⟨rfl, hS⟩
          · have hb : ¬ (baseIn kwB (s.extract i j0) = true) := fun q => hz0 (hz.2 q)
            have fin := Lib.hid (tokI_some (o := tokK (s.extract i s.size)) (i := i) (n := j0 - i) (k := 1) (j := (j0 : Int)) (by rw [hT'.out, if_neg hb]) (by omega))
            clear hT' hb hz
            refine rgt 6 (.bool false) rfl (by kernel_rfl) (fun _ _ _ h => h) (by kernel_rfl) hS (fun V hV => by go_simp) ?_
            refine rgd (by kernel_rfl) ?_
            go_wp2_with fail
            go_ret2
            rw [fin.out]
            exact ⟨rfl, hS⟩
        · rw [hq1, Bool.true_and] at hT
          have ka := Lib.hid (RisAt_calls s j0 ⟨#[45]⟩ hs hjl (by decide) w1)
          rcases hq2 : Lib.hasPrefix (s.data.toList.drop j0) [45]
          · rw [hq2] at hT
            have hq3 : Lib.hasPrefix (s.data.toList.drop j0) (⟨#[45]⟩ : ByteArray).data.toList = false := hq2
            rw [hq3] at ka
            simp only [Bool.false_eq_true, if_false] at hT
            have hT' := Lib.hid hT
            clear hT hq2 hq3
            go_wp2_with fail
            refine ka.out.mono ?_
            rintro e wk ⟨rfl, rfl⟩
            go_wp2_with fail
            refine rgs 7 (fun V => Below wk.heap.size wk V) [] rfl ((Below.refl _ _).drew) (fun hS => ?_)
            refine rgt 1 (.string s) rfl (by kernel_rfl) (fun _ _ _ h => h) (by kernel_rfl) hS (fun V hV => by go_simp) ?_
            refine rgt 2 (.int .i64 i) rfl (by kernel_rfl) (fun _ _ _ h => h) (by kernel_rfl) hS (fun V hV => by go_simp) ?_
            refine rgt 3 (.int .i64 j0) rfl (by kernel_rfl) (fun _ _ _ h => h) (by kernel_rfl) hS (fun V hV => by go_simp) ?_
            refine rgt 4 (.string (s.extract i j0)) rfl (by kernel_rfl) (fun _ _ _ h => h) (by kernel_rfl) hS (fun V hV => by go_simp) ?_
            refine rg1 0 rfl (by kernel_rfl) (by decide) (by kernel_rfl) (fun K hK => ?_)
            have hS0 := hS
            go_simp
            refine (Words_calls _ h H.drew).mono ?_
            rintro e W1 ⟨v, h1, rfl, r1, m1, k1⟩
            simp only []
            refine hK.out _ _ (below_then hS0 k1 hS0.size) (fun hS => ?_)
            refine rg1 5 rfl (by kernel_rfl) (by decide) (by kernel_rfl) (fun K hK => ?_)
            have hS1 := hS
            have hz := idxS_ge kwB (s.extract i j0) 0 (by omega)
            go_simp
            refine (Index_calls kwB (s.extract i j0) v W1 h1 m1.has r1).mono ?_
            rintro e W2 ⟨rfl, rfl⟩
            simp only []
            refine hK.out _ _ hS1 (fun hS => ?_)
            generalize idxS kwB (s.extract i j0) 0 = z at *
            by_cases hz0 : 0 ≤ z
            · have hb := hz.1 hz0
              have fin := Lib.hid (tokI_some (o := tokK (s.extract i s.size)) (i := i) (n := j0 - i) (k := 4) (j := (j0 : Int)) (by rw [hT'.out, if_pos (show baseIn kwB (s.extract i j0) = true from hb)]) (by omega))
              clear hT' hb hz
              refine rgt 6 (.bool true) rfl (by kernel_rfl) (fun _ _ _ h => h) (by kernel_rfl) hS (fun V hV => by go_simp) ?_
              refine rgd (by kernel_rfl) ?_
              go_wp2_with fail
              go_ret2
              rw [fin.out]
              exact ⟨rfl, hS⟩
            · have hb : ¬ (baseIn kwB (s.extract i j0) = true) := fun q => hz0 (hz.2 q)
              have fin := Lib.hid (tokI_some (o := tokK (s.extract i s.size)) (i := i) (n := j0 - i) (k := 1) (j := (j0 : Int)) (by rw [hT'.out, if_neg hb]) (by omega))
              clear hT' hb hz
              refine rgt 6 (.bool false) rfl (by kernel_rfl) (fun _ _ _ h => h) (by kernel_rfl) hS (fun V hV => by go_simp) ?_
              refine rgd (by kernel_rfl) ?_
              go_wp2_with fail
              go_ret2
              rw [fin.out]
              exact ⟨rfl, hS⟩
          · rw [hq2] at hT
            have hq3 : Lib.hasPrefix (s.data.toList.drop j0) (⟨#[45]⟩ : ByteArray).data.toList = true := hq2
            rw [hq3] at ka
            have fin := Lib.hid (tokI_some (o := tokK (s.extract i s.size)) (i := i) (n := j0 + 1 - i) (k := 3) (j := (j0 : Int) + 1) (by rw [hT]; rfl) (by omega))
            clear hT hq2 hq3
            go_wp2_with fail
            refine ka.out.mono ?_
            rintro e wk ⟨rfl, rfl⟩
            go_wp2_with fail
            go_ret2
            rw [fin.out]
            exact ⟨rfl, hb0⟩
  · have G := Lib.hid (tokK_capital hr' h1)
    rw [h1] at kc
    have kc' := Lib.hid kc
    have fin := Lib.hid (tokI_some (o := tokK (s.extract i s.size)) (i := i) (n := runK (s.data.toList.drop i)) (k := 2) (j := ((i + runK (s.data.toList.drop i) : Nat) : Int)) (by rw [G.out, hr]) rfl)
    clear kc h1 ks hr hr' hd
    go_enter Tryz.func200, Tryz.ntmps200
    go_wp2_with fail
    refine kc'.out.mono ?_
    rintro e w' ⟨rfl, rfl⟩
    go_wp2_with fail
    refine kr.out.mono ?_
    rintro e w1 ⟨rfl, rfl⟩
    go_wp2_with fail
    go_ret2
    rw [fin.out]
    exact ⟨rfl, hb0⟩
end Go.Proofs.YtpgbeapojjinmaaGreatDoor
namespace Go.Proofs.YtpgbeapojjinmaaGreatDoor
open Go.RowKit Go.Shelf Go.Proofs.YtpgbeapojjinmaaGreatDoorW.PrintLast
/-! ### A text is one name: as the document says it -/
/-- The document's test: a text is one token of a kind. -/
def chkTokK (s : ByteArray) (kk : Int) : Bool := decide (0 < s.size) && (decide (s.size ≤ 40) && (!isBlank (s.data.toList.headD 0) && (!(s.data.toList.headD 0 == 37) && (match tokK s with
  | some (k, n) => k == kk && n == s.size
  | none => false))))
theorem ext_all (s : ByteArray) : s.extract 0 s.size = s := by
  apply ByteArray.ext
  apply Array.ext'
  exact (Lib.extract_to_end s 0).trans (List.drop_zero)
theorem skip_zero {s : ByteArray} (h : 0 < s.size) : skipK false s.data.toList = 0 ↔ (isBlank (s.data.toList.headD 0) = false ∧ (s.data.toList.headD 0 == 37) = false) := by
  have hd := drop_at s 0 h
  rw [List.drop_zero] at hd
  rw [hd]
  simp only [skipK, List.headD_cons]
  split
  · rename_i c; constructor
    · intro q; omega
    · rintro ⟨q, _⟩; rw [q] at c; cases c
  · rename_i c
    split
    · rename_i c2; constructor
      · intro q; omega
      · rintro ⟨_, q⟩; rw [q] at c2; cases c2
    · rename_i c2; exact ⟨fun _ => ⟨by simpa using c, by simpa using c2⟩, fun _ => rfl⟩
theorem lexRun_run {s : ByteArray} {f p m : Nat} {x : Tok} {l : List Tok} (h : lexRun s (f + 1) p m = (x :: l, none)) : p < s.size ∧ ∃ n, tokK (s.extract p s.size) = some (x.k, n) ∧ x.t = (s.extract p s.size).extract 0 n ∧ ¬ ((x.k = 1 ∨ x.k = 2) ∧ 40 < n) ∧
    lexRun s f (p + n + skipK false (s.data.toList.drop (p + n))) (m + 1) = (l, none) := by
  rw [lexRun] at h
  split at h
  · rename_i hp
    refine ⟨hp, ?_⟩
    split at h
    · simp at h
    · rename_i k n hk
      split at h
      · simp at h
      · split at h
        · simp at h
        · rename_i h40
          simp only [Prod.mk.injEq, List.cons.injEq] at h
          obtain ⟨⟨rfl, h1⟩, h2⟩ := h
          exact ⟨n, hk, rfl, h40, Prod.ext h1 h2⟩
  · simp at h
theorem size_ext (s : ByteArray) (a b : Nat) : (s.extract a b).size = min b s.size - a := by simp [ByteArray.size_extract]
theorem eq_of_toList {a b : ByteArray} (h : (a.toList == b.toList) = true) : a = b := by
  apply ByteArray.ext
  apply Array.ext'
  rw [← ByteArray.toList_eq, ← ByteArray.toList_eq]
  simpa using h
theorem isTok_chk (s : ByteArray) : isTok s 1 = chkTokK s 1 := by
  rw [Bool.eq_iff_iff]
  constructor
  · intro h
    unfold isTok at h
    split at h
    · rename_i x q c hs
      simp only [Bool.and_eq_true, beq_iff_eq] at h
      obtain ⟨hc, hk, ht⟩ := h
      unfold scanR at hs
      split at hs
      · simp at hs
      · split at hs
        · rename_i hn
          simp only [Prod.mk.injEq] at hs
          have hl : lexAll s = ([x], none) := Prod.ext hs.1 hn
          unfold lexAll at hl
          obtain ⟨hp, n, h1, h2, h3, h4⟩ := lexRun_run hl
          have hx := eq_of_toList (a := x.t) (b := s) (by rw [ht]; exact beq_self_eq_true _)
          have hsz := congrArg ByteArray.size hx
          rw [h2, size_ext, size_ext] at hsz
          have hp0 : skipK false s.data.toList = 0 := by omega
          rw [hp0] at h1 h2 hp
          rw [ext_all] at h1
          have hl := tokK_len hp h1
          have hn2 : n = s.size := by omega
          have := (skip_zero hp).1 hp0
          unfold chkTokK
          rw [h1, this.1, this.2]
          simp only [hk, hn2, true_or, true_and] at h3 ⊢
          simp
          omega
        · simp at hs
    · cases h
  · intro h
    unfold chkTokK at h
    simp only [Bool.and_eq_true, decide_eq_true_eq, Bool.not_eq_true'] at h
    obtain ⟨h0, h40, hb, hp, ht⟩ := h
    split at ht
    · rename_i k n hk
      simp only [Bool.and_eq_true, beq_iff_eq] at ht
      obtain ⟨rfl, rfl⟩ := ht
      have hz := (skip_zero h0).2 ⟨hb, hp⟩
      have e : lexAll s = ([⟨1, s, 0⟩], none) := by
        unfold lexAll
        rw [hz]
        rw [lexRun_tok (k := 1) (n := s.size) h0 (by rw [ext_all]; exact hk) (by omega) (by omega)]
        rw [ext_all, ext_all, Nat.zero_add, List.drop_eq_nil_of_le (by rw [← Lib.size_eq]; exact Nat.le_refl _)]
        obtain ⟨f, hf⟩ : ∃ f, s.size = f + 1 := ⟨s.size - 1, by omega⟩
        have : lexRun s s.size (s.size + skipK false []) (0 + 1) = ([], none) := by
          conv => lhs; arg 2; rw [hf]
          exact lexRun_end (by omega)
        rw [this]
      have hs : scanR s = ([⟨1, s, 0⟩], 0, 0) := by
        unfold scanR
        rw [if_neg (by omega), e]
      rw [isTok_one hs]
      simp
    · cases ht
end Go.Proofs.YtpgbeapojjinmaaGreatDoor
namespace Go.Proofs.YtpgbeapojjinmaaGreatDoor
open Go.RowKit Go.Shelf Go.Proofs.YtpgbeapojjinmaaGreatDoorW.PrintLast
theorem tokK_pos {r : ByteArray} {k : Int} {n : Nat} (h : tokK r = some (k, n)) : (k == 0) = false := by
  unfold tokK at h
  split at h
  · split at h
    · cases h; rfl
    · split at h <;> (cases h; rfl)
  · split at h
    · cases h; rfl
    · split at h
      · cases h; rfl
      · split at h
        · split at h
          · cases h
          · cases h; rfl
        · split at h
          · cases h; rfl
          · cases h
def chkE (b : Bool) : Int := if b then 0 else 12
set_option maxRecDepth 100000 in
set_option maxHeartbeats 4000000 in
theorem RCheck_calls (s : ByteArray) (k p : Int) (w : World) (h : Snap) (H : Has w h) :
    Calls Tryz.prog 214 #[.agg #[.int .i64 k, .string s, .int .i64 p]] w fun e w' => e = .returned (.int .i64 (chkE (chkTokK s k))) ∧ Below w.heap.size w w' := by
  have hu170 := Tryz.underlying170
  obtain ⟨b1, ab⟩ := alloc1 w (.cells #[.int .i64 k, .string s, .int .i64 p] 170)
  obtain ⟨x0, x1, x2⟩ := box3 b1
  by_cases h0 : 0 < s.size
  · by_cases h40 : s.size ≤ 40
    · have hd := drop_at s 0 h0
      rw [List.drop_zero] at hd
      have hh : s.data.toList.headD 0 = s[0] := by rw [hd]; rfl
      have h0' : ((s.size : Int) == 0) = false := beq_eq_false_iff_ne.2 (by omega)
      have h40' : ¬ (40 < (s.size : Int)) := by omega
      have kb := Rblank_calls (s[0]'h0)
      have tp : (((s[0].toNat : Nat) : Int) == 37) = (s[0] == 37) := byte_eq _ 37
      cases hb : isBlank s[0]
      · rw [hb] at kb
        have kb' := Lib.hid kb
        clear kb
        cases hp : s[0] == 37
        · rw [hp] at tp
          have kt := Rtoken_calls s 0 (by omega) h0
          rw [ext_all] at kt
          cases ht : tokK s with
          | none =>
            have G := Lib.hid (show chkTokK s k = false by unfold chkTokK; rw [ht]; simp)
            rw [ht] at kt
            have kt' := Lib.hid kt
            have hn0 : (((0 : Int)) != (s.size : Int)) = true := by simp; omega
            clear kt ht hb hp hh hd
            by_cases hk : k = 0
            · subst hk
              go_enter Tryz.func214, Tryz.ntmps214
              go_wp2_with fail
              refine (kb'.out _).mono ?_
              rintro e w1 ⟨rfl, rfl⟩
              go_wp2_with fail
              refine (kt'.out _ h (H.below ab)).mono ?_
              rintro e w2 ⟨rfl, k2⟩
              simp only [tokI]
              obtain ⟨y0, y1, y2⟩ := box3 (box_below b1 k2)
              go_wp2_with fail
              go_ret
              rw [G.out]
              exact ⟨rfl, below_then ab k2 ab.size⟩
            · have hk' : ((0 : Int) != k) = true := by simp; omega
              clear hk
              go_enter Tryz.func214, Tryz.ntmps214
              go_wp2_with fail
              refine (kb'.out _).mono ?_
              rintro e w1 ⟨rfl, rfl⟩
              go_wp2_with fail
              refine (kt'.out _ h (H.below ab)).mono ?_
              rintro e w2 ⟨rfl, k2⟩
              simp only [tokI]
              obtain ⟨y0, y1, y2⟩ := box3 (box_below b1 k2)
              go_wp2_with fail
              go_ret
              rw [G.out]
              exact ⟨rfl, below_then ab k2 ab.size⟩
          | some kn =>
            obtain ⟨kk, n⟩ := kn
            have hk0 := tokK_pos ht
            have G := Lib.hid (show chkTokK s k = (kk == k && n == s.size) by unfold chkTokK; rw [ht, hh, hb, hp]; simp [h0, h40])
            rw [ht] at kt
            have kt' := Lib.hid kt
            clear kt ht hb hp hh hd
            cases hq : kk == k
            · have hq' : (kk != k) = true := by simp at hq ⊢; exact hq
              rw [hq] at G
              clear hq
              go_enter Tryz.func214, Tryz.ntmps214
              go_wp2_with fail
              refine (kb'.out _).mono ?_
              rintro e w1 ⟨rfl, rfl⟩
              go_wp2_with fail
              refine (kt'.out _ h (H.below ab)).mono ?_
              rintro e w2 ⟨rfl, k2⟩
              simp only [tokI]
              obtain ⟨y0, y1, y2⟩ := box3 (box_below b1 k2)
              go_wp2_with fail
              go_ret
              rw [G.out]
              exact ⟨rfl, below_then ab k2 ab.size⟩
            · have hq' : (kk != k) = false := by simp at hq ⊢; exact hq
              rw [hq] at G
              clear hq
              cases hn : n == s.size
              · rw [hn] at G
                have hn' : ((n : Int) != (s.size : Int)) = true := by simp at hn ⊢; omega
                clear hn
                go_enter Tryz.func214, Tryz.ntmps214
                go_wp2_with fail
                refine (kb'.out _).mono ?_
                rintro e w1 ⟨rfl, rfl⟩
                go_wp2_with fail
                refine (kt'.out _ h (H.below ab)).mono ?_
                rintro e w2 ⟨rfl, k2⟩
                simp only [tokI, Nat.zero_add]
                obtain ⟨y0, y1, y2⟩ := box3 (box_below b1 k2)
                go_wp2_with fail
                go_ret
                rw [G.out]
                exact ⟨rfl, below_then ab k2 ab.size⟩
              · rw [hn] at G
                have hn' : ((n : Int) != (s.size : Int)) = false := by simp at hn ⊢; omega
                clear hn
                go_enter Tryz.func214, Tryz.ntmps214
                go_wp2_with fail
                refine (kb'.out _).mono ?_
                rintro e w1 ⟨rfl, rfl⟩
                go_wp2_with fail
                refine (kt'.out _ h (H.below ab)).mono ?_
                rintro e w2 ⟨rfl, k2⟩
                simp only [tokI, Nat.zero_add]
                obtain ⟨y0, y1, y2⟩ := box3 (box_below b1 k2)
                go_wp2_with fail
                go_ret
                rw [G.out]
                exact ⟨rfl, below_then ab k2 ab.size⟩
        · rw [hp] at tp
          have G := Lib.hid (show chkTokK s k = false by unfold chkTokK; rw [hh, hp]; simp)
          clear hb hp hh hd
          go_enter Tryz.func214, Tryz.ntmps214
          go_wp2_with fail
          refine (kb'.out _).mono ?_
          rintro e w1 ⟨rfl, rfl⟩
          go_wp2_with fail
          go_ret
          rw [G.out]
          exact ⟨rfl, ab⟩
      · rw [hb] at kb
        have kb' := Lib.hid kb
        clear kb
        have G := Lib.hid (show chkTokK s k = false by unfold chkTokK; rw [hh, hb]; simp)
        clear hb hh hd tp
        go_enter Tryz.func214, Tryz.ntmps214
        go_wp2_with fail
        refine (kb'.out _).mono ?_
        rintro e w1 ⟨rfl, rfl⟩
        go_wp2_with fail
        go_ret
        rw [G.out]
        exact ⟨rfl, ab⟩
    · have h0' : ((s.size : Int) == 0) = false := beq_eq_false_iff_ne.2 (by omega)
      have h40' : (40 < (s.size : Int)) := by omega
      have G := Lib.hid (show chkTokK s k = false by unfold chkTokK; simp [h40])
      go_enter Tryz.func214, Tryz.ntmps214
      go_wp2_with fail
      go_ret
      rw [G.out]
      exact ⟨rfl, ab⟩
  · have h0' : ((s.size : Int) == 0) = true := beq_iff_eq.2 (by omega)
    have G := Lib.hid (show chkTokK s k = false by unfold chkTokK; simp [h0])
    clear h0
    go_enter Tryz.func214, Tryz.ntmps214
    go_wp2_with fail
    go_ret
    rw [G.out]
    exact ⟨rfl, ab⟩
set_option maxRecDepth 100000 in
set_option maxHeartbeats 4000000 in
theorem RIsName_calls (s : ByteArray) (w : World) (h : Snap) (H : Has w h) : Calls Tryz.prog 159 #[.string s] w fun e w' => e = .returned (.bool (isTok s 1)) ∧ Below w.heap.size w w' := by
  have kc := RCheck_calls s 1 0 w h H
  rw [isTok_chk]
  cases hc : chkTokK s 1
  · rw [hc] at kc
    have kc' := Lib.hid kc
    clear kc hc
    go_enter Tryz.func159, Tryz.ntmps159
    go_wp2_with fail
    refine kc'.out.mono ?_
    rintro e w1 ⟨rfl, k1⟩
    simp only [chkE]
    go_wp2_with fail
    go_ret
    exact ⟨rfl, k1⟩
  · rw [hc] at kc
    have kc' := Lib.hid kc
    clear kc hc
    go_enter Tryz.func159, Tryz.ntmps159
    go_wp2_with fail
    refine kc'.out.mono ?_
    rintro e w1 ⟨rfl, k1⟩
    simp only [chkE]
    go_wp2_with fail
    go_ret
    exact ⟨rfl, k1⟩
end Go.Proofs.YtpgbeapojjinmaaGreatDoor
