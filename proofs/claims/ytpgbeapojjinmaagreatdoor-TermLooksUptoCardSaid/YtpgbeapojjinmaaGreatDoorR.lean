/- lex: bytes, skip, classes. · lex: classes, token. No law is proved here. -/
import Derived.Test.YtpgbeapojjinmaaGreatDoorP
import Derived.Test.YtpgbeapojjinmaaGreatDoorSH
import Derived.LoopN
set_option linter.unusedVariables false
set_option linter.unusedSimpArgs false
namespace Go.Proofs
open Go.RowKit Go.Shelf
namespace YtpgbeapojjinmaaGreatDoor
open Go.RowKit Go.Shelf Go.Proofs.YtpgbeapojjinmaaGreatDoorW.PrintLast
theorem IndexByte263 (s : ByteArray) (c : Int) (w : World) :
    Calls Tryz.prog 263 #[.string s, .int .u8 c] w fun e w' => e = .returned (.int .i64 (Lib.indexByte s.data.toList c.toNat.toUInt8)) ∧ w' = w := Any.stringslite_IndexByte Tryz.lays217 s c w
set_option maxRecDepth 100000 in
set_option maxHeartbeats 4000000 in
theorem IndexByte_calls (s : ByteArray) (c : Int) (w : World) :
    Calls Tryz.prog 247 #[.string s, .int .u8 c] w fun e w' => e = .returned (.int .i64 (Lib.indexByte s.data.toList c.toNat.toUInt8)) ∧ w' = w := by
  go_enter Tryz.func247, Tryz.ntmps247
  go_wp2_with (go_at_call 263; refine (IndexByte263 _ _ _).mono ?_; rintro e w' ⟨rfl, rfl⟩)
  go_ret
  exact ⟨rfl, rfl⟩
def isBlank (c : UInt8) : Bool := c == 32 || (c == 9 || c == 10)
/-- How many bytes are blank, or of comments, ahead of the next token (true: within a comment). -/
def skipK : Bool → List UInt8 → Nat
  | _, [] => 0
  | true, c :: cs => if c == 10 then 1 + skipK false cs else 1 + skipK true cs
  | false, c :: cs => if isBlank c then 1 + skipK false cs else if c == 37 then 1 + skipK true cs else 0
theorem skipK_le : ∀ (l : List UInt8) (b : Bool), skipK b l ≤ l.length
  | [], b => by cases b <;> simp [skipK]
  | c :: cs, true => by have h1 := skipK_le cs true; have h2 := skipK_le cs false; simp only [skipK, List.length_cons]; split <;> omega
  | c :: cs, false => by
    have h1 := skipK_le cs true; have h2 := skipK_le cs false
    simp only [skipK, List.length_cons]
    split
    · omega
    · split <;> omega
theorem skip_comment : ∀ (l : List UInt8), (Lib.indexByte l 10 = -1 ∧ skipK true l = l.length) ∨ (∃ n : Nat, Lib.indexByte l 10 = n ∧ n < l.length ∧ skipK true l = n + skipK false (l.drop n))
  | [] => by simp [Lib.indexByte, skipK]
  | c :: cs => by
    by_cases hc : c = 10
    · subst hc
      refine .inr ⟨0, by simp [Lib.indexByte], by simp, ?_⟩
      simp [skipK, isBlank]
    · rcases skip_comment cs with ⟨h1, h2⟩ | ⟨n, h1, h2, h3⟩
      · exact .inl ⟨by simp [Lib.indexByte, hc, h1], by simp [skipK, hc, h2]; omega⟩
      · refine .inr ⟨n + 1, ?_, by simp; omega, by simp [skipK, hc, h3]; omega⟩
        have : ¬ ((n : Int) = -1) := by omega
        simp [Lib.indexByte, hc, h1, this]
theorem drop_at (s : ByteArray) (p : Nat) (h : p < s.size) : s.data.toList.drop p = s[p] :: s.data.toList.drop (p + 1) := by
  have hl : p < s.data.toList.length := by rw [← Lib.size_eq]; exact h
  rw [List.drop_eq_getElem_cons hl]
  have := Lib.data_getElem? s p h
  rw [List.getElem?_eq_getElem hl] at this
  rw [Option.some.inj this]
theorem byte_eq (c k : UInt8) : (((c.toNat : Nat) : Int) == ((k.toNat : Nat) : Int)) = (c == k) := by
  by_cases h : c = k
  · subst h; rw [beq_self_eq_true, beq_self_eq_true]
  · have : ¬ (((c.toNat : Nat) : Int) = ((k.toNat : Nat) : Int)) := fun e => h (UInt8.toNat_inj.1 (by omega))
    rw [beq_eq_false_iff_ne.2 h, beq_eq_false_iff_ne.2 this]
set_option maxRecDepth 100000 in
set_option maxHeartbeats 4000000 in
theorem skip_calls (s : ByteArray) (p0 : Nat) (hs : s.size ≤ 20000) (hp : p0 ≤ s.size) (w : World) :
    Calls Tryz.prog 229 #[.string s, .int .i64 p0] w fun e w' => e = .returned (.int .i64 ((p0 + skipK false (s.data.toList.drop p0) : Nat) : Int)) ∧ w' = w := by
  go_enter Tryz.func229, Tryz.ntmps229
  go_wp2_with fail
  go_loopw [1] (fun i wr => ∃ p : Nat, p ≤ s.size ∧ i = .int .i64 p ∧ wr = w ∧ Hid (p + skipK false (s.data.toList.drop p) = p0 + skipK false (s.data.toList.drop p0))) (fun i _ => (s.size : Int).toNat - (intOf i).toNat)
  case atStart => exact ⟨p0, hp, rfl, rfl, Lib.hid rfl⟩
  case round =>
    obtain ⟨p, hple, rfl, rfl, hrel⟩ := hrel
    by_cases hlt : p < s.size
    · have hd := Lib.hid (drop_at s p hlt)
      have t1 : (((s[p].toNat : Nat) : Int) == 32) = (s[p] == 32) := byte_eq _ 32
      have t2 : (((s[p].toNat : Nat) : Int) == 9) = (s[p] == 9) := byte_eq _ 9
      have t3 : (((s[p].toNat : Nat) : Int) == 10) = (s[p] == 10) := byte_eq _ 10
      have t4 : (((s[p].toNat : Nat) : Int) == 37) = (s[p] == 37) := byte_eq _ 37
      have hb : isBlank s[p] = (s[p] == 32 || (s[p] == 9 || s[p] == 10)) := rfl
      obtain ⟨e1, h1⟩ : ∃ e, (s[p] == 32) = e := ⟨_, rfl⟩
      obtain ⟨e2, h2⟩ : ∃ e, (s[p] == 9) = e := ⟨_, rfl⟩
      obtain ⟨e3, h3⟩ : ∃ e, (s[p] == 10) = e := ⟨_, rfl⟩
      obtain ⟨e4, h4⟩ : ∃ e, (s[p] == 37) = e := ⟨_, rfl⟩
      rw [h1] at t1 hb
      rw [h2] at t2 hb
      rw [h3] at t3 hb
      rw [h4] at t4
      have hb' := Lib.hid hb
      have h4' := Lib.hid h4
      have h3' := Lib.hid h3
      clear hb h1 h2 h3 h4
      by_cases hbl : (e1 || (e2 || e3)) = true
      · have fin : p + 1 + skipK false (s.data.toList.drop (p + 1)) = p0 + skipK false (s.data.toList.drop p0) := by
          rw [← hrel.out, hd.out, skipK, hb'.out, if_pos hbl]; omega
        have fin' := Lib.hid fin
        clear fin
        cases e1 <;> cases e2 <;> cases e3 <;> first
          | (exfalso; revert hbl; decide)
          | (go_wp2_with fail
             exact ⟨⟨p + 1, by omega, by simp, trivial, fin'⟩, by simp [intOf]; omega⟩)
      · have hbf : (e1 || (e2 || e3)) = false := by simpa using hbl
        obtain ⟨rfl, rfl, rfl⟩ : e1 = false ∧ e2 = false ∧ e3 = false := by cases e1 <;> cases e2 <;> cases e3 <;> simp_all
        cases e4 with
        | false =>
          have fin : (p : Int) = ((p0 + skipK false (s.data.toList.drop p0) : Nat) : Int) := by
            rw [← hrel.out, hd.out, skipK, hb'.out, if_neg (by simp), if_neg (by rw [h4'.out]; simp)]; simp
          have fin' := Lib.hid fin
          clear fin
          go_wp2_with fail
          go_ret
          exact ⟨ret_int fin'.out, rfl⟩
        | true =>
          have hc := skip_comment (s.data.toList.drop p)
          have hext := Lib.extract_to_end s p
          rw [← hext] at hc
          have hsk : skipK true (s.data.toList.drop p) = skipK false (s.data.toList.drop p) := by
            rw [hd.out, skipK, skipK, hb'.out, if_neg (by rw [h3'.out]; simp), if_neg (by simp), if_pos h4'.out]
          rw [hext] at hc
          rw [hsk] at hc
          rw [← hext] at hc
          rcases hc with ⟨hidx, h2⟩ | ⟨n, hidx, hn, h2⟩
          · have hidx' : Lib.indexByte (s.extract p s.size).data.toList ((10 : Int).toNat.toUInt8) = -1 := hidx
            have fin' : s.size + skipK false (s.data.toList.drop s.size) = p0 + skipK false (s.data.toList.drop p0) := by
              rw [← hrel.out, ← hext, h2, List.drop_eq_nil_of_le (by rw [← Lib.size_eq]; exact Nat.le_refl _), hext, List.length_drop, ← Lib.size_eq]; simp [skipK]; omega
            have fin := Lib.hid fin'
            clear hidx h2 fin'
            go_wp2_with (go_at_call 247; refine (IndexByte_calls _ _ _).mono ?_; rintro e w' ⟨rfl, rfl⟩; rw [hidx'])
            exact ⟨⟨s.size, by omega, by simp, trivial, fin⟩, by simp [intOf]; omega⟩
          · have hidx' : Lib.indexByte (s.extract p s.size).data.toList ((10 : Int).toNat.toUInt8) = n := hidx
            have hn0 : n ≠ 0 := by
              rintro rfl
              rw [hext, hd.out] at hidx
              simp only [Lib.indexByte, h3'.out, Bool.false_eq_true, if_false] at hidx
              split at hidx
              · simp at hidx
              · rename_i hh
                exact hh (by rw [beq_iff_eq]; simp at hidx; omega)
            have hln : p + n < s.size := by
              rw [hext, List.length_drop, ← Lib.size_eq] at hn; omega
            have fin' : (p + n) + skipK false (s.data.toList.drop (p + n)) = p0 + skipK false (s.data.toList.drop p0) := by
              rw [← hrel.out, ← hext, h2, hext, List.drop_drop]; omega
            have fin := Lib.hid fin'
            clear hidx h2 fin' hn
            go_wp2_with (go_at_call 247; refine (IndexByte_calls _ _ _).mono ?_; rintro e w' ⟨rfl, rfl⟩; rw [hidx'])
            exact ⟨⟨p + n, by omega, by simp, trivial, fin⟩, by simp [intOf]; omega⟩
    · obtain rfl : p = s.size := by omega
      have fin : (s.size : Int) = ((p0 + skipK false (s.data.toList.drop p0) : Nat) : Int) := by
        rw [← hrel.out, List.drop_eq_nil_of_le (by rw [← Lib.size_eq]; exact Nat.le_refl _)]; simp [skipK]
      go_wp2_with fail
      go_ret
      exact ⟨ret_int fin, rfl⟩
end YtpgbeapojjinmaaGreatDoor
end Go.Proofs
namespace Go.Proofs.YtpgbeapojjinmaaGreatDoor
open Go.RowKit Go.Shelf Go.Proofs.YtpgbeapojjinmaaGreatDoorW.PrintLast
def isSmall (c : UInt8) : Bool := decide (97 ≤ c.toNat) && decide (c.toNat ≤ 122)
def isCap (c : UInt8) : Bool := decide (65 ≤ c.toNat) && decide (c.toNat ≤ 90)
def isPart (c : UInt8) : Bool := isSmall c || (isCap c || (decide (48 ≤ c.toNat) && decide (c.toNat ≤ 57) || (c == 95 || c == 39)))
set_option maxRecDepth 100000 in
set_option maxHeartbeats 4000000 in
theorem small_calls (c : UInt8) (w : World) : Calls Tryz.prog 251 #[.int .u8 c.toNat] w fun e w' => e = .returned (.bool (isSmall c)) ∧ w' = w := by
  have hc := c.toNat_lt
  by_cases h1 : 97 ≤ c.toNat
  · by_cases h2 : c.toNat ≤ 122
    · go_enter Tryz.func251, Tryz.ntmps251
      go_wp2_with fail
      go_ret
      simp [isSmall, isCap, h1, h2] <;> omega
    · go_enter Tryz.func251, Tryz.ntmps251
      go_wp2_with fail
      go_ret
      simp [isSmall, isCap, h1, h2] <;> omega
  · go_enter Tryz.func251, Tryz.ntmps251
    go_wp2_with fail
    go_ret
    simp [isSmall, isCap, h1] <;> omega
set_option maxRecDepth 100000 in
set_option maxHeartbeats 4000000 in
theorem capital_calls (c : UInt8) (w : World) : Calls Tryz.prog 253 #[.int .u8 c.toNat] w fun e w' => e = .returned (.bool (isCap c)) ∧ w' = w := by
  have hc := c.toNat_lt
  by_cases h1 : 65 ≤ c.toNat
  · by_cases h2 : c.toNat ≤ 90
    · go_enter Tryz.func253, Tryz.ntmps253
      go_wp2_with fail
      go_ret
      simp [isSmall, isCap, h1, h2] <;> omega
    · go_enter Tryz.func253, Tryz.ntmps253
      go_wp2_with fail
      go_ret
      simp [isSmall, isCap, h1, h2] <;> omega
  · go_enter Tryz.func253, Tryz.ntmps253
    go_wp2_with fail
    go_ret
    simp [isSmall, isCap, h1] <;> omega
theorem zero252 : Tryz.zeroCells252 = Array.replicate 256 (.bool false) := by kernel_rfl
theorem info252 : (Tryz.prog.info? 252).map (·.size) = some 256 := by kernel_rfl
/-- Whether a list of bytes has the byte numbered i. -/
def hasB (l : List UInt8) (i : Nat) : Bool := l.any (fun c => c.toNat == i)
/-- The table of the bytes of a list. -/
def tabB (l : List UInt8) (cs : Array Value) : Prop := cs.size = 256 ∧ ∀ i, i < 256 → cs[i]? = some (.bool (hasB l i))
set_option maxRecDepth 100000 in
set_option maxHeartbeats 4000000 in
theorem classes_calls (s : ByteArray) (w : World) (hs : s.size ≤ 20000) : Calls Tryz.prog 248 #[.string s] w fun e w' => ∃ cs, e = .returned (.agg cs) ∧ tabB s.data.toList cs ∧ Below w.heap.size w w' := by
  go_enter Tryz.func248, Tryz.ntmps248
  go_wp2_with fail
  go_loopw [6] (fun i wr => ∃ k : Nat, ∃ cs : Array Value, k ≤ s.size ∧ i = .int .i64 k ∧ wr.heap[w.heap.size]? = some (.cells cs 252) ∧ tabB (s.data.toList.take k) cs ∧ Below w.heap.size w wr) (fun i _ => (s.size : Int).toNat - (intOf i).toNat)
  case atStart => exact ⟨0, Tryz.zeroCells252, by omega, rfl, blk_new _ _, ⟨by kernel_rfl, fun i hi => by
      rw [zero252]
      simp [hasB, hi]⟩, (alloc1 w _).2⟩
  case round =>
    obtain ⟨k, cs, hk, rfl, hb, ⟨hc, htab⟩, hbel⟩ := hrel
    by_cases hlt : k < s.size
    · have fz := blk_frozen hb
      have cl := blk_cell hb (s[k].toNat)
      have hl := s[k].toNat_lt
      have hcl : s[k].toNat < cs.size := by omega
      rw [Array.getElem?_eq_getElem hcl] at cl
      go_wp2_with fail
      refine ⟨⟨k + 1, cs.setIfInBounds s[k].toNat (.bool true), by omega, by simp, blk_set hb _ _, ⟨by simp [hc], fun i hi => ?_⟩, hbel.setCell (by simp) _⟩, by simp [intOf]; omega⟩
      have hlt' : k < s.data.toList.length := by rw [← Lib.size_eq]; exact hlt
      have he : s.data.toList[k] = s[k] := by
        have := Lib.data_getElem? s k hlt
        rw [List.getElem?_eq_getElem hlt'] at this
        exact Option.some.inj this
      rw [take_snoc _ _ hlt', he]
      have : hasB (s.data.toList.take k ++ [s[k]]) i = (hasB (s.data.toList.take k) i || (s[k].toNat == i)) := by simp [hasB]
      rw [this]
      by_cases hi2 : s[k].toNat = i
      · subst hi2; simp [hc, hi]
      · rw [Array.getElem?_setIfInBounds_ne hi2, htab i hi, beq_eq_false_iff_ne.2 hi2, Bool.or_false]
    · obtain rfl : k = s.size := by omega
      rw [List.take_of_length_le (by rw [← Lib.size_eq]; exact Nat.le_refl _)] at htab
      go_wp2_with fail
      refine wp_load_row 252 (.tmp 2) rfl w.heap.size rfl 252 cs (0, 0) _ hb Tryz.underlying252 rfl (by rw [hc]; exact info252) ?_
      have hall : ∀ v ∈ cs.toList, v.oneCell' = true := fun v hv => by
        obtain ⟨i, hi, e⟩ := List.mem_iff_getElem.1 hv
        have := htab i (by simp at hi; omega)
        rw [Array.getElem?_eq_getElem (by simpa using hi)] at this
        simp at e
        rw [← e, Option.some.inj this]
        rfl
      have hst : (storeCells ⟨w.heap.size, 0, none⟩ cs.toList).run Tryz.prog wr = .ok () wr := by
        have := run_storeCells_from (P := Tryz.prog) w.heap.size 252 cs.toList 0 cs wr hb (by simp) hall
        rw [this]
        simp only [List.take_zero, List.nil_append, Array.toArray_toList]
        rw [setRow_self _ _ _ _ _ hb]
      go_wp2_with fail
      refine bodyPost_ret (v := .agg cs) (results_cell_row (p := 2) (ty := 252) rfl _ _ w.heap.size 252 cs (0, 0) _ rfl hb Tryz.underlying252 rfl (by rw [hc]; exact info252)) rfl ?_
      exact ⟨cs, rfl, ⟨hc, htab⟩, hbel⟩
def lettersB : ByteArray := ⟨#[97, 98, 99, 100, 101, 102, 103, 104, 105, 106, 107, 108, 109, 110, 111, 112, 113, 114, 115, 116, 117, 118, 119, 120, 121, 122, 65, 66, 67, 68, 69, 70, 71, 72, 73, 74, 75, 76, 77, 78, 79, 80, 81, 82, 83, 84, 85, 86, 87, 88, 89, 90, 48, 49, 50, 51, 52, 53, 54, 55, 56, 57, 95, 39]⟩
set_option maxRecDepth 100000 in
theorem part_fin : ∀ i : Fin 256, hasB lettersB.data.toList i.val = isPart (UInt8.ofNat i.val) := by decide
theorem part_tab (c : UInt8) : hasB lettersB.data.toList c.toNat = isPart c := by
  have := part_fin ⟨c.toNat, c.toNat_lt⟩
  rwa [UInt8.ofNat_toNat] at this
def runK (l : List UInt8) : Nat := (l.takeWhile isPart).length
theorem runK_le (l : List UInt8) : runK l ≤ l.length := (List.takeWhile_sublist _).length_le
set_option maxRecDepth 100000 in
set_option maxHeartbeats 4000000 in
theorem run_calls (r : ByteArray) (n b6 b7 : Nat) (cs : Array Value) (hs : r.size ≤ 20000) (hn : n ≤ r.size) (w : World) (h6 : w.heap[b6]? = some (.cells #[.string r] 9)) (h7 : w.heap[b7]? = some (.cells cs 252)) (ht : tabB lettersB.data.toList cs) :
    Calls Tryz.prog 249 #[.int .i64 n, .pointer (some ⟨b6, 0, none⟩), .pointer (some ⟨b7, 0, none⟩)] w fun e w' => e = .returned (.int .i64 ((n + runK (r.data.toList.drop n) : Nat) : Int)) ∧ w' = w := by
  obtain ⟨hc, htab⟩ := ht
  have c6 := box1 h6
  go_enter Tryz.func249, Tryz.ntmps249
  go_wp2_with fail
  go_loopw [0] (fun i wr => ∃ p : Nat, p ≤ r.size ∧ i = .int .i64 p ∧ wr = w ∧ Hid (p + runK (r.data.toList.drop p) = n + runK (r.data.toList.drop n))) (fun i _ => (r.size : Int).toNat - (intOf i).toNat)
  case atStart => exact ⟨n, hn, rfl, rfl, Lib.hid rfl⟩
  case round =>
    obtain ⟨p, hple, rfl, rfl, hrel⟩ := hrel
    by_cases hlt : p < r.size
    · have hd := Lib.hid (drop_at r p hlt)
      have cl := blk_cell h7 (r[p].toNat)
      have hl := r[p].toNat_lt
      rw [htab _ hl, part_tab] at cl
      obtain ⟨b, hb⟩ : ∃ b, isPart r[p] = b := ⟨_, rfl⟩
      rw [hb] at cl
      have hb' := Lib.hid hb
      clear hb
      cases b with
      | true =>
        have fin' := Lib.hid (show p + 1 + runK (r.data.toList.drop (p + 1)) = n + runK (r.data.toList.drop n) by
          rw [← hrel.out, hd.out, runK, runK, List.takeWhile_cons_of_pos hb'.out]; simp; omega)
        go_wp2_with fail
        exact ⟨⟨p + 1, by omega, by simp, trivial, fin'⟩, by simp [intOf]; omega⟩
      | false =>
        have fin' := Lib.hid (show (p : Int) = ((n + runK (r.data.toList.drop n) : Nat) : Int) by
          rw [← hrel.out, hd.out, runK, List.takeWhile_cons_of_neg (by rw [hb'.out]; simp)]; simp)
        go_wp2_with fail
        go_ret
        exact ⟨ret_int fin'.out, rfl⟩
    · obtain rfl : p = r.size := by omega
      have fin' := Lib.hid (show (r.size : Int) = ((n + runK (r.data.toList.drop n) : Nat) : Int) by
        rw [← hrel.out, List.drop_eq_nil_of_le (by rw [← Lib.size_eq]; exact Nat.le_refl _)]; simp [runK])
      go_wp2_with fail
      go_ret
      exact ⟨ret_int fin'.out, rfl⟩
set_option maxRecDepth 100000 in
set_option maxHeartbeats 4000000 in
theorem of_calls (r : ByteArray) (k : Int) (n b6 b3 : Nat) (at_ : Int) (hn : n ≤ r.size) (w : World) (h6 : w.heap[b6]? = some (.cells #[.string r] 9)) (h3 : w.heap[b3]? = some (.cells #[.int .i64 at_] 3)) :
    Calls Tryz.prog 250 #[.int .i64 k, .int .i64 n, .pointer (some ⟨b6, 0, none⟩), .pointer (some ⟨b3, 0, none⟩)] w fun e w' => e = .returned (.tuple #[.agg #[.int .i64 k, .string (r.extract 0 n), .int .i64 at_], .bool true]) ∧ Below w.heap.size w w' := by
  have ha := alloc1 w (.cells #[.int .i64 0, .string ⟨#[]⟩, .int .i64 0] 170)
  have c6 := box1 (box_below h6 ha.2)
  have c3 := box1 (box_below h3 ha.2)
  have f6 := blk_frozen ha.1
  have cn0 := blk_cell ha.1 0
  have cn1 := blk_cell ha.1 1
  have cn2 := blk_cell ha.1 2
  have l6 := blk_lt h6
  have l3 := blk_lt h3
  have hb := ha.2
  go_enter Tryz.func250, Tryz.ntmps250
  go_wp2_with fail
  obtain ⟨W, hW⟩ : ∃ W, w.alloc (Obj.cells #[Value.int IntKind.i64 0, Value.string { data := #[] }, Value.int IntKind.i64 0] 170) = W := ⟨_, rfl⟩
  rw [hW] at ha c6 c3 f6 cn0 cn1 cn2 hb ⊢
  clear hW
  replace cn0 : W.cell? ⟨w.heap.size, 0, none⟩ = some (.int .i64 0) := cn0
  replace cn1 : W.cell? ⟨w.heap.size, 1, none⟩ = some (.string ⟨#[]⟩) := cn1
  replace cn2 : W.cell? ⟨w.heap.size, 2, none⟩ = some (.int .i64 0) := cn2
  go_region
  all_goals go_wp2_with fail
  obtain ⟨W2, hW2⟩ : ∃ W2, (((W.setCell { block := w.heap.size, off := 0 } (Value.int IntKind.i64 k)).setCell { block := w.heap.size, off := 1 } (Value.string (r.extract 0 n))).setCell { block := w.heap.size, off := 2 } (Value.int IntKind.i64 at_)).drew = W2 := ⟨_, rfl⟩
  have hf : W2.heap[w.heap.size]? = some (.cells #[.int .i64 k, .string (r.extract 0 n), .int .i64 at_] 170) := by
    rw [← hW2]
    exact blk_set (blk_set (blk_set ha.1 0 (.int .i64 k)) 1 (.string (r.extract 0 n))) 2 (.int .i64 at_)
  have hbf : Below w.heap.size w W2 := by
    rw [← hW2]
    exact ((((hb.setCell (p := ⟨w.heap.size, 0, none⟩) (Nat.le_refl _) _).setCell (p := ⟨w.heap.size, 1, none⟩) (Nat.le_refl _) _).setCell (p := ⟨w.heap.size, 2, none⟩) (Nat.le_refl _) _)).drew
  rw [hW2]
  have d0 : W2.cell? ⟨w.heap.size, 0, none⟩ = some (.int .i64 k) := blk_cell hf 0
  have d1 : W2.cell? ⟨w.heap.size, 1, none⟩ = some (.string (r.extract 0 n)) := blk_cell hf 1
  have d2 : W2.cell? ⟨w.heap.size, 2, none⟩ = some (.int .i64 at_) := blk_cell hf 2
  refine bodyPost_ret (v := .tuple #[.agg #[.int .i64 k, .string (r.extract 0 n), .int .i64 at_], .bool true]) ?_ rfl ?_
  · simp [results, Tryz.results250, go_sem, d0, d1, d2]
  · exact ⟨rfl, hbf⟩
end Go.Proofs.YtpgbeapojjinmaaGreatDoor
