/- lex: token. · lex: token, part A. No law is proved here. -/
import Derived.Test.YtpgbeapojjinmaaGreatDoorR
import Derived.Deep.WholeRow
set_option linter.unusedVariables false
set_option linter.unusedSimpArgs false
namespace Go.Proofs.YtpgbeapojjinmaaGreatDoor
open Go.RowKit Go.Shelf Go.Proofs.YtpgbeapojjinmaaGreatDoorW.PrintLast
set_option maxRecDepth 100000 in
set_option maxHeartbeats 4000000 in
theorem HasPrefix264 (s p : ByteArray) (w : World) :
    Calls Tryz.prog 264 #[.string s, .string p] w fun e w' => e = .returned (.bool (Lib.hasPrefix s.data.toList p.data.toList)) ∧ w' = w := by
  have h := Lib.hid (Lib.hasPrefix_raw s p)
  by_cases hl : p.size ≤ s.size
  · go_enter Tryz.func264, Tryz.ntmps264
    go_wp2_with fail
    go_ret
    have := h.out
    rw [← this]; simp [hl]
  · have hl' : ¬ ((p.size : Int) ≤ (s.size : Int)) := by omega
    go_enter Tryz.func264, Tryz.ntmps264
    go_wp2_with fail
    go_ret
    have := h.out
    rw [← this]; simp [hl]
set_option maxRecDepth 100000 in
set_option maxHeartbeats 4000000 in
theorem HasPrefix_calls (s p : ByteArray) (w : World) :
    Calls Tryz.prog 254 #[.string s, .string p] w fun e w' => e = .returned (.bool (Lib.hasPrefix s.data.toList p.data.toList)) ∧ w' = w := by
  go_enter Tryz.func254, Tryz.ntmps254
  go_wp2_with (go_at_call 264; refine (HasPrefix264 _ _ _).mono ?_; rintro e w' ⟨rfl, rfl⟩)
  go_ret
  exact ⟨rfl, rfl⟩
theorem sts_new {w : World} {h : Snap} (ss : List ByteArray) (H : Has w h) (hn : ss.length ≤ lim) (T : TypeId) :
    ∃ h', StS h' ss (.slice (some ⟨w.heap.size, 0, none⟩) ss.length ss.length) ∧ Mk w h (w.alloc (.cells (ss.map .string).toArray T)) h' := by
  have H1 := H.alloc (.cells (ss.map .string).toArray T)
  refine ⟨withRow h (w.alloc (.cells (ss.map .string).toArray T)) w.heap.size ss.length, ⟨_, _, rfl, Nat.le_refl _, hn, fun j hj => ⟨_, _, rfl, ?_⟩⟩, ⟨withRow.sub .., withRow.has H1 .., fun a v e => (withRow.new e).imp_right (fun k => by omega)⟩⟩
  refine withRow.at_ H1 (by omega) ?_
  rw [blk_cell (blk_new w _)]
  simp [hj]
def kwB : List ByteArray := [⟨#[116, 121, 112, 101]⟩, ⟨#[99, 111, 110, 115, 116]⟩, ⟨#[112, 114, 101, 100]⟩, ⟨#[102, 97, 99, 116]⟩, ⟨#[108, 97, 115, 116, 105, 110, 103]⟩, ⟨#[109, 111, 100, 101]⟩, ⟨#[114, 117, 108, 101]⟩, ⟨#[111, 110, 99, 101]⟩, ⟨#[109, 111, 115, 116]⟩, ⟨#[113, 117, 101, 114, 121]⟩, ⟨#[109, 111, 100, 117, 108, 101]⟩, ⟨#[117, 115, 101]⟩, ⟨#[101, 120, 112, 111, 114, 116]⟩, ⟨#[97, 108, 108]⟩, ⟨#[101, 120]⟩, ⟨#[111, 110, 101]⟩, ⟨#[116, 111, 112]⟩]
set_option maxRecDepth 100000 in
set_option maxHeartbeats 4000000 in
theorem keywords_calls (w : World) (h : Snap) (H : Has w h) : Calls Tryz.prog 252 #[] w fun e w' => ∃ v h', e = .returned v ∧ StS h' kwB v ∧ Mk w h w' h' ∧ Below w.heap.size w w' := by
  have hk := sts_new kwB H (by simp [kwB, lim]) 9
  have hb := (alloc1 w (.cells (kwB.map Value.string).toArray 9)).2
  go_enter Tryz.func252, Tryz.ntmps252
  go_wp2_with fail
  go_ret
  obtain ⟨h', r, m⟩ := hk
  exact ⟨_, h', rfl, r, m, hb⟩
def nameN (l : List UInt8) : Nat := if l[runK l]? = some 64 ∧ (l[runK l + 1]?).any isSmall = true then runK l + 1 + runK (l.drop (runK l + 1)) else runK l
def marksB : List UInt8 := [42, 38, 43, 33, 123, 125, 40, 41, 46, 44, 58, 92]
/-- The token with which a text that is not empty begins: its kind, and its length. -/
def tokK (r : ByteArray) : Option (Int × Nat) :=
  if isSmall (r.data.toList.headD 0) then
    if (r.extract 0 (nameN r.data.toList)).toList == [111] && r.data.toList[1]? == some 45 then some (3, 2)
    else if baseIn kwB (r.extract 0 (nameN r.data.toList)) then some (4, nameN r.data.toList) else some (1, nameN r.data.toList)
  else if isCap (r.data.toList.headD 0) then some (2, runK r.data.toList)
  else if Lib.hasPrefix r.data.toList [45, 62] || (Lib.hasPrefix r.data.toList [61, 62] || Lib.hasPrefix r.data.toList [60, 61]) then some (3, 2)
  else if Lib.hasPrefix r.data.toList [45, 111] then if (r.data.toList[2]?).any isPart then none else some (3, 2)
  else if 0 ≤ Lib.indexByte marksB (r.data.toList.headD 0) then some (3, 1) else none
def tokV (p : Nat) (r : ByteArray) : Option (Int × Nat) → Value
  | none => .tuple #[.agg #[.int .i64 0, .string ⟨#[]⟩, .int .i64 0], .bool false]
  | some (k, n) => .tuple #[.agg #[.int .i64 k, .string (r.extract 0 n), .int .i64 p], .bool true]
theorem tab_store {l : List UInt8} {cs : Array Value} (h : tabB l cs) (w : World) : (storeCells ⟨w.heap.size, 0, none⟩ cs.toList).run Tryz.prog (w.alloc (.cells Tryz.zeroCells252 252)) = .ok () (w.alloc (.cells cs 252)) := by
  have hall : ∀ v ∈ cs.toList, v.oneCell' = true := fun v hv => by
    obtain ⟨i, hi, e⟩ := List.mem_iff_getElem.1 hv
    have := h.2 i (by have := h.1; simp at hi; omega)
    rw [Array.getElem?_eq_getElem (by simpa using hi)] at this
    simp at e
    rw [← e, Option.some.inj this]
    rfl
  have hb := blk_new w (.cells Tryz.zeroCells252 252)
  have h1 : cs.toList.length = Tryz.zeroCells252.size := by rw [zero252]; simp [h.1]
  have := run_storeCells_from (P := Tryz.prog) w.heap.size 252 cs.toList 0 _ _ hb (by rw [h1]; simp) hall
  rw [this]
  simp only [List.take_zero, List.nil_append, Array.toArray_toList]
  rw [World.setRow_alloc_new]
theorem data_at (r : ByteArray) (i : Nat) (h : i < r.size) : r.data.toList[i]? = some r[i] := Lib.data_getElem? r i h
theorem data_out (r : ByteArray) (i : Nat) (h : r.size ≤ i) : r.data.toList[i]? = none := List.getElem?_eq_none (by rw [← Lib.size_eq]; exact h)
/-- How long a name is: what the code asks, in its order. -/
theorem box3 {w : World} {b : Nat} {x y z : Value} {T : TypeId} (hb : w.heap[b]? = some (.cells #[x, y, z] T)) : w.cell? ⟨b, 0, none⟩ = some x ∧ w.cell? ⟨b, 1, none⟩ = some y ∧ w.cell? ⟨b, 2, none⟩ = some z := ⟨(blk_cell hb 0).trans rfl, (blk_cell hb 1).trans rfl, (blk_cell hb 2).trans rfl⟩
theorem name_case (r : ByteArray) (n0 : Nat) (hn : runK r.data.toList = n0) :
    (∃ h : n0 + 1 < r.size, (((r[n0]'(by omega)).toNat : Int) == 64) = true ∧ isSmall (r[n0 + 1]'h) = true ∧ nameN r.data.toList = n0 + 1 + runK (r.data.toList.drop (n0 + 1))) ∨
    (∃ h : n0 + 1 < r.size, (((r[n0]'(by omega)).toNat : Int) == 64) = true ∧ isSmall (r[n0 + 1]'h) = false ∧ nameN r.data.toList = n0) ∨
    (∃ h : n0 + 1 < r.size, (((r[n0]'(by omega)).toNat : Int) == 64) = false ∧ nameN r.data.toList = n0) ∨
    (¬ n0 + 1 < r.size ∧ nameN r.data.toList = n0) := by
  unfold nameN
  rw [hn]
  by_cases h : n0 + 1 < r.size
  · have d0 := data_at r n0 (by omega)
    have d1 := data_at r (n0 + 1) h
    have hb : ((((r[n0]'(by omega)).toNat : Nat) : Int) == 64) = (r[n0]'(by omega) == 64) := byte_eq _ 64
    rw [d0, d1]
    by_cases h64 : r[n0]'(by omega) = 64
    · have hb1 := hb.trans (beq_iff_eq.2 h64)
      cases hs : isSmall (r[n0 + 1]'h) with
      | true => exact .inl ⟨h, hb1, hs, by rw [if_pos ⟨by rw [h64], by simp [hs]⟩]⟩
      | false => exact .inr (.inl ⟨h, hb1, hs, by rw [if_neg (by simp [hs])]⟩)
    · exact .inr (.inr (.inl ⟨h, hb.trans (beq_eq_false_iff_ne.2 h64), by rw [if_neg (by simp [h64])]⟩))
  · exact .inr (.inr (.inr ⟨h, by rw [if_neg (by rw [data_out r (n0 + 1) (by omega)]; simp)]⟩))
theorem sign_case (r : ByteArray) (n : Nat) :
    (((r.extract 0 n).toList == [111]) = true ∧ (∃ h : 1 < r.size, (((r[1]'h).toNat : Int) == 45) = true) ∧ ((r.extract 0 n).toList == [111] && r.data.toList[1]? == some 45) = true) ∨
    (((r.extract 0 n).toList == [111]) = true ∧ (∃ h : 1 < r.size, (((r[1]'h).toNat : Int) == 45) = false) ∧ ((r.extract 0 n).toList == [111] && r.data.toList[1]? == some 45) = false) ∨
    (((r.extract 0 n).toList == [111]) = true ∧ r.size ≤ 1 ∧ ((r.extract 0 n).toList == [111] && r.data.toList[1]? == some 45) = false) ∨
    (((r.extract 0 n).toList == [111]) = false ∧ ((r.extract 0 n).toList == [111] && r.data.toList[1]? == some 45) = false) := by
  cases ((r.extract 0 n).toList == [111])
  · exact .inr (.inr (.inr ⟨rfl, rfl⟩))
  · by_cases h : 1 < r.size
    · have d1 := data_at r 1 h
      have hb : ((((r[1]'h).toNat : Nat) : Int) == 45) = (r[1]'h == 45) := byte_eq _ 45
      rw [d1]
      by_cases h45 : r[1]'h = 45
      · exact .inl ⟨rfl, ⟨h, hb.trans (beq_iff_eq.2 h45)⟩, by rw [h45]; rfl⟩
      · exact .inr (.inl ⟨rfl, ⟨h, hb.trans (beq_eq_false_iff_ne.2 h45)⟩, by simp [h45]⟩)
    · exact .inr (.inr (.inl ⟨rfl, by omega, by rw [data_out r 1 (by omega)]; rfl⟩))
theorem tokK_sign {r : ByteArray} {n : Nat} (hs : isSmall (r.data.toList.headD 0) = true) (hn : nameN r.data.toList = n) (h : ((r.extract 0 n).toList == [111] && r.data.toList[1]? == some 45) = true) : tokK r = some (3, 2) := by
  rw [tokK, if_pos hs, hn, if_pos h]
theorem tokK_word {r : ByteArray} {n : Nat} (hs : isSmall (r.data.toList.headD 0) = true) (hn : nameN r.data.toList = n) (h : ((r.extract 0 n).toList == [111] && r.data.toList[1]? == some 45) = false) (hw : baseIn kwB (r.extract 0 n) = true) : tokK r = some (4, n) := by
  rw [tokK, if_pos hs, hn, if_neg (by rw [h]; simp), if_pos hw]
theorem tokK_name {r : ByteArray} {n : Nat} (hs : isSmall (r.data.toList.headD 0) = true) (hn : nameN r.data.toList = n) (h : ((r.extract 0 n).toList == [111] && r.data.toList[1]? == some 45) = false) (hw : baseIn kwB (r.extract 0 n) = false) : tokK r = some (1, n) := by
  rw [tokK, if_pos hs, hn, if_neg (by rw [h]; simp), if_neg (by rw [hw]; simp)]
theorem tok_end {tm : Array Value} {w W : World} {b3 b4 : Nat} {c0 : Array Value} (q4 : W.heap[b4]? = some (.cells c0 170)) (hc0 : c0.size = 3) {k a : Int} {t : ByteArray} {o : Bool} (h4 : tm.getD 4 undef = .pointer (some ⟨b4, 0, none⟩)) (h5 : tm.getD 5 undef = .bool o)
    (kb : Below b3 w W) (hle : b3 ≤ b4) {R : Ending → World → Prop} (hR : ∀ W', Below b3 w W' → R (.returned (.tuple #[.agg #[.int .i64 k, .string t, .int .i64 a], .bool o])) W') :
    bodyPost Tryz.prog Tryz.f230 R .ret { tmps := tm, defers := [] } (((W.setCell ⟨b4, 0, none⟩ (.int .i64 k)).setCell ⟨b4, 1, none⟩ (.string t)).setCell ⟨b4, 2, none⟩ (.int .i64 a)) := by
  obtain ⟨W2, hW2⟩ : ∃ W2, ((W.setCell ⟨b4, 0, none⟩ (.int .i64 k)).setCell ⟨b4, 1, none⟩ (.string t)).setCell ⟨b4, 2, none⟩ (.int .i64 a) = W2 := ⟨_, rfl⟩
  have hf : W2.heap[b4]? = some (.cells #[.int .i64 k, .string t, .int .i64 a] 170) := by
    have := blk_set (blk_set (blk_set q4 0 (.int .i64 k)) 1 (.string t)) 2 (.int .i64 a)
    rw [hW2] at this
    rw [this]
    obtain ⟨l⟩ := c0
    match l, hc0 with
    | [x, y, z], _ => rfl
  have hbf : Below b3 w W2 := by
    rw [← hW2]
    exact ((kb.setCell (p := ⟨b4, 0, none⟩) hle _).setCell (p := ⟨b4, 1, none⟩) hle _).setCell (p := ⟨b4, 2, none⟩) hle _
  rw [hW2]
  have d0 : W2.cell? ⟨b4, 0, none⟩ = some (.int .i64 k) := blk_cell hf 0
  have d1 : W2.cell? ⟨b4, 1, none⟩ = some (.string t) := blk_cell hf 1
  have d2 : W2.cell? ⟨b4, 2, none⟩ = some (.int .i64 a) := blk_cell hf 2
  have h4' : tm[4]?.getD undef = .pointer (some ⟨b4, 0, none⟩) := by simpa using h4
  have h5' : tm[5]?.getD undef = .bool o := by simpa using h5
  refine bodyPost_ret (v := .tuple #[.agg #[.int .i64 k, .string t, .int .i64 a], .bool o]) ?_ rfl (hR _ hbf)
  simp [results, Tryz.results230, go_sem, d0, d1, d2, h4', h5']
theorem prefix_len {l p : List UInt8} (h : Lib.hasPrefix l p = true) : p.length ≤ l.length := (List.isPrefixOf_iff_prefix.1 h).length_le
theorem tokK_cap {r : ByteArray} (hs : isSmall (r.data.toList.headD 0) = false) (hc : isCap (r.data.toList.headD 0) = true) : tokK r = some (2, runK r.data.toList) := by
  rw [tokK, if_neg (by rw [hs]; simp), if_pos hc]
theorem tokK_two {r : ByteArray} (hs : isSmall (r.data.toList.headD 0) = false) (hc : isCap (r.data.toList.headD 0) = false) (hp : (Lib.hasPrefix r.data.toList [45, 62] || (Lib.hasPrefix r.data.toList [61, 62] || Lib.hasPrefix r.data.toList [60, 61])) = true) : tokK r = some (3, 2) := by
  rw [tokK, if_neg (by rw [hs]; simp), if_neg (by rw [hc]; simp), if_pos hp]
theorem tokK_o {r : ByteArray} (hs : isSmall (r.data.toList.headD 0) = false) (hc : isCap (r.data.toList.headD 0) = false) (hp : (Lib.hasPrefix r.data.toList [45, 62] || (Lib.hasPrefix r.data.toList [61, 62] || Lib.hasPrefix r.data.toList [60, 61])) = false) (ho : Lib.hasPrefix r.data.toList [45, 111] = true) :
    tokK r = if (r.data.toList[2]?).any isPart then none else some (3, 2) := by
  rw [tokK, if_neg (by rw [hs]; simp), if_neg (by rw [hc]; simp), if_neg (by rw [hp]; simp), if_pos ho]
theorem tokK_mark {r : ByteArray} (hs : isSmall (r.data.toList.headD 0) = false) (hc : isCap (r.data.toList.headD 0) = false) (hp : (Lib.hasPrefix r.data.toList [45, 62] || (Lib.hasPrefix r.data.toList [61, 62] || Lib.hasPrefix r.data.toList [60, 61])) = false) (ho : Lib.hasPrefix r.data.toList [45, 111] = false) :
    tokK r = if 0 ≤ Lib.indexByte marksB (r.data.toList.headD 0) then some (3, 1) else none := by
  rw [tokK, if_neg (by rw [hs]; simp), if_neg (by rw [hc]; simp), if_neg (by rw [hp]; simp), if_neg (by rw [ho]; simp)]
/-- The five ways of a token: three of a small letter at the head, by what stands behind the first run; the rest. -/
def SelA (r : ByteArray) : Prop := isSmall (r.data.toList.headD 0) = true ∧ ∃ n0, runK r.data.toList = n0 ∧ ∃ h : n0 + 1 < r.size, (((r[n0]'(by omega)).toNat : Int) == 64) = true ∧ isSmall (r[n0 + 1]'h) = true ∧ nameN r.data.toList = n0 + 1 + runK (r.data.toList.drop (n0 + 1))
def SelB (r : ByteArray) : Prop := isSmall (r.data.toList.headD 0) = true ∧ ∃ n0, runK r.data.toList = n0 ∧ ∃ h : n0 + 1 < r.size, (((r[n0]'(by omega)).toNat : Int) == 64) = true ∧ isSmall (r[n0 + 1]'h) = false ∧ nameN r.data.toList = n0
def SelC (r : ByteArray) : Prop := isSmall (r.data.toList.headD 0) = true ∧ ∃ n0, runK r.data.toList = n0 ∧ ∃ h : n0 + 1 < r.size, (((r[n0]'(by omega)).toNat : Int) == 64) = false ∧ nameN r.data.toList = n0
def SelD (r : ByteArray) : Prop := isSmall (r.data.toList.headD 0) = true ∧ ∃ n0, runK r.data.toList = n0 ∧ ¬ n0 + 1 < r.size ∧ nameN r.data.toList = n0
def SelE (r : ByteArray) : Prop := isSmall (r.data.toList.headD 0) = false
theorem sel_all (r : ByteArray) : SelA r ∨ SelB r ∨ SelC r ∨ SelD r ∨ SelE r := by
  cases h : isSmall (r.data.toList.headD 0)
  · exact .inr (.inr (.inr (.inr h)))
  · rcases name_case r _ rfl with ⟨h1, h2, h3, h4⟩ | ⟨h1, h2, h3, h4⟩ | ⟨h1, h2, h4⟩ | ⟨h1, h4⟩
    · exact .inl ⟨h, _, rfl, h1, h2, h3, h4⟩
    · exact .inr (.inl ⟨h, _, rfl, h1, h2, h3, h4⟩)
    · exact .inr (.inr (.inl ⟨h, _, rfl, h1, h2, h4⟩))
    · exact .inr (.inr (.inr (.inl ⟨h, _, rfl, h1, h4⟩)))
end Go.Proofs.YtpgbeapojjinmaaGreatDoor
namespace Go.Proofs.YtpgbeapojjinmaaGreatDoor
open Go.RowKit Go.Shelf Go.Proofs.YtpgbeapojjinmaaGreatDoorW.PrintLast
set_option maxRecDepth 100000 in
set_option maxHeartbeats 4000000 in
theorem tokenA_calls (s : ByteArray) (p : Nat) (hs : s.size ≤ 20000) (hp : p < s.size) (w : World) (hsel : SelA (s.extract p s.size)) :
    Calls Tryz.prog 230 #[.string s, .int .i64 p] w fun e w' => e = .returned (tokV p (s.extract p s.size) (tokK (s.extract p s.size))) ∧ Below w.heap.size w w' := by
  go_enter Tryz.func230, Tryz.ntmps230
  go_wp2_with fail
  have ha := alloc3 w (.cells #[.int .i64 p] 3) (.cells #[.int .i64 0, .string ⟨#[]⟩, .int .i64 0] 170) (.cells #[.string (s.extract p s.size)] 9)
  obtain ⟨W0, hW0⟩ : ∃ W0, ((w.alloc (Obj.cells #[Value.int IntKind.i64 ↑p] 3)).alloc (Obj.cells #[Value.int IntKind.i64 0, Value.string { data := #[] }, Value.int IntKind.i64 0] 170)).alloc (Obj.cells #[Value.string (s.extract p s.size)] 9) = W0 := ⟨_, rfl⟩
  rw [hW0] at ha ⊢
  clear hW0
  have hrs : (s.extract p s.size).size ≤ 20000 := by simp; omega
  have hr0 : 0 < (s.extract p s.size).size := by simp; omega
  generalize hr : s.extract p s.size = r at ha hrs hr0 hsel ⊢
  have hr' := Lib.hid hr
  clear hr
  refine (classes_calls lettersB W0 (by decide)).mono ?_
  rintro e w1 ⟨cs, rfl, htab, k1⟩
  have hsz := htab.1
  have hst := tab_store htab w1
  have q3 := blk_alloc (box_below ha.1 k1) (.cells cs 252)
  have q4 := blk_alloc (box_below ha.2.1 k1) (.cells cs 252)
  have q6 := blk_alloc (box_below ha.2.2.1 k1) (.cells cs 252)
  have q7 := blk_new w1 (.cells cs 252)
  have kb : Below w.heap.size w (w1.alloc (.cells cs 252)) := (below_then ha.2.2.2 k1 ha.2.2.2.size).alloc (by have := k1.size; have := ha.2.2.2.size; omega) _
  have l7 : w.heap.size + 2 < w1.heap.size := by have := blk_lt (box_below ha.2.2.1 k1); omega
  have c6 := box1 q6
  clear ha k1
  go_wp2_with fail
  clear hst
  obtain ⟨W1, hW1⟩ : ∃ W1, w1.alloc (.cells cs 252) = W1 := ⟨_, rfl⟩
  rw [hW1] at q3 q4 q6 q7 kb c6 ⊢
  clear hW1
  generalize w1.heap.size = b7 at q7 l7 ⊢
  generalize hb0 : w.heap.size = b3 at *
  have hhd := Lib.hid (show r.data.toList.headD 0 = r[0] by have := drop_at r 0 hr0; rw [List.drop_zero] at this; rw [this]; rfl)
  obtain ⟨hsm, n0, hn0', h1, h2, h3, h4⟩ := hsel
  rw [hhd.out] at hsm
  refine (small_calls r[0] _).mono ?_
  rintro e w2 ⟨rfl, rfl⟩
  rw [hsm]
  go_wp2_with fail
  refine (run_calls r 0 (b3 + 1 + 1) b7 cs hrs (by omega) _ q6 q7 htab).mono ?_
  rintro e w3 ⟨rfl, rfl⟩
  have hn0 : ((0 + runK (r.data.toList.drop 0) : Nat) : Int) = (runK r.data.toList : Nat) := by simp
  rw [hn0, hn0']
  have hn0l : n0 ≤ r.size := by rw [← hn0', Lib.size_eq]; exact runK_le r.data.toList
  have hnl : n0 + 1 + runK (r.data.toList.drop (n0 + 1)) ≤ r.size := by first | omega | (have := runK_le (r.data.toList.drop (n0 + 1)); rw [List.length_drop, ← Lib.size_eq] at this; omega)
  have hnm := Lib.hid h4
  clear h4
  have hrun := run_calls r (n0 + 1) (b3 + 1 + 1) b7 cs hrs (by omega) w3 q6 q7 htab
  generalize n0 + 1 + runK (r.data.toList.drop (n0 + 1)) = n at hnl hnm hrun
  have l3 := blk_lt q3
  rcases sign_case r n with ⟨o1, ⟨o2, o3⟩, o4⟩ | ⟨o1, ⟨o2, o3⟩, o4⟩ | ⟨o1, o2, o4⟩ | ⟨o1, o4⟩
  · have o4 := Lib.hid o4
    go_wp2_with (first | (go_at_call 251; refine (small_calls (r[n0 + 1]'h1) _).mono ?_; rintro e w4 ⟨rfl, rfl⟩; rw [h3]) | (go_at_call 249; refine hrun.mono ?_; rintro e w4 ⟨rfl, rfl⟩) | (go_at_call 250; refine (of_calls r 3 2 (b3 + 1 + 1) b3 p (by omega) _ q6 q3).mono ?_; rintro e w5 ⟨rfl, k5⟩; have q4e := box_below q4 k5; have f4e := blk_frozen q4e; have g4e := box3 q4e))
    exact tok_end q4e rfl rfl rfl (below_then kb k5 (Nat.le_of_lt (by omega))) (by omega) (fun W' h => ⟨by rw [hr'.out, tokK_sign (by rw [hhd.out]; exact hsm) hnm.out o4.out]; rfl, by rw [hb0]; exact h⟩)
  · have o4 := Lib.hid o4
    go_wp2_with (first | (go_at_call 251; refine (small_calls (r[n0 + 1]'h1) _).mono ?_; rintro e w4 ⟨rfl, rfl⟩; rw [h3]) | (go_at_call 249; refine hrun.mono ?_; rintro e w4 ⟨rfl, rfl⟩) | fail)
    all_goals
      refine rgs 5 (fun W => W.cell? ⟨b3 + 1 + 1, 0, none⟩ = some (.string r)) [] rfl ?_ (fun hS => ?_)
      · go_simp
      refine rgt 1 (.string r) rfl (by kernel_rfl) (fun _ _ _ h => h) rfl hS (fun W hW => by go_simp) ?_
      refine rgt 2 (.int .i64 n) rfl (by kernel_rfl) (fun _ _ _ h => h) rfl hS (fun W hW => by go_simp) ?_
      refine rgt 3 (.string (r.extract 0 n)) rfl (by kernel_rfl) (fun _ _ _ h => h) rfl hS (fun W hW => by go_simp) ?_
      refine rg1 0 rfl (by kernel_rfl) (by decide) rfl (fun K hK => ?_)
      go_simp
      refine (keywords_calls _ (fun _ => none) ⟨fun _ _ e => by cases e⟩).mono ?_
      rintro e w6 ⟨v, h6, rfl, rs, m6, k6⟩
      refine hK.out _ _ ?_ (fun hS => ?_)
      · exact cell_below hS k6
      refine rg1 4 rfl (by kernel_rfl) (by decide) rfl (fun K hK => ?_)
      go_simp
      refine (Contains_calls kwB (r.extract 0 n) v _ h6 m6.has rs).mono ?_
      rintro e w7 ⟨rfl, rfl⟩
      refine hK.out _ _ ?_ (fun hS => ?_)
      · go_simp
      refine rgd (by kernel_rfl) ?_
      have q3f := box_below q3 (undrew k6)
      have q4f := box_below q4 (undrew k6)
      have q6f := box_below q6 (undrew k6)
      have l3f := blk_lt q3f
      have kbf := below_then kb (undrew k6) (Nat.le_of_lt (by omega))
      cases hw : baseIn kwB (r.extract 0 n) with
      | true =>
        go_wp2_with (go_at_call 250; refine (of_calls r 4 n (b3 + 1 + 1) b3 p (by omega) _ q6f q3f).mono ?_; rintro e w5 ⟨rfl, k5⟩; have q4e := box_below q4f k5; have f4e := blk_frozen q4e; have g4e := box3 q4e)
        exact tok_end q4e rfl rfl rfl (below_then kbf k5 (Nat.le_of_lt (by omega))) (by omega) (fun W' h => ⟨by rw [hr'.out, tokK_word (by rw [hhd.out]; exact hsm) hnm.out o4.out hw]; rfl, by rw [hb0]; exact h⟩)
      | false =>
        go_wp2_with (go_at_call 250; refine (of_calls r 1 n (b3 + 1 + 1) b3 p (by omega) _ q6f q3f).mono ?_; rintro e w5 ⟨rfl, k5⟩; have q4e := box_below q4f k5; have f4e := blk_frozen q4e; have g4e := box3 q4e)
        exact tok_end q4e rfl rfl rfl (below_then kbf k5 (Nat.le_of_lt (by omega))) (by omega) (fun W' h => ⟨by rw [hr'.out, tokK_name (by rw [hhd.out]; exact hsm) hnm.out o4.out hw]; rfl, by rw [hb0]; exact h⟩)
  · have o4 := Lib.hid o4
    go_wp2_with (first | (go_at_call 251; refine (small_calls (r[n0 + 1]'h1) _).mono ?_; rintro e w4 ⟨rfl, rfl⟩; rw [h3]) | (go_at_call 249; refine hrun.mono ?_; rintro e w4 ⟨rfl, rfl⟩) | fail)
    all_goals
      refine rgs 5 (fun W => W.cell? ⟨b3 + 1 + 1, 0, none⟩ = some (.string r)) [] rfl ?_ (fun hS => ?_)
      · go_simp
      refine rgt 1 (.string r) rfl (by kernel_rfl) (fun _ _ _ h => h) rfl hS (fun W hW => by go_simp) ?_
      refine rgt 2 (.int .i64 n) rfl (by kernel_rfl) (fun _ _ _ h => h) rfl hS (fun W hW => by go_simp) ?_
      refine rgt 3 (.string (r.extract 0 n)) rfl (by kernel_rfl) (fun _ _ _ h => h) rfl hS (fun W hW => by go_simp) ?_
      refine rg1 0 rfl (by kernel_rfl) (by decide) rfl (fun K hK => ?_)
      go_simp
      refine (keywords_calls _ (fun _ => none) ⟨fun _ _ e => by cases e⟩).mono ?_
      rintro e w6 ⟨v, h6, rfl, rs, m6, k6⟩
      refine hK.out _ _ ?_ (fun hS => ?_)
      · exact cell_below hS k6
      refine rg1 4 rfl (by kernel_rfl) (by decide) rfl (fun K hK => ?_)
      go_simp
      refine (Contains_calls kwB (r.extract 0 n) v _ h6 m6.has rs).mono ?_
      rintro e w7 ⟨rfl, rfl⟩
      refine hK.out _ _ ?_ (fun hS => ?_)
      · go_simp
      refine rgd (by kernel_rfl) ?_
      have q3f := box_below q3 (undrew k6)
      have q4f := box_below q4 (undrew k6)
      have q6f := box_below q6 (undrew k6)
      have l3f := blk_lt q3f
      have kbf := below_then kb (undrew k6) (Nat.le_of_lt (by omega))
      cases hw : baseIn kwB (r.extract 0 n) with
      | true =>
        go_wp2_with (go_at_call 250; refine (of_calls r 4 n (b3 + 1 + 1) b3 p (by omega) _ q6f q3f).mono ?_; rintro e w5 ⟨rfl, k5⟩; have q4e := box_below q4f k5; have f4e := blk_frozen q4e; have g4e := box3 q4e)
        exact tok_end q4e rfl rfl rfl (below_then kbf k5 (Nat.le_of_lt (by omega))) (by omega) (fun W' h => ⟨by rw [hr'.out, tokK_word (by rw [hhd.out]; exact hsm) hnm.out o4.out hw]; rfl, by rw [hb0]; exact h⟩)
      | false =>
        go_wp2_with (go_at_call 250; refine (of_calls r 1 n (b3 + 1 + 1) b3 p (by omega) _ q6f q3f).mono ?_; rintro e w5 ⟨rfl, k5⟩; have q4e := box_below q4f k5; have f4e := blk_frozen q4e; have g4e := box3 q4e)
        exact tok_end q4e rfl rfl rfl (below_then kbf k5 (Nat.le_of_lt (by omega))) (by omega) (fun W' h => ⟨by rw [hr'.out, tokK_name (by rw [hhd.out]; exact hsm) hnm.out o4.out hw]; rfl, by rw [hb0]; exact h⟩)
  · have o4 := Lib.hid o4
    go_wp2_with (first | (go_at_call 251; refine (small_calls (r[n0 + 1]'h1) _).mono ?_; rintro e w4 ⟨rfl, rfl⟩; rw [h3]) | (go_at_call 249; refine hrun.mono ?_; rintro e w4 ⟨rfl, rfl⟩) | fail)
    all_goals
      refine rgs 5 (fun W => W.cell? ⟨b3 + 1 + 1, 0, none⟩ = some (.string r)) [] rfl ?_ (fun hS => ?_)
      · go_simp
      refine rgt 1 (.string r) rfl (by kernel_rfl) (fun _ _ _ h => h) rfl hS (fun W hW => by go_simp) ?_
      refine rgt 2 (.int .i64 n) rfl (by kernel_rfl) (fun _ _ _ h => h) rfl hS (fun W hW => by go_simp) ?_
      refine rgt 3 (.string (r.extract 0 n)) rfl (by kernel_rfl) (fun _ _ _ h => h) rfl hS (fun W hW => by go_simp) ?_
      refine rg1 0 rfl (by kernel_rfl) (by decide) rfl (fun K hK => ?_)
      go_simp
      refine (keywords_calls _ (fun _ => none) ⟨fun _ _ e => by cases e⟩).mono ?_
      rintro e w6 ⟨v, h6, rfl, rs, m6, k6⟩
      refine hK.out _ _ ?_ (fun hS => ?_)
      · exact cell_below hS k6
      refine rg1 4 rfl (by kernel_rfl) (by decide) rfl (fun K hK => ?_)
      go_simp
      refine (Contains_calls kwB (r.extract 0 n) v _ h6 m6.has rs).mono ?_
      rintro e w7 ⟨rfl, rfl⟩
      refine hK.out _ _ ?_ (fun hS => ?_)
      · go_simp
      refine rgd (by kernel_rfl) ?_
      have q3f := box_below q3 (undrew k6)
      have q4f := box_below q4 (undrew k6)
      have q6f := box_below q6 (undrew k6)
      have l3f := blk_lt q3f
      have kbf := below_then kb (undrew k6) (Nat.le_of_lt (by omega))
      cases hw : baseIn kwB (r.extract 0 n) with
      | true =>
        go_wp2_with (go_at_call 250; refine (of_calls r 4 n (b3 + 1 + 1) b3 p (by omega) _ q6f q3f).mono ?_; rintro e w5 ⟨rfl, k5⟩; have q4e := box_below q4f k5; have f4e := blk_frozen q4e; have g4e := box3 q4e)
        exact tok_end q4e rfl rfl rfl (below_then kbf k5 (Nat.le_of_lt (by omega))) (by omega) (fun W' h => ⟨by rw [hr'.out, tokK_word (by rw [hhd.out]; exact hsm) hnm.out o4.out hw]; rfl, by rw [hb0]; exact h⟩)
      | false =>
        go_wp2_with (go_at_call 250; refine (of_calls r 1 n (b3 + 1 + 1) b3 p (by omega) _ q6f q3f).mono ?_; rintro e w5 ⟨rfl, k5⟩; have q4e := box_below q4f k5; have f4e := blk_frozen q4e; have g4e := box3 q4e)
        exact tok_end q4e rfl rfl rfl (below_then kbf k5 (Nat.le_of_lt (by omega))) (by omega) (fun W' h => ⟨by rw [hr'.out, tokK_name (by rw [hhd.out]; exact hsm) hnm.out o4.out hw]; rfl, by rw [hb0]; exact h⟩)
end Go.Proofs.YtpgbeapojjinmaaGreatDoor
