/- term.letter, strconv.Itoa of small numbers, strings.Join. · term.Text's inner function. · term.Text. No law is proved here. -/
import Derived.Test.YtpgbeapojjinmaaGreatDoorKC
import Derived.Test.YtpgbeapojjinmaaGreatDoorSH
import Derived.Test.YtpgbeapojjinmaaGreatDoorMD
import Derived.Lib.ItoaLen
set_option linter.unusedVariables false
set_option linter.unusedSimpArgs false
namespace Go.Proofs
open Go.RowKit Go.Shelf
namespace YtpgbeapojjinmaaGreatDoor
open Go.RowKit Go.Shelf Go.Proofs.YtpgbeapojjinmaaGreatDoorW.PrintLast
/-- The letter of a kind. -/
def letB (k : Int) : ByteArray := if k = 2 then ⟨#[66]⟩ else if k = 3 then ⟨#[80]⟩ else ⟨#[86]⟩
theorem zero9 (w : World) : (zeroValue 9).run Tryz.prog w = .ok (.string ⟨#[]⟩) w := by kernel_rfl
set_option maxRecDepth 100000 in
set_option maxHeartbeats 4000000 in
theorem letter_calls (k : Int) (hk : k = 2 ∨ (k = 3 ∨ k = 4)) (w : World) :
    Calls Tryz.prog 151 #[.int .i64 k] w fun e w' => e = .returned (.string (letB k)) ∧ Below w.heap.size w w' := by
  have hmm := @run_makeMap Tryz.prog
  have hkey : ∀ {k : Int}, 0 ≤ k → k ≤ 10 → keyOf Tryz.prog 3 (.int .i64 k) = some (.int .i64 k) := fun h1 h2 => key3 ⟨h1, by omega⟩
  have b0 := blk_new w (.map #[] 0)
  obtain ⟨W1, hW1, k1⟩ : ∃ W1, w.alloc (.map #[] 0) = W1 ∧ Below w.heap.size w W1 := ⟨_, rfl, (Below.refl _ w).alloc (Nat.le_refl _) _⟩
  rw [hW1] at b0
  have e1 : (Instr.mapUpdate 219 (.map (some w.heap.size)) (.int .i64 2) (.string ⟨#[66]⟩)).run Tryz.prog W1 = .ok () (mapSet W1 w.heap.size (.map #[{ key := .int .i64 2, val := .string ⟨#[66]⟩, born := 0 }] 1)) := by
    rcases look_run Tryz.underlying219 keyed3 zero9 b0 (hkey (k := 2) (by omega) (by omega)) (fun e he => by simp at he) with ⟨_, _, h⟩ | ⟨e, he, _⟩
    · exact h _
    · simp at he
  have b1 := mapSet_at b0 (.map #[{ key := .int .i64 2, val := .string ⟨#[66]⟩, born := 0 }] 1)
  have q1 := mapSet_kp W1 w.heap.size (.map #[{ key := .int .i64 2, val := .string ⟨#[66]⟩, born := 0 }] 1)
  generalize mapSet W1 w.heap.size (.map #[{ key := .int .i64 2, val := .string ⟨#[66]⟩, born := 0 }] 1) = W2 at *
  have e2 : (Instr.mapUpdate 219 (.map (some w.heap.size)) (.int .i64 3) (.string ⟨#[80]⟩)).run Tryz.prog W2 = .ok () (mapSet W2 w.heap.size (.map #[{ key := .int .i64 2, val := .string ⟨#[66]⟩, born := 0 }, { key := .int .i64 3, val := .string ⟨#[80]⟩, born := 1 }] 2)) := by
    rcases look_run Tryz.underlying219 keyed3 zero9 b1 (hkey (k := 3) (by omega) (by omega)) (fun e he => by simp at he; subst he; exact ⟨_, hkey (by omega) (by omega)⟩) with ⟨_, _, h⟩ | ⟨e, he, h, _⟩
    · exact h _
    · simp at he; subst he; simp at h
  have b2 := mapSet_at b1 (.map #[{ key := .int .i64 2, val := .string ⟨#[66]⟩, born := 0 }, { key := .int .i64 3, val := .string ⟨#[80]⟩, born := 1 }] 2)
  have q2 := mapSet_kp W2 w.heap.size (.map #[{ key := .int .i64 2, val := .string ⟨#[66]⟩, born := 0 }, { key := .int .i64 3, val := .string ⟨#[80]⟩, born := 1 }] 2)
  generalize mapSet W2 w.heap.size (.map #[{ key := .int .i64 2, val := .string ⟨#[66]⟩, born := 0 }, { key := .int .i64 3, val := .string ⟨#[80]⟩, born := 1 }] 2) = W3 at *
  have e3 : (Instr.mapUpdate 219 (.map (some w.heap.size)) (.int .i64 4) (.string ⟨#[86]⟩)).run Tryz.prog W3 = .ok () (mapSet W3 w.heap.size (.map #[{ key := .int .i64 2, val := .string ⟨#[66]⟩, born := 0 }, { key := .int .i64 3, val := .string ⟨#[80]⟩, born := 1 }, { key := .int .i64 4, val := .string ⟨#[86]⟩, born := 2 }] 3)) := by
    rcases look_run Tryz.underlying219 keyed3 zero9 b2 (hkey (k := 4) (by omega) (by omega)) (fun e he => by simp at he; rcases he with rfl | rfl <;> exact ⟨_, hkey (by omega) (by omega)⟩) with ⟨_, _, h⟩ | ⟨e, he, h, _⟩
    · exact h _
    · simp at he; rcases he with rfl | rfl <;> simp at h
  have b3 := mapSet_at b2 (.map #[{ key := .int .i64 2, val := .string ⟨#[66]⟩, born := 0 }, { key := .int .i64 3, val := .string ⟨#[80]⟩, born := 1 }, { key := .int .i64 4, val := .string ⟨#[86]⟩, born := 2 }] 3)
  have q3 := mapSet_kp W3 w.heap.size (.map #[{ key := .int .i64 2, val := .string ⟨#[66]⟩, born := 0 }, { key := .int .i64 3, val := .string ⟨#[80]⟩, born := 1 }, { key := .int .i64 4, val := .string ⟨#[86]⟩, born := 2 }] 3)
  generalize mapSet W3 w.heap.size (.map #[{ key := .int .i64 2, val := .string ⟨#[66]⟩, born := 0 }, { key := .int .i64 3, val := .string ⟨#[80]⟩, born := 1 }, { key := .int .i64 4, val := .string ⟨#[86]⟩, born := 2 }] 3) = W4 at *
  have e4 : (Instr.lookup 219 (.map (some w.heap.size)) (.int .i64 k) false).run Tryz.prog W4 = .ok (.string (letB k)) W4 := by
    rcases look_run Tryz.underlying219 keyed3 zero9 b3 (hkey (k := k) (by omega) (by omega)) (fun e he => by simp at he; rcases he with rfl | rfl | rfl <;> exact ⟨_, hkey (by omega) (by omega)⟩) with ⟨h, _, _⟩ | ⟨e, he, h, _, h2⟩
    · exfalso
      rcases hk with rfl | rfl | rfl
      · exact h { key := .int .i64 2, val := .string ⟨#[66]⟩, born := 0 } (by simp) rfl
      · exact h { key := .int .i64 3, val := .string ⟨#[80]⟩, born := 1 } (by simp) rfl
      · exact h { key := .int .i64 4, val := .string ⟨#[86]⟩, born := 2 } (by simp) rfl
    · rw [h2]
      simp at he
      rcases he with rfl | rfl | rfl
      · cases h; rfl
      · cases h; rfl
      · cases h; rfl
  have kk : Below w.heap.size w W4 := ((((Kp.of_below (fun q => q = w.heap.size) k1).trans q1 (fun _ _ e => e)).trans q2 (fun _ _ e => e)).trans q3 (fun _ _ e => e)).below (fun i hi => by omega)
  clear q1 q2 q3 b0 b1 b2 b3 hk hkey k1
  go_enter Tryz.func151, Tryz.ntmps151
  go_wp2_with fail
  go_ret
  exact ⟨rfl, kk⟩
end YtpgbeapojjinmaaGreatDoor
theorem Tryz.Builder_Extra_156 : Builder.Extra Tryz.prog Tryz.lays156_ren := {
  sizeBuilder := by kernel_rfl
  liesBuilder := by kernel_rfl
  t5 := Tryz.underlying5
  a5 := Tryz.isAgg5
  z5 := Tryz.sizeOf5
  v5 := Tryz.zeroValue5
  infoByte := by kernel_rfl
  cellsByte := by kernel_rfl
  sizeByte := by kernel_rfl
  neB5 := by decide }
namespace YtpgbeapojjinmaaGreatDoor
open Go.RowKit Go.Shelf Go.Proofs.YtpgbeapojjinmaaGreatDoorW.PrintLast
/-- The decimal numeral. -/
def itoaB (n : Int) : ByteArray := ⟨(Lib.itoa n).toArray⟩
theorem Itoa_small (n : Int) (h0 : 0 ≤ n) (h1 : n < 100) (w : World) : Calls Tryz.prog 152 #[.int .i64 n] w fun e w' => e = .returned (.string (itoaB n)) ∧ w' = w := by
  obtain ⟨i, rfl⟩ : ∃ i : Nat, n = i := Int.eq_ofNat_of_zero_le h0
  unfold itoaB
  rw [Lib.itoa_nonneg]
  exact Any.strconv_Itoa_small Tryz.lays171 i (by omega) w
theorem Join_calls (bk o c : Nat) (xs : List ByteArray) (sep : ByteArray) (w : World) (hcells : ∀ (j : Nat) x, xs[j]? = some x → w.cell? ⟨bk, o + j, none⟩ = some (.string x))
    (hbk : bk < w.heap.size) (hN : xs.length ≤ 140737488355328) (hcap : xs.length ≤ c) (hlen : (Lib.join (xs.map (·.data.toList)) sep.data.toList).length ≤ 140737488355328) :
    Calls Tryz.prog 153 #[.slice (some ⟨bk, o, none⟩) xs.length c, .string sep] w fun e w' => e = .returned (.string ⟨(Lib.join (xs.map (·.data.toList)) sep.data.toList).toArray⟩) ∧ Below w.heap.size w w' :=
  Any.strings_Join Tryz.lays156 Tryz.Builder_Extra_156 bk o c xs sep w hcells hbk hN hcap hlen
end YtpgbeapojjinmaaGreatDoor
end Go.Proofs
namespace Go.Proofs.YtpgbeapojjinmaaGreatDoor
open Go.RowKit Go.Shelf Go.Proofs.YtpgbeapojjinmaaGreatDoorW.PrintLast
theorem info9 : (Tryz.prog.info? 9).map (fun i => (i.zero, i.size, i.bytes)) = some (some (.string ⟨#[]⟩), 1, 16) := by kernel_rfl
/-- Appending strings to a row of the call's own. -/
theorem app9 {o : Oper} {a : Act} {w : World} {K : Act → World → Prop} {Q : Exit → Act → World → Prop} (s x : Operand) (ho : o.op = .call { callee := .builtin .append, args := #[s, x], argTypes := #[22, 22] })
    {B n g : Nat} {sv : Value} {xs : List Value} {nm : ByteArray} (hs : a.eval s = sv) (hown : w.ownsRow B 9 1 sv n xs) (hx : a.eval x = .slice (some ⟨g, 0, none⟩) 1 1)
    (hg : w.heap[g]? = some (.cells #[.string nm] 9)) (hn : n < lim) (hB : B ≤ w.heap.size)
    (h : ∀ sv' w', w'.ownsRow B 9 1 sv' (n + 1) (xs ++ [.string nm]) → w.grownBy w' sv.ownBlock → (∀ q, sv'.ownBlock = some q → sv.ownBlock = some q ∨ w.heap.size ≤ q) → K (a.put o.dst sv') w') : Oper.wp Tryz.prog o a w K Q := by
  obtain ⟨i0, hi0, hz0, hz1, hz2⟩ := info_parts info9
  unfold lim at hn
  exact wp_append_lies w s x 22 ho B 9 i0 _ 1 16 Tryz.underlying22 hi0 hz0 hz1 hz2 rfl (by omega) sv n xs hs hown ⟨g, 0, none⟩ 1 1 [.string nm] hx rfl (World.news_of_block hg) (by simp [Value.oneCell']) (by omega) (by simp [maxLen]; omega) (by omega) hB _ rfl
    (fun g' cap w' h1 h2 h3 _ => h _ w' h1 h2 (fun q e => by
      simp only [Value.ownBlock, Option.some.injEq] at e
      subst e
      exact h3.imp id (fun e => by omega)))
theorem app9L {ops : Array Oper} {rest : List Oper} {o : Oper} {a : Act} {w : World} {Q : Exit → Act → World → Prop} (hgd : o.guard = none) (s x : Operand) (ho : o.op = .call { callee := .builtin .append, args := #[s, x], argTypes := #[22, 22] })
    {B n g : Nat} {sv : Value} {xs : List Value} {nm : ByteArray} (hs : a.eval s = sv) (hown : w.ownsRow B 9 1 sv n xs) (hx : a.eval x = .slice (some ⟨g, 0, none⟩) 1 1)
    (hg : w.heap[g]? = some (.cells #[.string nm] 9)) (hn : n < lim) (hB : B ≤ w.heap.size)
    (h : ∀ sv' w', w'.ownsRow B 9 1 sv' (n + 1) (xs ++ [.string nm]) → w.grownBy w' sv.ownBlock → (∀ q, sv'.ownBlock = some q → sv.ownBlock = some q ∨ w.heap.size ≤ q) → wpList Tryz.prog ops Q rest (a.put o.dst sv') w') : wpList Tryz.prog ops Q (o :: rest) a w :=
  wpList_plain hgd (fun K hK => app9 s x ho hs hown hx hg hn hB (fun sv' w' h1 h2 h3 => hK _ _ (h sv' w' h1 h2 h3)))
theorem app9b {o : Oper} {a : Act} {w : World} {K : Act → World → Prop} {Q : Exit → Act → World → Prop} (s x : Operand) (ho : o.op = .call { callee := .builtin .append, args := #[s, x], argTypes := #[22, 22] })
    {B n g : Nat} {sv : Value} {xs : List Value} {nm nm2 : ByteArray} (hs : a.eval s = sv) (hown : w.ownsRow B 9 1 sv n xs) (hx : a.eval x = .slice (some ⟨g, 0, none⟩) 2 2)
    (hg : w.heap[g]? = some (.cells #[.string nm, .string nm2] 9)) (hn : n < lim) (hB : B ≤ w.heap.size)
    (h : ∀ sv' w', w'.ownsRow B 9 1 sv' (n + 2) (xs ++ [.string nm, .string nm2]) → w.grownBy w' sv.ownBlock → (∀ q, sv'.ownBlock = some q → sv.ownBlock = some q ∨ w.heap.size ≤ q) → K (a.put o.dst sv') w') : Oper.wp Tryz.prog o a w K Q := by
  obtain ⟨i0, hi0, hz0, hz1, hz2⟩ := info_parts info9
  unfold lim at hn
  exact wp_append_lies w s x 22 ho B 9 i0 _ 1 16 Tryz.underlying22 hi0 hz0 hz1 hz2 rfl (by omega) sv n xs hs hown ⟨g, 0, none⟩ 2 2 [.string nm, .string nm2] hx rfl (World.news_of_block hg) (by simp [Value.oneCell']) (by omega) (by simp [maxLen]; omega) (by omega) hB _ rfl
    (fun g' cap w' h1 h2 h3 _ => h _ w' h1 h2 (fun q e => by
      simp only [Value.ownBlock, Option.some.injEq] at e
      subst e
      exact h3.imp id (fun e => by omega)))
theorem app9L2 {ops : Array Oper} {rest : List Oper} {o : Oper} {a : Act} {w : World} {Q : Exit → Act → World → Prop} (hgd : o.guard = none) (s x : Operand) (ho : o.op = .call { callee := .builtin .append, args := #[s, x], argTypes := #[22, 22] })
    {B n g : Nat} {sv : Value} {xs : List Value} {nm nm2 : ByteArray} (hs : a.eval s = sv) (hown : w.ownsRow B 9 1 sv n xs) (hx : a.eval x = .slice (some ⟨g, 0, none⟩) 2 2)
    (hg : w.heap[g]? = some (.cells #[.string nm, .string nm2] 9)) (hn : n < lim) (hB : B ≤ w.heap.size)
    (h : ∀ sv' w', w'.ownsRow B 9 1 sv' (n + 2) (xs ++ [.string nm, .string nm2]) → w.grownBy w' sv.ownBlock → (∀ q, sv'.ownBlock = some q → sv.ownBlock = some q ∨ w.heap.size ≤ q) → wpList Tryz.prog ops Q rest (a.put o.dst sv') w') : wpList Tryz.prog ops Q (o :: rest) a w :=
  wpList_plain hgd (fun K hK => app9b s x ho hs hown hx hg hn hB (fun sv' w' h1 h2 h3 => hK _ _ (h sv' w' h1 h2 h3)))
mutual
/-- The tokens of a term. -/
def wrT : Tm → List ByteArray
  | .mk k n nm ar => if k = 5 then (match ar with
      | [] => [⟨#[92]⟩, ⟨#[46]⟩]
      | b :: _ => ⟨#[92]⟩ :: ⟨#[46]⟩ :: wrT b) else (if k = 1 then nm else letB k ++ itoaB n) :: wrL ar
def wrL : List Tm → List ByteArray
  | [] => []
  | a :: l => (if a.k = 5 ∨ 0 < a.ar.length then ⟨#[40]⟩ :: (wrT a ++ [⟨#[41]⟩]) else wrT a) ++ wrL l
end
mutual
theorem wrT_len : ∀ t : Tm, (wrT t).length + 2 ≤ 4 * t.sz
  | .mk k n nm [] => by
    rw [wrT, Tm.sz]
    split
    · simp [Tm.szL]
    · simp [wrL, Tm.szL]
  | .mk k n nm (b :: l) => by
    rw [wrT, Tm.sz]
    split
    · have := wrT_len b; simp [Tm.szL]; omega
    · have := wrL_len (b :: l); simp; omega
theorem wrL_len : ∀ l : List Tm, (wrL l).length ≤ 4 * Tm.szL l
  | [] => by simp [wrL]
  | a :: l => by
    have h1 := wrT_len a
    have h2 := wrL_len l
    rw [wrL, Tm.szL]
    split <;> simp <;> omega
end
theorem node_kind {t : Tm} (h : nodeP t = true) : t.k = 1 ∨ t.k = 2 ∨ t.k = 3 ∨ t.k = 4 ∨ t.k = 5 := by
  unfold nodeP at h
  split at h
  · exact .inl ‹_›
  · split at h
    · omega
    · simp at h; omega
theorem wrT_head {k n : Int} {nm : ByteArray} {ar : List Tm} (q : k ≠ 5) : wrT (.mk k n nm ar) = (if k = 1 then nm else letB k ++ itoaB n) :: wrL ar := by
  cases ar <;> rw [wrT, if_neg q]
/-- What Text's inner function keeps: the row that is made, and the function. -/
structure OutS (bo bw B : Nat) (us : List ByteArray) (sv : Value) (W : World) : Prop where
  o : W.heap[bo]? = some (.cells #[sv] 22)
  f : W.heap[bw]? = some (.cells #[.func (.func 150) #[] #[.pointer (some ⟨bo, 0, none⟩), .pointer (some ⟨bw, 0, none⟩)]] 111)
  own : W.ownsRow B 9 1 sv us.length (us.map Value.string)
def WrPost (bo bw B : Nat) (us : List ByteArray) (sv : Value) (w : World) (e : Ending) (w' : World) : Prop :=
  e = .returned (.tuple #[]) ∧ Kp (fun q => q = bo ∨ sv.ownBlock = some q) w w' ∧ ∃ sv', OutS bo bw B us sv' w' ∧ (∀ q, sv'.ownBlock = some q → sv.ownBlock = some q ∨ w.heap.size ≤ q)
/-- The state of the loop of Text's inner function behind j rounds. -/
structure LpS (bo bw B : Nat) (sv : Value) (w : World) (R : List ByteArray) (ar : List Tm) (j : Nat) (usj : List ByteArray) (svj : Value) (wr : World) : Prop where
  out : OutS bo bw B usj svj wr
  kp : Kp (fun q => q = bo ∨ sv.ownBlock = some q) w wr
  at_ : ∀ q, svj.ownBlock = some q → sv.ownBlock = some q ∨ w.heap.size ≤ q
  eq : usj ++ wrL (ar.drop j) = R
  len : usj.length + 4 * Tm.szL (ar.drop j) + 3 ≤ 1000000
theorem OutS.kp {bo bw B : Nat} {us : List ByteArray} {sv : Value} {W W' : World} {S : Nat → Prop} (i : OutS bo bw B us sv W) (k : Kp S W W') (h1 : ¬ S bo) (h2 : ¬ S bw) (h3 : ∀ q, S q → sv.ownBlock ≠ some q) : OutS bo bw B us sv W' :=
  ⟨blk_kp i.o k h1, blk_kp i.f k h2, own_kp i.own k h3⟩
/-- One more row behind the store. -/
theorem OutS.step {bo bw B : Nat} {us vs : List ByteArray} {sv sv2 : Value} {w w1 w2 : World} {h : Snap} (i : OutS bo bw B us sv w) (hne : bo ≠ bw) (hbo : bo < B) (hbw : bw < B) (hB : B ≤ w.heap.size) (H : Has w h) (ho : Off h (fun q => q = bo ∨ sv.ownBlock = some q)) (k1 : Below w.heap.size w w1) (hg : w1.grownBy w2 sv.ownBlock)
    (hown : w2.ownsRow B 9 1 sv2 (us ++ vs).length ((us ++ vs).map Value.string)) (hat : ∀ q, sv2.ownBlock = some q → sv.ownBlock = some q ∨ w1.heap.size ≤ q) :
    OutS bo bw B (us ++ vs) sv2 (w2.setCell ⟨bo, 0, none⟩ sv2) ∧ Kp (fun q => q = bo ∨ sv.ownBlock = some q) w (w2.setCell ⟨bo, 0, none⟩ sv2) ∧ Has (w2.setCell ⟨bo, 0, none⟩ sv2) h ∧ (∀ q, sv2.ownBlock = some q → sv.ownBlock = some q ∨ w.heap.size ≤ q) ∧
      w2.cell? ⟨bo, 0, none⟩ = some sv ∧ w2.frozen? ⟨bo, 0, none⟩ = false ∧ bo < w2.heap.size ∧ Kp (fun q => q = bo ∨ sv.ownBlock = some q) w1 (w2.setCell ⟨bo, 0, none⟩ sv2) := by
  have kp2 : Kp (fun q => sv.ownBlock = some q) w w2 := ((Kp.of_below (fun q => sv.ownBlock = some q) k1)).grown hg (fun q e => .inl e)
  have nbo := own_ge i.own hbo
  have nbw := own_ge i.own hbw
  have b1 := blk_kp i.o kp2 nbo
  have b2 := blk_kp i.f kp2 nbw
  have kp3 := (kp2.mono (T := fun q => q = bo ∨ sv.ownBlock = some q) (fun _ e => .inr e)).set (p := ⟨bo, 0, none⟩) (.inl (.inl rfl)) sv2
  refine ⟨⟨by simpa using blk_set b1 0 sv2, blk_far b2 hne.symm _, own_far hown hbo _⟩, kp3, H.kp kp3 ho, fun q e => (hat q e).imp id (fun h => by have := k1.size; omega), box1 b1, blk_frozen b1 0, blk_lt b1, (((Kp.refl (fun q => q = bo ∨ sv.ownBlock = some q) w1).grown hg (fun q e => .inl (.inr e))).set (p := ⟨bo, 0, none⟩) (.inl (.inl rfl)) sv2)⟩
def At2 (w : World) (sa sb : Value) : Prop := ∀ q, sb.ownBlock = some q → sa.ownBlock = some q ∨ w.heap.size ≤ q
theorem chain_kp {bo : Nat} {sa sb : Value} {a b c : World} (k1 : Kp (fun q => q = bo ∨ sa.ownBlock = some q) a b) (hat : At2 a sa sb) (k2 : Kp (fun q => q = bo ∨ sb.ownBlock = some q) b c) : Kp (fun q => q = bo ∨ sa.ownBlock = some q) a c :=
  k1.trans k2 (fun i hi hq => by
    rcases hq with hq | hq
    · exact .inl hq
    · rcases hat _ hq with hq | hq
      · exact .inr hq
      · omega)
theorem chain_at {sa sb sc : Value} {a b : World} (h1 : At2 a sa sb) (h2 : At2 b sb sc) (hs : a.heap.size ≤ b.heap.size) : At2 a sa sc := fun q hq => by
  rcases h2 q hq with hq | hq
  · exact h1 q hq
  · exact .inr (by omega)
theorem off_at {bo : Nat} {sa sb : Value} {w : World} {h : Snap} (H : Has w h) (ho : Off h (fun q => q = bo ∨ sa.ownBlock = some q)) (hat : At2 w sa sb) : Off h (fun q => q = bo ∨ sb.ownBlock = some q) := ⟨fun x v e hq => by
  rcases hq with hq | hq
  · exact ho.at_ x v e (.inl hq)
  · rcases hat _ hq with hq | hq
    · exact ho.at_ x v e (.inr hq)
    · have := H.lt e; omega⟩
theorem LpS.next {bo bw B : Nat} {sv : Value} {w : World} {R : List ByteArray} {ar : List Tm} {j : Nat} {usj us9 : List ByteArray} {svj sv9 : Value} {wr w9 : World} (hL : LpS bo bw B sv w R ar j usj svj wr) (o9 : OutS bo bw B us9 sv9 w9) (k9 : Kp (fun q => q = bo ∨ svj.ownBlock = some q) wr w9)
    (a9 : ∀ q, sv9.ownBlock = some q → svj.ownBlock = some q ∨ wr.heap.size ≤ q) (e9 : us9 ++ wrL (ar.drop (j + 1)) = R) (l9 : us9.length + 4 * Tm.szL (ar.drop (j + 1)) + 3 ≤ 1000000) : LpS bo bw B sv w R ar (j + 1) us9 sv9 w9 :=
  have hs := hL.kp.size
  ⟨o9, hL.kp.trans k9 (fun i hi2 hq => by
    rcases hq with hq | hq
    · exact .inl hq
    · rcases hL.at_ _ hq with hq | hq
      · exact .inr hq
      · omega), fun q hq => by
    rcases a9 q hq with hq | hq
    · exact hL.at_ q hq
    · exact .inr (by omega), e9, l9⟩
set_option maxRecDepth 100000 in
set_option maxHeartbeats 8000000 in
theorem write_calls (p : Tm → Bool) (I : World → Prop) (N0 : Nat) (hI : ∀ (t : Tm) (W : World), p t = true → I W → Calls Tryz.prog 152 #[.int .i64 t.n] W fun e w' => e = .returned (.string (itoaB t.n)) ∧ Below W.heap.size W w')
    (hIk : ∀ (W W' : World) (S : Nat → Prop), I W → Kp S W W' → (∀ q, S q → N0 ≤ q) → I W') (bo bw B : Nat) (hbo : bo < B) (hbw : bw < B) (hne : bo ≠ bw) (hN : N0 ≤ bo) (hNB : N0 ≤ B) :
    ∀ (m : Nat) (t : Tm) (_ : t.sz ≤ m) (cs : List Value) (us : List ByteArray) (sv : Value) (w : World) (h : Snap) (H : Has w h) (r : TmR h t cs) (ho : Off h (fun q => q = bo ∨ sv.ownBlock = some q)) (hS : OutS bo bw B us sv w) (hi : I w) (hB : B ≤ w.heap.size) (hraw : rawN t = true) (hp : allN p t = true) (hl : us.length + 4 * t.sz ≤ 1000000),
    Calls Tryz.prog 150 #[.agg cs.toArray, .pointer (some ⟨bo, 0, none⟩), .pointer (some ⟨bw, 0, none⟩)] w (WrPost bo bw B (us ++ wrT t) sv w) := by
  intro m
  induction m with
  | zero => intro t ht; have := t.sz_pos; omega
  | succ m ih =>
  rintro ⟨kk, nn, nm, ar⟩ ht cs us sv w h H r ho hS hi hB hraw hp hlen
  obtain ⟨A, cap, rfl, hl, hlm, hk1, hn1, hr⟩ := id r
  have hu34 := Tryz.underlying34
  have IH := Lib.hid ih
  clear ih
  obtain ⟨a1, ab⟩ := alloc1 w (.cells #[.int .i64 kk, .int .i64 nn, .string nm, .slice A ar.length cap] 34)
  have xb := box4 a1
  have hnd : nodeP (.mk kk nn nm ar) = true := by rw [rawN] at hraw; simp at hraw; exact hraw.1
  have hrl : rawNL ar = true := by rw [rawN] at hraw; simp at hraw; exact hraw.2
  have hpn : p (.mk kk nn nm ar) = true := by rw [allN] at hp; simp at hp; exact hp.1
  have hpl : allNL p ar = true := by rw [allN] at hp; simp at hp; exact hp.2
  have hIw := Lib.hid hI
  have hIk' := Lib.hid hIk
  have ho' := Lib.hid ho
  clear hI hIk ho
  have lbo := blk_lt hS.o
  have lbw := blk_lt hS.f
  obtain ⟨As, ks, rfl⟩ := own_form hS.own
  by_cases q5 : kk = 5
  · have hl1 : ar.length = 1 := lam_one (t := .mk kk nn nm ar) q5 hnd
    have g5 : (kk == 5) = true := by simp [q5]
    match ar, hl1, hr with
    | [u], _, hr =>
    obtain ⟨bt, ot, At', ct', rfl, f0, f1, f2, f3, ru⟩ := hr.get 0 (by simp)
    simp only [Nat.zero_mul, Nat.add_zero, List.getElem_cons_zero] at f0 f1 f2 f3 ru
    have hsz : u.sz ≤ m := by simp only [Tm.sz, Tm.szL] at ht; omega
    have hw : wrT (.mk kk nn nm [u]) = ⟨#[92]⟩ :: ⟨#[46]⟩ :: wrT u := by rw [wrT, if_pos q5]
    rw [hw]
    have hlu : us.length + 2 + 4 * u.sz ≤ 1000000 := by simp only [Tm.sz, Tm.szL] at hlen; omega
    have hru : rawN u = true := by rw [rawNL] at hrl; simp at hrl; exact hrl.1
    have hpu : allN p u = true := by rw [allNL] at hpl; simp at hpl; exact hpl.1
    have ht' := Lib.hid (show True ∧ hsz = hsz from ⟨trivial, rfl⟩)
    have hlr := Lib.hid hr
    have hun : us.length < lim := by unfold lim; omega
    have own2 := own_kp hS.own ((Kp.refl (fun _ => False) w).alloc (.cells #[.int .i64 kk, .int .i64 nn, .string nm, .slice (some ⟨bt, ot, none⟩) 1 cap] 34) |>.alloc (.cells #[.string ⟨#[92]⟩, .string ⟨#[46]⟩] 9)) (fun _ hf => hf.elim)
    clear hw hl hlm q5 hraw hnd hrl hp hpl hlen ht ht' hr a1 ab xb
    have r' := Lib.hid r
    clear r hlr
    obtain ⟨a1, ab⟩ := alloc1 w (.cells #[.int .i64 kk, .int .i64 nn, .string nm, .slice (some ⟨bt, ot, none⟩) 1 cap] 34)
    have xb := box4 a1
    have xo := box1 (box_below hS.o ab)
    have xo0 := box1 hS.o
    obtain ⟨h2a, h2b, kab⟩ := alloc2 w (.cells #[.int .i64 kk, .int .i64 nn, .string nm, .slice (some ⟨bt, ot, none⟩) 1 cap] 34) (.cells #[.string ⟨#[92]⟩, .string ⟨#[46]⟩] 9)
    have hB2 := Nat.le_trans hB kab.size
    have hS' := Lib.hid hS
    clear hS
    go_enter Tryz.func150, Tryz.ntmps150
    go_wp2_with (refine app9L2 rfl _ _ rfl rfl own2 rfl h2b hun hB2 ?_; intro sv2 w2 hown2 hg2 hat; obtain ⟨A2, c2, rfl⟩ := own_form hown2; obtain ⟨s1, s2, s3, s4, s5, s6, s7, s8⟩ := hS'.out.step (vs := [⟨#[92]⟩, ⟨#[46]⟩]) hne hbo hbw hB H ho'.out kab hg2 (by simpa using hown2) hat; replace s4 := Lib.hid s4; clear hown2 hg2 hat)
    obtain ⟨W3, hW3⟩ : ∃ W3, w2.setCell ⟨bo, 0, none⟩ (.slice A2 (us.length + 2) c2) = W3 := ⟨_, rfl⟩
    rw [hW3] at s1 s2 s3 s8 ⊢
    clear hW3
    have b3 := blk_kp h2a s8 (fun e => by
      rcases e with e | e
      · omega
      · exact own_new hS'.out.own (b := w.heap.size) (Nat.le_refl _) e)
    have y3 := box4 b3
    have yw := box1 s1.f
    refine rgs 6 (fun V => V.cell? ⟨bw, 0, none⟩ = some (.func (.func 150) #[] #[.pointer (some ⟨bo, 0, none⟩), .pointer (some ⟨bw, 0, none⟩)]) ∧ V.cell? ⟨w.heap.size, 3, none⟩ = some (.slice (some ⟨bt, ot, none⟩) 1 cap) ∧
      V.cell? ⟨bt, ot, none⟩ = some (.int .i64 u.k) ∧ V.cell? ⟨bt, ot + 1, none⟩ = some (.int .i64 u.n) ∧ V.cell? ⟨bt, ot + 2, none⟩ = some (.string u.nm) ∧ V.cell? ⟨bt, ot + 3, none⟩ = some (.slice At' u.ar.length ct')) [5] rfl
      ⟨yw, y3.2.2.2, s3.cell _ _ f0, s3.cell _ _ f1, s3.cell _ _ f2, s3.cell _ _ f3⟩ (fun hQ => ?_)
    refine rgt 0 (.func (.func 150) #[] #[.pointer (some ⟨bo, 0, none⟩), .pointer (some ⟨bw, 0, none⟩)]) rfl (by kernel_rfl) (fun _ _ _ h => h) rfl hQ (fun V hV => by obtain ⟨q1, q2, q3, q4, q5, q6⟩ := hV; go_simp) ?_
    refine rgt 1 (.pointer (some ⟨w.heap.size, 3, none⟩)) rfl (by kernel_rfl) (fun _ _ _ h => h) rfl hQ (fun V hV => by go_simp) ?_
    refine rgt 2 (.slice (some ⟨bt, ot, none⟩) 1 cap) rfl (by kernel_rfl) (fun _ _ _ h => h) rfl hQ (fun V hV => by obtain ⟨q1, q2, q3, q4, q5, q6⟩ := hV; go_simp) ?_
    refine rgt 3 (.pointer (some ⟨bt, ot, none⟩)) rfl (by kernel_rfl) (fun _ _ _ h => h) rfl hQ (fun V hV => by go_simp) ?_
    refine rgt 4 (.agg #[.int .i64 u.k, .int .i64 u.n, .string u.nm, .slice At' u.ar.length ct']) rfl (by kernel_rfl) (fun _ _ _ h => h) rfl hQ (fun V hV => by obtain ⟨q1, q2, q3, q4, q5, q6⟩ := hV; go_simp) ?_
    refine rgl 5 rfl (by kernel_rfl) (by decide) rfl (fun K hK => ?_)
    go_simp
    have ho3 : Off h (fun q => q = bo ∨ (Value.slice A2 (us.length + 2) c2).ownBlock = some q) := ⟨fun x v e hq => by
      rcases hq with hq | hq
      · exact ho'.out.at_ x v e (.inl hq)
      · rcases s4.out _ hq with hq | hq
        · exact ho'.out.at_ x v e (.inr hq)
        · have := H.lt e; omega⟩
    have hge : ∀ q, (q = bo ∨ (Value.slice As us.length ks).ownBlock = some q) → N0 ≤ q := fun q hq => by
      rcases hq with hq | hq
      · omega
      · exact Nat.le_trans hNB (Nat.le_of_not_lt (fun hlt => own_ge hS'.out.own hlt hq))
    have s1d : OutS bo bw B (us ++ [⟨#[92]⟩, ⟨#[46]⟩]) (.slice A2 (us.length + 2) c2) W3.drew := ⟨s1.o, s1.f, s1.own⟩
    refine (IH.out u hsz _ _ (.slice A2 (us.length + 2) c2) W3.drew h s3.drew ru ho3 s1d (hIk'.out _ _ _ hi s2.drew hge) (by have := s2.size; show B ≤ W3.heap.size; omega) hru hpu (by simp; omega)).mono ?_
    rintro e w4 ⟨rfl, k4, sv4, o4, hat4⟩
    simp only []
    refine hK.out _ _ ?_
    refine rgd (by kernel_rfl) ?_
    go_wp2_with fail
    go_end0
    have hsz3 : W3.drew.heap.size = W3.heap.size := rfl
    refine ⟨rfl, s2.drew.trans k4 (fun i hi2 hq => ?_), sv4, by simpa using o4, fun q hq => ?_⟩
    · rcases hq with hq | hq
      · exact .inl hq
      · rcases s4.out _ hq with hq | hq
        · exact .inr hq
        · omega
    · rcases hat4 q hq with hq | hq
      · exact s4.out q hq
      · have := s2.size; exact .inr (by omega)
  · have g5 : (kk == 5) = false := by simp [q5]
    have hle : us.length + 4 + 4 * Tm.szL ar ≤ 1000000 := by simp only [Tm.sz] at hlen; omega
    have hsz : ∀ j (hj : j < ar.length), ar[j].sz ≤ m := fun j hj => by have h2 := Tm.sz_at ar j hj; simp only [Tm.sz] at ht; omega
    have hsz' := Lib.hid hsz
    have hun : us.length < lim := by unfold lim; omega
    have hr' := Lib.hid hr
    have hl' := Lib.hid hl
    have hS' := Lib.hid hS
    have xo := box1 (box_below hS.o ab)
    have xo0 := box1 hS.o
    have hge : Hid (∀ q, (q = bo ∨ (Value.slice As us.length ks).ownBlock = some q) → N0 ≤ q) := Lib.hid (fun q hq => by
      rcases hq with hq | hq
      · omega
      · exact Nat.le_trans hNB (Nat.le_of_not_lt (fun hlt => own_ge hS.own hlt hq)))
    have hle' := Lib.hid hle
    have hB' := Lib.hid hB
    unfold lim at hlm
    clear hsz hraw hp hlen ht hr hl hle
    by_cases q1 : kk = 1
    · have g1 : (kk == 1) = true := by simp [q1]
      have hw : Hid (wrT (.mk kk nn nm ar) = nm :: wrL ar) := Lib.hid (by rw [wrT_head q5, if_pos q1])
      have own2 := own_kp hS.own ((Kp.refl (fun _ => False) w).alloc (.cells #[.int .i64 kk, .int .i64 nn, .string nm, .slice A ar.length cap] 34) |>.alloc (.cells #[.string nm] 9)) (fun _ hf => hf.elim)
      obtain ⟨h2a, h2b, kab⟩ := alloc2 w (.cells #[.int .i64 kk, .int .i64 nn, .string nm, .slice A ar.length cap] 34) (.cells #[.string nm] 9)
      have hB2 := Nat.le_trans hB'.out kab.size
      clear hS q1 q5 hB hnd
      go_enter Tryz.func150, Tryz.ntmps150
      go_wp2_with (refine app9L rfl _ _ rfl rfl own2 rfl h2b hun hB2 ?_; intro sv2 w2 hown2 hg2 hat; obtain ⟨A2, c2, rfl⟩ := own_form hown2; obtain ⟨s1, s2, s3, s4, s5, s6, s7, s8⟩ := hS'.out.step (vs := [nm]) hne hbo hbw hB'.out H ho'.out kab hg2 (by simpa using hown2) hat; replace s4 := Lib.hid s4; clear hown2 hg2 hat; have b9 := blk_kp h2a s8 (fun e => by (rcases e with e | e; (omega); (exact own_new hS'.out.own (b := w.heap.size) (Nat.le_refl _) e))); have y9 := box4 b9; have l9 := blk_lt b9)
      obtain ⟨W3, hW3⟩ : ∃ W3, w2.setCell ⟨bo, 0, none⟩ (.slice A2 (us.length + 1) c2) = W3 := ⟨_, rfl⟩
      rw [hW3] at s1 s2 s3 s8 ⊢
      clear hW3 s3 s8 y9 b9 l9 s5 s6 s7
      go_loopw [39] (fun i wr => ∃ j : Nat, j ≤ ar.length ∧ i = .int .i64 j ∧ ∃ usj svj, LpS bo bw B (.slice As us.length ks) w (us ++ wrT (.mk kk nn nm ar)) ar j usj svj wr) (fun i _ => ar.length - (intOf i).toNat)
      case atStart => exact ⟨0, by omega, rfl, _, _, s1, s2, s4.out, by rw [hw.out]; simp, by have := hle'.out; simp; omega⟩
      case round =>
        obtain ⟨j, hj, rfl, usj, svj, hL⟩ := hrel
        obtain ⟨Aj, kj, rfl⟩ := own_form hL.out.own
        by_cases hlt : j < ar.length
        · obtain ⟨bt, ot, At', ct', rfl, f0, f1, f2, f3, ru⟩ := hr'.out.get j hlt
          have Hr := H.kp hL.kp ho'.out
          have hc0 := Hr.cell _ _ f0
          have hc1 := Hr.cell _ _ f1
          have hc2 := Hr.cell _ _ f2
          have hc3 := Hr.cell _ _ f3
          have hjl : (j : Int) + 1 ≤ 1073741825 := by omega
          have hszj := Lib.hid (hsz'.out j hlt)
          have hrj := Lib.hid (rawN_at hrl j hlt)
          have hpj := Lib.hid (allNL_at hpl j hlt)
          have hR := Lib.hid hL.eq
          have hLn := Lib.hid hL.len
          rw [List.drop_eq_getElem_cons hlt] at hR hLn
          generalize hX : ar[j] = X at *
          replace hR : Hid (usj ++ ((if X.k = 5 ∨ 0 < X.ar.length then ⟨#[40]⟩ :: (wrT X ++ [⟨#[41]⟩]) else wrT X) ++ wrL (ar.drop (j + 1))) = us ++ wrT (.mk kk nn nm ar)) := Lib.hid (by have := hR.out; rw [wrL] at this; exact this)
          replace hLn : Hid (usj.length + 4 * (X.sz + Tm.szL (ar.drop (j + 1))) + 3 ≤ 1000000) := Lib.hid (by have := hLn.out; rw [Tm.szL] at this; exact this)
          have hX' := Lib.hid hX
          clear hX
          have hBr := Nat.le_trans hB'.out hL.kp.size
          have hIr : I wr := hIk'.out _ _ _ hi hL.kp hge.out
          have hoj : Off h (fun q => q = bo ∨ (Value.slice Aj usj.length kj).ownBlock = some q) := ⟨fun x v e hq => by
            rcases hq with hq | hq
            · exact ho'.out.at_ x v e (.inl hq)
            · rcases hL.at_ _ hq with hq | hq
              · exact ho'.out.at_ x v e (.inr hq)
              · have := H.lt e; omega⟩
          have hgj : ∀ q, (q = bo ∨ (Value.slice Aj usj.length kj).ownBlock = some q) → N0 ≤ q := fun q hq => by
            rcases hq with hq | hq
            · omega
            · exact Nat.le_trans hNB (Nat.le_of_not_lt (fun hlt => own_ge hL.out.own hlt hq))
          have hgj' := Lib.hid hgj
          have hLj := Lib.hid hL
          have hsw := hL.kp.size
          have xo1 := box1 hL.out.o
          have xf1 := box1 hL.out.f
          have lo1 := blk_lt hL.out.o
          have lf1 := blk_lt hL.out.f
          have hujl : usj.length + 2 < lim := by have := hLn.out; unfold lim; omega
          have hujn : usj.length < lim := by omega
          obtain ⟨d1, db⟩ := alloc1 wr (.cells #[.int .i64 X.k, .int .i64 X.n, .string X.nm, .slice At' X.ar.length ct'] 34)
          have z1 := box4 d1
          clear hL hgj
          by_cases hpar : X.k = 5 ∨ 0 < X.ar.length
          · have hR2 : Hid (usj ++ [⟨#[40]⟩] ++ wrT X ++ [⟨#[41]⟩] ++ wrL (ar.drop (j + 1)) = us ++ wrT (.mk kk nn nm ar)) := Lib.hid (by have := hR.out; rw [if_pos hpar] at this; rw [← this]; simp)
            obtain ⟨d2a, d2b, dab⟩ := alloc2 wr (.cells #[.int .i64 X.k, .int .i64 X.n, .string X.nm, .slice At' X.ar.length ct'] 34) (.cells #[.string ⟨#[40]⟩] 9)
            have ownj := own_kp hLj.out.out.own (Kp.of_below (fun _ => False) dab) (fun _ hf => hf.elim)
            have hBj := Nat.le_trans hBr dab.size
            rcases (show ((X.k == 5) = true ∧ True) ∨ ((X.k == 5) = false ∧ 0 < X.ar.length) by
              by_cases e : X.k = 5
              · exact .inl ⟨by simp [e], trivial⟩
              · exact .inr ⟨by simp [e], hpar.resolve_left e⟩) with ⟨gk, gl⟩ | ⟨gk, gl⟩
            all_goals clear hpar
            all_goals go_wp2_with (refine app9L rfl _ _ rfl rfl ownj rfl d2b hujn hBj ?_; intro sv4 w4 hown4 hg4 hat4; obtain ⟨A4, c4, rfl⟩ := own_form hown4; obtain ⟨t1, t2, t3, t4, t5, t6, t7, t8⟩ := hLj.out.out.step (vs := [⟨#[40]⟩]) hne hbo hbw hBr Hr hoj dab hg4 (by simpa using hown4) hat4; replace t4 := Lib.hid t4; clear hown4 hg4 hat4; have e9 := blk_kp d2a t8 (fun e => by (rcases e with e | e; (omega); (exact own_new hLj.out.out.own (b := wr.heap.size) (Nat.le_refl _) e))); have v9 := box4 e9; have m9 := blk_lt e9; have vf := box1 t1.f; have mf := blk_lt t1.f)
            all_goals
              obtain ⟨W4, hW4⟩ : ∃ W4, w4.setCell ⟨bo, 0, none⟩ (.slice A4 (usj.length + 1) c4) = W4 := ⟨_, rfl⟩
              rw [hW4] at t1 t2 t3 t8 vf mf ⊢
              clear hW4 t5 t6 t7 t8 e9 v9 m9 vf mf
              have ho4 := off_at Hr hoj t4.out
              have hs4 := t2.size
              refine (IH.out X hszj.out _ _ (.slice A4 (usj.length + 1) c4) W4 h t3 ru ho4 t1 (hIk'.out _ _ _ hIr t2 hgj'.out) (by omega) hrj.out hpj.out (by have := hLn.out; simp; omega)).mono ?_
              rintro e w5 ⟨rfl, k5, sv5, o5, hat5⟩
              obtain ⟨us5, hus5⟩ : ∃ us5, usj ++ [⟨#[40]⟩] ++ wrT X = us5 := ⟨_, rfl⟩
              rw [hus5] at o5
              have hus5' := Lib.hid hus5
              clear hus5
              have hl5 : us5.length + 1 + 4 * Tm.szL (ar.drop (j + 1)) + 3 ≤ 1000000 := by have h1 := hLn.out; have h2 := wrT_len X; rw [← hus5'.out]; simp; omega
              have hl5' := Lib.hid hl5
              have hun5 : us5.length < lim := by unfold lim; omega
              clear hl5
              obtain ⟨A5, c5, rfl⟩ := own_form o5.own
              have hs5 := k5.size
              have H5 := t3.kp k5 ho4
              have ho5 := off_at t3 ho4 hat5
              have hB5 : B ≤ w5.heap.size := by omega
              have hB5a : B ≤ (w5.alloc (.cells #[.string ⟨#[41]⟩] 9)).heap.size := by simp; omega
              obtain ⟨h5b, k5b⟩ := alloc1 w5 (.cells #[.string ⟨#[41]⟩] 9)
              have own5 := own_kp o5.own (Kp.of_below (fun _ => False) k5b) (fun _ hf => hf.elim)
              have xo5 := box1 o5.o
              have lo5 := blk_lt o5.o
              have xo5a := box1 (blk_alloc o5.o (.cells #[.string ⟨#[41]⟩] 9))
              have hat5' := Lib.hid hat5
              have o5' := Lib.hid o5
              clear hat5 o5
              go_wp2_with (refine app9L rfl _ _ rfl rfl own5 rfl h5b hun5 hB5a ?_; intro sv6 w6 hown6 hg6 hat6; obtain ⟨A6, c6, rfl⟩ := own_form hown6; obtain ⟨r1, r2, r3, r4, r5, r6, r7, r8⟩ := o5'.out.step (vs := [⟨#[41]⟩]) hne hbo hbw hB5 H5 ho5 k5b hg6 (by simpa using hown6) hat6; replace r4 := Lib.hid r4; clear hown6 hg6 hat6)
              exact ⟨⟨j + 1, by omega, by simp, _, _, hLj.out.next r1 (chain_kp t2 t4.out (chain_kp k5 hat5'.out r2)) (chain_at t4.out (chain_at hat5'.out r4.out hs5) hs4) (by rw [← hus5'.out]; simpa using hR2.out) (by have := hl5'.out; simp; omega)⟩, by simp [intOf]; omega⟩
          · have hR2 : Hid (usj ++ wrT X ++ wrL (ar.drop (j + 1)) = us ++ wrT (.mk kk nn nm ar)) := Lib.hid (by have := hR.out; rw [if_neg hpar] at this; rw [← this]; simp)
            have gk : (X.k == 5) = false := by simp; omega
            have gl2 : ¬ 0 < X.ar.length := by omega
            clear hpar
            have d1o := box1 (blk_alloc hLj.out.out.f (.cells #[.int .i64 X.k, .int .i64 X.n, .string X.nm, .slice At' X.ar.length ct'] 34))
            go_wp2_with fail
            have hs4 := db.size
            refine (IH.out X hszj.out _ usj (.slice Aj usj.length kj) (wr.alloc (.cells #[.int .i64 X.k, .int .i64 X.n, .string X.nm, .slice At' X.ar.length ct'] 34)) h (Hr.alloc _) ru hoj (hLj.out.out.kp (Kp.of_below (fun _ => False) db) (fun hf => hf) (fun hf => hf) (fun _ hf => hf.elim)) (hIk'.out _ _ _ hIr (Kp.of_below (fun _ => False) db) (fun _ hf => hf.elim)) (by omega) hrj.out hpj.out (by have := hLn.out; omega)).mono ?_
            rintro e w5 ⟨rfl, k5, sv5, o5, hat5⟩
            have hl5 : Hid ((usj ++ wrT X).length + 4 * Tm.szL (ar.drop (j + 1)) + 3 ≤ 1000000) := Lib.hid (by have h1 := hLn.out; have h2 := wrT_len X; simp; omega)
            have hn := hLj.out.next o5 ((Kp.of_below (fun q => q = bo ∨ (Value.slice Aj usj.length kj).ownBlock = some q) db).trans k5 (fun i hi2 hq => hq)) (fun q hq => (hat5 q hq).imp id (fun h => by omega)) (by rw [← hR2.out]) hl5.out
            have hn' := Lib.hid hn
            clear hn o5 hat5
            go_wp2_with fail
            exact ⟨⟨j + 1, by omega, by simp, _, _, hn'.out⟩, by simp [intOf]; omega⟩
        · have hje : j = ar.length := by omega
          have hfin : usj = us ++ wrT (.mk kk nn nm ar) := by
            have := hL.eq
            rw [hje, List.drop_length] at this
            simpa [wrL] using this
          have hL' := Lib.hid hL
          have hf' := Lib.hid hfin
          clear hfin
          go_wp2_with fail
          go_end0
          exact ⟨rfl, hL'.out.kp, _, by have := hL'.out.out; rw [hf'.out] at this ⊢; exact this, hL'.out.at_⟩
    · have g1 : (kk == 1) = false := by simp [q1]
      have hk3 : kk = 2 ∨ (kk = 3 ∨ kk = 4) := by
        have := node_kind hnd
        simp only [Tm.k] at this
        omega
      have hw : Hid (wrT (.mk kk nn nm ar) = (letB kk ++ itoaB nn) :: wrL ar) := Lib.hid (by rw [wrT_head q5, if_neg q1])
      have hk3' := Lib.hid hk3
      have hcat : (letB kk).size + (itoaB nn).size ≤ 1000 := by
        have h1 := Lib.itoa_length_le nn hn1.1 hn1.2
        have h2 : (itoaB nn).size = (Lib.itoa nn).length := by simp [itoaB, ByteArray.size]
        have h3 : (letB kk).size = 1 := by unfold letB; split; rfl; split <;> rfl
        omega
      clear hS q1 q5 hB hnd hk3
      go_enter Tryz.func150, Tryz.ntmps150
      go_wp2_with fail
      refine rgs 11 (fun V => V.cell? ⟨bo, 0, none⟩ = some (.slice As us.length ks) ∧ V.cell? ⟨w.heap.size, 0, none⟩ = some (.int .i64 kk) ∧ V.cell? ⟨w.heap.size, 1, none⟩ = some (.int .i64 nn)) [9, 10] rfl ⟨xo, xb.1, xb.2.1⟩ (fun hQ => ?_)
      refine rgt 0 (.slice As us.length ks) rfl (by kernel_rfl) (fun _ _ _ h => h) rfl hQ (fun V hV => by obtain ⟨p1, p2, p3⟩ := hV; go_simp) ?_
      refine rgt 1 (.pointer (some ⟨w.heap.size, 0, none⟩)) rfl (by kernel_rfl) (fun _ _ _ h => h) rfl hQ (fun V hV => by go_simp) ?_
      refine rgt 2 (.int .i64 kk) rfl (by kernel_rfl) (fun _ _ _ h => h) rfl hQ (fun V hV => by obtain ⟨p1, p2, p3⟩ := hV; go_simp) ?_
      refine rgt 4 (.pointer (some ⟨w.heap.size, 1, none⟩)) rfl (by kernel_rfl) (fun _ _ _ h => h) rfl hQ (fun V hV => by go_simp) ?_
      refine rgt 5 (.int .i64 nn) rfl (by kernel_rfl) (fun _ _ _ h => h) rfl hQ (fun V hV => by obtain ⟨p1, p2, p3⟩ := hV; go_simp) ?_
      refine rg1 3 rfl (by kernel_rfl) (by decide) rfl (fun K hK => ?_)
      go_simp
      refine (letter_calls kk hk3'.out _).mono ?_
      rintro e w1 ⟨rfl, k1⟩
      simp only []
      have k1' := below_then ab (undrew k1) ab.size
      refine hK.out _ _ ?_ (fun hQ => ?_)
      · obtain ⟨p1, p2, p3⟩ := hQ
        exact ⟨cell_below p1 k1, cell_below p2 k1, cell_below p3 k1⟩
      refine rg1 6 rfl (by kernel_rfl) (by decide) rfl (fun K hK => ?_)
      go_simp
      have hI1 : Calls Tryz.prog 152 #[.int .i64 nn] w1 fun e w' => e = .returned (.string (itoaB nn)) ∧ Below w1.heap.size w1 w' := hIw.out (.mk kk nn nm ar) w1 hpn (hIk'.out _ _ _ hi (Kp.of_below (fun _ => False) k1') (fun _ hf => hf.elim))
      refine hI1.mono ?_
      rintro e w2 ⟨rfl, k2⟩
      simp only []
      have k2' := below_then k1' k2 k1'.size
      refine hK.out _ _ ?_ (fun hQ => ?_)
      · obtain ⟨p1, p2, p3⟩ := hQ
        exact ⟨cell_below p1 k2, cell_below p2 k2, cell_below p3 k2⟩
      refine rgt 7 (.string (letB kk ++ itoaB nn)) rfl (by kernel_rfl) (fun _ _ _ h => h) rfl hQ (fun V hV => by go_simp; omega) ?_
      refine rg1 8 rfl (by kernel_rfl) (by decide) rfl (fun K hK => ?_)
      go_simp
      refine hK.out _ _ ?_ (fun hQ => ?_)
      · obtain ⟨p1, p2, p3⟩ := hQ
        exact ⟨cell_alloc p1 _, cell_alloc p2 _, cell_alloc p3 _⟩
      refine rgl 9 rfl (by kernel_rfl) (by decide) rfl (fun K hK => ?_)
      have kab := k2'.alloc k2'.size (.cells #[.string (letB kk ++ itoaB nn)] 9)
      have own2 := own_kp hS'.out.own (Kp.of_below (fun _ => False) kab) (fun _ hf => hf.elim)
      have hB2 := Nat.le_trans hB'.out kab.size
      refine app9 _ _ rfl rfl own2 rfl (blk_new _ _) hun hB2 ?_
      intro sv2 w2 hown2 hg2 hat
      obtain ⟨A2, c2, rfl⟩ := own_form hown2
      obtain ⟨s1, s2, s3, s4, s5, s6, s7, s8⟩ := hS'.out.step (vs := [letB kk ++ itoaB nn]) hne hbo hbw hB'.out H ho'.out kab hg2 (by simpa using hown2) hat
      replace s4 := Lib.hid s4
      have h2a := box_below a1 (below_then (undrew k1) k2 (undrew k1).size)
      have b9 := blk_kp (blk_alloc h2a (.cells #[.string (letB kk ++ itoaB nn)] 9)) s8 (fun e => by
        rcases e with e | e
        · omega
        · exact own_new hS'.out.own (b := w.heap.size) (Nat.le_refl _) e)
      have y9 := box4 b9
      have l9 := blk_lt b9
      clear hown2 hg2 hat
      refine hK.out _ _ ?_
      refine rgl 10 rfl (by kernel_rfl) (by decide) rfl (fun K hK => ?_)
      go_simp
      refine hK.out _ _ ?_
      refine rgd (by kernel_rfl) ?_
      go_wp2_with fail
      obtain ⟨W3, hW3⟩ : ∃ W3, w2.setCell ⟨bo, 0, none⟩ (.slice A2 (us.length + 1) c2) = W3 := ⟨_, rfl⟩
      rw [hW3] at s1 s2 s3 s8 ⊢
      clear hW3 s3 s8 y9 b9 l9 s5 s6 s7
      go_loopw [39] (fun i wr => ∃ j : Nat, j ≤ ar.length ∧ i = .int .i64 j ∧ ∃ usj svj, LpS bo bw B (.slice As us.length ks) w (us ++ wrT (.mk kk nn nm ar)) ar j usj svj wr) (fun i _ => ar.length - (intOf i).toNat)
      case atStart => exact ⟨0, by omega, rfl, _, _, s1, s2, s4.out, by rw [hw.out]; simp, by have := hle'.out; simp; omega⟩
      case round =>
        obtain ⟨j, hj, rfl, usj, svj, hL⟩ := hrel
        obtain ⟨Aj, kj, rfl⟩ := own_form hL.out.own
        by_cases hlt : j < ar.length
        · obtain ⟨bt, ot, At', ct', rfl, f0, f1, f2, f3, ru⟩ := hr'.out.get j hlt
          have Hr := H.kp hL.kp ho'.out
          have hc0 := Hr.cell _ _ f0
          have hc1 := Hr.cell _ _ f1
          have hc2 := Hr.cell _ _ f2
          have hc3 := Hr.cell _ _ f3
          have hjl : (j : Int) + 1 ≤ 1073741825 := by omega
          have hszj := Lib.hid (hsz'.out j hlt)
          have hrj := Lib.hid (rawN_at hrl j hlt)
          have hpj := Lib.hid (allNL_at hpl j hlt)
          have hR := Lib.hid hL.eq
          have hLn := Lib.hid hL.len
          rw [List.drop_eq_getElem_cons hlt] at hR hLn
          generalize hX : ar[j] = X at *
          replace hR : Hid (usj ++ ((if X.k = 5 ∨ 0 < X.ar.length then ⟨#[40]⟩ :: (wrT X ++ [⟨#[41]⟩]) else wrT X) ++ wrL (ar.drop (j + 1))) = us ++ wrT (.mk kk nn nm ar)) := Lib.hid (by have := hR.out; rw [wrL] at this; exact this)
          replace hLn : Hid (usj.length + 4 * (X.sz + Tm.szL (ar.drop (j + 1))) + 3 ≤ 1000000) := Lib.hid (by have := hLn.out; rw [Tm.szL] at this; exact this)
          have hX' := Lib.hid hX
          clear hX
          have hBr := Nat.le_trans hB'.out hL.kp.size
          have hIr : I wr := hIk'.out _ _ _ hi hL.kp hge.out
          have hoj : Off h (fun q => q = bo ∨ (Value.slice Aj usj.length kj).ownBlock = some q) := ⟨fun x v e hq => by
            rcases hq with hq | hq
            · exact ho'.out.at_ x v e (.inl hq)
            · rcases hL.at_ _ hq with hq | hq
              · exact ho'.out.at_ x v e (.inr hq)
              · have := H.lt e; omega⟩
          have hgj : ∀ q, (q = bo ∨ (Value.slice Aj usj.length kj).ownBlock = some q) → N0 ≤ q := fun q hq => by
            rcases hq with hq | hq
            · omega
            · exact Nat.le_trans hNB (Nat.le_of_not_lt (fun hlt => own_ge hL.out.own hlt hq))
          have hgj' := Lib.hid hgj
          have hLj := Lib.hid hL
          have hsw := hL.kp.size
          have xo1 := box1 hL.out.o
          have xf1 := box1 hL.out.f
          have lo1 := blk_lt hL.out.o
          have lf1 := blk_lt hL.out.f
          have hujl : usj.length + 2 < lim := by have := hLn.out; unfold lim; omega
          have hujn : usj.length < lim := by omega
          obtain ⟨d1, db⟩ := alloc1 wr (.cells #[.int .i64 X.k, .int .i64 X.n, .string X.nm, .slice At' X.ar.length ct'] 34)
          have z1 := box4 d1
          clear hL hgj
          by_cases hpar : X.k = 5 ∨ 0 < X.ar.length
          · have hR2 : Hid (usj ++ [⟨#[40]⟩] ++ wrT X ++ [⟨#[41]⟩] ++ wrL (ar.drop (j + 1)) = us ++ wrT (.mk kk nn nm ar)) := Lib.hid (by have := hR.out; rw [if_pos hpar] at this; rw [← this]; simp)
            obtain ⟨d2a, d2b, dab⟩ := alloc2 wr (.cells #[.int .i64 X.k, .int .i64 X.n, .string X.nm, .slice At' X.ar.length ct'] 34) (.cells #[.string ⟨#[40]⟩] 9)
            have ownj := own_kp hLj.out.out.own (Kp.of_below (fun _ => False) dab) (fun _ hf => hf.elim)
            have hBj := Nat.le_trans hBr dab.size
            rcases (show ((X.k == 5) = true ∧ True) ∨ ((X.k == 5) = false ∧ 0 < X.ar.length) by
              by_cases e : X.k = 5
              · exact .inl ⟨by simp [e], trivial⟩
              · exact .inr ⟨by simp [e], hpar.resolve_left e⟩) with ⟨gk, gl⟩ | ⟨gk, gl⟩
            all_goals clear hpar
            all_goals go_wp2_with (refine app9L rfl _ _ rfl rfl ownj rfl d2b hujn hBj ?_; intro sv4 w4 hown4 hg4 hat4; obtain ⟨A4, c4, rfl⟩ := own_form hown4; obtain ⟨t1, t2, t3, t4, t5, t6, t7, t8⟩ := hLj.out.out.step (vs := [⟨#[40]⟩]) hne hbo hbw hBr Hr hoj dab hg4 (by simpa using hown4) hat4; replace t4 := Lib.hid t4; clear hown4 hg4 hat4; have e9 := blk_kp d2a t8 (fun e => by (rcases e with e | e; (omega); (exact own_new hLj.out.out.own (b := wr.heap.size) (Nat.le_refl _) e))); have v9 := box4 e9; have m9 := blk_lt e9; have vf := box1 t1.f; have mf := blk_lt t1.f)
            all_goals
              obtain ⟨W4, hW4⟩ : ∃ W4, w4.setCell ⟨bo, 0, none⟩ (.slice A4 (usj.length + 1) c4) = W4 := ⟨_, rfl⟩
              rw [hW4] at t1 t2 t3 t8 vf mf ⊢
              clear hW4 t5 t6 t7 t8 e9 v9 m9 vf mf
              have ho4 := off_at Hr hoj t4.out
              have hs4 := t2.size
              refine (IH.out X hszj.out _ _ (.slice A4 (usj.length + 1) c4) W4 h t3 ru ho4 t1 (hIk'.out _ _ _ hIr t2 hgj'.out) (by omega) hrj.out hpj.out (by have := hLn.out; simp; omega)).mono ?_
              rintro e w5 ⟨rfl, k5, sv5, o5, hat5⟩
              obtain ⟨us5, hus5⟩ : ∃ us5, usj ++ [⟨#[40]⟩] ++ wrT X = us5 := ⟨_, rfl⟩
              rw [hus5] at o5
              have hus5' := Lib.hid hus5
              clear hus5
              have hl5 : us5.length + 1 + 4 * Tm.szL (ar.drop (j + 1)) + 3 ≤ 1000000 := by have h1 := hLn.out; have h2 := wrT_len X; rw [← hus5'.out]; simp; omega
              have hl5' := Lib.hid hl5
              have hun5 : us5.length < lim := by unfold lim; omega
              clear hl5
              obtain ⟨A5, c5, rfl⟩ := own_form o5.own
              have hs5 := k5.size
              have H5 := t3.kp k5 ho4
              have ho5 := off_at t3 ho4 hat5
              have hB5 : B ≤ w5.heap.size := by omega
              have hB5a : B ≤ (w5.alloc (.cells #[.string ⟨#[41]⟩] 9)).heap.size := by simp; omega
              obtain ⟨h5b, k5b⟩ := alloc1 w5 (.cells #[.string ⟨#[41]⟩] 9)
              have own5 := own_kp o5.own (Kp.of_below (fun _ => False) k5b) (fun _ hf => hf.elim)
              have xo5 := box1 o5.o
              have lo5 := blk_lt o5.o
              have xo5a := box1 (blk_alloc o5.o (.cells #[.string ⟨#[41]⟩] 9))
              have hat5' := Lib.hid hat5
              have o5' := Lib.hid o5
              clear hat5 o5
              go_wp2_with (refine app9L rfl _ _ rfl rfl own5 rfl h5b hun5 hB5a ?_; intro sv6 w6 hown6 hg6 hat6; obtain ⟨A6, c6, rfl⟩ := own_form hown6; obtain ⟨r1, r2, r3, r4, r5, r6, r7, r8⟩ := o5'.out.step (vs := [⟨#[41]⟩]) hne hbo hbw hB5 H5 ho5 k5b hg6 (by simpa using hown6) hat6; replace r4 := Lib.hid r4; clear hown6 hg6 hat6)
              exact ⟨⟨j + 1, by omega, by simp, _, _, hLj.out.next r1 (chain_kp t2 t4.out (chain_kp k5 hat5'.out r2)) (chain_at t4.out (chain_at hat5'.out r4.out hs5) hs4) (by rw [← hus5'.out]; simpa using hR2.out) (by have := hl5'.out; simp; omega)⟩, by simp [intOf]; omega⟩
          · have hR2 : Hid (usj ++ wrT X ++ wrL (ar.drop (j + 1)) = us ++ wrT (.mk kk nn nm ar)) := Lib.hid (by have := hR.out; rw [if_neg hpar] at this; rw [← this]; simp)
            have gk : (X.k == 5) = false := by simp; omega
            have gl2 : ¬ 0 < X.ar.length := by omega
            clear hpar
            have d1o := box1 (blk_alloc hLj.out.out.f (.cells #[.int .i64 X.k, .int .i64 X.n, .string X.nm, .slice At' X.ar.length ct'] 34))
            go_wp2_with fail
            have hs4 := db.size
            refine (IH.out X hszj.out _ usj (.slice Aj usj.length kj) (wr.alloc (.cells #[.int .i64 X.k, .int .i64 X.n, .string X.nm, .slice At' X.ar.length ct'] 34)) h (Hr.alloc _) ru hoj (hLj.out.out.kp (Kp.of_below (fun _ => False) db) (fun hf => hf) (fun hf => hf) (fun _ hf => hf.elim)) (hIk'.out _ _ _ hIr (Kp.of_below (fun _ => False) db) (fun _ hf => hf.elim)) (by omega) hrj.out hpj.out (by have := hLn.out; omega)).mono ?_
            rintro e w5 ⟨rfl, k5, sv5, o5, hat5⟩
            have hl5 : Hid ((usj ++ wrT X).length + 4 * Tm.szL (ar.drop (j + 1)) + 3 ≤ 1000000) := Lib.hid (by have h1 := hLn.out; have h2 := wrT_len X; simp; omega)
            have hn := hLj.out.next o5 ((Kp.of_below (fun q => q = bo ∨ (Value.slice Aj usj.length kj).ownBlock = some q) db).trans k5 (fun i hi2 hq => hq)) (fun q hq => (hat5 q hq).imp id (fun h => by omega)) (by rw [← hR2.out]) hl5.out
            have hn' := Lib.hid hn
            clear hn o5 hat5
            go_wp2_with fail
            exact ⟨⟨j + 1, by omega, by simp, _, _, hn'.out⟩, by simp [intOf]; omega⟩
        · have hje : j = ar.length := by omega
          have hfin : usj = us ++ wrT (.mk kk nn nm ar) := by
            have := hL.eq
            rw [hje, List.drop_length] at this
            simpa [wrL] using this
          have hL' := Lib.hid hL
          have hf' := Lib.hid hfin
          clear hfin
          go_wp2_with fail
          go_end0
          exact ⟨rfl, hL'.out.kp, _, by have := hL'.out.out; rw [hf'.out] at this ⊢; exact this, hL'.out.at_⟩
end Go.Proofs.YtpgbeapojjinmaaGreatDoor
namespace Go.Proofs.YtpgbeapojjinmaaGreatDoor
open Go.RowKit Go.Shelf Go.Proofs.YtpgbeapojjinmaaGreatDoorW.PrintLast
/-- The text of tokens. -/
def joinB (us : List ByteArray) : ByteArray := ⟨(Lib.join (us.map (·.data.toList)) [32]).toArray⟩
def textP (t : Tm) : ByteArray := if rawP t = 0 then (if 6000 < (wrT t).length ∨ 20000 < (joinB (wrT t)).size then ⟨#[]⟩ else joinB (wrT t)) else ⟨#[]⟩
theorem wrT_pos (t : Tm) : 0 < (wrT t).length := by
  obtain ⟨k, n, nm, ar⟩ := t
  by_cases q : k = 5
  · cases ar <;> rw [wrT, if_pos q] <;> simp
  · rw [wrT_head q]; simp
theorem own_cells {w : World} {B n : Nat} {g c : Nat} {us : List ByteArray} (h : w.ownsRow B 9 1 (.slice (some ⟨g, 0, none⟩) n c) n (us.map Value.string)) : (∀ (j : Nat) x, us[j]? = some x → w.cell? ⟨g, 0 + j, none⟩ = some (.string x)) ∧ g < w.heap.size ∧ n ≤ c ∧ us.length = n := by
  obtain ⟨h1, h2⟩ := h
  rcases h2 with ⟨h2, _⟩ | ⟨g', cap, cur, e1, hg, hh, h3, h4, h5, h6⟩
  · cases h2
  · simp only [Value.slice.injEq, Option.some.injEq, Addr.mk.injEq, and_true, true_and] at e1
    obtain ⟨rfl, rfl⟩ := e1
    refine ⟨fun j x hx => ?_, blk_lt hh, h3, by simpa using h1⟩
    have hj : j < us.length := (List.getElem?_eq_some_iff.1 hx).1
    have hl : us.length = n := by simpa using h1
    rw [Nat.zero_add, blk_cell hh j]
    have : (us.map Value.string)[j]? = some (.string x) := by rw [List.getElem?_map, hx]; rfl
    rw [← h6, List.getElem?_take, if_pos (by omega)] at this
    simpa using this
set_option maxRecDepth 100000 in
set_option maxHeartbeats 8000000 in
theorem Text_calls (p : Tm → Bool) (I : World → Prop) (N0 : Nat) (hI : ∀ (t : Tm) (W : World), p t = true → I W → Calls Tryz.prog 152 #[.int .i64 t.n] W fun e w' => e = .returned (.string (itoaB t.n)) ∧ Below W.heap.size W w')
    (hIk : ∀ (W W' : World) (S : Nat → Prop), I W → Kp S W W' → (∀ q, S q → N0 ≤ q) → I W') (t : Tm) (cs : List Value) (w : World) (h : Snap) (H : Has w h) (r : TmR h t cs) (hi : I w) (hN : N0 ≤ w.heap.size)
    (hz : rawP t = 0 → t.sz ≤ 100000 ∧ allN p t = true ∧ (Lib.join ((wrT t).map (·.data.toList)) [32]).length ≤ 140737488355328) :
    Calls Tryz.prog 71 #[.agg cs.toArray] w fun e w' => e = .returned (.string (textP t)) ∧ Below w.heap.size w w' := by
  have hmf := run_mf
  have r0 := r
  obtain ⟨A, cap, rfl, hl, hlm, hk1, hn1, hr⟩ := r.open_
  have hu34 := Tryz.underlying34
  have hu22 := Tryz.underlying22
  obtain ⟨a1, ab⟩ := alloc1 w (.cells #[.int .i64 t.k, .int .i64 t.n, .string t.nm, .slice A t.ar.length cap] 34)
  have hv : textP t = if rawP t = 0 then (if 6000 < (wrT t).length ∨ 20000 < (joinB (wrT t)).size then ⟨#[]⟩ else joinB (wrT t)) else ⟨#[]⟩ := rfl
  obtain ⟨T, hT⟩ : ∃ T, textP t = T := ⟨_, rfl⟩
  rw [hT] at hv ⊢
  clear hT
  have hz' := Lib.hid hz
  have hI' := Lib.hid hI
  have hIk' := Lib.hid hIk
  clear hz hI hIk
  by_cases q : rawP t = 0
  · have q' : (rawP t != 0) = false := by simp [q]
    obtain ⟨hz1, hz2, hz3⟩ := hz'.out q
    have hraw : rawN t = true := by
      unfold rawP at q
      split at q
      · split at q
        · assumption
        · cases q
      · exact absurd q ‹_›
    rw [if_pos q] at hv
    have hv' := Lib.hid hv
    have hz3' := Lib.hid hz3
    clear q hv hz3
    go_enter Tryz.func71, Tryz.ntmps71
    go_wp2_with fail
    refine (Raw_calls t _ _ h (H.below ab) r0).mono ?_
    rintro e w1 ⟨rfl, k1⟩
    have kk := below_then ab k1 ab.size
    have g1 := box_below a1 k1
    have y1 := box4 g1
    have l1 := blk_lt g1
    go_wp2_with fail
    have n1 := blk_new (w1.alloc (.cells #[.slice none 0 0] 22)) (.cells #[.func (.func 150) #[] #[.pointer (some ⟨w1.heap.size, 0, none⟩), .pointer (some ⟨w1.heap.size + 1, 0, none⟩)]] 111)
    have n0 := blk_alloc (blk_new w1 (.cells #[.slice none 0 0] 22)) (.cells #[.func (.func 150) #[] #[.pointer (some ⟨w1.heap.size, 0, none⟩), .pointer (some ⟨w1.heap.size + 1, 0, none⟩)]] 111)
    have kb : Below w1.heap.size w1 ((w1.alloc (.cells #[.slice none 0 0] 22)).alloc (.cells #[.func (.func 150) #[] #[.pointer (some ⟨w1.heap.size, 0, none⟩), .pointer (some ⟨w1.heap.size + 1, 0, none⟩)]] 111)) := (alloc2 w1 _ _).2.2
    obtain ⟨W3, hW3⟩ : ∃ W3, ((w1.alloc (.cells #[.slice none 0 0] 22)).alloc (.cells #[.func (.func 150) #[] #[.pointer (some ⟨w1.heap.size, 0, none⟩), .pointer (some ⟨w1.heap.size + 1, 0, none⟩)]] 111)) = W3 := ⟨_, rfl⟩
    have sz3 : W3.heap.size = w1.heap.size + 2 := by rw [← hW3]; simp
    rw [hW3] at n1 n0 kb ⊢
    clear hW3
    simp only [World.size_alloc] at n1
    have k3 := below_then kk kb kk.size
    have hs1 := kk.size
    refine (write_calls p I N0 hI'.out hIk'.out w1.heap.size (w1.heap.size + 1) (w1.heap.size + 2) (by omega) (by omega) (by omega) (by omega) (by omega) t.sz t (Nat.le_refl _) _ [] (.slice none 0 0) W3 h (H.below k3) r0 (H.off_new (fun q hq => by
      rcases hq with hq | hq
      · omega
      · simp [Value.ownBlock] at hq)) ⟨n0, n1, World.ownsRow_nil ..⟩ (hIk'.out _ _ _ hi (Kp.of_below (fun _ => False) k3) (fun _ hf => hf.elim)) (by omega) hraw hz2 (by simp; omega)).mono ?_
    rintro e w4 ⟨rfl, k4, sv4, o4, hat4⟩
    rw [List.nil_append] at o4
    have hpos := wrT_pos t
    have hlen := wrT_len t
    generalize wrT t = us at *
    have k5 : Below w.heap.size w w4 := ((Kp.of_below (fun q => w.heap.size ≤ q) k3).trans k4 (fun i hi2 hq => by
      rcases hq with hq | hq
      · omega
      · simp [Value.ownBlock] at hq)).below (fun i hi2 => by omega)
    obtain ⟨g, c, rfl, hg⟩ := own_head o4.own hpos
    obtain ⟨oc1, oc2, oc3, oc4⟩ := own_cells o4.own
    have oc1' := Lib.hid oc1
    have xo := box1 o4.o
    have lo := blk_lt o4.o
    have ho4 := Lib.hid o4
    have hat4' := Lib.hid hat4
    clear oc1 o4 hat4 y1 oc4
    go_wp2_with fail
    refine (Join_calls g 0 c us ⟨#[32]⟩ w4 oc1'.out oc2 (by omega) oc3 hz3'.out).mono ?_
    rintro e w5 ⟨rfl, k6⟩
    have kk5 := below_then k5 k6 k5.size
    have xo5 := box1 (box_below ho4.out.o k6)
    have lo5 := blk_lt (box_below ho4.out.o k6)
    have hjb : Hid ((⟨(Lib.join (us.map (·.data.toList)) [32]).toArray⟩ : ByteArray) = joinB us) := Lib.hid rfl
    obtain ⟨J, hJ⟩ : ∃ J : ByteArray, (⟨(Lib.join (us.map (·.data.toList)) [32]).toArray⟩ : ByteArray) = J := ⟨_, rfl⟩
    have hJ2 : Hid (joinB us = J) := Lib.hid (hjb.out.symm.trans hJ)
    rw [show (⟨#[32]⟩ : ByteArray).data.toList = [32] from rfl, hJ]
    rw [hJ2.out] at hv'
    clear hJ hjb hJ2
    by_cases c1 : 6000 < us.length
    · have G : Hid (T = ⟨#[]⟩) := Lib.hid (by have := hv'.out; rwa [if_pos (.inl c1)] at this)
      clear hv'
      go_wp2_with fail
      go_ret
      rw [G.out]
      exact ⟨rfl, kk5⟩
    · by_cases c2 : 20000 < J.size
      · have G : Hid (T = ⟨#[]⟩) := Lib.hid (by have := hv'.out; rwa [if_pos (.inr c2)] at this)
        clear hv'
        have c1' : us.length ≤ 6000 := by omega
        clear c1
        go_wp2_with fail
        go_ret
        rw [G.out]
        exact ⟨rfl, kk5⟩
      · have G : Hid (T = J) := Lib.hid (by have := hv'.out; rwa [if_neg (by omega)] at this)
        clear hv'
        have c1' : us.length ≤ 6000 := by omega
        have c2' : J.size ≤ 20000 := by omega
        clear c1 c2
        go_wp2_with fail
        go_ret
        rw [G.out]
        exact ⟨rfl, kk5⟩
  · have q' : (rawP t != 0) = true := by simp [q]
    rw [if_neg q] at hv
    have hv' := Lib.hid hv
    clear q hv
    go_enter Tryz.func71, Tryz.ntmps71
    go_wp2_with fail
    refine (Raw_calls t _ _ h (H.below ab) r0).mono ?_
    rintro e w1 ⟨rfl, k1⟩
    have kk := below_then ab k1 ab.size
    go_wp2_with fail
    go_ret
    rw [hv'.out]
    exact ⟨rfl, kk⟩
end Go.Proofs.YtpgbeapojjinmaaGreatDoor
