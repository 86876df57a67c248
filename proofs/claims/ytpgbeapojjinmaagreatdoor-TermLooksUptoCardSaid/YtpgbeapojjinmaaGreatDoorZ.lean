/- lex: Scan itself. · lex: Scan. · lex: Check, IsName. No law is proved here. -/
import Derived.Test.YtpgbeapojjinmaaGreatDoorV
set_option linter.unusedVariables false
set_option linter.unusedSimpArgs false
namespace Go.Proofs.YtpgbeapojjinmaaGreatDoor
open Go.RowKit Go.Shelf Go.Proofs.YtpgbeapojjinmaaGreatDoorW.PrintLast
attribute [local go_sem] Oper.semAt_some
set_option maxHeartbeats 1000000 in
theorem tokens_in (n : Nat) (s : ByteArray) (w : World) :
    CallsIn Fence.wide n Tryz.prog 193 #[.string s] w fun e w' => e = .returned (.func (.func 228) #[] #[.pointer (some ⟨w.heap.size, 0, none⟩)]) ∧ w' = w.alloc (.cells #[.string s] 9) := by
  refine callsIn_of_wp Tryz.func193 rfl trivial ?_ rfl
  simp only [Tryz.ntmps193, List.size_toArray, List.length_cons, List.length_nil, Nat.reduceAdd, Nat.reduceSub, Array.replicate_succ, Array.replicate_zero, List.push_toArray, List.append_toArray, List.nil_append, List.cons_append]
  gi_wp2
  go_ret
  exact ⟨rfl, rfl⟩
/-- What Scan returns: the tokens; or none, where, and why. -/
def scanR (s : ByteArray) : List Tok × Nat × Int := if 20000 < s.size then ([], 0, 2) else match (lexAll s).2 with | none => ((lexAll s).1, 0, 0) | some (p, c) => ([], p, c)
/-- A slice of tokens as it lies in memory. -/
def TkS (h : Snap) (ts : List Tok) (v : Value) : Prop := ∃ A cap, v = .slice A ts.length cap ∧ ts.length ≤ cap ∧ ts.length ≤ lim ∧ ∀ j (hj : j < ts.length), ∃ b o, A = some ⟨b, o, none⟩ ∧ h ⟨b, o + j * 3, none⟩ = some (.int .i64 ts[j].k) ∧ h ⟨b, o + j * 3 + 1, none⟩ = some (.string ts[j].t) ∧ h ⟨b, o + j * 3 + 2, none⟩ = some (.int .i64 ts[j].p)
def tkCells (ts : List Tok) : List Value := ts.flatMap (fun x => [.int .i64 x.k, .string x.t, .int .i64 x.p])
theorem tkCells_at : ∀ (ts : List Tok) (j : Nat) (hj : j < ts.length), (tkCells ts)[j * 3]? = some (.int .i64 ts[j].k) ∧ (tkCells ts)[j * 3 + 1]? = some (.string ts[j].t) ∧ (tkCells ts)[j * 3 + 2]? = some (.int .i64 ts[j].p)
  | x :: ts, 0, _ => ⟨rfl, rfl, rfl⟩
  | x :: ts, j + 1, hj => by
    have := tkCells_at ts j (by simpa using hj)
    have e : (j + 1) * 3 = j * 3 + 3 := by omega
    simp only [tkCells, List.flatMap_cons, e] at this ⊢
    exact this
theorem own_Tk {w0 w : World} {B : Nat} {h : Snap} {v : Value} {n : Nat} {ts : List Tok} (H : Has w h) (hB : w0.heap.size ≤ B) (ho : w.ownsRow B 170 3 v n (tkCells ts)) (hn : n = ts.length) (hl : n ≤ lim) :
    ∃ h', TkS h' ts v ∧ Mk w0 h w h' := by
  rcases ho.2 with ⟨rfl, h0⟩ | ⟨g, cap, cur, rfl, hb, hh, hnc, hcm, hsz, htk⟩
  · have : ts = [] := List.eq_nil_of_length_eq_zero (by omega)
    subst this
    exact ⟨h, ⟨none, 0, rfl, Nat.le_refl _, Nat.zero_le _, fun j hj => by cases hj⟩, Mk.refl H⟩
  · have hcell : ∀ j, j < n * 3 → ∀ u, (tkCells ts)[j]? = some u → w.cell? ⟨g, j, none⟩ = some u := fun j hj u hu => by
      rw [cell_of_row w g j cur 170 (0, 0) hh]
      rw [← htk, List.getElem?_take, if_pos hj] at hu
      simpa using hu
    refine ⟨withRow h w g (n * 3), ⟨some ⟨g, 0, none⟩, cap, by rw [hn], by omega, by omega, fun j hj => ?_⟩, ⟨withRow.sub .., withRow.has H .., fun a u e => (withRow.new e).imp_right (fun k => by omega)⟩⟩
    obtain ⟨c0, c1, c2⟩ := tkCells_at ts j hj
    refine ⟨g, 0, rfl, withRow.at_ H (by omega) (hcell _ (by omega) _ ?_), withRow.at_ H (by omega) (hcell _ (by omega) _ ?_), withRow.at_ H (by omega) (hcell _ (by omega) _ ?_)⟩
    · rw [← c0]; congr 1; omega
    · rw [← c1]; congr 1; omega
    · rw [← c2]; congr 1; omega
theorem info170 : (Tryz.prog.info? 170).map (fun i => (i.zero, i.size, i.bytes)) = some (some (.agg #[(.int .i64 0), (.string ⟨#[]⟩), (.int .i64 0)]), 3, 32) := by kernel_rfl
theorem own_other {w : World} {B : Nat} {e : TypeId} {sz n : Nat} {v : Value} {xs : List Value} (h : w.ownsRow B e sz v n xs) {l : Nat} {o : Obj} (hl : w.heap[l]? = some o) (ho : o.isCells = false) : v.ownBlock ≠ some l := by
  rcases h.2 with ⟨rfl, _⟩ | ⟨g, cap, cur, rfl, _, hg, _⟩
  · simp [Value.ownBlock]
  · intro e
    simp only [Value.ownBlock, Option.some.injEq] at e
    subst e
    rw [hl] at hg
    cases hg
    cases ho
structure ScI (w : World) (b2 b3 b4 bs B : Nat) (s : ByteArray) (pre : List Tok) (sv : Value) (W : World) : Prop where
  x2 : W.heap[b2]? = some (.cells #[sv] 163)
  x3 : W.heap[b3]? = some (.cells #[.int .i64 0] 3)
  x4 : W.heap[b4]? = some (.cells #[.int .i64 0] 42)
  xs : W.heap[bs]? = some (.cells #[.string s] 9)
  own : W.ownsRow B 170 3 sv pre.length (tkCells pre)
  bel : Below w.heap.size w W
  base : B ≤ W.heap.size
theorem ScI.below {w : World} {b2 b3 b4 bs B : Nat} {s : ByteArray} {pre : List Tok} {sv : Value} {W W' : World} (i : ScI w b2 b3 b4 bs B s pre sv W) (k : Below W.heap.size W W') : ScI w b2 b3 b4 bs B s pre sv W' :=
  ⟨box_below i.x2 k, box_below i.x3 k, box_below i.x4 k, box_below i.xs k, own_kp i.own (Kp.of_below (fun _ => False) k) (fun _ hf => hf.elim), below_then i.bel k i.bel.size, Nat.le_trans i.base k.size⟩
theorem ScI.put {w : World} {b2 b3 b4 bs B : Nat} {s : ByteArray} {pre : List Tok} {sv : Value} {W : World} (i : ScI w b2 b3 b4 bs B s pre sv W) {l : Nat} {o : Obj} (o' : Obj) (hl : W.heap[l]? = some o) (ho : o.isCells = false) (hw : w.heap.size ≤ l) : ScI w b2 b3 b4 bs B s pre sv (W.putObj l o') := by
  have ne : ∀ b cs T, W.heap[b]? = some (.cells cs T) → b ≠ l := fun b cs T hb e => by subst e; rw [hl] at hb; cases hb; cases ho
  have k : Kp (fun q => q = l) W (W.putObj l o') := (Kp.refl (fun q => q = l) W).grown (grownBy_putObj' W l o') (fun k e => by cases e; exact .inl rfl)
  exact ⟨blk_kp i.x2 k (ne _ _ _ i.x2), blk_kp i.x3 k (ne _ _ _ i.x3), blk_kp i.x4 k (ne _ _ _ i.x4), blk_kp i.xs k (ne _ _ _ i.xs), own_kp i.own k (fun b e => by subst e; exact own_other i.own hl ho),
    i.bel.grown (grownBy_putObj' W l o') i.bel.size (fun k e => by cases e; exact hw), Nat.le_trans i.base k.size⟩
end Go.Proofs.YtpgbeapojjinmaaGreatDoor
namespace Go.Proofs.YtpgbeapojjinmaaGreatDoor
open Go.RowKit Go.Shelf Go.Proofs.YtpgbeapojjinmaaGreatDoorW.PrintLast
attribute [local go_sem] Oper.semAt_some
theorem lexRun_len (s : ByteArray) : ∀ (f q m : Nat), (lexRun s f q m).1.length ≤ f
  | 0, q, m => by simp [lexRun]
  | f + 1, q, m => by
    by_cases h : q < s.size
    · cases ht : tokK (s.extract q s.size) with
      | none => rw [lexRun_char h ht]; simp
      | some kn =>
        obtain ⟨k, n⟩ := kn
        by_cases hm : m = 6000
        · subst hm; rw [lexRun_long h ht]; simp
        · by_cases hn : (k = 1 ∨ k = 2) ∧ 40 < n
          · rw [lexRun_name h ht hm hn]; simp
          · rw [lexRun_tok h ht hm hn]
            have := lexRun_len s f (q + n + skipK false (s.data.toList.drop (q + n))) (m + 1)
            simp only [List.length_cons]
            omega
    · rw [lexRun_end h]; simp
/-- The three results of Scan are stored; those of a list that is there already. -/
theorem ScI.stored {w : World} {b s0 B : Nat} {s : ByteArray} {pre : List Tok} {sv : Value} {W : World} (i : ScI w b (b + 1) (b + 1 + 1) (b + 1 + 1 + 1) B s pre sv W) (hb : w.heap.size ≤ b) (hB : b + 4 ≤ B) :
    ScI w b (b + 1) (b + 1 + 1) (b + 1 + 1 + 1) B s pre sv (((W.setCell ⟨b, 0, none⟩ sv).setCell ⟨b + 1, 0, none⟩ (.int .i64 0)).setCell ⟨b + 1 + 1, 0, none⟩ (.int .i64 0)) := by
  have k : Kp (fun q => q = b ∨ (q = b + 1 ∨ q = b + 1 + 1)) W (((W.setCell ⟨b, 0, none⟩ sv).setCell ⟨b + 1, 0, none⟩ (.int .i64 0)).setCell ⟨b + 1 + 1, 0, none⟩ (.int .i64 0)) :=
    (((Kp.refl (fun q => q = b ∨ (q = b + 1 ∨ q = b + 1 + 1)) W).set (p := ⟨b, 0, none⟩) (.inl (.inl rfl)) _).set (p := ⟨b + 1, 0, none⟩) (.inl (.inr (.inl rfl))) _).set (p := ⟨b + 1 + 1, 0, none⟩) (.inl (.inr (.inr rfl))) _
  refine ⟨?_, ?_, ?_, blk_kp i.xs k (by omega), own_kp i.own k (fun q hq => own_ge i.own (by omega)), ?_, Nat.le_trans i.base k.size⟩
  · exact blk_far (blk_far (blk_set i.x2 0 sv) (p := ⟨b + 1, 0, none⟩) (by simp) _) (p := ⟨b + 1 + 1, 0, none⟩) (by simp; omega) _
  · exact blk_far (blk_set (blk_far i.x3 (p := ⟨b, 0, none⟩) (by simp) _) 0 (.int .i64 0)) (p := ⟨b + 1 + 1, 0, none⟩) (by simp) _
  · exact blk_set (blk_far (blk_far i.x4 (p := ⟨b, 0, none⟩) (by simp; omega) _) (p := ⟨b + 1, 0, none⟩) (by simp) _) 0 (.int .i64 0)
  · exact i.bel.trans ⟨k.os, k.tape, k.output, k.size, fun q hq => k.block q (by have := i.bel.size; omega) (by omega)⟩
set_option maxRecDepth 100000 in
set_option maxHeartbeats 4000000 in
theorem Scan_calls (s : ByteArray) (w : World) (h : Snap) (H : Has w h) :
    Calls Tryz.prog 144 #[.string s] w fun e w' => ∃ v h', e = .returned (.tuple #[v, .int .i64 (scanR s).2.1, .int .i64 (scanR s).2.2]) ∧ TkS h' (scanR s).1 v ∧ Below w.heap.size w w' ∧ Mk w h w' h' := by
  refine (callsIn_wide (n := 9)).1 ?_
  by_cases hs : 20000 < s.size
  · have hr : scanR s = ([], 0, 2) := by rw [scanR, if_pos hs]
    have ha := alloc3 w (.cells #[.slice none 0 0] 163) (.cells #[.int .i64 0] 3) (.cells #[.int .i64 2] 42)
    have c2 := box1 ha.1
    have c3 := box1 ha.2.1
    have c4 := box1 ha.2.2.1
    refine callsIn_of_wp_marks Tryz.func144 rfl trivial ?_ rfl
    simp only [Tryz.ntmps144, List.size_toArray, List.length_cons, List.length_nil, Nat.reduceAdd, Nat.reduceSub, Array.replicate_succ, Array.replicate_zero, List.push_toArray, List.append_toArray, List.nil_append, List.cons_append]
    have hr' := Lib.hid hr
    clear hr
    gi_wp2_with fail
    refine ⟨.tuple #[.slice none 0 0, .int .i64 0, .int .i64 2], by simp [results, Tryz.results144, go_sem, c2, c3, c4], .slice none 0 0, h, ?_, ?_, ha.2.2.2, Mk.refl (H.below ha.2.2.2)⟩
    · rw [hr'.out]; rfl
    · rw [hr'.out]; exact ⟨none, 0, rfl, Nat.le_refl _, Nat.zero_le _, fun j hj => by cases hj⟩
  · have hs' : s.size ≤ 20000 := by omega
    refine callsIn_of_wp_marks Tryz.func144 rfl trivial ?_ rfl
    simp only [Tryz.ntmps144, List.size_toArray, List.length_cons, List.length_nil, Nat.reduceAdd, Nat.reduceSub, Array.replicate_succ, Array.replicate_zero, List.push_toArray, List.append_toArray, List.nil_append, List.cons_append]
    have hmf := run_mf
    have ha := alloc4 w (.cells #[.slice none 0 0] 163) (.cells #[.int .i64 0] 3) (.cells #[.int .i64 0] 42) (.cells #[.string s] 9)
    gi_wp2_with (refine ⟨trivial, ?_⟩; gi_at_call 193; refine (tokens_in _ _ _).mono ?_; rintro e w' ⟨rfl, rfl⟩)
    obtain ⟨W0, hW0⟩ : ∃ W0, ((((w.alloc (.cells #[.slice none 0 0] 163)).alloc (.cells #[.int .i64 0] 3)).alloc (.cells #[.int .i64 0] 42)).alloc (.cells #[.string s] 9)) = W0 := ⟨_, rfl⟩
    have hsz : W0.heap.size = w.heap.size + 4 := by rw [← hW0]; simp
    rw [hW0] at ha ⊢
    clear hW0
    have hi0 : ScI w w.heap.size (w.heap.size + 1) (w.heap.size + 1 + 1) (w.heap.size + 1 + 1 + 1) W0.heap.size s [] (.slice none 0 0) W0 := ⟨ha.1, ha.2.1, ha.2.2.1, ha.2.2.2.1, World.ownsRow_nil .., ha.2.2.2.2, Nat.le_refl _⟩
    refine range_panics (n := 9) (N := 6000) (gf := 228) (lb := #[.pointer (some ⟨w.heap.size + 1 + 1 + 1, 0, none⟩)]) rfl (enters_of Tryz.func228 (by kernel_rfl) rfl) (fun x : Tok => #[.agg x.cells]) (fun _ => rfl)
      (fun pre W => ∃ sv, ScI w w.heap.size (w.heap.size + 1) (w.heap.size + 1 + 1) (w.heap.size + 1 + 1 + 1) W0.heap.size s pre sv W) (fun pre W W' ⟨sv, i⟩ k => ⟨sv, i.below k⟩)
      (fun pre W l o o' ⟨sv, i⟩ hl ho hc => ⟨sv, i.put o' ho hc (by omega)⟩) ⟨_, hi0⟩ (fun e xs => e = endT (lexAll s).2 ∧ xs = (lexAll s).1) ?seq ?round ?done ?panic ?out
    case seq =>
      intro l J W hJ hJI hY hJ0
      refine (tokens1_in 8 (by decide) l (w.heap.size + 1 + 1 + 1) s hs' J hJ (fun pre W hj => box1 (hJI _ _ hj).choose_spec.xs) hY W hJ0).mono ?_
      rintro e W' ⟨he, hj⟩
      exact ⟨_, ⟨he, rfl⟩, hj⟩
    case round =>
      rintro l pre ⟨k, t, p⟩ W W1 ⟨sv, i⟩ hW hl hlW hpl
      have i1 := i.below hW
      dsimp only [Tok.cells]
      gi_wp2_with fail
      have hnew := alloc1 W1 (.cells #[.int .i64 k, .string t, .int .i64 p] 170)
      refine ⟨hnew.2, ?_⟩
      intro o o' hl2 ho
      have hlt : l < W1.heap.size := Nat.lt_of_lt_of_le hlW hW.size
      have i3 := (i1.below hnew.2).put o' hl2 ho (by omega)
      have nb := (World.putObj_heap_other (o := o') (show W1.heap.size ≠ l by omega)).trans hnew.1
      obtain ⟨W3, hW3⟩ : ∃ W3, (W1.alloc (.cells #[.int .i64 k, .string t, .int .i64 p] 170)).putObj l o' = W3 := ⟨_, rfl⟩
      have hs3 : W3.heap.size = W1.heap.size + 1 := by rw [← hW3]; simp
      have hk3 : ∀ b, W.heap.size ≤ b → b < W1.heap.size → W3.heap[b]? = W1.heap[b]? := fun b hb hb1 => by
        rw [← hW3]; exact (World.putObj_heap_other (by omega)).trans (hnew.2.block b hb1)
      rw [hW3] at i3 nb ⊢
      clear hW3
      have hs3' := Lib.hid hs3
      clear hs3
      obtain ⟨A, cp, rfl⟩ := own_form i3.own
      have c2 := box1 i3.x2
      have n3 := box3 nb
      obtain ⟨i0, hi, hz0, hz1, hz2⟩ := info_parts info170
      have hB := i3.base
      gi_wp2_with (gi_at_builtin; refine wpListIn_append_own _ rfl _ _ 163 rfl W0.heap.size 170 i0 _ 3 32 Tryz.underlying163 hi hz0 hz1 hz2 rfl (by decide) _ _ _ rfl (own_kp i3.own ((Kp.refl (fun _ => False) W3).alloc _) (fun _ hf => hf.elim)) ⟨W3.heap.size, 0, none⟩ 1 1 [.int .i64 k, .string t, .int .i64 p] rfl rfl (World.news_of_block (blk_new _ _)) (by simp [Value.oneCell']) (by simp [maxLen]; omega) (by omega) (by simp; omega) ?_; intro v' w5 hown' hgrow _; obtain ⟨A5, cp5, rfl⟩ := own_form hown'; have kp5 := ((Kp.refl (fun q => (Value.slice A pre.length cp).ownBlock = some q) W3).alloc (.cells #[.int .i64 k, .string t, .int .i64 p] 170)).grown hgrow (fun _ e => .inl e); have y2 := blk_kp i3.x2 kp5 (own_ge i3.own (by omega)); have c25 := box1 y2; have f25 := blk_frozen y2)
      rw [hsz] at hown'
      have hle := hs3'.out
      have kf : Kp (fun q => (Value.slice A pre.length cp).ownBlock = some q ∨ q = w.heap.size) W3 (w5.setCell { block := w.heap.size, off := 0 } (Value.slice A5 (pre.length + 1) cp5)) := (kp5.mono (fun _ e => .inl e)).set (p := ⟨w.heap.size, 0, none⟩) (.inl (.inr rfl)) _
      have hW1 := hW.size
      have hbs := i3.bel.size
      have ow := i3.own
      rw [hsz] at ow
      refine ⟨fun b o2 hb hob hoc => blk_kp hob kf (fun e => ?_), by have := kp5.size; omega, fun b hb hb1 => (kf.block b (by omega) (fun e => ?_)).trans (hk3 b hb hb1), _, ⟨blk_set y2 0 _, ?_, ?_, ?_, ?_, ?_, ?_⟩⟩
      · rcases e with e | e
        · exact own_other i3.own hob hoc e
        · omega
      · rcases e with e | e
        · exact own_new i.own hb e
        · have := blk_lt i.x2; omega
      · exact blk_kp i3.x3 kf (fun e => e.elim (own_ge ow (by omega)) (by omega))
      · exact blk_kp i3.x4 kf (fun e => e.elim (own_ge ow (by omega)) (by omega))
      · exact blk_kp i3.xs kf (fun e => e.elim (own_ge ow (by omega)) (by omega))
      · have e1 : (pre ++ [({ k := k, t := t, p := p } : Tok)]).length = pre.length + 1 := by simp
        have e2 : tkCells (pre ++ [({ k := k, t := t, p := p } : Tok)]) = tkCells pre ++ [.int .i64 k, .string t, .int .i64 p] := by simp [tkCells]
        rw [e1, e2]
        exact own_far hown' (p := ⟨w.heap.size, 0, none⟩) (by simp) _
      · exact i3.bel.trans ⟨kf.os, kf.tape, kf.output, kf.size, fun q hq => kf.block q (by omega) (fun e => e.elim (own_ge ow (by omega)) (by omega))⟩
      · have := kf.size; omega
    case done =>
      rintro D v xs W hD ⟨he, rfl⟩ ⟨sv, i⟩ hK
      have hl : (lexAll s).2 = none := by
        cases hx : (lexAll s).2 with
        | none => rfl
        | some pc => rw [hx] at he; cases he
      have hr' := Lib.hid (show scanR s = ((lexAll s).1, 0, 0) by rw [scanR, if_neg hs, hl])
      have c2 := box1 i.x2
      have f2 := blk_frozen i.x2
      have f3 := blk_frozen i.x3
      have f4 := blk_frozen i.x4
      have c3 := box1 i.x3
      have c4 := box1 i.x4
      clear he hl
      obtain ⟨A, cp, rfl⟩ := own_form i.own
      have i2 := i.stored (s0 := 0) (Nat.le_refl _) (by omega)
      have hK2 := (((KeepsOthers.setCell W ⟨w.heap.size, 0, none⟩ (.slice A (lexAll s).1.length cp)).trans (KeepsOthers.setCell _ ⟨w.heap.size + 1, 0, none⟩ (.int .i64 0))).trans (KeepsOthers.setCell _ ⟨w.heap.size + 1 + 1, 0, none⟩ (.int .i64 0))).same D _ hK rfl
      gi_wp2_with fail
      generalize ((W.setCell ⟨w.heap.size, 0, none⟩ (.slice A (lexAll s).1.length cp)).setCell ⟨w.heap.size + 1, 0, none⟩ (.int .i64 0)).setCell ⟨w.heap.size + 1 + 1, 0, none⟩ (.int .i64 0) = W2 at i2 hK2 ⊢
      have i3 := i2.put (.deferred none) hK2 rfl (by omega)
      refine ⟨by simp, .inl ⟨_, _, rfl, run_takeDeferred hK2, ?_⟩⟩
      generalize W2.putObj D (.deferred none) = W3 at i3 ⊢
      refine ⟨by simp, .inr ⟨fun h => (by cases h), _, _, 192, #[.pointer (some ⟨w.heap.size, 0, none⟩), .pointer (some ⟨w.heap.size + 1, 0, none⟩), .pointer (some ⟨w.heap.size + 1 + 1, 0, none⟩)], rfl, by simp [go_sem], fun _ _ => trivial, ?_⟩⟩
      refine (scan_idle _ _ _ _ _).mono ?_
      rintro e u' w'' ⟨rfl, rfl, rfl⟩
      have d2 := box1 i3.x2
      have d3 := box1 i3.x3
      have d4 := box1 i3.x4
      have hlen := lexRun_len s (s.size + 1) (skipK false s.data.toList) 0
      obtain ⟨h', rt, mt⟩ := own_Tk (w0 := w) (H.below i3.bel) (by omega) i3.own rfl (by have : (lexAll s).1.length ≤ s.size + 1 := hlen; unfold lim; omega)
      exact ⟨.tuple #[.slice A (lexAll s).1.length cp, .int .i64 0, .int .i64 0], by simp [results, Tryz.results144, go_sem, d2, d3, d4], .slice A (lexAll s).1.length cp, h', by rw [hr'.out]; rfl, by rw [hr'.out]; exact rt, i3.bel, mt⟩
    case panic =>
      rintro D c xs W hD ⟨he, rfl⟩ ⟨sv, i⟩ hK
      obtain ⟨p, cd, hx⟩ : ∃ p cd, (lexAll s).2 = some (p, cd) := by
        cases hx : (lexAll s).2 with
        | none => rw [hx] at he; cases he
        | some pc => exact ⟨pc.1, pc.2, rfl⟩
      rw [hx] at he
      obtain rfl : c = stopC p cd := by injection he
      have hr' : scanR s = ([], p, cd) := by rw [scanR, if_neg hs, hx]
      have i3 := i.put (.deferred none) hK rfl (by omega)
      refine ⟨by simp, .inl ⟨_, _, rfl, run_takeDeferred hK, ?_⟩⟩
      generalize W.putObj D (.deferred none) = W3 at i3 ⊢
      obtain ⟨A, cp, rfl⟩ := own_form i3.own
      refine ⟨by simp, .inr ⟨fun h => (by cases h), _, _, 192, #[.pointer (some ⟨w.heap.size, 0, none⟩), .pointer (some ⟨w.heap.size + 1, 0, none⟩), .pointer (some ⟨w.heap.size + 1 + 1, 0, none⟩)], rfl, by simp [go_sem], fun _ _ => trivial, ?_⟩⟩
      refine (scan_catch _ _ _ _ p cd 0 0 A _ cp W3 i3.x2 i3.x3 i3.x4 (by omega) (by omega) (by omega)).mono ?_
      rintro e u' w'' ⟨rfl, rfl, e2, e3, e4, ke⟩
      have d2 := box1 e2
      have d3 := box1 e3
      have d4 := box1 e4
      have hbel : Below w.heap.size w w'' := i3.bel.trans ⟨ke.os, ke.tape, ke.output, ke.size, fun q hq => ke.block q (by have := i3.bel.size; omega) (by omega)⟩
      exact ⟨.tuple #[.slice none 0 0, .int .i64 p, .int .i64 cd], by simp [results, Tryz.results144, go_sem, d2, d3, d4], .slice none 0 0, h, by rw [hr'], by rw [hr']; exact ⟨none, 0, rfl, Nat.le_refl _, Nat.zero_le _, fun j hj => by cases hj⟩, hbel, Mk.refl (H.below hbel)⟩
    case out =>
      rintro xs ⟨he, _⟩
      cases hx : (lexAll s).2 with
      | none => rw [hx] at he; cases he
      | some pc => rw [hx] at he; cases he
end Go.Proofs.YtpgbeapojjinmaaGreatDoor
namespace Go.Proofs.YtpgbeapojjinmaaGreatDoor
open Go.RowKit Go.Shelf Go.Proofs.YtpgbeapojjinmaaGreatDoorW.PrintLast
/-- Whether a text is one token of a kind. -/
def isTok (s : ByteArray) (k : Int) : Bool := match scanR s with
  | ([x], _, c) => c == 0 && (x.k == k && x.t.toList == s.toList)
  | _ => false
theorem isTok_one {s : ByteArray} {k : Int} {x : Tok} {q : Nat} {c : Int} (h : scanR s = ([x], q, c)) : isTok s k = (c == 0 && (x.k == k && x.t.toList == s.toList)) := by rw [isTok, h]
theorem isTok_many {s : ByteArray} {k : Int} {ts : List Tok} {q : Nat} {c : Int} (h : scanR s = (ts, q, c)) (hl : ts.length ≠ 1) : isTok s k = false := by
  rw [isTok, h]
  match ts, hl with
  | [], _ => rfl
  | [x], hl => exact absurd rfl hl
  | x :: y :: r, _ => rfl
theorem isTok_err {s : ByteArray} {k : Int} {ts : List Tok} {q : Nat} {c : Int} (h : scanR s = (ts, q, c)) (hc : (c == 0) = false) : isTok s k = false := by
  rw [isTok, h]
  match ts with
  | [] => rfl
  | [x] => simp only [hc, Bool.false_and]
  | x :: y :: r => rfl
set_option maxRecDepth 100000 in
set_option maxHeartbeats 4000000 in
theorem lexCheck_calls (s : ByteArray) (k p : Int) (w : World) :
    Calls Tryz.prog 262 #[.agg #[.int .i64 k, .string s, .int .i64 p]] w fun e w' => e = .returned (.int .i64 (if isTok s k then 0 else 12)) ∧ Below w.heap.size w w' := by
  obtain ⟨bb, hbb⟩ : ∃ b, isTok s k = b := ⟨_, rfl⟩
  rw [hbb]
  have ha := alloc1 w (.cells #[.int .i64 k, .string s, .int .i64 p] 170)
  have hbh := Lib.hid hbb
  clear hbb
  go_enter Tryz.func262, Tryz.ntmps262
  go_wp2_with fail
  obtain ⟨W0, hW0⟩ : ∃ W0, w.alloc (.cells #[.int .i64 k, .string s, .int .i64 p] 170) = W0 := ⟨_, rfl⟩
  rw [hW0] at ha ⊢
  clear hW0
  refine (Scan_calls s W0 (fun _ => none) ⟨fun _ _ e => by cases e⟩).mono ?_
  rintro e w1 ⟨v, h', rfl, ⟨A, cap, rfl, hcap, hlim, hts⟩, k1, m1⟩
  have b1 := box_below ha.1 k1
  have n3 := box3 b1
  have kb := below_then ha.2 k1 ha.2.size
  rcases hsr : scanR s with ⟨ts, q, c⟩
  rw [hsr] at hcap hlim hts
  dsimp only at hcap hlim hts
  by_cases hc : c = 0
  · subst hc
    by_cases hl : ts.length = 1
    · match ts, hl with
      | [x], _ =>
        obtain ⟨b, o, rfl, e0, e1, _⟩ := hts 0 (by simp)
        have m0 := m1.has.cell _ _ e0
        have m2 := m1.has.cell _ _ e1
        simp only [Nat.zero_mul, Nat.add_zero, List.getElem_cons_zero] at m0 m2
        have hv : bb = (x.k == k && x.t.toList == s.toList) := by rw [← hbh.out, isTok_one hsr]; rfl
        cases ek : (x.k == k) with
        | false =>
          rw [ek] at hv
          obtain rfl : bb = false := hv
          have ek' : (x.k != k) = true := by simp [bne, ek]
          go_wp2_with fail
          go_quiet (fail)
          go_wp2_with fail
          all_goals go_ret
          all_goals exact ⟨rfl, below_drewN kb _⟩
        | true =>
          rw [ek] at hv
          have ek' : (x.k != k) = false := by simp [bne, ek]
          cases et : (x.t.toList == s.toList) with
          | false =>
            rw [et] at hv
            obtain rfl : bb = false := hv
            go_wp2_with fail
            go_quiet (fail)
            go_wp2_with fail
            all_goals go_ret
            all_goals exact ⟨rfl, below_drewN kb _⟩
          | true =>
            rw [et] at hv
            obtain rfl : bb = true := hv
            go_wp2_with fail
            go_quiet (fail)
            go_wp2_with fail
            all_goals go_ret
            all_goals exact ⟨rfl, below_drewN kb _⟩
    · have hlb : ((ts.length : Int) == 1) = false := by rw [beq_eq_false_iff_ne]; omega
      have hlb2 : ((ts.length : Int) != 1) = true := by simp [bne, hlb]
      obtain rfl : bb = false := by rw [← hbh.out, isTok_many hsr hl]
      go_wp2_with fail
      go_quiet (fail)
      go_wp2_with fail
      all_goals go_ret
      all_goals exact ⟨rfl, below_drewN kb _⟩
  · have hcb : (c == 0) = false := beq_eq_false_iff_ne.2 hc
    have hcb2 : (c != 0) = true := by simp [bne, hcb]
    obtain rfl : bb = false := by rw [← hbh.out, isTok_err hsr hcb]
    go_wp2_with fail
    go_quiet (fail)
    go_wp2_with fail
    all_goals go_ret
    all_goals exact ⟨rfl, below_drewN kb _⟩
set_option maxRecDepth 100000 in
set_option maxHeartbeats 4000000 in
theorem is_calls (s : ByteArray) (k : Int) (w : World) : Calls Tryz.prog 244 #[.string s, .int .i64 k] w fun e w' => e = .returned (.bool (isTok s k)) ∧ Below w.heap.size w w' := by
  have hc := lexCheck_calls s k 0 w
  obtain ⟨bb, hbb⟩ : ∃ b, isTok s k = b := ⟨_, rfl⟩
  rw [hbb] at hc ⊢
  clear hbb
  go_enter Tryz.func244, Tryz.ntmps244
  go_wp2_with fail
  refine hc.mono ?_
  rintro e w1 ⟨rfl, k1⟩
  cases bb with
  | false =>
    go_wp2_with fail
    go_ret
    exact ⟨rfl, k1⟩
  | true =>
    go_wp2_with fail
    go_ret
    exact ⟨rfl, k1⟩
set_option maxRecDepth 100000 in
set_option maxHeartbeats 4000000 in
theorem lexIsName_calls (s : ByteArray) (w : World) : Calls Tryz.prog 213 #[.string s] w fun e w' => e = .returned (.bool (isTok s 1)) ∧ Below w.heap.size w w' := by
  go_enter Tryz.func213, Tryz.ntmps213
  go_wp2_with fail
  refine (is_calls s 1 w).mono ?_
  rintro e w1 ⟨rfl, k1⟩
  go_wp2_with fail
  go_ret
  exact ⟨rfl, k1⟩
set_option maxRecDepth 100000 in
set_option maxHeartbeats 4000000 in
theorem isName_calls (s : ByteArray) (w : World) : Calls Tryz.prog 158 #[.string s] w fun e w' => e = .returned (.bool (isTok s 1)) ∧ Below w.heap.size w w' := by
  go_enter Tryz.func158, Tryz.ntmps158
  go_wp2_with fail
  refine (lexIsName_calls s w).mono ?_
  rintro e w1 ⟨rfl, k1⟩
  go_wp2_with fail
  go_ret
  exact ⟨rfl, k1⟩
end Go.Proofs.YtpgbeapojjinmaaGreatDoor
