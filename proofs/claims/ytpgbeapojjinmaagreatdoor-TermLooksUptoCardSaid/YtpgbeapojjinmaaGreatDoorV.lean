/- lex: Scan. · A range over a function that may panic between two rounds; its body never leaves the loop. No law is proved here. -/
import Derived.Test.YtpgbeapojjinmaaGreatDoorT
import Derived.RecoverIn
set_option linter.unusedVariables false
set_option linter.unusedSimpArgs false
namespace Go.Proofs.YtpgbeapojjinmaaGreatDoor
open Go.RowKit Go.Shelf Go.Proofs.YtpgbeapojjinmaaGreatDoorW.PrintLast
attribute [local go_sem] Oper.semAt_some
theorem scan_idle (n : Nat) (p q r : Addr) (w : World) :
    CallsDIn Fence.wide n Tryz.prog 192 #[.pointer (some p), .pointer (some q), .pointer (some r)] .returning w fun e u' w' => e = .returned (.tuple #[]) ∧ u' = .returning ∧ w' = w := by
  refine callsDIn_of_wpSIn Tryz.func192 rfl trivial fun c₀ cs hu => ?_
  apply wpSIn_seq
  apply wpSIn_region
  simp [wpOpsSIn, go_sem, recoverD, hu, Tryz.ntmps192, Exit.thenS]
  apply wpSIn_seq
  apply wpSIn_region
  simp [wpOpsSIn, go_sem, Exit.thenS]
  refine wpSIn_cond (t := false) (by simp [Act.eval, Array.replicate]) ?_
  simp only [Bool.false_eq_true, if_false]
  refine wpSIn_of_wpIn rfl (wpIn_wide.2 (wp_skip ?_))
  cases c₀
  simp_all [bodyPostS, results, Tryz.results192]
theorem run_ta210 (v : Value) (w : World) : (Instr.typeAssert (.iface 210 v) 20 210 true).run Tryz.prog w = .ok (.tuple #[v, .bool true]) w := by kernel_rfl
set_option maxRecDepth 100000 in
set_option maxHeartbeats 4000000 in
theorem scan_catch (n : Nat) (b2 b3 b4 : Nat) (p : Nat) (c x3 x4 : Int) (sA : Option Addr) (sn sc : Nat) (w : World) (h2 : w.heap[b2]? = some (.cells #[.slice sA sn sc] 163)) (h3 : w.heap[b3]? = some (.cells #[.int .i64 x3] 3)) (h4 : w.heap[b4]? = some (.cells #[.int .i64 x4] 42))
    (n23 : b2 ≠ b3) (n24 : b2 ≠ b4) (n34 : b3 ≠ b4) :
    CallsDIn Fence.wide n Tryz.prog 192 #[.pointer (some ⟨b2, 0, none⟩), .pointer (some ⟨b3, 0, none⟩), .pointer (some ⟨b4, 0, none⟩)] (.panicking (stopC p c)) w fun e u' w' => e = .returned (.tuple #[]) ∧ u' = .panicking [{ v := stopV p c, recovered := true }] ∧
      w'.heap[b2]? = some (.cells #[.slice none 0 0] 163) ∧ w'.heap[b3]? = some (.cells #[.int .i64 p] 3) ∧ w'.heap[b4]? = some (.cells #[.int .i64 c] 42) ∧ Kp (fun q => q = b2 ∨ (q = b3 ∨ q = b4)) w w' := by
  have hta := run_ta210
  refine callsDIn_of_wpSIn Tryz.func192 rfl trivial fun c₀ cs hu => ?_
  simp only [Tryz.ntmps192, List.size_toArray, List.length_cons, List.length_nil, Nat.reduceAdd, Nat.reduceSub, Array.replicate_succ,
     Array.replicate_zero, List.push_toArray, List.append_toArray, List.nil_append, List.cons_append]
  apply wpSIn_seq
  apply wpSIn_region
  simp [wpOpsSIn, go_sem, recoverD, hu, Exit.thenS, stopC, stopV]
  apply wpSIn_seq
  apply wpSIn_region
  simp [wpOpsSIn, go_sem, Exit.thenS]
  refine wpSIn_cond (t := true) (by simp [Act.eval]) ?_
  simp only [if_true]
  refine wpSIn_of_wpIn rfl (wpIn_wide.2 ?_)
  have ha := alloc1 w (.cells #[.int .i64 p, .int .i64 c] 210)
  go_wp2_with fail
  obtain ⟨W, hW⟩ : ∃ W, w.alloc (.cells #[.int .i64 p, .int .i64 c] 210) = W := ⟨_, rfl⟩
  have g2 := box_below h2 ha.2
  have g3 := box_below h3 ha.2
  have g4 := box_below h4 ha.2
  have kw := (Kp.refl (fun q => q = b2 ∨ (q = b3 ∨ q = b4)) w).alloc (.cells #[.int .i64 p, .int .i64 c] 210)
  rw [hW] at ha g2 g3 g4 kw ⊢
  have l2 := blk_lt h2
  have l3 := blk_lt h3
  have l4 := blk_lt h4
  have c2 := box1 g2
  have c3 := box1 g3
  have c4 := box1 g4
  have f2 := blk_frozen g2
  have f3 := blk_frozen g3
  have f4 := blk_frozen g4
  have cn := box2 ha.1
  clear hW hu
  go_region
  all_goals go_wp2
  obtain ⟨W2, hW2⟩ : ∃ W2, (((W.setCell { block := b2, off := 0 } (Value.slice none 0 0)).setCell { block := b3, off := 0 } (Value.int IntKind.i64 ↑p)).setCell { block := b4, off := 0 } (Value.int IntKind.i64 c)).drew = W2 := ⟨_, rfl⟩
  have e2 : W2.heap[b2]? = some (.cells #[.slice none 0 0] 163) := by
    rw [← hW2]; exact blk_far (blk_far (blk_set g2 0 (.slice none 0 0)) (p := ⟨b3, 0, none⟩) n23 _) (p := ⟨b4, 0, none⟩) n24 _
  have e3 : W2.heap[b3]? = some (.cells #[.int .i64 p] 3) := by
    rw [← hW2]; exact blk_far (blk_set (blk_far g3 (p := ⟨b2, 0, none⟩) n23.symm _) 0 (.int .i64 p)) (p := ⟨b4, 0, none⟩) n34 _
  have e4 : W2.heap[b4]? = some (.cells #[.int .i64 c] 42) := by
    rw [← hW2]; exact blk_set (blk_far (blk_far g4 (p := ⟨b2, 0, none⟩) n24.symm _) (p := ⟨b3, 0, none⟩) n34.symm _) 0 (.int .i64 c)
  have ke : Kp (fun q => q = b2 ∨ (q = b3 ∨ q = b4)) w W2 := by
    rw [← hW2]
    exact (((kw.set (p := ⟨b2, 0, none⟩) (.inl (.inl rfl)) _).set (p := ⟨b3, 0, none⟩) (.inl (.inr (.inl rfl))) _).set (p := ⟨b4, 0, none⟩) (.inl (.inr (.inr rfl))) _).drew
  rw [hW2]
  simp [bodyPostS, results, Tryz.results192, stopV]
  exact ⟨e2, e3, e4, ke⟩
end Go.Proofs.YtpgbeapojjinmaaGreatDoor
namespace Go.Proofs.YtpgbeapojjinmaaGreatDoor
open Go.RowKit Go.Shelf Go.Proofs.YtpgbeapojjinmaaGreatDoorW.PrintLast
/-- Between W and W1 new blocks alone were laid; behind a round those are as they were. -/
def KeepsNew (W W1 W' : World) : Prop := ∀ b, W.heap.size ≤ b → b < W1.heap.size → W'.heap[b]? = W1.heap[b]?
theorem range_panics {α : Type} {P : Program} {n N : Nat} {g : Operand} {ps : Array Tmp} {assign body : Code} {Q : Exit → Act → World → Prop} {a : Act} {w : World} {gf : Nat} {lb : Array Value}
    (hg : a.eval g = .func (.func gf) #[] lb) (eg : ∀ args w, (callFunc gf args).run P w = .ok (.enter gf args) w) (encs : α → Array Value) (hps : ∀ x, (encs x).size = ps.size)
    (I : List α → World → Prop) (hIa : ∀ pre W W', I pre W → Below W.heap.size W W' → I pre W') (hIp : ∀ pre W l o o', I pre W → w.heap.size ≤ l → W.heap[l]? = some o → o.isCells = false → I pre (W.putObj l o')) (h0 : I [] w) (R : Ending → List α → Prop)
    (hseq : ∀ (l : Nat) (J : List α → World → Prop) (W : World), (∀ pre W W', J pre W → Below W.heap.size W W' → J pre W') → (∀ pre W, J pre W → I pre W) →
      (∀ pre x W W1, J pre W → Below W.heap.size W W1 → pre.length < N → YieldAt Fence.wide (n - 1 - 1) P l (encs x) W1 fun e W' => e = .returned (.bool true) ∧ J (pre ++ [x]) W' ∧ KeepsNew W W1 W') → J [] W →
      CallsIn Fence.wide (n - 1) P gf (#[.func (.yield l) #[] #[]] ++ lb) W fun e W' => ∃ xs, R e xs ∧ J xs W')
    (hround : ∀ (l : Nat) (pre : List α) (x : α) (W W1 : World), I pre W → Below W.heap.size W W1 → w.heap.size ≤ l → l < W.heap.size → pre.length < N →
      assign.wpIn (Fence.wide.inRound l) (n - 1 - 1) P (Exit.then (fun a1 w1 => Below W1.heap.size W1 w1 ∧ ∀ (o o' : Obj), w1.heap[l]? = some o → o.isCells = false → body.wpIn (Fence.wide.inRound l) (n - 1 - 1) P (fun e _ w3 => e = .normal ∧
        (∀ b o2, w.heap.size ≤ b → (w1.putObj l o').heap[b]? = some o2 → o2.isCells = false → w3.heap[b]? = some o2) ∧ w1.heap.size ≤ w3.heap.size ∧ KeepsNew W W1 w3 ∧ I (pre ++ [x]) w3) a1 (w1.putObj l o')) (fun _ _ _ => False))
        { tmps := (ps.zip (encs x)).foldl (fun t (p, v) => t.setIfInBounds p v) a.tmps, defers := [] } W1)
    (hdone : ∀ (D : Nat) (v : Value) (xs : List α) (W : World), w.heap.size ≤ D → R (.returned v) xs → I xs W → W.heap[D]? = some (.deferred (some [])) → Q .normal { a with defers := { target := .collected D, args := #[] } :: a.defers } W)
    (hpanic : ∀ (D : Nat) (c : List PanicEntry) (xs : List α) (W : World), w.heap.size ≤ D → R (.panicked c) xs → I xs W → W.heap[D]? = some (.deferred (some [])) → Q (.panic c) { a with defers := { target := .collected D, args := #[] } :: a.defers } W)
    (hout : ∀ xs, ¬ R .outgrown xs) :
    (Code.rangeFunc g ps assign body).wpIn Fence.wide n P Q a w := by
  refine wpIn_rangeFunc ?_
  intro fn hfn
  show ∃ (l : Nat) (mark : List Deferred) (w₁ : World) (d : Deferred) (w₁' : World) (f : FuncId) (args : Array Value) (w₂ : World), (Instr.enterLoop fn a.tmps ps assign body none).run P w = .ok (l, mark) w₁ ∧ _
  obtain ⟨rec, hrec⟩ : ∃ rec : LoopState → Option Code → Loop, rec = fun st pe => { state := st, pending := pe, fn, tmps := a.tmps, params := ps, assign, body, defers := w.heap.size } := ⟨_, rfl⟩
  obtain ⟨Wb, hWb⟩ : ∃ Wb, (w.alloc (.deferred (some []))).alloc (.loop (rec .ready none)) = Wb := ⟨_, rfl⟩
  have hb2 := alloc2 w (.deferred (some [])) (.loop (rec .ready none))
  rw [hWb] at hb2
  refine ⟨w.heap.size + 1, [{ target := .collected w.heap.size, args := #[] }], Wb, { target := .fn (.func gf) lb, args := #[.func (.yield (w.heap.size + 1)) #[] #[]] }, Wb, gf, #[.func (.yield (w.heap.size + 1)) #[] #[]] ++ lb, Wb, ?_, ?_, ?_, ?_, ?_, ?_⟩
  · rw [← hWb, hrec]; exact run_enterLoop_outer _ _ _ _ _
  · simp only [resolve, hg]
    simp [go_sem]
  · intro _ _; trivial
  · simp [invoke, go_sem, eg]
  · intro h; cases h
  refine (hseq (w.heap.size + 1) (fun pre W => I pre W ∧ W.heap[w.heap.size]? = some (.deferred (some [])) ∧ W.heap[w.heap.size + 1]? = some (.loop (rec .ready none))) Wb
    (fun pre W W' h k => ⟨hIa _ _ _ h.1 k, box_below h.2.1 k, box_below h.2.2 k⟩) (fun _ _ h => h.1) ?_ ⟨hIa _ _ _ h0 hb2.2.2, hb2.1, hb2.2.1⟩).mono ?_
  · rintro pre x W W1 ⟨hi, hk, hl⟩ hW hN
    have hl1 := box_below hl hW
    have hk1 := box_below hk hW
    have hy := run_yield (P := P) (args := encs x) hl1 (by rw [hrec]; exact hps x)
    rw [hrec] at hy
    refine ⟨fn, _, assign, body, hy, roundIn_of_wpIn hfn (wpIn_mono (hround (w.heap.size + 1) pre x W W1 hi hW (by omega) (blk_lt hl) hN) ?_)⟩
    clear hy
    rintro e a1 w1 he
    cases e with
    | normal =>
      obtain ⟨hw1, hbody⟩ := he
      have hl2 := box_below hl1 hw1
      have hk2 := box_below hk1 hw1
      refine ⟨_, run_beginRound hl2 (by rw [hrec]), wpIn_mono (hbody _ _ hl2 rfl) ?_⟩
      have hl3 : (w1.putObj (w.heap.size + 1) (.loop { rec .ready none with state := .busy })).heap[w.heap.size + 1]? = some (.loop { rec .ready none with state := .busy }) := World.putObj_heap_same (blk_lt hl2)
      have hk3 : (w1.putObj (w.heap.size + 1) (.loop { rec .ready none with state := .busy })).heap[w.heap.size]? = some (.deferred (some [])) := (World.putObj_heap_other (by omega)).trans hk2
      rintro e2 a3 w3 ⟨rfl, hkeep, hsz, hnew, hi3⟩
      have hl4 := hkeep _ _ (by omega) hl3 rfl
      have hk4 := hkeep _ _ (Nat.le_refl _) hk3 rfl
      have hend := run_endRound (P := P) none hl4
      refine ⟨_, _, hend, rfl, ⟨hIp _ _ _ _ _ hi3 (by omega) hl4 rfl, (World.putObj_heap_other (by omega)).trans hk4, ?_⟩, fun b hb hb1 => ?_⟩
      · rw [World.putObj_heap_same (blk_lt hl4), hrec]; rfl
      · have := blk_lt hl
        rw [World.putObj_heap_other (by omega)]; exact hnew b hb hb1
    | exit id => exact he.elim
    | goto t => exact he.elim
    | ret => exact he.elim
    | panic c => exact he.elim
    | outgrown => exact he.elim
  · rintro e W2 ⟨xs, hR, hi, hk, hl⟩
    cases e with
    | returned v =>
      have hend := run_endLoop (P := P) hl (by rw [hrec]; simp)
      rw [hrec] at hend
      exact ⟨none, _, hend, hdone _ v xs _ (Nat.le_refl _) hR (hIp _ _ _ _ _ hi (by omega) hl rfl) ((World.putObj_heap_other (by omega)).trans hk)⟩
    | panicked c => exact hpanic _ c xs _ (Nat.le_refl _) hR hi hk
    | outgrown => exact (hout xs hR).elim
end Go.Proofs.YtpgbeapojjinmaaGreatDoor
