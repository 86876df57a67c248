/- The statement TermStays: its card. -/
import Derived.Test.YtpgbeapojjinmaaGreatDoorCards
import Derived.Test.YtpgbeapojjinmaaGreatDoorTie
import Derived.Test.YtpgbeapojjinmaaGreatDoorCA
import Derived.Test.YtpgbeapojjinmaaGreatDoorJF
import Derived.Test.YtpgbeapojjinmaaGreatDoorLZ
set_option linter.unusedVariables false
set_option linter.unusedSimpArgs false
namespace Go.Proofs.YtpgbeapojjinmaaGreatDoor.termStays
open Go.ChangeShapes Go.WideShapes Go.ChangeAt Go.RowKit
theorem cells82 : Tryz.prog.cellsOf 82 = 21 := by kernel_rfl
set_option maxRecDepth 100000 in
theorem read_Sub {H : Type} {enc : TypeId × Value → H} {w : World} {sp : Nat → Bool} {hd : Bool} {fuel : Nat} {cs : List Value} {x : DataW H × List MemPlace} (h : DataW.trod enc Tryz.prog w 0 sp hd fuel 82 cs = some x) (hbk : Rows.uptoBulk x.1 ≤ 1048576) :
    ∃ a0 a1 a2 a3 a4 a5 a6 c0 c1 c2 c3 c4 c5 c6, cs = c0 ++ c1 ++ c2 ++ c3 ++ c4 ++ c5 ++ [c6] ∧ cs.length = 21 ∧ PgR (snapW w) a0 c0 ∧ ScR (snapW w) a1 c1 ∧ TmR (snapW w) a2 c2 ∧ TyR (snapW w) a3 c3 ∧ TmR (snapW w) a4 c4 ∧ TyR (snapW w) a5 c5 ∧ TmS (snapW w) a6 c6 := by
  obtain ⟨xs, m, rfl, rfl, hl, hlen, hf⟩ := DataW.trod_struct Tryz.underlying82 h
  rw [cells82] at hl
  match cs, hl, xs, hlen with
  | [z0, z1, z2, z3, z4, z5, z6, z7, z8, z9, z10, z11, z12, z13, z14, z15, z16, z17, z18, z19, z20], _, [y0, y1, y2, y3, y4, y5, y6], _ =>
    have f0 := hf 0 _ rfl
    have f1 := hf 1 _ rfl
    have f2 := hf 2 _ rfl
    have f3 := hf 3 _ rfl
    have f4 := hf 4 _ rfl
    have f5 := hf 5 _ rfl
    have f6 := hf 6 _ rfl
    simp [cells28, cells31, cells32, cells34, cells36] at f0 f1 f2 f3 f4 f5 f6
    simp [Rows.uptoBulk, Rows.uptoBulkAll] at hbk
    obtain ⟨b0, r0⟩ := read_Pg f0 (by omega)
    obtain ⟨b1, r1⟩ := read_Sc f1 (by omega)
    obtain ⟨b2, r2, _⟩ := read_Tm _ _ _ f2 (by omega)
    obtain ⟨b3, r3, _⟩ := read_Ty _ _ _ f3 (by omega)
    obtain ⟨b4, r4, _⟩ := read_Tm _ _ _ f4 (by omega)
    obtain ⟨b5, r5, _⟩ := read_Ty _ _ _ f5 (by omega)
    obtain ⟨b6, d6, e6, r6, _⟩ := read_TmS f6 (by omega)
    simp only [List.cons.injEq, and_true] at e6
    subst e6
    exact ⟨b0, b1, b2, b3, b4, b5, b6, _, _, _, _, _, _, _, rfl, rfl, r0, r1, r2, r3, r4, r5, r6⟩
theorem agg_of {v : Value} {cs : List Value} (h : v.cells.toList = cs) (hl : 2 ≤ cs.length) : v = .agg cs.toArray := by
  subst h
  cases v <;> first | (simp [Value.cells] at hl; done) | simp [Value.cells]
set_option maxRecDepth 100000 in
theorem contract (H : Type) (enc : TypeId × Value → H) (W : World) (base : Nat) (args : Array Value) (ds gs : List (DataW H)) (before : List MemPlace)
    (hW : DataW.Whole enc Tryz.prog Tryz.f12.params.toList (Rows.OpenSpec.upto Rows.termStaysSpec).vars false W args.toList ds gs before) (hc : Rows.uptoSmall H (ds ++ gs) = true) (hval : ∀ (j : Nat) t v, Tryz.f12.params[j]? = some t → args[j]? = some v → Value.okWide Tryz.prog W .any base t v) :
    Calls Tryz.prog 12 args W fun e W' => ∃ v, e = .returned v ∧ Rows.termStaysSpec.post enc Tryz.prog Tryz.f12 false true false false W args v W' := by
  have hW' := hW
  obtain ⟨p, q, hA0, hV, rfl, hfz, hnd⟩ := hW
  have hA : DataW.TrodAll enc Tryz.prog W 0 (fun _ => true) true Tryz.f12.params.toList args.toList ds p := hA0
  rw [Tryz.params12] at hA
  obtain ⟨v0, d0, rfl, rfl, ⟨n0, h0⟩⟩ := trodAll_one hA
  obtain ⟨rfl, rfl⟩ := trodVars_none hV
  have hbk : Rows.uptoBulkAll ([d0] ++ []) ≤ 1048576 := of_decide_eq_true hc
  simp only [List.append_nil, Rows.uptoBulkAll] at hbk
  obtain ⟨x0, s0, t0, y0, a0, b0, l0, cx0, cs0, ct0, cy0, ca0, cb0, cl0, g0, z0, rx0, rs0, rt0, ry0, ra0, rb0, rl0⟩ := read_Sub h0 (by simp only []; omega)
  have e0 : v0 = .agg (cx0 ++ cs0 ++ ct0 ++ cy0 ++ ca0 ++ cb0 ++ [cl0]).toArray := agg_of g0 (by rw [← g0, z0]; simp)
  have wk := TermStays_calls x0 s0 t0 y0 a0 b0 l0 _ _ _ _ _ _ _ W (snapW W) (snapW_has W) rx0 rs0 rt0 ry0 ra0 rb0 rl0
  rw [← e0] at wk
  refine wk.mono fun e W' ⟨he, hb⟩ => ?_
  subst he
  exact ⟨_, rfl, post_true hW' rfl rfl rfl (by rw [Tryz.params12]; exact of_decide_eq_true (by kernel_rfl)) hb⟩
def argsT : Array Value := #[.agg #[.slice none 0 0, .slice none 0 0, .slice none 0 0, .slice none 0 0, .slice none 0 0, .slice none 0 0, .slice none 0 0, .slice none 0 0, .int .i64 0, .int .i64 0, .string ⟨#[]⟩, .slice none 0 0, .string ⟨#[]⟩, .slice none 0 0, .int .i64 0, .int .i64 0, .string ⟨#[]⟩, .slice none 0 0, .string ⟨#[]⟩, .slice none 0 0, .slice none 0 0]]
theorem laid_met (os : Os) : laidMet Tryz.prog Rows.termStaysUptoRow.laid ((laidW os).forCall (fun _ _ => 0) ⟨#[], argsT, []⟩).memory :=
  laidMet_of_run' 8 (by kernel_rfl) (by kernel_rfl)
theorem reads (os : Os) {H : Type} (enc : TypeId × Value → H) : ∃ places, DataW.whole enc Tryz.prog ((laidW os).forCall (fun _ _ => 0) ⟨#[], argsT, []⟩).memory Tryz.f12.params.toList Rows.termStaysSpec.vars false argsT.toList 8 = some ([.agg [.agg [.nil, .nil, .nil, .nil, .nil], .agg [.nil, .nil, .nil], .agg [.lit (.int .i64 0), .lit (.int .i64 0), .lit (.string []), .nil], .agg [.lit (.string []), .nil], .agg [.lit (.int .i64 0), .lit (.int .i64 0), .lit (.string []), .nil], .agg [.lit (.string []), .nil], .nil]], [], places) :=
  ⟨[], by kernel_rfl⟩
set_option maxRecDepth 100000 in
theorem liftedUpto (os : Os) (started : os.Started) (H : Type) (enc : TypeId × Value → H) (F : Stop.Interp) :
    ReturnsInHanded {} Tryz.checked os 12 .any ((Rows.OpenSpec.upto Rows.termStaysSpec).preRow enc Tryz.prog Tryz.f12 Rows.termStaysUptoRow.domain false Rows.termStaysUptoRow.laid) (((Rows.OpenSpec.upto Rows.termStaysSpec).at F).post enc Tryz.prog Tryz.f12 false true false false) := by
  obtain ⟨places, hx⟩ := reads os enc
  refine returnsInHanded_of_row (C := Tryz.checked) (s := Rows.OpenSpec.upto Rows.termStaysSpec) ownT started (by kernel_rfl) Tryz.func12
    (witness_row_at (enc := enc) (C := Tryz.checked) false (laidW os) argsT rfl (by kernel_rfl) (by kernel_rfl) (by kernel_rfl)
      (OpenSpec.preRow_of_cond 8 hx (by kernel_rfl) (fun k hk => by cases hk; kernel_rfl) (by kernel_rfl) (laid_met os))) ?_
  intro W base args ds gs before hval hW _ hcond _ hL _ _
  exact contract H enc W base args ds gs before hW (hcond _ rfl) hval
theorem n1 : (Rows.termStaysUptoRow.wf (OpenSpec.ofChange (Rows.OpenSpec.upto Rows.termStaysSpec).bare) && Tryz.f12.params.all (Tryz.pinned.checked.prog.readableRec ·) && namedTie Tryz.pinned.checked.prog Rows.termStaysUptoRow.named (Rows.OpenSpec.upto Rows.termStaysSpec).bare.vars && (Rows.termStaysUptoRow.stops == []) && (Rows.termStaysUptoRow.knobs == [])) = true := by kernel_rfl
theorem n2 : (Rows.termStaysUptoRow.inPlace == Tryz.pinned.checked.prog.inPlace 12) = true := by kernel_rfl
theorem n3 : (Rows.termStaysUptoRow.unfollowed == Tryz.pinned.checked.prog.unfollowed 12) = true := by kernel_rfl
theorem n4 : (Rows.termStaysUptoRow.recurses == Tryz.pinned.checked.prog.recurses 12) = true := by kernel_rfl
theorem n5 : (Rows.termStaysUptoRow.named == Tryz.pinned.checked.prog.varsNamed 12) = true := by kernel_rfl
theorem joined : joinedFacts Tryz.pinned.checked.prog 12 Tryz.f12 (Rows.OpenSpec.upto Rows.termStaysSpec).bare Rows.termStaysUptoRow = true :=
  joined_of n1 n2 n3 n4 n5 (by kernel_rfl) (by kernel_rfl) rfl rfl rfl (by kernel_rfl) (by kernel_rfl)
theorem fnm : Tryz.pinned.checked.prog.funcNamed Rows.termStaysUptoRow.func = some 12 := by kernel_rfl
theorem inst : Tryz.f12.isInstance Tryz.pinned.checked.prog Rows.termStaysUptoRow.origin Rows.termStaysUptoRow.targs := of_decide_eq_true (by kernel_rfl)
theorem wrp : Tryz.f12.isWrapper Tryz.pinned.checked.prog Rows.termStaysUptoRow.wrapper Rows.termStaysUptoRow.mainSum := by unfold Func.isWrapper; first | (rw [if_pos (by decide +kernel)]; kernel_rfl) | (rw [if_neg (by decide +kernel)]; exact ⟨rfl, rfl⟩)
theorem goes : false = Rows.termStaysUptoRow.goesBy Tryz.pinned.checked.prog := by kernel_rfl
theorem wft : Rows.termStaysUptoRow.wfByText (Rows.OpenSpec.upto Rows.termStaysSpec) = true := by kernel_rfl
theorem saidUpto : Rows.TermStaysUptoSaid :=
  OpenClaim.holds_of_cond 12 Tryz.f12 rfl rfl rfl rfl rfl rfl rfl ⟨rfl, rfl, rfl, rfl, rfl⟩ rfl rfl rfl rfl rfl fnm Tryz.func12 joined inst wrp
    (fun os started H enc _ F => by rw [OpenClaim.pre_eq_preRow]; exact liftedUpto os started H enc F)
theorem plain (f : FuncId) (fn : Func) (hf : Tryz.pinned.checked.prog.funcNamed Rows.termStaysUptoRow.func = some f) (hfn : Tryz.pinned.checked.prog.funcs[f]? = some fn) :
    true = Tryz.pinned.checked.prog.looks [] ∧ ∀ (j : Nat) t, fn.params[j]? = some t → Tryz.pinned.checked.prog.wantsStandIn t = false := by
  obtain rfl : f = 12 := (Option.some.inj (fnm.symm.trans hf)).symm
  obtain rfl : fn = Tryz.f12 := (Option.some.inj (Tryz.func12.symm.trans hfn)).symm
  refine ⟨jLooks, fun j t ht => ?_⟩
  rw [Tryz.params12] at ht
  have hm := Array.mem_of_getElem? ht
  simp only [List.mem_toArray, List.mem_cons, List.not_mem_nil, or_false] at hm
  rcases hm with rfl
  · exact (show Tryz.prog.wantsStandIn 82 = false by kernel_rfl)
theorem cardUpto : Rows.TermStaysUptoCardSaid :=
  Claim7.holds_tied_plain_at .later [] _ _ _ _ saidUpto (fun _ h => by cases h) wft (fun _ h => by cases h) termStaysUpto_row_tie rfl ⟨rfl, rfl⟩ jMain rfl plain goes
end Go.Proofs.YtpgbeapojjinmaaGreatDoor.termStays
