/- The statement TermEtas: its card. -/
import Derived.Test.YtpgbeapojjinmaaGreatDoorCards
import Derived.Test.YtpgbeapojjinmaaGreatDoorTie
import Derived.Test.YtpgbeapojjinmaaGreatDoorCA
import Derived.Test.YtpgbeapojjinmaaGreatDoorJF
import Derived.Test.YtpgbeapojjinmaaGreatDoorLQ
set_option linter.unusedVariables false
set_option linter.unusedSimpArgs false
namespace Go.Proofs.YtpgbeapojjinmaaGreatDoor.termEtas
open Go.ChangeShapes Go.WideShapes Go.ChangeAt Go.RowKit
theorem agg_of {v : Value} {cs : List Value} (h : v.cells.toList = cs) (hl : 2 ≤ cs.length) : v = .agg cs.toArray := by
  subst h
  cases v <;> first | (simp [Value.cells] at hl; done) | simp [Value.cells]
set_option maxRecDepth 100000 in
theorem contract (H : Type) (enc : TypeId × Value → H) (W : World) (base : Nat) (args : Array Value) (ds gs : List (DataW H)) (before : List MemPlace)
    (hW : DataW.Whole enc Tryz.prog Tryz.f4.params.toList (Rows.OpenSpec.upto Rows.termEtasSpec).vars false W args.toList ds gs before) (hc : Rows.uptoSmall H (ds ++ gs) = true) (hval : ∀ (j : Nat) t v, Tryz.f4.params[j]? = some t → args[j]? = some v → Value.okWide Tryz.prog W .any base t v) :
    Calls Tryz.prog 4 args W fun e W' => ∃ v, e = .returned v ∧ Rows.termEtasSpec.post enc Tryz.prog Tryz.f4 false true false false W args v W' := by
  have hW' := hW
  obtain ⟨p, q, hA0, hV, rfl, hfz, hnd⟩ := hW
  have hA : DataW.TrodAll enc Tryz.prog W 0 (fun _ => true) true Tryz.f4.params.toList args.toList ds p := hA0
  rw [Tryz.params4] at hA
  obtain ⟨v0, v1, d0, d1, p0, p1, rfl, rfl, rfl, ⟨n0, h0⟩, ⟨n1, h1⟩⟩ := trodAll_two hA
  obtain ⟨rfl, rfl⟩ := trodVars_none hV
  have hbk : Rows.uptoBulkAll ([d0, d1] ++ []) ≤ 1048576 := of_decide_eq_true hc
  simp only [List.append_nil, Rows.uptoBulkAll] at hbk
  obtain ⟨x0, r0, _⟩ := read_Tm _ _ _ h0 (by simp only []; omega)
  obtain ⟨x1, r1, _⟩ := read_Ty _ _ _ h1 (by simp only []; omega)
  have e0 : v0 = .agg v0.cells.toList.toArray := agg_of rfl (by obtain ⟨_, _, e, _⟩ := r0.open_; rw [e]; simp)
  have e1 : v1 = .agg v1.cells.toList.toArray := agg_of rfl (by obtain ⟨_, _, e, _⟩ := r1.open_; rw [e]; simp)
  have wk := TermEtas_calls x0 x1 _ _ W (snapW W) (snapW_has W) r0 r1
  rw [← e0, ← e1] at wk
  refine wk.mono fun e W' ⟨he, hb⟩ => ?_
  subst he
  exact ⟨_, rfl, post_true hW' rfl rfl rfl (by rw [Tryz.params4]; exact of_decide_eq_true (by kernel_rfl)) hb⟩
def argsT : Array Value := #[.agg #[.int .i64 0, .int .i64 0, .string ⟨#[]⟩, .slice none 0 0], .agg #[.string ⟨#[]⟩, .slice none 0 0]]
theorem laid_met (os : Os) : laidMet Tryz.prog Rows.termEtasUptoRow.laid ((laidW os).forCall (fun _ _ => 0) ⟨#[], argsT, []⟩).memory :=
  laidMet_of_run' 8 (by kernel_rfl) (by kernel_rfl)
theorem reads (os : Os) {H : Type} (enc : TypeId × Value → H) : ∃ places, DataW.whole enc Tryz.prog ((laidW os).forCall (fun _ _ => 0) ⟨#[], argsT, []⟩).memory Tryz.f4.params.toList Rows.termEtasSpec.vars false argsT.toList 8 = some ([.agg [.lit (.int .i64 0), .lit (.int .i64 0), .lit (.string []), .nil], .agg [.lit (.string []), .nil]], [], places) :=
  ⟨[], by kernel_rfl⟩
set_option maxRecDepth 100000 in
theorem liftedUpto (os : Os) (started : os.Started) (H : Type) (enc : TypeId × Value → H) (F : Stop.Interp) :
    ReturnsInHanded {} Tryz.checked os 4 .any ((Rows.OpenSpec.upto Rows.termEtasSpec).preRow enc Tryz.prog Tryz.f4 Rows.termEtasUptoRow.domain false Rows.termEtasUptoRow.laid) (((Rows.OpenSpec.upto Rows.termEtasSpec).at F).post enc Tryz.prog Tryz.f4 false true false false) := by
  obtain ⟨places, hx⟩ := reads os enc
  refine returnsInHanded_of_row (C := Tryz.checked) (s := Rows.OpenSpec.upto Rows.termEtasSpec) ownT started (by kernel_rfl) Tryz.func4
    (witness_row_at (enc := enc) (C := Tryz.checked) false (laidW os) argsT rfl (by kernel_rfl) (by kernel_rfl) (by kernel_rfl)
      (OpenSpec.preRow_of_cond 8 hx (by kernel_rfl) (fun k hk => by cases hk; kernel_rfl) (by kernel_rfl) (laid_met os))) ?_
  intro W base args ds gs before hval hW _ hcond _ hL _ _
  exact contract H enc W base args ds gs before hW (hcond _ rfl) hval
theorem n1 : (Rows.termEtasUptoRow.wf (OpenSpec.ofChange (Rows.OpenSpec.upto Rows.termEtasSpec).bare) && Tryz.f4.params.all (Tryz.pinned.checked.prog.readableRec ·) && namedTie Tryz.pinned.checked.prog Rows.termEtasUptoRow.named (Rows.OpenSpec.upto Rows.termEtasSpec).bare.vars && (Rows.termEtasUptoRow.stops == []) && (Rows.termEtasUptoRow.knobs == [])) = true := by kernel_rfl
theorem n2 : (Rows.termEtasUptoRow.inPlace == Tryz.pinned.checked.prog.inPlace 4) = true := by kernel_rfl
theorem n3 : (Rows.termEtasUptoRow.unfollowed == Tryz.pinned.checked.prog.unfollowed 4) = true := by kernel_rfl
theorem n4 : (Rows.termEtasUptoRow.recurses == Tryz.pinned.checked.prog.recurses 4) = true := by kernel_rfl
theorem n5 : (Rows.termEtasUptoRow.named == Tryz.pinned.checked.prog.varsNamed 4) = true := by kernel_rfl
theorem joined : joinedFacts Tryz.pinned.checked.prog 4 Tryz.f4 (Rows.OpenSpec.upto Rows.termEtasSpec).bare Rows.termEtasUptoRow = true :=
  joined_of n1 n2 n3 n4 n5 (by kernel_rfl) (by kernel_rfl) rfl rfl rfl (by kernel_rfl) (by kernel_rfl)
theorem fnm : Tryz.pinned.checked.prog.funcNamed Rows.termEtasUptoRow.func = some 4 := by kernel_rfl
theorem inst : Tryz.f4.isInstance Tryz.pinned.checked.prog Rows.termEtasUptoRow.origin Rows.termEtasUptoRow.targs := of_decide_eq_true (by kernel_rfl)
theorem wrp : Tryz.f4.isWrapper Tryz.pinned.checked.prog Rows.termEtasUptoRow.wrapper Rows.termEtasUptoRow.mainSum := by unfold Func.isWrapper; first | (rw [if_pos (by decide +kernel)]; kernel_rfl) | (rw [if_neg (by decide +kernel)]; exact ⟨rfl, rfl⟩)
theorem goes : false = Rows.termEtasUptoRow.goesBy Tryz.pinned.checked.prog := by kernel_rfl
theorem wft : Rows.termEtasUptoRow.wfByText (Rows.OpenSpec.upto Rows.termEtasSpec) = true := by kernel_rfl
theorem saidUpto : Rows.TermEtasUptoSaid :=
  OpenClaim.holds_of_cond 4 Tryz.f4 rfl rfl rfl rfl rfl rfl rfl ⟨rfl, rfl, rfl, rfl, rfl⟩ rfl rfl rfl rfl rfl fnm Tryz.func4 joined inst wrp
    (fun os started H enc _ F => by rw [OpenClaim.pre_eq_preRow]; exact liftedUpto os started H enc F)
theorem plain (f : FuncId) (fn : Func) (hf : Tryz.pinned.checked.prog.funcNamed Rows.termEtasUptoRow.func = some f) (hfn : Tryz.pinned.checked.prog.funcs[f]? = some fn) :
    true = Tryz.pinned.checked.prog.looks [] ∧ ∀ (j : Nat) t, fn.params[j]? = some t → Tryz.pinned.checked.prog.wantsStandIn t = false := by
  obtain rfl : f = 4 := (Option.some.inj (fnm.symm.trans hf)).symm
  obtain rfl : fn = Tryz.f4 := (Option.some.inj (Tryz.func4.symm.trans hfn)).symm
  refine ⟨jLooks, fun j t ht => ?_⟩
  rw [Tryz.params4] at ht
  have hm := Array.mem_of_getElem? ht
  simp only [List.mem_toArray, List.mem_cons, List.not_mem_nil, or_false] at hm
  rcases hm with rfl | rfl
  · exact (show Tryz.prog.wantsStandIn 34 = false by kernel_rfl)
  · exact (show Tryz.prog.wantsStandIn 36 = false by kernel_rfl)
theorem cardUpto : Rows.TermEtasUptoCardSaid :=
  Claim7.holds_tied_plain_at .later [] _ _ _ _ saidUpto (fun _ h => by cases h) wft (fun _ h => by cases h) termEtasUpto_row_tie rfl ⟨rfl, rfl⟩ jMain rfl plain goes
end Go.Proofs.YtpgbeapojjinmaaGreatDoor.termEtas
