/- The statement TermLooks: its card. -/
import Derived.Test.YtpgbeapojjinmaaGreatDoorCards
import Derived.Test.YtpgbeapojjinmaaGreatDoorTie
import Derived.Test.YtpgbeapojjinmaaGreatDoorCA
import Derived.Test.YtpgbeapojjinmaaGreatDoorJF
import Derived.Test.YtpgbeapojjinmaaGreatDoorLL
set_option linter.unusedVariables false
set_option linter.unusedSimpArgs false
namespace Go.Proofs.YtpgbeapojjinmaaGreatDoor.termLooks
open Go.ChangeShapes Go.WideShapes Go.ChangeAt Go.RowKit
theorem agg_of {v : Value} {cs : List Value} (h : v.cells.toList = cs) (hl : 2 ≤ cs.length) : v = .agg cs.toArray := by
  subst h
  cases v <;> first | (simp [Value.cells] at hl; done) | simp [Value.cells]
set_option maxRecDepth 100000 in
theorem contract (H : Type) (enc : TypeId × Value → H) (W : World) (base : Nat) (args : Array Value) (ds gs : List (DataW H)) (before : List MemPlace)
    (hW : DataW.Whole enc Tryz.prog Tryz.f14.params.toList (Rows.OpenSpec.upto Rows.termLooksSpec).vars false W args.toList ds gs before) (hc : Rows.uptoSmall H (ds ++ gs) = true) (hval : ∀ (j : Nat) t v, Tryz.f14.params[j]? = some t → args[j]? = some v → Value.okWide Tryz.prog W .any base t v) :
    Calls Tryz.prog 14 args W fun e W' => ∃ v, e = .returned v ∧ Rows.termLooksSpec.post enc Tryz.prog Tryz.f14 false true false false W args v W' := by
  have hW' := hW
  obtain ⟨p, q, hA0, hV, rfl, hfz, hnd⟩ := hW
  have hA : DataW.TrodAll enc Tryz.prog W 0 (fun _ => true) true Tryz.f14.params.toList args.toList ds p := hA0
  rw [Tryz.params14] at hA
  obtain ⟨v0, v1, v2, d0, d1, d2, p0, p1, p2, rfl, rfl, rfl, ⟨n0, h0⟩, ⟨n1, h1⟩, ⟨n2, h2⟩⟩ := trodAll_three hA
  obtain ⟨rfl, rfl⟩ := trodVars_none hV
  have hbk : Rows.uptoBulkAll ([d0, d1, d2] ++ []) ≤ 1048576 := of_decide_eq_true hc
  simp only [List.append_nil, Rows.uptoBulkAll] at hbk
  obtain ⟨x0, r0, _⟩ := read_Tm _ _ _ h0 (by simp only []; omega)
  obtain ⟨x1, r1, _⟩ := read_Tm _ _ _ h1 (by simp only []; omega)
  obtain ⟨x2, e2, _, _, z2⟩ := open_int Tryz.underlying3 (hval 2 3 v2 (by rw [Tryz.params14]; rfl) rfl) ⟨n2, h2⟩
  have e0 : v0 = .agg v0.cells.toList.toArray := agg_of rfl (by obtain ⟨_, _, e, _⟩ := r0.open_; rw [e]; simp)
  have e1 : v1 = .agg v1.cells.toList.toArray := agg_of rfl (by obtain ⟨_, _, e, _⟩ := r1.open_; rw [e]; simp)
  have wk := TermLooks_calls x0 x1 x2 _ _ W (snapW W) (snapW_has W) r0 r1
  rw [← e0, ← e1, ← e2] at wk
  refine wk.mono fun e W' ⟨he, hb⟩ => ?_
  subst he
  exact ⟨_, rfl, post_true hW' rfl rfl rfl (by rw [Tryz.params14]; exact of_decide_eq_true (by kernel_rfl)) hb⟩
def argsT : Array Value := #[.agg #[.int .i64 0, .int .i64 0, .string ⟨#[]⟩, .slice none 0 0], .agg #[.int .i64 0, .int .i64 0, .string ⟨#[]⟩, .slice none 0 0], .int .i64 0]
theorem laid_met (os : Os) : laidMet Tryz.prog Rows.termLooksUptoRow.laid ((laidW os).forCall (fun _ _ => 0) ⟨#[], argsT, []⟩).memory :=
  laidMet_of_run' 8 (by kernel_rfl) (by kernel_rfl)
theorem reads (os : Os) {H : Type} (enc : TypeId × Value → H) : ∃ places, DataW.whole enc Tryz.prog ((laidW os).forCall (fun _ _ => 0) ⟨#[], argsT, []⟩).memory Tryz.f14.params.toList Rows.termLooksSpec.vars false argsT.toList 8 = some ([.agg [.lit (.int .i64 0), .lit (.int .i64 0), .lit (.string []), .nil], .agg [.lit (.int .i64 0), .lit (.int .i64 0), .lit (.string []), .nil], .lit (.int .i64 0)], [], places) :=
  ⟨[], by kernel_rfl⟩
set_option maxRecDepth 100000 in
theorem liftedUpto (os : Os) (started : os.Started) (H : Type) (enc : TypeId × Value → H) (F : Stop.Interp) :
    ReturnsInHanded {} Tryz.checked os 14 .any ((Rows.OpenSpec.upto Rows.termLooksSpec).preRow enc Tryz.prog Tryz.f14 Rows.termLooksUptoRow.domain false Rows.termLooksUptoRow.laid) (((Rows.OpenSpec.upto Rows.termLooksSpec).at F).post enc Tryz.prog Tryz.f14 false true false false) := by
  obtain ⟨places, hx⟩ := reads os enc
  refine returnsInHanded_of_row (C := Tryz.checked) (s := Rows.OpenSpec.upto Rows.termLooksSpec) ownT started (by kernel_rfl) Tryz.func14
    (witness_row_at (enc := enc) (C := Tryz.checked) false (laidW os) argsT rfl (by kernel_rfl) (by kernel_rfl) (by kernel_rfl)
      (OpenSpec.preRow_of_cond 8 hx (by kernel_rfl) (fun k hk => by cases hk; kernel_rfl) (by kernel_rfl) (laid_met os))) ?_
  intro W base args ds gs before hval hW _ hcond _ hL _ _
  exact contract H enc W base args ds gs before hW (hcond _ rfl) hval
theorem n1 : (Rows.termLooksUptoRow.wf (OpenSpec.ofChange (Rows.OpenSpec.upto Rows.termLooksSpec).bare) && Tryz.f14.params.all (Tryz.pinned.checked.prog.readableRec ·) && namedTie Tryz.pinned.checked.prog Rows.termLooksUptoRow.named (Rows.OpenSpec.upto Rows.termLooksSpec).bare.vars && (Rows.termLooksUptoRow.stops == []) && (Rows.termLooksUptoRow.knobs == [])) = true := by kernel_rfl
theorem n2 : (Rows.termLooksUptoRow.inPlace == Tryz.pinned.checked.prog.inPlace 14) = true := by kernel_rfl
theorem n3 : (Rows.termLooksUptoRow.unfollowed == Tryz.pinned.checked.prog.unfollowed 14) = true := by kernel_rfl
theorem n4 : (Rows.termLooksUptoRow.recurses == Tryz.pinned.checked.prog.recurses 14) = true := by kernel_rfl
theorem n5 : (Rows.termLooksUptoRow.named == Tryz.pinned.checked.prog.varsNamed 14) = true := by kernel_rfl
theorem joined : joinedFacts Tryz.pinned.checked.prog 14 Tryz.f14 (Rows.OpenSpec.upto Rows.termLooksSpec).bare Rows.termLooksUptoRow = true :=
  joined_of n1 n2 n3 n4 n5 (by kernel_rfl) (by kernel_rfl) rfl rfl rfl (by kernel_rfl) (by kernel_rfl)
theorem fnm : Tryz.pinned.checked.prog.funcNamed Rows.termLooksUptoRow.func = some 14 := by kernel_rfl
theorem inst : Tryz.f14.isInstance Tryz.pinned.checked.prog Rows.termLooksUptoRow.origin Rows.termLooksUptoRow.targs := of_decide_eq_true (by kernel_rfl)
theorem wrp : Tryz.f14.isWrapper Tryz.pinned.checked.prog Rows.termLooksUptoRow.wrapper Rows.termLooksUptoRow.mainSum := by unfold Func.isWrapper; first | (rw [if_pos (by decide +kernel)]; kernel_rfl) | (rw [if_neg (by decide +kernel)]; exact ⟨rfl, rfl⟩)
theorem goes : false = Rows.termLooksUptoRow.goesBy Tryz.pinned.checked.prog := by kernel_rfl
theorem wft : Rows.termLooksUptoRow.wfByText (Rows.OpenSpec.upto Rows.termLooksSpec) = true := by kernel_rfl
theorem saidUpto : Rows.TermLooksUptoSaid :=
  OpenClaim.holds_of_cond 14 Tryz.f14 rfl rfl rfl rfl rfl rfl rfl ⟨rfl, rfl, rfl, rfl, rfl⟩ rfl rfl rfl rfl rfl fnm Tryz.func14 joined inst wrp
    (fun os started H enc _ F => by rw [OpenClaim.pre_eq_preRow]; exact liftedUpto os started H enc F)
theorem plain (f : FuncId) (fn : Func) (hf : Tryz.pinned.checked.prog.funcNamed Rows.termLooksUptoRow.func = some f) (hfn : Tryz.pinned.checked.prog.funcs[f]? = some fn) :
    true = Tryz.pinned.checked.prog.looks [] ∧ ∀ (j : Nat) t, fn.params[j]? = some t → Tryz.pinned.checked.prog.wantsStandIn t = false := by
  obtain rfl : f = 14 := (Option.some.inj (fnm.symm.trans hf)).symm
  obtain rfl : fn = Tryz.f14 := (Option.some.inj (Tryz.func14.symm.trans hfn)).symm
  refine ⟨jLooks, fun j t ht => ?_⟩
  rw [Tryz.params14] at ht
  have hm := Array.mem_of_getElem? ht
  simp only [List.mem_toArray, List.mem_cons, List.not_mem_nil, or_false] at hm
  rcases hm with rfl | rfl | rfl
  · exact (show Tryz.prog.wantsStandIn 34 = false by kernel_rfl)
  · exact (show Tryz.prog.wantsStandIn 34 = false by kernel_rfl)
  · exact (show Tryz.prog.wantsStandIn 3 = false by kernel_rfl)
theorem cardUpto : Rows.TermLooksUptoCardSaid :=
  Claim7.holds_tied_plain_at .later [] _ _ _ _ saidUpto (fun _ h => by cases h) wft (fun _ h => by cases h) termLooksUpto_row_tie rfl ⟨rfl, rfl⟩ jMain rfl plain goes
end Go.Proofs.YtpgbeapojjinmaaGreatDoor.termLooks
