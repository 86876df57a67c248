/- lex: token, part B. · lex: token, part C. No law is proved here. -/
import Derived.Test.YtpgbeapojjinmaaGreatDoorS
set_option linter.unusedVariables false
set_option linter.unusedSimpArgs false
namespace Go.Proofs.YtpgbeapojjinmaaGreatDoor
open Go.RowKit Go.Shelf Go.Proofs.YtpgbeapojjinmaaGreatDoorW.PrintLast
set_option maxRecDepth 100000 in
set_option maxHeartbeats 4000000 in
theorem tokenB_calls (s : ByteArray) (p : Nat) (hs : s.size ≤ 20000) (hp : p < s.size) (w : World) (hsel : SelB (s.extract p s.size)) :
    Calls Tryz.prog 230 #[.string s, .int .i64 p] w fun e w' => e = .returned (tokV p (s.extract p s.size) (tokK (s.extract p s.size))) ∧ Below w.heap.size w w' := by
  go_enter Tryz.func230, Tryz.ntmps230
  go_wp2_with fail
  have ha := alloc3 w (.cells #[.int .i64 p] 3) (.cells #[.int .i64 0, .string ⟨#[]⟩, .int .i64 0] 170) (.cells #[.string (s.extract p s.size)] 9)
  obtain ⟨W0, hW0⟩ : ∃ W0, ((w.alloc (Obj.cells #[Value.int IntKind.i64 ↑p] 3)).alloc (Obj.cells #[Value.int IntKind.i64 0, Value.string { data := #[] }, Value.int IntKind.i64 0] 170)).alloc (Obj.cells #[Value.string (s.extract p s.size)] 9) = W0 := ⟨_, rfl⟩
  rw [hW0] at ha ⊢
  clear hW0
  have hrs : (s.extract p s.size).size ≤ 20000 := by simp; omega
  have hr0 : 0 < (s.extract p s.size).size := by simp; omega
  generalize hr : s.extract p s.size = r at ha hrs hr0 hsel ⊢
  have hr' := Lib.hid hr
  clear hr
  refine (classes_calls lettersB W0 (by decide)).mono ?_
  rintro e w1 ⟨cs, rfl, htab, k1⟩
  have hsz := htab.1
  have hst := tab_store htab w1
  have q3 := blk_alloc (box_below ha.1 k1) (.cells cs 252)
  have q4 := blk_alloc (box_below ha.2.1 k1) (.cells cs 252)
  have q6 := blk_alloc (box_below ha.2.2.1 k1) (.cells cs 252)
  have q7 := blk_new w1 (.cells cs 252)
  have kb : Below w.heap.size w (w1.alloc (.cells cs 252)) := (below_then ha.2.2.2 k1 ha.2.2.2.size).alloc (by have := k1.size; have := ha.2.2.2.size; omega) _
  have l7 : w.heap.size + 2 < w1.heap.size := by have := blk_lt (box_below ha.2.2.1 k1); omega
  have c6 := box1 q6
  clear ha k1
  go_wp2_with fail
  clear hst
  obtain ⟨W1, hW1⟩ : ∃ W1, w1.alloc (.cells cs 252) = W1 := ⟨_, rfl⟩
  rw [hW1] at q3 q4 q6 q7 kb c6 ⊢
  clear hW1
  generalize w1.heap.size = b7 at q7 l7 ⊢
  generalize hb0 : w.heap.size = b3 at *
  have hhd := Lib.hid (show r.data.toList.headD 0 = r[0] by have := drop_at r 0 hr0; rw [List.drop_zero] at this; rw [this]; rfl)
  obtain ⟨hsm, n0, hn0', h1, h2, h3, h4⟩ := hsel
  rw [hhd.out] at hsm
  refine (small_calls r[0] _).mono ?_
  rintro e w2 ⟨rfl, rfl⟩
  rw [hsm]
  go_wp2_with fail
  refine (run_calls r 0 (b3 + 1 + 1) b7 cs hrs (by omega) _ q6 q7 htab).mono ?_
  rintro e w3 ⟨rfl, rfl⟩
  have hn0 : ((0 + runK (r.data.toList.drop 0) : Nat) : Int) = (runK r.data.toList : Nat) := by simp
  rw [hn0, hn0']
  have hn0l : n0 ≤ r.size := by rw [← hn0', Lib.size_eq]; exact runK_le r.data.toList
  have hnl : n0 ≤ r.size := by first | omega | (have := runK_le (r.data.toList.drop (n0 + 1)); rw [List.length_drop, ← Lib.size_eq] at this; omega)
  have hnm := Lib.hid h4
  clear h4
  have l3 := blk_lt q3
  rcases sign_case r n0 with ⟨o1, ⟨o2, o3⟩, o4⟩ | ⟨o1, ⟨o2, o3⟩, o4⟩ | ⟨o1, o2, o4⟩ | ⟨o1, o4⟩
  · have o4 := Lib.hid o4
    go_wp2_with (first | (go_at_call 251; refine (small_calls (r[n0 + 1]'h1) _).mono ?_; rintro e w4 ⟨rfl, rfl⟩; rw [h3]) | (go_at_call 250; refine (of_calls r 3 2 (b3 + 1 + 1) b3 p (by omega) _ q6 q3).mono ?_; rintro e w5 ⟨rfl, k5⟩; have q4e := box_below q4 k5; have f4e := blk_frozen q4e; have g4e := box3 q4e))
    exact tok_end q4e rfl rfl rfl (below_then kb k5 (Nat.le_of_lt (by omega))) (by omega) (fun W' h => ⟨by rw [hr'.out, tokK_sign (by rw [hhd.out]; exact hsm) hnm.out o4.out]; rfl, by rw [hb0]; exact h⟩)
  · have o4 := Lib.hid o4
    go_wp2_with (first | (go_at_call 251; refine (small_calls (r[n0 + 1]'h1) _).mono ?_; rintro e w4 ⟨rfl, rfl⟩; rw [h3]) | fail)
    all_goals
      refine rgs 5 (fun W => W.cell? ⟨b3 + 1 + 1, 0, none⟩ = some (.string r)) [] rfl ?_ (fun hS => ?_)
      · go_simp
      refine rgt 1 (.string r) rfl (by kernel_rfl) (fun _ _ _ h => h) rfl hS (fun W hW => by go_simp) ?_
      refine rgt 2 (.int .i64 n0) rfl (by kernel_rfl) (fun _ _ _ h => h) rfl hS (fun W hW => by go_simp) ?_
      refine rgt 3 (.string (r.extract 0 n0)) rfl (by kernel_rfl) (fun _ _ _ h => h) rfl hS (fun W hW => by go_simp) ?_
      refine rg1 0 rfl (by kernel_rfl) (by decide) rfl (fun K hK => ?_)
      go_simp
      refine (keywords_calls _ (fun _ => none) ⟨fun _ _ e => by cases e⟩).mono ?_
      rintro e w6 ⟨v, h6, rfl, rs, m6, k6⟩
      refine hK.out _ _ ?_ (fun hS => ?_)
      · exact cell_below hS k6
      refine rg1 4 rfl (by kernel_rfl) (by decide) rfl (fun K hK => ?_)
      go_simp
      refine (Contains_calls kwB (r.extract 0 n0) v _ h6 m6.has rs).mono ?_
      rintro e w7 ⟨rfl, rfl⟩
      refine hK.out _ _ ?_ (fun hS => ?_)
      · go_simp
      refine rgd (by kernel_rfl) ?_
      have q3f := box_below q3 (undrew k6)
      have q4f := box_below q4 (undrew k6)
      have q6f := box_below q6 (undrew k6)
      have l3f := blk_lt q3f
      have kbf := below_then kb (undrew k6) (Nat.le_of_lt (by omega))
      cases hw : baseIn kwB (r.extract 0 n0) with
      | true =>
        go_wp2_with (go_at_call 250; refine (of_calls r 4 n0 (b3 + 1 + 1) b3 p (by omega) _ q6f q3f).mono ?_; rintro e w5 ⟨rfl, k5⟩; have q4e := box_below q4f k5; have f4e := blk_frozen q4e; have g4e := box3 q4e)
        exact tok_end q4e rfl rfl rfl (below_then kbf k5 (Nat.le_of_lt (by omega))) (by omega) (fun W' h => ⟨by rw [hr'.out, tokK_word (by rw [hhd.out]; exact hsm) hnm.out o4.out hw]; rfl, by rw [hb0]; exact h⟩)
      | false =>
        go_wp2_with (go_at_call 250; refine (of_calls r 1 n0 (b3 + 1 + 1) b3 p (by omega) _ q6f q3f).mono ?_; rintro e w5 ⟨rfl, k5⟩; have q4e := box_below q4f k5; have f4e := blk_frozen q4e; have g4e := box3 q4e)
        exact tok_end q4e rfl rfl rfl (below_then kbf k5 (Nat.le_of_lt (by omega))) (by omega) (fun W' h => ⟨by rw [hr'.out, tokK_name (by rw [hhd.out]; exact hsm) hnm.out o4.out hw]; rfl, by rw [hb0]; exact h⟩)
  · have o4 := Lib.hid o4
    go_wp2_with (first | (go_at_call 251; refine (small_calls (r[n0 + 1]'h1) _).mono ?_; rintro e w4 ⟨rfl, rfl⟩; rw [h3]) | fail)
    all_goals
      refine rgs 5 (fun W => W.cell? ⟨b3 + 1 + 1, 0, none⟩ = some (.string r)) [] rfl ?_ (fun hS => ?_)
      · go_simp
      refine rgt 1 (.string r) rfl (by kernel_rfl) (fun _ _ _ h => h) rfl hS (fun W hW => by go_simp) ?_
      refine rgt 2 (.int .i64 n0) rfl (by kernel_rfl) (fun _ _ _ h => h) rfl hS (fun W hW => by go_simp) ?_
      refine rgt 3 (.string (r.extract 0 n0)) rfl (by kernel_rfl) (fun _ _ _ h => h) rfl hS (fun W hW => by go_simp) ?_
      refine rg1 0 rfl (by kernel_rfl) (by decide) rfl (fun K hK => ?_)
      go_simp
      refine (keywords_calls _ (fun _ => none) ⟨fun _ _ e => by cases e⟩).mono ?_
      rintro e w6 ⟨v, h6, rfl, rs, m6, k6⟩
      refine hK.out _ _ ?_ (fun hS => ?_)
      · exact cell_below hS k6
      refine rg1 4 rfl (by kernel_rfl) (by decide) rfl (fun K hK => ?_)
      go_simp
      refine (Contains_calls kwB (r.extract 0 n0) v _ h6 m6.has rs).mono ?_
      rintro e w7 ⟨rfl, rfl⟩
      refine hK.out _ _ ?_ (fun hS => ?_)
      · go_simp
      refine rgd (by kernel_rfl) ?_
      have q3f := box_below q3 (undrew k6)
      have q4f := box_below q4 (undrew k6)
      have q6f := box_below q6 (undrew k6)
      have l3f := blk_lt q3f
      have kbf := below_then kb (undrew k6) (Nat.le_of_lt (by omega))
      cases hw : baseIn kwB (r.extract 0 n0) with
      | true =>
        go_wp2_with (go_at_call 250; refine (of_calls r 4 n0 (b3 + 1 + 1) b3 p (by omega) _ q6f q3f).mono ?_; rintro e w5 ⟨rfl, k5⟩; have q4e := box_below q4f k5; have f4e := blk_frozen q4e; have g4e := box3 q4e)
        exact tok_end q4e rfl rfl rfl (below_then kbf k5 (Nat.le_of_lt (by omega))) (by omega) (fun W' h => ⟨by rw [hr'.out, tokK_word (by rw [hhd.out]; exact hsm) hnm.out o4.out hw]; rfl, by rw [hb0]; exact h⟩)
      | false =>
        go_wp2_with (go_at_call 250; refine (of_calls r 1 n0 (b3 + 1 + 1) b3 p (by omega) _ q6f q3f).mono ?_; rintro e w5 ⟨rfl, k5⟩; have q4e := box_below q4f k5; have f4e := blk_frozen q4e; have g4e := box3 q4e)
        exact tok_end q4e rfl rfl rfl (below_then kbf k5 (Nat.le_of_lt (by omega))) (by omega) (fun W' h => ⟨by rw [hr'.out, tokK_name (by rw [hhd.out]; exact hsm) hnm.out o4.out hw]; rfl, by rw [hb0]; exact h⟩)
  · have o4 := Lib.hid o4
    go_wp2_with (first | (go_at_call 251; refine (small_calls (r[n0 + 1]'h1) _).mono ?_; rintro e w4 ⟨rfl, rfl⟩; rw [h3]) | fail)
    all_goals
      refine rgs 5 (fun W => W.cell? ⟨b3 + 1 + 1, 0, none⟩ = some (.string r)) [] rfl ?_ (fun hS => ?_)
      · go_simp
      refine rgt 1 (.string r) rfl (by kernel_rfl) (fun _ _ _ h => h) rfl hS (fun W hW => by go_simp) ?_
      refine rgt 2 (.int .i64 n0) rfl (by kernel_rfl) (fun _ _ _ h => h) rfl hS (fun W hW => by go_simp) ?_
      refine rgt 3 (.string (r.extract 0 n0)) rfl (by kernel_rfl) (fun _ _ _ h => h) rfl hS (fun W hW => by go_simp) ?_
      refine rg1 0 rfl (by kernel_rfl) (by decide) rfl (fun K hK => ?_)
      go_simp
      refine (keywords_calls _ (fun _ => none) ⟨fun _ _ e => by cases e⟩).mono ?_
      rintro e w6 ⟨v, h6, rfl, rs, m6, k6⟩
      refine hK.out _ _ ?_ (fun hS => ?_)
      · exact cell_below hS k6
      refine rg1 4 rfl (by kernel_rfl) (by decide) rfl (fun K hK => ?_)
      go_simp
      refine (Contains_calls kwB (r.extract 0 n0) v _ h6 m6.has rs).mono ?_
      rintro e w7 ⟨rfl, rfl⟩
      refine hK.out _ _ ?_ (fun hS => ?_)
      · go_simp
      refine rgd (by kernel_rfl) ?_
      have q3f := box_below q3 (undrew k6)
      have q4f := box_below q4 (undrew k6)
      have q6f := box_below q6 (undrew k6)
      have l3f := blk_lt q3f
      have kbf := below_then kb (undrew k6) (Nat.le_of_lt (by omega))
      cases hw : baseIn kwB (r.extract 0 n0) with
      | true =>
        go_wp2_with (go_at_call 250; refine (of_calls r 4 n0 (b3 + 1 + 1) b3 p (by omega) _ q6f q3f).mono ?_; rintro e w5 ⟨rfl, k5⟩; have q4e := box_below q4f k5; have f4e := blk_frozen q4e; have g4e := box3 q4e)
        exact tok_end q4e rfl rfl rfl (below_then kbf k5 (Nat.le_of_lt (by omega))) (by omega) (fun W' h => ⟨by rw [hr'.out, tokK_word (by rw [hhd.out]; exact hsm) hnm.out o4.out hw]; rfl, by rw [hb0]; exact h⟩)
      | false =>
        go_wp2_with (go_at_call 250; refine (of_calls r 1 n0 (b3 + 1 + 1) b3 p (by omega) _ q6f q3f).mono ?_; rintro e w5 ⟨rfl, k5⟩; have q4e := box_below q4f k5; have f4e := blk_frozen q4e; have g4e := box3 q4e)
        exact tok_end q4e rfl rfl rfl (below_then kbf k5 (Nat.le_of_lt (by omega))) (by omega) (fun W' h => ⟨by rw [hr'.out, tokK_name (by rw [hhd.out]; exact hsm) hnm.out o4.out hw]; rfl, by rw [hb0]; exact h⟩)
end Go.Proofs.YtpgbeapojjinmaaGreatDoor
namespace Go.Proofs.YtpgbeapojjinmaaGreatDoor
open Go.RowKit Go.Shelf Go.Proofs.YtpgbeapojjinmaaGreatDoorW.PrintLast
set_option maxRecDepth 100000 in
set_option maxHeartbeats 4000000 in
theorem tokenC_calls (s : ByteArray) (p : Nat) (hs : s.size ≤ 20000) (hp : p < s.size) (w : World) (hsel : SelC (s.extract p s.size)) :
    Calls Tryz.prog 230 #[.string s, .int .i64 p] w fun e w' => e = .returned (tokV p (s.extract p s.size) (tokK (s.extract p s.size))) ∧ Below w.heap.size w w' := by
  go_enter Tryz.func230, Tryz.ntmps230
  go_wp2_with fail
  have ha := alloc3 w (.cells #[.int .i64 p] 3) (.cells #[.int .i64 0, .string ⟨#[]⟩, .int .i64 0] 170) (.cells #[.string (s.extract p s.size)] 9)
  obtain ⟨W0, hW0⟩ : ∃ W0, ((w.alloc (Obj.cells #[Value.int IntKind.i64 ↑p] 3)).alloc (Obj.cells #[Value.int IntKind.i64 0, Value.string { data := #[] }, Value.int IntKind.i64 0] 170)).alloc (Obj.cells #[Value.string (s.extract p s.size)] 9) = W0 := ⟨_, rfl⟩
  rw [hW0] at ha ⊢
  clear hW0
  have hrs : (s.extract p s.size).size ≤ 20000 := by simp; omega
  have hr0 : 0 < (s.extract p s.size).size := by simp; omega
  generalize hr : s.extract p s.size = r at ha hrs hr0 hsel ⊢
  have hr' := Lib.hid hr
  clear hr
  refine (classes_calls lettersB W0 (by decide)).mono ?_
  rintro e w1 ⟨cs, rfl, htab, k1⟩
  have hsz := htab.1
  have hst := tab_store htab w1
  have q3 := blk_alloc (box_below ha.1 k1) (.cells cs 252)
  have q4 := blk_alloc (box_below ha.2.1 k1) (.cells cs 252)
  have q6 := blk_alloc (box_below ha.2.2.1 k1) (.cells cs 252)
  have q7 := blk_new w1 (.cells cs 252)
  have kb : Below w.heap.size w (w1.alloc (.cells cs 252)) := (below_then ha.2.2.2 k1 ha.2.2.2.size).alloc (by have := k1.size; have := ha.2.2.2.size; omega) _
  have l7 : w.heap.size + 2 < w1.heap.size := by have := blk_lt (box_below ha.2.2.1 k1); omega
  have c6 := box1 q6
  clear ha k1
  go_wp2_with fail
  clear hst
  obtain ⟨W1, hW1⟩ : ∃ W1, w1.alloc (.cells cs 252) = W1 := ⟨_, rfl⟩
  rw [hW1] at q3 q4 q6 q7 kb c6 ⊢
  clear hW1
  generalize w1.heap.size = b7 at q7 l7 ⊢
  generalize hb0 : w.heap.size = b3 at *
  have hhd := Lib.hid (show r.data.toList.headD 0 = r[0] by have := drop_at r 0 hr0; rw [List.drop_zero] at this; rw [this]; rfl)
  obtain ⟨hsm, n0, hn0', h1, h2, h4⟩ := hsel
  rw [hhd.out] at hsm
  refine (small_calls r[0] _).mono ?_
  rintro e w2 ⟨rfl, rfl⟩
  rw [hsm]
  go_wp2_with fail
  refine (run_calls r 0 (b3 + 1 + 1) b7 cs hrs (by omega) _ q6 q7 htab).mono ?_
  rintro e w3 ⟨rfl, rfl⟩
  have hn0 : ((0 + runK (r.data.toList.drop 0) : Nat) : Int) = (runK r.data.toList : Nat) := by simp
  rw [hn0, hn0']
  have hn0l : n0 ≤ r.size := by rw [← hn0', Lib.size_eq]; exact runK_le r.data.toList
  have hnl : n0 ≤ r.size := by first | omega | (have := runK_le (r.data.toList.drop (n0 + 1)); rw [List.length_drop, ← Lib.size_eq] at this; omega)
  have hnm := Lib.hid h4
  clear h4
  have l3 := blk_lt q3
  rcases sign_case r n0 with ⟨o1, ⟨o2, o3⟩, o4⟩ | ⟨o1, ⟨o2, o3⟩, o4⟩ | ⟨o1, o2, o4⟩ | ⟨o1, o4⟩
  · have o4 := Lib.hid o4
    go_wp2_with (first | (go_at_call 250; refine (of_calls r 3 2 (b3 + 1 + 1) b3 p (by omega) _ q6 q3).mono ?_; rintro e w5 ⟨rfl, k5⟩; have q4e := box_below q4 k5; have f4e := blk_frozen q4e; have g4e := box3 q4e))
    exact tok_end q4e rfl rfl rfl (below_then kb k5 (Nat.le_of_lt (by omega))) (by omega) (fun W' h => ⟨by rw [hr'.out, tokK_sign (by rw [hhd.out]; exact hsm) hnm.out o4.out]; rfl, by rw [hb0]; exact h⟩)
  · have o4 := Lib.hid o4
    go_wp2_with (first | fail)
    all_goals
      refine rgs 5 (fun W => W.cell? ⟨b3 + 1 + 1, 0, none⟩ = some (.string r)) [] rfl ?_ (fun hS => ?_)
      · go_simp
      refine rgt 1 (.string r) rfl (by kernel_rfl) (fun _ _ _ h => h) rfl hS (fun W hW => by go_simp) ?_
      refine rgt 2 (.int .i64 n0) rfl (by kernel_rfl) (fun _ _ _ h => h) rfl hS (fun W hW => by go_simp) ?_
      refine rgt 3 (.string (r.extract 0 n0)) rfl (by kernel_rfl) (fun _ _ _ h => h) rfl hS (fun W hW => by go_simp) ?_
      refine rg1 0 rfl (by kernel_rfl) (by decide) rfl (fun K hK => ?_)
      go_simp
      refine (keywords_calls _ (fun _ => none) ⟨fun _ _ e => by cases e⟩).mono ?_
      rintro e w6 ⟨v, h6, rfl, rs, m6, k6⟩
      refine hK.out _ _ ?_ (fun hS => ?_)
      · exact cell_below hS k6
      refine rg1 4 rfl (by kernel_rfl) (by decide) rfl (fun K hK => ?_)
      go_simp
      refine (Contains_calls kwB (r.extract 0 n0) v _ h6 m6.has rs).mono ?_
      rintro e w7 ⟨rfl, rfl⟩
      refine hK.out _ _ ?_ (fun hS => ?_)
      · go_simp
      refine rgd (by kernel_rfl) ?_
      have q3f := box_below q3 (undrew k6)
      have q4f := box_below q4 (undrew k6)
      have q6f := box_below q6 (undrew k6)
      have l3f := blk_lt q3f
      have kbf := below_then kb (undrew k6) (Nat.le_of_lt (by omega))
      cases hw : baseIn kwB (r.extract 0 n0) with
      | true =>
        go_wp2_with (go_at_call 250; refine (of_calls r 4 n0 (b3 + 1 + 1) b3 p (by omega) _ q6f q3f).mono ?_; rintro e w5 ⟨rfl, k5⟩; have q4e := box_below q4f k5; have f4e := blk_frozen q4e; have g4e := box3 q4e)
        exact tok_end q4e rfl rfl rfl (below_then kbf k5 (Nat.le_of_lt (by omega))) (by omega) (fun W' h => ⟨by rw [hr'.out, tokK_word (by rw [hhd.out]; exact hsm) hnm.out o4.out hw]; rfl, by rw [hb0]; exact h⟩)
      | false =>
        go_wp2_with (go_at_call 250; refine (of_calls r 1 n0 (b3 + 1 + 1) b3 p (by omega) _ q6f q3f).mono ?_; rintro e w5 ⟨rfl, k5⟩; have q4e := box_below q4f k5; have f4e := blk_frozen q4e; have g4e := box3 q4e)
        exact tok_end q4e rfl rfl rfl (below_then kbf k5 (Nat.le_of_lt (by omega))) (by omega) (fun W' h => ⟨by rw [hr'.out, tokK_name (by rw [hhd.out]; exact hsm) hnm.out o4.out hw]; rfl, by rw [hb0]; exact h⟩)
  · have o4 := Lib.hid o4
    go_wp2_with (first | fail)
    all_goals
      refine rgs 5 (fun W => W.cell? ⟨b3 + 1 + 1, 0, none⟩ = some (.string r)) [] rfl ?_ (fun hS => ?_)
      · go_simp
      refine rgt 1 (.string r) rfl (by kernel_rfl) (fun _ _ _ h => h) rfl hS (fun W hW => by go_simp) ?_
      refine rgt 2 (.int .i64 n0) rfl (by kernel_rfl) (fun _ _ _ h => h) rfl hS (fun W hW => by go_simp) ?_
      refine rgt 3 (.string (r.extract 0 n0)) rfl (by kernel_rfl) (fun _ _ _ h => h) rfl hS (fun W hW => by go_simp) ?_
      refine rg1 0 rfl (by kernel_rfl) (by decide) rfl (fun K hK => ?_)
      go_simp
      refine (keywords_calls _ (fun _ => none) ⟨fun _ _ e => by cases e⟩).mono ?_
      rintro e w6 ⟨v, h6, rfl, rs, m6, k6⟩
      refine hK.out _ _ ?_ (fun hS => ?_)
      · exact cell_below hS k6
      refine rg1 4 rfl (by kernel_rfl) (by decide) rfl (fun K hK => ?_)
      go_simp
      refine (Contains_calls kwB (r.extract 0 n0) v _ h6 m6.has rs).mono ?_
      rintro e w7 ⟨rfl, rfl⟩
      refine hK.out _ _ ?_ (fun hS => ?_)
      · go_simp
      refine rgd (by kernel_rfl) ?_
      have q3f := box_below q3 (undrew k6)
      have q4f := box_below q4 (undrew k6)
      have q6f := box_below q6 (undrew k6)
      have l3f := blk_lt q3f
      have kbf := below_then kb (undrew k6) (Nat.le_of_lt (by omega))
      cases hw : baseIn kwB (r.extract 0 n0) with
      | true =>
        go_wp2_with (go_at_call 250; refine (of_calls r 4 n0 (b3 + 1 + 1) b3 p (by omega) _ q6f q3f).mono ?_; rintro e w5 ⟨rfl, k5⟩; have q4e := box_below q4f k5; have f4e := blk_frozen q4e; have g4e := box3 q4e)
        exact tok_end q4e rfl rfl rfl (below_then kbf k5 (Nat.le_of_lt (by omega))) (by omega) (fun W' h => ⟨by rw [hr'.out, tokK_word (by rw [hhd.out]; exact hsm) hnm.out o4.out hw]; rfl, by rw [hb0]; exact h⟩)
      | false =>
        go_wp2_with (go_at_call 250; refine (of_calls r 1 n0 (b3 + 1 + 1) b3 p (by omega) _ q6f q3f).mono ?_; rintro e w5 ⟨rfl, k5⟩; have q4e := box_below q4f k5; have f4e := blk_frozen q4e; have g4e := box3 q4e)
        exact tok_end q4e rfl rfl rfl (below_then kbf k5 (Nat.le_of_lt (by omega))) (by omega) (fun W' h => ⟨by rw [hr'.out, tokK_name (by rw [hhd.out]; exact hsm) hnm.out o4.out hw]; rfl, by rw [hb0]; exact h⟩)
  · have o4 := Lib.hid o4
    go_wp2_with (first | fail)
    all_goals
      refine rgs 5 (fun W => W.cell? ⟨b3 + 1 + 1, 0, none⟩ = some (.string r)) [] rfl ?_ (fun hS => ?_)
      · go_simp
      refine rgt 1 (.string r) rfl (by kernel_rfl) (fun _ _ _ h => h) rfl hS (fun W hW => by go_simp) ?_
      refine rgt 2 (.int .i64 n0) rfl (by kernel_rfl) (fun _ _ _ h => h) rfl hS (fun W hW => by go_simp) ?_
      refine rgt 3 (.string (r.extract 0 n0)) rfl (by kernel_rfl) (fun _ _ _ h => h) rfl hS (fun W hW => by go_simp) ?_
      refine rg1 0 rfl (by kernel_rfl) (by decide) rfl (fun K hK => ?_)
      go_simp
      refine (keywords_calls _ (fun _ => none) ⟨fun _ _ e => by cases e⟩).mono ?_
      rintro e w6 ⟨v, h6, rfl, rs, m6, k6⟩
      refine hK.out _ _ ?_ (fun hS => ?_)
      · exact cell_below hS k6
      refine rg1 4 rfl (by kernel_rfl) (by decide) rfl (fun K hK => ?_)
      go_simp
      refine (Contains_calls kwB (r.extract 0 n0) v _ h6 m6.has rs).mono ?_
      rintro e w7 ⟨rfl, rfl⟩
      refine hK.out _ _ ?_ (fun hS => ?_)
      · go_simp
      refine rgd (by kernel_rfl) ?_
      have q3f := box_below q3 (undrew k6)
      have q4f := box_below q4 (undrew k6)
      have q6f := box_below q6 (undrew k6)
      have l3f := blk_lt q3f
      have kbf := below_then kb (undrew k6) (Nat.le_of_lt (by omega))
      cases hw : baseIn kwB (r.extract 0 n0) with
      | true =>
        go_wp2_with (go_at_call 250; refine (of_calls r 4 n0 (b3 + 1 + 1) b3 p (by omega) _ q6f q3f).mono ?_; rintro e w5 ⟨rfl, k5⟩; have q4e := box_below q4f k5; have f4e := blk_frozen q4e; have g4e := box3 q4e)
        exact tok_end q4e rfl rfl rfl (below_then kbf k5 (Nat.le_of_lt (by omega))) (by omega) (fun W' h => ⟨by rw [hr'.out, tokK_word (by rw [hhd.out]; exact hsm) hnm.out o4.out hw]; rfl, by rw [hb0]; exact h⟩)
      | false =>
        go_wp2_with (go_at_call 250; refine (of_calls r 1 n0 (b3 + 1 + 1) b3 p (by omega) _ q6f q3f).mono ?_; rintro e w5 ⟨rfl, k5⟩; have q4e := box_below q4f k5; have f4e := blk_frozen q4e; have g4e := box3 q4e)
        exact tok_end q4e rfl rfl rfl (below_then kbf k5 (Nat.le_of_lt (by omega))) (by omega) (fun W' h => ⟨by rw [hr'.out, tokK_name (by rw [hhd.out]; exact hsm) hnm.out o4.out hw]; rfl, by rw [hb0]; exact h⟩)
end Go.Proofs.YtpgbeapojjinmaaGreatDoor
