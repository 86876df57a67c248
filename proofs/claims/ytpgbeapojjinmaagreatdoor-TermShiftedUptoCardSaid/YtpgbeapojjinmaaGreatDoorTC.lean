/- term.Text. No law is proved here. -/
import Derived.Test.YtpgbeapojjinmaaGreatDoorTB
set_option linter.unusedVariables false
set_option linter.unusedSimpArgs false
namespace Go.Proofs.YtpgbeapojjinmaaGreatDoor
open Go.RowKit Go.Shelf Go.Proofs.YtpgbeapojjinmaaGreatDoorW.PrintLast
/-- The text of tokens. -/
def joinB (us : List ByteArray) : ByteArray := ⟨(Lib.join (us.map (·.data.toList)) [32]).toArray⟩
def textP (t : Tm) : ByteArray := if rawP t = 0 then (if 6000 < (wrT t).length ∨ 20000 < (joinB (wrT t)).size then ⟨#[]⟩ else joinB (wrT t)) else ⟨#[]⟩
theorem wrT_pos (t : Tm) : 0 < (wrT t).length := by
  obtain ⟨k, n, nm, ar⟩ := t
  by_cases q : k = 5
  · cases ar <;> rw [wrT, if_pos q] <;> simp
  · rw [wrT_head q]; simp
theorem own_cells {w : World} {B n : Nat} {g c : Nat} {us : List ByteArray} (h : w.ownsRow B 9 1 (.slice (some ⟨g, 0, none⟩) n c) n (us.map Value.string)) : (∀ (j : Nat) x, us[j]? = some x → w.cell? ⟨g, 0 + j, none⟩ = some (.string x)) ∧ g < w.heap.size ∧ n ≤ c ∧ us.length = n := by
  obtain ⟨h1, h2⟩ := h
  rcases h2 with ⟨h2, _⟩ | ⟨g', cap, cur, e1, hg, hh, h3, h4, h5, h6⟩
  · cases h2
  · simp only [Value.slice.injEq, Option.some.injEq, Addr.mk.injEq, and_true, true_and] at e1
    obtain ⟨rfl, rfl⟩ := e1
    refine ⟨fun j x hx => ?_, blk_lt hh, h3, by simpa using h1⟩
    have hj : j < us.length := (List.getElem?_eq_some_iff.1 hx).1
    have hl : us.length = n := by simpa using h1
    rw [Nat.zero_add, blk_cell hh j]
    have : (us.map Value.string)[j]? = some (.string x) := by rw [List.getElem?_map, hx]; rfl
    rw [← h6, List.getElem?_take, if_pos (by omega)] at this
    simpa using this
set_option maxRecDepth 100000 in
set_option maxHeartbeats 8000000 in
theorem Text_calls (p : Tm → Bool) (I : World → Prop) (N0 : Nat) (hI : ∀ (t : Tm) (W : World), p t = true → I W → Calls Tryz.prog 152 #[.int .i64 t.n] W fun e w' => e = .returned (.string (itoaB t.n)) ∧ Below W.heap.size W w')
    (hIk : ∀ (W W' : World) (S : Nat → Prop), I W → Kp S W W' → (∀ q, S q → N0 ≤ q) → I W') (t : Tm) (cs : List Value) (w : World) (h : Snap) (H : Has w h) (r : TmR h t cs) (hi : I w) (hN : N0 ≤ w.heap.size)
    (hz : rawP t = 0 → t.sz ≤ 100000 ∧ allN p t = true ∧ (Lib.join ((wrT t).map (·.data.toList)) [32]).length ≤ 140737488355328) :
    Calls Tryz.prog 71 #[.agg cs.toArray] w fun e w' => e = .returned (.string (textP t)) ∧ Below w.heap.size w w' := by
  have hmf := run_mf
  have r0 := r
  obtain ⟨A, cap, rfl, hl, hlm, hk1, hn1, hr⟩ := r.open_
  have hu34 := Tryz.underlying34
  have hu22 := Tryz.underlying22
  obtain ⟨a1, ab⟩ := alloc1 w (.cells #[.int .i64 t.k, .int .i64 t.n, .string t.nm, .slice A t.ar.length cap] 34)
  have hv : textP t = if rawP t = 0 then (if 6000 < (wrT t).length ∨ 20000 < (joinB (wrT t)).size then ⟨#[]⟩ else joinB (wrT t)) else ⟨#[]⟩ := rfl
  obtain ⟨T, hT⟩ : ∃ T, textP t = T := ⟨_, rfl⟩
  rw [hT] at hv ⊢
  clear hT
  have hz' := Lib.hid hz
  have hI' := Lib.hid hI
  have hIk' := Lib.hid hIk
  clear hz hI hIk
  by_cases q : rawP t = 0
  · have q' : (rawP t != 0) = false := by simp [q]
    obtain ⟨hz1, hz2, hz3⟩ := hz'.out q
    have hraw : rawN t = true := by
      unfold rawP at q
      split at q
      · split at q
        · assumption
        · cases q
      · exact absurd q ‹_›
    rw [if_pos q] at hv
    have hv' := Lib.hid hv
    have hz3' := Lib.hid hz3
    clear q hv hz3
    go_enter Tryz.func71, Tryz.ntmps71
    go_wp2_with fail
    refine (Raw_calls t _ _ h (H.below ab) r0).mono ?_
    rintro e w1 ⟨rfl, k1⟩
    have kk := below_then ab k1 ab.size
    have g1 := box_below a1 k1
    have y1 := box4 g1
    have l1 := blk_lt g1
    go_wp2_with fail
    have n1 := blk_new (w1.alloc (.cells #[.slice none 0 0] 22)) (.cells #[.func (.func 150) #[] #[.pointer (some ⟨w1.heap.size, 0, none⟩), .pointer (some ⟨w1.heap.size + 1, 0, none⟩)]] 111)
    have n0 := blk_alloc (blk_new w1 (.cells #[.slice none 0 0] 22)) (.cells #[.func (.func 150) #[] #[.pointer (some ⟨w1.heap.size, 0, none⟩), .pointer (some ⟨w1.heap.size + 1, 0, none⟩)]] 111)
    have kb : Below w1.heap.size w1 ((w1.alloc (.cells #[.slice none 0 0] 22)).alloc (.cells #[.func (.func 150) #[] #[.pointer (some ⟨w1.heap.size, 0, none⟩), .pointer (some ⟨w1.heap.size + 1, 0, none⟩)]] 111)) := (alloc2 w1 _ _).2.2
    obtain ⟨W3, hW3⟩ : ∃ W3, ((w1.alloc (.cells #[.slice none 0 0] 22)).alloc (.cells #[.func (.func 150) #[] #[.pointer (some ⟨w1.heap.size, 0, none⟩), .pointer (some ⟨w1.heap.size + 1, 0, none⟩)]] 111)) = W3 := ⟨_, rfl⟩
    have sz3 : W3.heap.size = w1.heap.size + 2 := by rw [← hW3]; simp
    rw [hW3] at n1 n0 kb ⊢
    clear hW3
    simp only [World.size_alloc] at n1
    have k3 := below_then kk kb kk.size
    have hs1 := kk.size
    refine (write_calls p I N0 hI'.out hIk'.out w1.heap.size (w1.heap.size + 1) (w1.heap.size + 2) (by omega) (by omega) (by omega) (by omega) (by omega) t.sz t (Nat.le_refl _) _ [] (.slice none 0 0) W3 h (H.below k3) r0 (H.off_new (fun q hq => by
      rcases hq with hq | hq
      · omega
      · simp [Value.ownBlock] at hq)) ⟨n0, n1, World.ownsRow_nil ..⟩ (hIk'.out _ _ _ hi (Kp.of_below (fun _ => False) k3) (fun _ hf => hf.elim)) (by omega) hraw hz2 (by simp; omega)).mono ?_
    rintro e w4 ⟨rfl, k4, sv4, o4, hat4⟩
    rw [List.nil_append] at o4
    have hpos := wrT_pos t
    have hlen := wrT_len t
    generalize wrT t = us at *
    have k5 : Below w.heap.size w w4 := ((Kp.of_below (fun q => w.heap.size ≤ q) k3).trans k4 (fun i hi2 hq => by
      rcases hq with hq | hq
      · omega
      · simp [Value.ownBlock] at hq)).below (fun i hi2 => by omega)
    obtain ⟨g, c, rfl, hg⟩ := own_head o4.own hpos
    obtain ⟨oc1, oc2, oc3, oc4⟩ := own_cells o4.own
    have oc1' := Lib.hid oc1
    have xo := box1 o4.o
    have lo := blk_lt o4.o
    have ho4 := Lib.hid o4
    have hat4' := Lib.hid hat4
    clear oc1 o4 hat4 y1 oc4
    go_wp2_with fail
    refine (Join_calls g 0 c us ⟨#[32]⟩ w4 oc1'.out oc2 (by omega) oc3 hz3'.out).mono ?_
    rintro e w5 ⟨rfl, k6⟩
    have kk5 := below_then k5 k6 k5.size
    have xo5 := box1 (box_below ho4.out.o k6)
    have lo5 := blk_lt (box_below ho4.out.o k6)
    have hjb : Hid ((⟨(Lib.join (us.map (·.data.toList)) [32]).toArray⟩ : ByteArray) = joinB us) := Lib.hid rfl
    obtain ⟨J, hJ⟩ : ∃ J : ByteArray, (⟨(Lib.join (us.map (·.data.toList)) [32]).toArray⟩ : ByteArray) = J := ⟨_, rfl⟩
    have hJ2 : Hid (joinB us = J) := Lib.hid (hjb.out.symm.trans hJ)
    rw [show (⟨#[32]⟩ : ByteArray).data.toList = [32] from rfl, hJ]
    rw [hJ2.out] at hv'
    clear hJ hjb hJ2
    by_cases c1 : 6000 < us.length
    · have G : Hid (T = ⟨#[]⟩) := Lib.hid (by have := hv'.out; rwa [if_pos (.inl c1)] at this)
      clear hv'
      go_wp2_with fail
      go_ret
      rw [G.out]
      exact ⟨rfl, kk5⟩
    · by_cases c2 : 20000 < J.size
      · have G : Hid (T = ⟨#[]⟩) := Lib.hid (by have := hv'.out; rwa [if_pos (.inr c2)] at this)
        clear hv'
        have c1' : us.length ≤ 6000 := by omega
        clear c1
        go_wp2_with fail
        go_ret
        rw [G.out]
        exact ⟨rfl, kk5⟩
      · have G : Hid (T = J) := Lib.hid (by have := hv'.out; rwa [if_neg (by omega)] at this)
        clear hv'
        have c1' : us.length ≤ 6000 := by omega
        have c2' : J.size ≤ 20000 := by omega
        clear c1 c2
        go_wp2_with fail
        go_ret
        rw [G.out]
        exact ⟨rfl, kk5⟩
  · have q' : (rawP t != 0) = true := by simp [q]
    rw [if_neg q] at hv
    have hv' := Lib.hid hv
    clear q hv
    go_enter Tryz.func71, Tryz.ntmps71
    go_wp2_with fail
    refine (Raw_calls t _ _ h (H.below ab) r0).mono ?_
    rintro e w1 ⟨rfl, k1⟩
    have kk := below_then ab k1 ab.size
    go_wp2_with fail
    go_ret
    rw [hv'.out]
    exact ⟨rfl, kk⟩
end Go.Proofs.YtpgbeapojjinmaaGreatDoor
