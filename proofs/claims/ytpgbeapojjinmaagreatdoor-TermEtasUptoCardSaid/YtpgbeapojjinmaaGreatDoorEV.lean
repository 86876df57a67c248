/- The document's eta. No law is proved here. -/
import Derived.Test.YtpgbeapojjinmaaGreatDoorEU
set_option linter.unusedVariables false
set_option linter.unusedSimpArgs false
namespace Go.Proofs.YtpgbeapojjinmaaGreatDoor
open Go.RowKit Go.Shelf Go.Proofs.YtpgbeapojjinmaaGreatDoorW.PrintLast
/-! ### Steps -/
def StepOK (f : Nat) : Prop := ∀ (s E k n : Int) (nm : ByteArray) (ty : Ty), ty.sz ≤ f → s ≤ (rEta f s E k n nm ty).2.1 ∧ (rEta f s E k n nm ty).2.1 + 1 ≤ s + ty.sz
theorem stepsL {f : Nat} (IH : StepOK f) : ∀ (l : List Ty) (m s E : Int), (∀ a ∈ l, a.sz ≤ f) → s ≤ (rEtaL (fun s E m a => rEta f s E 2 m ⟨#[]⟩ a) m s E l).2.1 ∧ (rEtaL (fun s E m a => rEta f s E 2 m ⟨#[]⟩ a) m s E l).2.1 ≤ s + Ty.szL l
  | [], m, s, E, h => by rw [rEtaL]; simp [Ty.szL]
  | a :: l, m, s, E, h => by
    rw [rEtaL]
    have hp := a.sz_pos
    simp only [Ty.szL]
    split
    · simp only []; omega
    · have A := IH (s + 1) (if 4000 < s + 1 then 2 else 0) 2 m ⟨#[]⟩ a (h a (by simp))
      have B := stepsL IH l (m - 1) (rEta f (s + 1) (if 4000 < s + 1 then 2 else 0) 2 m ⟨#[]⟩ a).2.1 (rEta f (s + 1) (if 4000 < s + 1 then 2 else 0) 2 m ⟨#[]⟩ a).2.2 (fun b hb => h b (by simp [hb]))
      simp only []
      omega
theorem steps : ∀ f : Nat, StepOK f
  | 0 => fun s E k n nm ty h => by have := ty.sz_pos; omega
  | f + 1 => by
    intro s E k n nm ty h
    have hs := prts_sum ty.sz ty (Nat.le_refl _)
    have B := stepsL (steps f) (partsL ty) ((partsL ty).length - 1) s (if 8 < (partsL ty).length then failE E 2 else E) (fun a ha => by have := sz_mem ha; omega)
    rw [rEta]
    simp only []
    omega
/-- How the document's eta ends. -/
def REPost (bw : Nat) (lv : Value) (w : World) (h : Snap) (r : Tm × Int × Int) (e : Ending) (w' : World) : Prop := Kp (fun q => q = bw) w w' ∧ w'.heap[bw]? = some (.cells #[lv, .int .i64 r.2.1, .int .i64 r.2.2] 124) ∧ ∃ cs' h', e = .returned (.agg cs'.toArray) ∧ TmR h' r.1 cs' ∧ Mk w h w' h'
def REOK (f : Nat) : Prop := ∀ (bw : Nat) (lv : Value) (s E k n : Int) (nm : ByteArray) (B0 : Option Addr) (l0 q0 : Nat) (ty : Ty) (ct : List Value) (w : World) (h : Snap)
    (H : Has w h) (rt : TyR h ty ct) (ho : Off h (fun q => q = bw)) (hk : -9223372036854775808 ≤ k ∧ k ≤ 9223372036854775807) (hn : -9223372036854775808 ≤ n ∧ n ≤ 4000000000) (hz : ty.sz ≤ f) (hz2 : ty.sz ≤ 1000000) (hff : formTy ty = 0) (hs : 0 ≤ s ∧ s + ty.sz ≤ 1000000000) (hc : w.heap[bw]? = some (.cells #[lv, .int .i64 s, .int .i64 E] 124)),
    Calls Tryz.prog 94 #[.pointer (some ⟨bw, 0, none⟩), .agg #[.int .i64 k, .int .i64 n, .string nm, .slice B0 l0 q0], .agg ct.toArray] w (REPost bw lv w h (rEta f s E k n nm ty))
/-- The state of the first loop. -/
structure EuS (w : World) (h : Snap) (bw bx : Nat) (lv : Value) (kk n : Int) (nm : ByteArray) (us : List Tm) (sj Ej : Int) (sv : Value) (xs : List Value) (wr : World) (h' : Snap) : Prop where
  b1 : wr.heap[bx]? = some (.cells #[.int .i64 kk, .int .i64 n, .string nm, sv] 34)
  b2 : wr.heap[w.heap.size + 2]? = some (.cells #[.int .i64 0, .int .i64 0, .string ⟨#[]⟩, .slice none 0 0] 34)
  bcn : wr.heap[bw]? = some (.cells #[lv, .int .i64 sj, .int .i64 Ej] 124)
  own : wr.ownsRow (bx + 1) 34 4 sv us.length xs
  ch : Chunks (TmR h') 4 us xs
  made : Mk w h wr h'
  kp : Kp (fun q => q = bw) w wr
  off : Off h' (fun q => q = bw ∨ q = bx ∨ q = w.heap.size + 2 ∨ sv.ownBlock = some q)
/-- The state of the second loop. -/
structure EuT (w : World) (h : Snap) (bw bx : Nat) (lv : Value) (T : Tm) (sj Ej : Int) (j : Nat) (wr : World) (h' : Snap) : Prop where
  b1 : ∃ cu : List Value, wr.heap[bx]? = some (.cells cu.toArray 34) ∧ TmR h' (lamsT j T) cu
  b2 : wr.heap[w.heap.size + 2]? = some (.cells #[.int .i64 0, .int .i64 0, .string ⟨#[]⟩, .slice none 0 0] 34)
  bcn : wr.heap[bw]? = some (.cells #[lv, .int .i64 sj, .int .i64 Ej] 124)
  made : Mk w h wr h'
  kp : Kp (fun q => q = bw) w wr
  off : Off h' (fun q => q = bw ∨ q = bx ∨ q = w.heap.size + 2)
set_option maxRecDepth 100000 in
set_option maxHeartbeats 16000000 in
theorem re_step (f : Nat) (IH : Hid (REOK f)) : REOK (f + 1) := by
  intro bw lv s E kk n nm B0 l0 q0 ty ct w h H rt ho hk hn hz hz2 hff hs hc
  have rt0 := Lib.hid rt
  obtain ⟨At, capt, rfl, _⟩ := rt.open_
  have hu34 := Tryz.underlying34
  have hu36 := Tryz.underlying36
  have hu62 := Tryz.underlying62
  have hu124 := Tryz.underlying124
  have hu29 := Tryz.underlying29
  have hfld := run_field62_0
  have hsum := prts_sum ty.sz ty (Nat.le_refl _)
  have hS : Hid (∀ u ∈ partsL ty, u.sz ≤ f ∧ u.sz ≤ 1000000 ∧ formTy u = 0) := Lib.hid (fun u hu => by
    have := sz_mem hu
    exact ⟨by omega, by omega, (parts_form ty.sz ty (Nat.le_refl _) hff).1 u hu⟩)
  have hform := formTy_formed hff
  obtain ⟨R, hR⟩ : ∃ R, rEta (f + 1) s E kk n nm ty = R := ⟨_, rfl⟩
  rw [hR]
  rw [rEta] at hR
  replace hR := Lib.hid hR
  have hstep := Lib.hid (fun (m E1 : Int) => (stepsL (steps f) (partsL ty) m s E1 (fun a ha => (hS.out a ha).1)).2)
  obtain ⟨a1, a2, a3, ab⟩ := alloc3 w (.cells #[.int .i64 kk, .int .i64 n, .string nm, .slice B0 l0 q0] 34) (.cells #[.string ty.nm, .slice At ty.ar.length capt] 36) (.cells #[.int .i64 0, .int .i64 0, .string ⟨#[]⟩, .slice none 0 0] 34)
  have lc := blk_lt hc
  go_enter Tryz.func94, Tryz.ntmps94
  go_wp2_with fail
  refine (split_calls ty _ _ h (H.below ab) rt0.out (by unfold lim; omega) hform).mono ?_
  rintro e w1 ⟨sv, xs, rfl, hown, hch, k1⟩
  have kk1 := below_then ab k1 ab.size
  have s0 : (((w.alloc (.cells #[.int .i64 kk, .int .i64 n, .string nm, .slice B0 l0 q0] 34)).alloc (.cells #[.string ty.nm, .slice At ty.ar.length capt] 36)).alloc (.cells #[.int .i64 0, .int .i64 0, .string ⟨#[]⟩, .slice none 0 0] 34)).heap.size = w.heap.size + 3 := by simp
  have sz1 := k1.size
  rw [s0] at sz1
  have b1 := box_below a1 k1
  have b3 := box_below a3 k1
  have bc1 := box_below hc kk1
  obtain ⟨h1, rs1, m1, n1⟩ := own_TyS (w0 := w) (H.below kk1) (by rw [s0]; omega) hown hch (by unfold lim; omega)
  have ho1 : Off h1 (fun q => q = bw ∨ (w.heap.size ≤ q ∧ q < w.heap.size + 3)) := ⟨fun x v e hq => by
    rcases n1 x v e with g | g
    · have := H.lt g
      rcases hq with hq | hq
      · exact ho.at_ x v g hq
      · omega
    · exact own_ge hown (b := x.block) (by rw [s0]; omega) g⟩
  obtain ⟨As, caps, e, hcl, hll, hts⟩ := id rs1
  subst e
  clear hown hch n1 a1 a2 a3
  have rs1' := Lib.hid rs1
  clear rs1 rt
  generalize partsL ty = L at *
  generalize partsR ty = PR at *
  have hl8 : L.length ≤ 1000000 := by omega
  -- an error for too many arguments
  obtain ⟨E1, hE1⟩ : ∃ E1, (if 8 < L.length then failE E 2 else E) = E1 := ⟨_, rfl⟩
  rw [hE1] at hR
  have y3 := bx3g bc1
  have lw1 := blk_lt bc1
  by_cases q8 : 8 < L.length
  · have q8' : (8 : Int) < L.length := by omega
    rw [if_pos q8] at hE1
    go_wp2_with fail
    refine (fail_calls bw lv s E 2 w1 bc1).mono ?_
    rintro e w2 ⟨rfl, kf, bc2⟩
    rw [hE1] at bc2
    clear hE1 q8 y3 lw1
    have d1 := blk_kp b1 kf (by omega)
    have d3 := blk_kp b3 kf (by omega)
    have z1 := box4 d1
    have ld1 := blk_lt d1
    have ld3 := blk_lt d3
    have ldc := blk_lt bc2
    have sz2 := kf.size
    have m2 : Mk w h w2 h1 := m1.world (m1.has.kp kf ⟨fun x v e hx => ho1.at_ x v e (.inl hx)⟩)
    have kw2 : Kp (fun q => q = bw) w w2 := (Kp.of_below (fun q => q = bw) kk1).trans kf (fun q hq e => e)
    obtain ⟨N, hN⟩ : ∃ N, (if kk = 2 then n + (L.length : Int) else n) = N := ⟨_, rfl⟩
    rw [hN] at hR
    have hwN : IntKind.i64.wrap (n + (L.length : Int)) = n + L.length := IntWalk.i64_in _ (by omega)
    have hq : ((kk == 2) = true ∧ n + (L.length : Int) = N) ∨ ((kk == 2) = false ∧ N = n) := by
      by_cases q : kk = 2
      · rw [if_pos q] at hN; exact .inl ⟨by simp [q], hN⟩
      · rw [if_neg q] at hN; exact .inr ⟨by simp [q], hN.symm⟩
    clear hN
    have hN5 : N ≤ 4611686018427387904 ∧ -9223372036854775808 ≤ N := by omega
    obtain ⟨f1, hf0, hf1, hf2⟩ : ∃ f1 : List Tm → Int → Int → List Ty → List Tm × Int × Int, Hid (∀ us sj Ej l, (l = [] ∨ Ej ≠ 0) → f1 us sj Ej l = (us, sj, Ej)) ∧ Hid (∀ us sj t ts, f1 us sj 0 (t :: ts) = f1 (us ++ [(rEta f (sj + 1) (if 4000 < sj + 1 then 2 else 0) 2 ((L.length : Int) - 1 - us.length) ⟨#[]⟩ t).1]) (rEta f (sj + 1) (if 4000 < sj + 1 then 2 else 0) 2 ((L.length : Int) - 1 - us.length) ⟨#[]⟩ t).2.1 (rEta f (sj + 1) (if 4000 < sj + 1 then 2 else 0) 2 ((L.length : Int) - 1 - us.length) ⟨#[]⟩ t).2.2 ts) ∧ Hid (R = (lamsT L.length (.mk kk N nm (f1 [] s E1 L).1), (f1 [] s E1 L).2)) :=
      ⟨fun us sj Ej ts => (us ++ (rEtaL (fun s E m a => rEta f s E 2 m ⟨#[]⟩ a) ((L.length : Int) - 1 - us.length) sj Ej ts).1, (rEtaL (fun s E m a => rEta f s E 2 m ⟨#[]⟩ a) ((L.length : Int) - 1 - us.length) sj Ej ts).2), by
        show ∀ _ _ _ _, _
        intro us sj Ej l hl
        rcases hl with rfl | hl
        · simp [rEtaL]
        · simp [rEtaL_stop hl], by
        show ∀ _ _ _ _, _
        intro us sj t ts
        simp only []
        rw [rEtaL, if_neg (by decide)]
        simp only [List.length_append, List.length_cons, List.length_nil, List.append_assoc, List.cons_append, List.nil_append]
        rw [show ((L.length : Int) - 1 - ((us.length + (0 + 1) : Nat) : Int)) = (L.length : Int) - 1 - us.length - 1 by omega], by
        show _ = _
        rw [← hR.out]
        simp only [List.length_nil, Int.ofNat_zero, Int.sub_zero, List.nil_append]⟩
    clear hR
    obtain ⟨WX, hWX⟩ : ∃ W, (w2.alloc (.cells #[.int .i64 kk, .int .i64 n, .string nm, .slice none 0 0] 34)).setCell ⟨w2.heap.size, 3, none⟩ (.slice none 0 0) = W := ⟨_, rfl⟩
    have bX : WX.heap[w2.heap.size]? = some (.cells #[.int .i64 kk, .int .i64 n, .string nm, .slice none 0 0] 34) := by rw [← hWX]; simpa using blk_set (blk_new w2 (.cells #[.int .i64 kk, .int .i64 n, .string nm, .slice none 0 0] 34)) 3 (.slice none 0 0)
    have e3 : WX.heap[w.heap.size + 2]? = some (.cells #[.int .i64 0, .int .i64 0, .string ⟨#[]⟩, .slice none 0 0] 34) := by rw [← hWX]; exact blk_far (blk_alloc d3 _) (by simp; omega) _
    have ec : WX.heap[bw]? = some (.cells #[lv, .int .i64 s, .int .i64 E1] 124) := by rw [← hWX]; exact blk_far (blk_alloc bc2 _) (by simp; omega) _
    have szX : WX.heap.size = w2.heap.size + 1 := by rw [← hWX]; simp [World.setCell]
    have mX : Mk w h WX h1 := by rw [← hWX]; exact m2.world ((m2.has.alloc _).set (fun x v e hx => by have := m2.has.lt e; simp at hx; omega) _)
    have kX : Kp (fun q => q = bw) w WX := by rw [← hWX]; exact (kw2.alloc _).trans ((Kp.refl (fun q => q = w2.heap.size) _).set (p := ⟨w2.heap.size, 3, none⟩) (.inl rfl) _) (fun q hq e => by omega)
    have g0 : WX.heap[w.heap.size]? = some (.cells #[.int .i64 kk, .int .i64 n, .string nm, .slice B0 l0 q0] 34) := by rw [← hWX]; exact blk_far (blk_alloc d1 _) (by simp; omega) _
    have zX := box4 g0
    have xX := box4 bX
    have fX := blk_frozen bX
    have lX := blk_lt bX
    have hoffX : ∀ x v, h1 x = some v → x.block < w2.heap.size := fun x v e => m2.has.lt e
    obtain ⟨W4, hW4, g4, kp4⟩ : ∃ W4, (WX.setCell ⟨w2.heap.size, 1, none⟩ (.int .i64 (n + (L.length : Int)))) = W4 ∧ W4.heap[w2.heap.size]? = some (.cells #[.int .i64 kk, .int .i64 (n + L.length), .string nm, .slice none 0 0] 34) ∧ Kp (fun q => q = w2.heap.size) WX W4 := ⟨_, rfl, by simpa using blk_set bX 1 (.int .i64 (n + (L.length : Int))), (Kp.refl (fun q => q = w2.heap.size) WX).set (p := ⟨w2.heap.size, 1, none⟩) (.inl rfl) _⟩
    have e3' := blk_kp e3 kp4 (by omega)
    have ec' := blk_kp ec kp4 (by omega)
    have mX' := mX.world (mX.has.kp kp4 ⟨fun x v e (hx : x.block = w2.heap.size) => by have := hoffX x v e; omega⟩)
    have kX' : Kp (fun q => q = bw) w W4 := kX.trans kp4 (fun q hq e => by omega)
    rcases hq with ⟨q5, hB1⟩ | ⟨q5, hB1⟩
    all_goals (first | (rw [hB1] at g4; replace hW4 := Lib.hid hW4; have D1 := g4; have D3 := e3'; have Dc := ec'; have Dm := mX'; have Dk := kX'; have Ds := kp4.size) | (subst hB1; have D1 := bX; have D3 := e3; have Dc := ec; have Dm := mX; have Dk := kX; have Ds := Nat.le_refl WX.heap.size))
    all_goals clear g4 e3' ec' mX' kX' kp4 e3 ec mX kX d1 d3 bc2 kf m2 kw2
    all_goals (try clear hB1)
    all_goals go_wp2_with fail
    all_goals (try rw [hW4.out])
    all_goals clear xX fX lX bX hWX g0 zX z1
    all_goals
      go_loopw [9] (fun i wr => ∃ us sj Ej sv xs h', us.length ≤ L.length ∧ i = .int .i64 us.length ∧ EuS w h bw w2.heap.size lv kk N nm us sj Ej sv xs wr h' ∧ Hid (Sub h1 h') ∧ Hid (f1 us sj Ej (L.drop us.length) = f1 [] s E1 L) ∧ Hid (0 ≤ sj ∧ sj + Ty.szL (L.drop us.length) ≤ s + Ty.szL L)) (fun i _ => L.length - (intOf i).toNat)
      case atStart => exact ⟨[], s, E1, .slice none 0 0, [], h1, by simp, rfl, ⟨D1, D3, Dc, World.ownsRow_nil .., .nil, Dm, Dk, ⟨fun x v e hq => by
        have := hoffX x v e
        rcases hq with hq | hq | hq | hq
        · exact ho1.at_ x v e (.inl hq)
        · omega
        · exact ho1.at_ x v e (.inr (by omega))
        · simp [Value.ownBlock] at hq⟩⟩, Lib.hid (Sub.refl h1), by show _ = _; simp, by show _ ∧ _; simp; omega⟩
      case round =>
        obtain ⟨us, sj, Ej, sv, xs, h', hj, rfl, hC, hs1, hI, hB⟩ := hrel
        have ls := blk_lt hC.b1
        have ls2 := blk_lt hC.b2
        have lsc := blk_lt hC.bcn
        obtain ⟨Aw, kw, rfl⟩ := own_form hC.own
        have zc := bx3g hC.bcn
        have skp := hC.kp.size
        by_cases hgo : us.length < L.length ∧ Ej = 0
        · obtain ⟨hlt, rfl⟩ := hgo
          obtain ⟨b', o', A', c', rfl, e0, e1, rt⟩ := hts.get us.length hlt
          have hLm := Lib.hid (hS.out L[us.length] (List.getElem_mem hlt))
          have rt' := Lib.hid (rt.sub hs1.out)
          have hI' := hI.out
          rw [List.drop_eq_getElem_cons hlt, hf1.out] at hI'
          replace hI' := Lib.hid hI'
          have hBn := Lib.hid (show 0 ≤ sj ∧ sj + L[us.length].sz + Ty.szL (L.drop (us.length + 1)) ≤ s + Ty.szL L by
            have := hB.out
            rw [List.drop_eq_getElem_cons hlt, Ty.szL] at this
            omega)
          have hsj : 0 ≤ sj ∧ sj ≤ 1000000000 := by have := hBn.out; omega
          have hltI : (us.length : Int) < L.length := by omega
          have fc := blk_frozen hC.bcn
          have hws : IntKind.i64.wrap (sj + 1) = sj + 1 := IntWalk.i64_in _ (by omega)
          obtain ⟨WA, hWA, bcA, kA⟩ : ∃ W, wr.setCell ⟨bw, 1, none⟩ (.int .i64 (sj + 1)) = W ∧ W.heap[bw]? = some (.cells #[lv, .int .i64 (sj + 1), .int .i64 0] 124) ∧ Kp (fun q => q = bw) wr W := ⟨_, rfl, by simpa using blk_set hC.bcn 1 (.int .i64 (sj + 1)), (Kp.refl (fun q => q = bw) wr).set (p := ⟨bw, 1, none⟩) (.inl rfl) _⟩
          have zA := bx3g bcA
          have lA := blk_lt bcA
          clear hI hB
          obtain ⟨EE, hEE⟩ : ∃ e : Int, (if 4000 < sj + 1 then 2 else 0) = e := ⟨_, rfl⟩
          by_cases c4 : 4000 < sj + 1
          · have hE2 : EE = 2 := by rw [← hEE, if_pos c4]
            go_wp2_with fail
            refine (fail_calls bw lv (sj + 1) 0 2 WA bcA).mono ?_
            rintro e wF ⟨rfl, kF, bcF⟩
            have kA2 := kA.trans kF (fun q hq e => e)
            have bcF2 : wF.heap[bw]? = some (.cells #[lv, .int .i64 (sj + 1), .int .i64 EE] 124) := by rw [hE2]; exact bcF
            clear hWA kA bcA zA lA kF bcF c4 hE2 zc fc
            obtain ⟨WA, hWF, kA, bcA⟩ : ∃ W, wF = W ∧ Kp (fun q => q = bw) wr W ∧ W.heap[bw]? = some (.cells #[lv, .int .i64 (sj + 1), .int .i64 EE] 124) := ⟨_, rfl, kA2, bcF2⟩
            rw [hWF]
            clear hWF kA2 bcF2
            go_wp2_with fail
            have hasA : Has WA h' := hC.made.has.kp kA ⟨fun x v e hx => hC.off.at_ x v e (.inl hx)⟩
            have gA1 := blk_kp hC.b1 kA (by omega)
            have gA2 := blk_kp hC.b2 kA (by omega)
            have xA3 := blk_cell gA1 3
            simp only [List.getElem?_toArray, List.getElem?_cons_succ, List.getElem?_cons_zero] at xA3
            have hwA := hasA.sub hs1.out
            have hc0 := hwA.cell _ _ e0
            have hc1 := hwA.cell _ _ e1
            have szA := kA.size
            have hne : b' ≠ bw := fun e => ho1.at_ _ _ e0 (.inl e)
            have hbX : w2.heap.size < WA.heap.size := by omega
            have lsA := blk_lt bcA
            have hw3 : IntKind.i64.wrap ((L.length : Int) - 1) = L.length - 1 := IntWalk.i64_in _ (by omega)
            have hw4 : IntKind.i64.wrap ((L.length : Int) - 1 - us.length) = L.length - 1 - us.length := IntWalk.i64_in _ (by omega)
            obtain ⟨X, hX⟩ : ∃ X, L[us.length] = X := ⟨_, rfl⟩
            rw [hX] at hc0 hc1 rt' hLm hI' hBn
            clear hX e0 e1 rt
            refine rgs 18 (fun V => V.cell? ⟨w2.heap.size, 3, none⟩ = some (.slice Aw us.length kw) ∧ V.cell? ⟨b', o' + us.length * 2, none⟩ = some (.string X.nm) ∧ V.cell? ⟨b', o' + us.length * 2 + 1, none⟩ = some (.slice A' X.ar.length c')) [15, 17] rfl ⟨xA3, hc0, hc1⟩ (fun hS => ?_)
            refine rgt 0 (.pointer (some ⟨w2.heap.size, 3, none⟩)) rfl (by kernel_rfl) (fun _ _ _ h => h) rfl hS (fun W hW => by go_simp) ?_
            refine rgt 1 (.slice Aw us.length kw) rfl (by kernel_rfl) (fun _ _ _ h => h) rfl hS (fun W hW => by obtain ⟨q1, q2, q3⟩ := hW; go_simp) ?_
            refine rgt 2 (.pointer (some ⟨bw, 0, none⟩)) rfl (by kernel_rfl) (fun _ _ _ h => h) rfl hS (fun W hW => by go_simp) ?_
            refine rgt 3 (.slice (some ⟨b', o', none⟩) L.length caps) rfl (by kernel_rfl) (fun _ _ _ h => h) rfl hS (fun W hW => by go_simp) ?_
            refine rgt 4 (.int .i64 L.length) rfl (by kernel_rfl) (fun _ _ _ h => h) rfl hS (fun W hW => by go_simp) ?_
            refine rgt 5 (.int .i64 ((L.length : Int) - 1)) rfl (by kernel_rfl) (fun _ _ _ h => h) rfl hS (fun W hW => by go_simp) ?_
            refine rgt 6 (.int .i64 us.length) rfl (by kernel_rfl) (fun _ _ _ h => h) rfl hS (fun W hW => by go_simp) ?_
            refine rgt 7 (.int .i64 ((L.length : Int) - 1 - us.length)) rfl (by kernel_rfl) (fun _ _ _ h => h) rfl hS (fun W hW => by go_simp) ?_
            refine rgt 8 (.agg #[.int .i64 2, .int .i64 ((L.length : Int) - 1 - us.length), .string ⟨#[]⟩, .slice none 0 0]) rfl (by kernel_rfl) (fun _ _ _ h => h) rfl hS (fun W hW => by go_simp) ?_
            refine rgt 9 (.slice (some ⟨b', o', none⟩) L.length caps) rfl (by kernel_rfl) (fun _ _ _ h => h) rfl hS (fun W hW => by go_simp) ?_
            refine rgt 10 (.int .i64 us.length) rfl (by kernel_rfl) (fun _ _ _ h => h) rfl hS (fun W hW => by go_simp) ?_
            refine rgt 11 (.pointer (some ⟨b', o' + us.length * 2, none⟩)) rfl (by kernel_rfl) (fun _ _ _ h => h) rfl hS (fun W hW => by go_simp) ?_
            refine rgt 12 (.agg #[.string X.nm, .slice A' X.ar.length c']) rfl (by kernel_rfl) (fun _ _ _ h => h) rfl hS (fun W hW => by obtain ⟨q1, q2, q3⟩ := hW; go_simp) ?_
            refine rg1 13 rfl (by kernel_rfl) (by decide) rfl (fun K hK => ?_)
            go_simp
            refine (IH.out bw lv (sj + 1) EE 2 ((L.length : Int) - 1 - us.length) ⟨#[]⟩ none 0 0 X _ WA.drew h' hasA.drew rt'.out ⟨fun x v e hq => hC.off.at_ x v e (.inl hq)⟩ (by omega) (by omega) hLm.out.1 hLm.out.2.1 hLm.out.2.2 (by have := hBn.out; omega) bcA).mono ?_
            rintro e w5 ⟨k5, hcn5, cs', h2, rfl, r2, m2⟩
            have hst := steps f (sj + 1) EE 2 ((L.length : Int) - 1 - us.length) ⟨#[]⟩ X hLm.out.1
            rw [hEE] at hI'
            obtain ⟨P, hP⟩ : ∃ P, rEta f (sj + 1) EE 2 ((L.length : Int) - 1 - us.length) ⟨#[]⟩ X = P := ⟨_, rfl⟩
            rw [hP] at hcn5 r2 hI' hst
            clear hP
            obtain ⟨u, s2, E2⟩ := P
            simp only [] at hcn5 r2 hI' hst
            obtain ⟨A1, c1, rfl, hl1, hl2, hk2, hn2, _⟩ := r2.open_
            simp only []
            have kq1 : Kp (fun q => q = bw) wr w5 := (kA.drew).trans k5 (fun i hi e => e)
            have sw1 := k5.size
            simp only [World.size_drew] at sw1
            refine hK.out _ _ ?_ (fun hS => ?_)
            · obtain ⟨q1, q2, q3⟩ := hS
              exact ⟨cell_kp q1 k5 (by simp; omega), cell_kp q2 k5 hne, cell_kp q3 k5 hne⟩
            refine rg1 14 rfl (by kernel_rfl) (by decide) rfl (fun K hK => ?_)
            go_simp
            refine hK.out _ _ ?_ (fun hS => ?_)
            · obtain ⟨q1, q2, q3⟩ := hS
              exact ⟨cell_alloc q1 _, cell_alloc q2 _, cell_alloc q3 _⟩
            refine rgl 15 rfl (by kernel_rfl) (by decide) rfl (fun K hK => ?_)
            have hown1 := own_kp hC.own kq1 (fun q e => own_ge hC.own (by omega))
            have kp1 : Kp (fun q => q = bw) wr (w5.alloc (.cells #[.int .i64 u.k, .int .i64 u.n, .string u.nm, .slice A1 u.ar.length c1] 34)) := kq1.alloc _
            refine app34 _ _ rfl rfl (own_kp hown1 ((Kp.refl (fun _ => False) w5).alloc _) (fun _ hf => hf.elim)) rfl (blk_new _ _) (by unfold lim; omega) (by simp; omega) ?_
            intro sv2 w6 hown2 hg2 hat
            obtain ⟨A2, c2', rfl⟩ := own_form hown2
            have kp2 : Kp (fun q => q = bw ∨ (Value.slice Aw us.length kw).ownBlock = some q) wr w6 := (kp1.mono (T := fun q => q = bw ∨ (Value.slice Aw us.length kw).ownBlock = some q) (fun _ hf => .inl hf)).grown hg2 (fun _ e => .inl (.inr e))
            have kg : Kp (fun q => (Value.slice Aw us.length kw).ownBlock = some q) w5 w6 := ((Kp.refl _ w5).alloc (.cells #[.int .i64 u.k, .int .i64 u.n, .string u.nm, .slice A1 u.ar.length c1] 34)).grown hg2 (fun q e => .inl e)
            have hnb : ∀ q, (q = w2.heap.size ∨ q = w.heap.size + 2) → ¬ (q = bw ∨ (Value.slice Aw us.length kw).ownBlock = some q) := fun q h1 hq => by
              rcases hq with hq | hq
              · omega
              · exact own_ge hC.own (by omega) hq
            have g1 := blk_kp hC.b1 kp2 (hnb _ (.inl rfl))
            have g2 := blk_kp hC.b2 kp2 (hnb _ (.inr rfl))
            have gz := blk_frozen g1 3
            have gl := blk_lt g1
            have gx := blk_cell g1 3
            refine hK.out _ _ ?_
            refine rgp 16 (.pointer (some ⟨w2.heap.size, 3, none⟩)) rfl (by kernel_rfl) (fun _ _ _ h => h) rfl (fun W => by go_simp) ?_
            refine rgl 17 rfl (by kernel_rfl) (by decide) rfl (fun K hK => ?_)
            go_simp
            refine hK.out _ _ ?_
            refine rgd (by kernel_rfl) ?_
            go_wp2_with fail
            have off1 : Off h2 (fun q => q = bw ∨ q = w2.heap.size ∨ q = w.heap.size + 2 ∨ (Value.slice Aw us.length kw).ownBlock = some q) := m2.off hC.off (fun q hq => by
              simp only [World.size_drew]
              rcases hq with hq | hq | hq | hq
              · omega
              · omega
              · omega
              · have := hC.own.lt _ hq; omega)
            have has2 : Has w6 h2 := m2.has.kp kg ⟨fun x v e hq => off1.at_ x v e (.inr (.inr (.inr hq)))⟩
            have has3 : Has (w6.setCell ⟨w2.heap.size, 3, none⟩ (.slice A2 (us.length + 1) c2')) h2 := has2.set (fun x v e hx => off1.at_ x v e (.inr (.inl hx))) _
            have sw2 := kg.size
            have hcn3 := blk_kp hcn5 kg (own_ge hC.own (by omega))
            refine ⟨⟨us ++ [u], s2, E2, .slice A2 (us.length + 1) c2', _, h2, by simp; omega, by simp, ⟨by simpa using blk_set g1 3 (.slice A2 (us.length + 1) c2'), blk_far g2 (by simp; omega) _, blk_far hcn3 (by simp; omega) _, by rw [List.length_append]; exact own_far hown2 (by simp) _,
              .snoc (hC.ch.imp (fun _ _ q => q.sub m2.sub)) r2 rfl, (hC.made.trans (m2.from_ (w0 := wr) (by simp; omega)) (by omega)).world has3, (hC.kp.trans kp2 (fun q hq e => ?_)).set (.inr (by simp; omega)) _, ⟨fun x v e hq => ?_⟩⟩, Lib.hid (hs1.out.trans m2.sub), ?_, ?_⟩, by simp [intOf]; omega⟩
            · rcases e with e | e
              · exact e
              · exact absurd e (own_ge hC.own (by omega))
            · rcases hq with hq | hq | hq | hq
              · exact off1.at_ x v e (.inl hq)
              · exact off1.at_ x v e (.inr (.inl hq))
              · exact off1.at_ x v e (.inr (.inr (.inl hq)))
              · rcases hat _ hq with hq | hq
                · exact off1.at_ x v e (.inr (.inr (.inr hq)))
                · have := m2.has.lt e
                  simp at hq
                  omega
            · show _ = _
              rw [List.length_append]
              exact hI'.out
            · show _ ∧ _
              rw [List.length_append]
              have := hBn.out
              exact ⟨by omega, by simp only [List.length_cons, List.length_nil, Nat.zero_add]; omega⟩
          · have hE2 : EE = 0 := by rw [← hEE, if_neg c4]
            go_wp2_with fail
            rw [← hE2] at bcA
            clear hWA zA lA c4 hE2 zc fc
            have hasA : Has WA h' := hC.made.has.kp kA ⟨fun x v e hx => hC.off.at_ x v e (.inl hx)⟩
            have gA1 := blk_kp hC.b1 kA (by omega)
            have gA2 := blk_kp hC.b2 kA (by omega)
            have xA3 := blk_cell gA1 3
            simp only [List.getElem?_toArray, List.getElem?_cons_succ, List.getElem?_cons_zero] at xA3
            have hwA := hasA.sub hs1.out
            have hc0 := hwA.cell _ _ e0
            have hc1 := hwA.cell _ _ e1
            have szA := kA.size
            have hne : b' ≠ bw := fun e => ho1.at_ _ _ e0 (.inl e)
            have hbX : w2.heap.size < WA.heap.size := by omega
            have lsA := blk_lt bcA
            have hw3 : IntKind.i64.wrap ((L.length : Int) - 1) = L.length - 1 := IntWalk.i64_in _ (by omega)
            have hw4 : IntKind.i64.wrap ((L.length : Int) - 1 - us.length) = L.length - 1 - us.length := IntWalk.i64_in _ (by omega)
            obtain ⟨X, hX⟩ : ∃ X, L[us.length] = X := ⟨_, rfl⟩
            rw [hX] at hc0 hc1 rt' hLm hI' hBn
            clear hX e0 e1 rt
            refine rgs 18 (fun V => V.cell? ⟨w2.heap.size, 3, none⟩ = some (.slice Aw us.length kw) ∧ V.cell? ⟨b', o' + us.length * 2, none⟩ = some (.string X.nm) ∧ V.cell? ⟨b', o' + us.length * 2 + 1, none⟩ = some (.slice A' X.ar.length c')) [15, 17] rfl ⟨xA3, hc0, hc1⟩ (fun hS => ?_)
            refine rgt 0 (.pointer (some ⟨w2.heap.size, 3, none⟩)) rfl (by kernel_rfl) (fun _ _ _ h => h) rfl hS (fun W hW => by go_simp) ?_
            refine rgt 1 (.slice Aw us.length kw) rfl (by kernel_rfl) (fun _ _ _ h => h) rfl hS (fun W hW => by obtain ⟨q1, q2, q3⟩ := hW; go_simp) ?_
            refine rgt 2 (.pointer (some ⟨bw, 0, none⟩)) rfl (by kernel_rfl) (fun _ _ _ h => h) rfl hS (fun W hW => by go_simp) ?_
            refine rgt 3 (.slice (some ⟨b', o', none⟩) L.length caps) rfl (by kernel_rfl) (fun _ _ _ h => h) rfl hS (fun W hW => by go_simp) ?_
            refine rgt 4 (.int .i64 L.length) rfl (by kernel_rfl) (fun _ _ _ h => h) rfl hS (fun W hW => by go_simp) ?_
            refine rgt 5 (.int .i64 ((L.length : Int) - 1)) rfl (by kernel_rfl) (fun _ _ _ h => h) rfl hS (fun W hW => by go_simp) ?_
            refine rgt 6 (.int .i64 us.length) rfl (by kernel_rfl) (fun _ _ _ h => h) rfl hS (fun W hW => by go_simp) ?_
            refine rgt 7 (.int .i64 ((L.length : Int) - 1 - us.length)) rfl (by kernel_rfl) (fun _ _ _ h => h) rfl hS (fun W hW => by go_simp) ?_
            refine rgt 8 (.agg #[.int .i64 2, .int .i64 ((L.length : Int) - 1 - us.length), .string ⟨#[]⟩, .slice none 0 0]) rfl (by kernel_rfl) (fun _ _ _ h => h) rfl hS (fun W hW => by go_simp) ?_
            refine rgt 9 (.slice (some ⟨b', o', none⟩) L.length caps) rfl (by kernel_rfl) (fun _ _ _ h => h) rfl hS (fun W hW => by go_simp) ?_
            refine rgt 10 (.int .i64 us.length) rfl (by kernel_rfl) (fun _ _ _ h => h) rfl hS (fun W hW => by go_simp) ?_
            refine rgt 11 (.pointer (some ⟨b', o' + us.length * 2, none⟩)) rfl (by kernel_rfl) (fun _ _ _ h => h) rfl hS (fun W hW => by go_simp) ?_
            refine rgt 12 (.agg #[.string X.nm, .slice A' X.ar.length c']) rfl (by kernel_rfl) (fun _ _ _ h => h) rfl hS (fun W hW => by obtain ⟨q1, q2, q3⟩ := hW; go_simp) ?_
            refine rg1 13 rfl (by kernel_rfl) (by decide) rfl (fun K hK => ?_)
            go_simp
            refine (IH.out bw lv (sj + 1) EE 2 ((L.length : Int) - 1 - us.length) ⟨#[]⟩ none 0 0 X _ WA.drew h' hasA.drew rt'.out ⟨fun x v e hq => hC.off.at_ x v e (.inl hq)⟩ (by omega) (by omega) hLm.out.1 hLm.out.2.1 hLm.out.2.2 (by have := hBn.out; omega) bcA).mono ?_
            rintro e w5 ⟨k5, hcn5, cs', h2, rfl, r2, m2⟩
            have hst := steps f (sj + 1) EE 2 ((L.length : Int) - 1 - us.length) ⟨#[]⟩ X hLm.out.1
            rw [hEE] at hI'
            obtain ⟨P, hP⟩ : ∃ P, rEta f (sj + 1) EE 2 ((L.length : Int) - 1 - us.length) ⟨#[]⟩ X = P := ⟨_, rfl⟩
            rw [hP] at hcn5 r2 hI' hst
            clear hP
            obtain ⟨u, s2, E2⟩ := P
            simp only [] at hcn5 r2 hI' hst
            obtain ⟨A1, c1, rfl, hl1, hl2, hk2, hn2, _⟩ := r2.open_
            simp only []
            have kq1 : Kp (fun q => q = bw) wr w5 := (kA.drew).trans k5 (fun i hi e => e)
            have sw1 := k5.size
            simp only [World.size_drew] at sw1
            refine hK.out _ _ ?_ (fun hS => ?_)
            · obtain ⟨q1, q2, q3⟩ := hS
              exact ⟨cell_kp q1 k5 (by simp; omega), cell_kp q2 k5 hne, cell_kp q3 k5 hne⟩
            refine rg1 14 rfl (by kernel_rfl) (by decide) rfl (fun K hK => ?_)
            go_simp
            refine hK.out _ _ ?_ (fun hS => ?_)
            · obtain ⟨q1, q2, q3⟩ := hS
              exact ⟨cell_alloc q1 _, cell_alloc q2 _, cell_alloc q3 _⟩
            refine rgl 15 rfl (by kernel_rfl) (by decide) rfl (fun K hK => ?_)
            have hown1 := own_kp hC.own kq1 (fun q e => own_ge hC.own (by omega))
            have kp1 : Kp (fun q => q = bw) wr (w5.alloc (.cells #[.int .i64 u.k, .int .i64 u.n, .string u.nm, .slice A1 u.ar.length c1] 34)) := kq1.alloc _
            refine app34 _ _ rfl rfl (own_kp hown1 ((Kp.refl (fun _ => False) w5).alloc _) (fun _ hf => hf.elim)) rfl (blk_new _ _) (by unfold lim; omega) (by simp; omega) ?_
            intro sv2 w6 hown2 hg2 hat
            obtain ⟨A2, c2', rfl⟩ := own_form hown2
            have kp2 : Kp (fun q => q = bw ∨ (Value.slice Aw us.length kw).ownBlock = some q) wr w6 := (kp1.mono (T := fun q => q = bw ∨ (Value.slice Aw us.length kw).ownBlock = some q) (fun _ hf => .inl hf)).grown hg2 (fun _ e => .inl (.inr e))
            have kg : Kp (fun q => (Value.slice Aw us.length kw).ownBlock = some q) w5 w6 := ((Kp.refl _ w5).alloc (.cells #[.int .i64 u.k, .int .i64 u.n, .string u.nm, .slice A1 u.ar.length c1] 34)).grown hg2 (fun q e => .inl e)
            have hnb : ∀ q, (q = w2.heap.size ∨ q = w.heap.size + 2) → ¬ (q = bw ∨ (Value.slice Aw us.length kw).ownBlock = some q) := fun q h1 hq => by
              rcases hq with hq | hq
              · omega
              · exact own_ge hC.own (by omega) hq
            have g1 := blk_kp hC.b1 kp2 (hnb _ (.inl rfl))
            have g2 := blk_kp hC.b2 kp2 (hnb _ (.inr rfl))
            have gz := blk_frozen g1 3
            have gl := blk_lt g1
            have gx := blk_cell g1 3
            refine hK.out _ _ ?_
            refine rgp 16 (.pointer (some ⟨w2.heap.size, 3, none⟩)) rfl (by kernel_rfl) (fun _ _ _ h => h) rfl (fun W => by go_simp) ?_
            refine rgl 17 rfl (by kernel_rfl) (by decide) rfl (fun K hK => ?_)
            go_simp
            refine hK.out _ _ ?_
            refine rgd (by kernel_rfl) ?_
            go_wp2_with fail
            have off1 : Off h2 (fun q => q = bw ∨ q = w2.heap.size ∨ q = w.heap.size + 2 ∨ (Value.slice Aw us.length kw).ownBlock = some q) := m2.off hC.off (fun q hq => by
              simp only [World.size_drew]
              rcases hq with hq | hq | hq | hq
              · omega
              · omega
              · omega
              · have := hC.own.lt _ hq; omega)
            have has2 : Has w6 h2 := m2.has.kp kg ⟨fun x v e hq => off1.at_ x v e (.inr (.inr (.inr hq)))⟩
            have has3 : Has (w6.setCell ⟨w2.heap.size, 3, none⟩ (.slice A2 (us.length + 1) c2')) h2 := has2.set (fun x v e hx => off1.at_ x v e (.inr (.inl hx))) _
            have sw2 := kg.size
            have hcn3 := blk_kp hcn5 kg (own_ge hC.own (by omega))
            refine ⟨⟨us ++ [u], s2, E2, .slice A2 (us.length + 1) c2', _, h2, by simp; omega, by simp, ⟨by simpa using blk_set g1 3 (.slice A2 (us.length + 1) c2'), blk_far g2 (by simp; omega) _, blk_far hcn3 (by simp; omega) _, by rw [List.length_append]; exact own_far hown2 (by simp) _,
              .snoc (hC.ch.imp (fun _ _ q => q.sub m2.sub)) r2 rfl, (hC.made.trans (m2.from_ (w0 := wr) (by simp; omega)) (by omega)).world has3, (hC.kp.trans kp2 (fun q hq e => ?_)).set (.inr (by simp; omega)) _, ⟨fun x v e hq => ?_⟩⟩, Lib.hid (hs1.out.trans m2.sub), ?_, ?_⟩, by simp [intOf]; omega⟩
            · rcases e with e | e
              · exact e
              · exact absurd e (own_ge hC.own (by omega))
            · rcases hq with hq | hq | hq | hq
              · exact off1.at_ x v e (.inl hq)
              · exact off1.at_ x v e (.inr (.inl hq))
              · exact off1.at_ x v e (.inr (.inr (.inl hq)))
              · rcases hat _ hq with hq | hq
                · exact off1.at_ x v e (.inr (.inr (.inr hq)))
                · have := m2.has.lt e
                  simp at hq
                  omega
            · show _ = _
              rw [List.length_append]
              exact hI'.out
            · show _ ∧ _
              rw [List.length_append]
              have := hBn.out
              exact ⟨by omega, by simp only [List.length_cons, List.length_nil, Nat.zero_add]; omega⟩
        · have hfin : Hid (f1 [] s E1 L = (us, sj, Ej)) := by
            have := hf0.out us sj Ej (L.drop us.length) (by
              by_cases h1 : us.length < L.length
              · exact .inr (fun e => hgo ⟨h1, e⟩)
              · exact .inl (List.drop_eq_nil_of_le (by omega)))
            have h2 := hI.out
            rw [this] at h2
            exact h2.symm
          have hR2 : Hid (R = (lamsT L.length (.mk kk N nm us), sj, Ej)) := by
            have := hf2.out
            rw [hfin.out] at this
            exact this
          obtain ⟨h2, A2, c2, e2, hn3, hc2', hr3, m3, hn4⟩ := own_Tm (w0 := w) hC.made.has (by omega) hC.own hC.ch
          cases e2
          have rT : TmR h2 (.mk kk N nm us) [.int .i64 kk, .int .i64 N, .string nm, .slice Aw us.length kw] := ⟨Aw, kw, rfl, hc2', by unfold lim; omega, hk, by omega, hr3⟩
          have off2 : Off h2 (fun q => q = bw ∨ q = w2.heap.size ∨ q = w.heap.size + 2) := ⟨fun x v e hx => by
            rcases hn4 x v e with q | q
            · exact hC.off.at_ x v q (by rcases hx with hx | hx | hx; exact .inl hx; exact .inr (.inl hx); exact .inr (.inr (.inl hx)))
            · exact own_ge hC.own (b := x.block) (by rcases hx with hx | hx | hx <;> omega) q⟩
          have mm2 := hC.made.then_ m3
          have hcond : (¬ (us.length : Int) < L.length ∧ True) ∨ ((us.length : Int) < L.length ∧ (Ej == 0) = false) := by
            by_cases h1 : us.length < L.length
            · exact .inr ⟨by omega, by simpa using fun e => hgo ⟨h1, e⟩⟩
            · exact .inl ⟨by omega, trivial⟩
          clear hn3 hc2' hr3 hn4 m3 hfin hI hgo hf0 hf1 hf2 hB
          rcases hcond with ⟨g1, g2⟩ | ⟨g1, g2⟩
          all_goals go_wp2_with fail
          all_goals
            go_loopw [10] (fun i wr => ∃ j h', j ≤ L.length ∧ i = .int .i64 (j : Nat) ∧ EuT w h bw w2.heap.size lv (.mk kk N nm us) sj Ej j wr h') (fun i _ => L.length - (intOf i).toNat)
            case atStart => exact ⟨0, h2, by omega, rfl, ⟨⟨_, hC.b1, rT⟩, hC.b2, hC.bcn, mm2, hC.kp, off2⟩⟩
            case round =>
              rename_i wr2 _
              obtain ⟨j, h3, hj2, rfl, hE⟩ := hrel
              obtain ⟨cu, hcu, ru⟩ := hE.b1
              have ls1 := blk_lt hE.b2
              have ls3 := blk_lt hE.bcn
              have ls4 := blk_lt hcu
              by_cases hlt2 : j < L.length
              · have hlam : lamsT (j + 1) (.mk kk N nm us) = .mk 5 0 ⟨#[]⟩ [lamsT j (.mk kk N nm us)] := rfl
                replace hlam := Lib.hid hlam
                generalize hV : lamsT j (.mk kk N nm us) = V at *
                clear hV
                obtain ⟨A3, c3, rfl, _⟩ := ru.open_
                have x1 := box4 hcu
                have f3 := blk_frozen hcu
                have l3 := blk_lt hcu
                go_wp2_with fail
                obtain ⟨W5, hW5, b5, kp5⟩ : ∃ W5, ((((wr.setCell ⟨w2.heap.size, 0, none⟩ (.int .i64 5)).setCell ⟨w2.heap.size, 1, none⟩ (.int .i64 0)).setCell ⟨w2.heap.size, 2, none⟩ (.string ⟨#[]⟩)).setCell ⟨w2.heap.size, 3, none⟩ (.slice (some ⟨wr.heap.size, 0, none⟩) 1 1)) = W5 ∧
                    W5.heap[w2.heap.size]? = some (.cells #[.int .i64 5, .int .i64 0, .string ⟨#[]⟩, .slice (some ⟨wr.heap.size, 0, none⟩) 1 1] 34) ∧ Kp (fun q => q = w2.heap.size) wr W5 := ⟨_, rfl, (set4 hcu _ _ _ _).1, (set4 hcu _ _ _ _).2⟩
                have s5 : W5.heap.size = wr.heap.size := by rw [← hW5]; simp [World.setCell]
                rw [hW5]
                clear hW5
                have has5 := hE.made.has.kp kp5 ⟨fun x v e hx => hE.off.at_ x v e (.inr (.inl hx))⟩
                obtain ⟨W6, hW6⟩ : ∃ W6, W5.alloc (.cells #[.int .i64 V.k, .int .i64 V.n, .string V.nm, .slice A3 V.ar.length c3] 34) = W6 := ⟨_, rfl⟩
                have kp6 : Kp (fun q => q = w2.heap.size) wr W6 := by rw [← hW6]; exact kp5.alloc _
                have g6 : W6.heap[wr.heap.size]? = some (.cells #[.int .i64 V.k, .int .i64 V.n, .string V.nm, .slice A3 V.ar.length c3] 34) := by rw [← hW6, ← s5]; exact blk_new _ _
                have b6 : W6.heap[w2.heap.size]? = some (.cells #[.int .i64 5, .int .i64 0, .string ⟨#[]⟩, .slice (some ⟨wr.heap.size, 0, none⟩) 1 1] 34) := by rw [← hW6]; exact blk_alloc b5 _
                have has6 : Has W6 h3 := by rw [← hW6]; exact has5.alloc _
                rw [hW6]
                clear hW6
                obtain ⟨h4, t4, m5, n5⟩ := one_Tm (w0 := w) has6 g6 ru (by omega)
                refine ⟨⟨j + 1, h4, by omega, by simp, ⟨⟨_, b6, by rw [hlam.out]; exact ⟨_, 1, rfl, by simp, by simp [lim], by omega, by omega, t4⟩⟩, blk_kp hE.b2 kp6 (by omega), blk_kp hE.bcn kp6 (by omega), hE.made.then_ m5, hE.kp.trans kp6 (fun q hq e => by omega), ⟨fun x v e hq => ?_⟩⟩⟩, by simp [intOf]; omega⟩
                rcases n5 x v e with g | g
                · exact hE.off.at_ x v g hq
                · omega
              · have hje2 := Lib.hid (show j = L.length by omega)
                have hV := Lib.hid (show lamsT j (.mk kk N nm us) = lamsT L.length (.mk kk N nm us) by rw [hje2.out])
                generalize hV2 : lamsT j (.mk kk N nm us) = V at *
                clear hV2
                obtain ⟨A3, c3, rfl, _⟩ := ru.open_
                have x1 := box4 hcu
                have x2 := box4 hE.b2
                have f3 := blk_frozen hE.b2
                have l3 := blk_lt hcu
                go_wp2_with fail
                obtain ⟨W5, hW5, b5, kp5⟩ : ∃ W5, ((((wr.setCell ⟨w.heap.size + 1 + 1, 0, none⟩ (.int .i64 V.k)).setCell ⟨w.heap.size + 1 + 1, 1, none⟩ (.int .i64 V.n)).setCell ⟨w.heap.size + 1 + 1, 2, none⟩ (.string V.nm)).setCell ⟨w.heap.size + 1 + 1, 3, none⟩ (.slice A3 V.ar.length c3)) = W5 ∧
                    W5.heap[w.heap.size + 1 + 1]? = some (.cells #[.int .i64 V.k, .int .i64 V.n, .string V.nm, .slice A3 V.ar.length c3] 34) ∧ Kp (fun q => q = w.heap.size + 1 + 1) wr W5 := ⟨_, rfl, (set4 hE.b2 _ _ _ _).1, (set4 hE.b2 _ _ _ _).2⟩
                rw [hW5]
                have x5 := box4 b5
                refine bodyPost_ret (v := .agg #[.int .i64 V.k, .int .i64 V.n, .string V.nm, .slice A3 V.ar.length c3]) (by simp [results, Tryz.results94, go_sem, x5]) rfl ?_
                rw [hR2.out, ← hV.out]
                exact ⟨hE.kp.trans kp5 (fun q hq e => by omega), blk_kp hE.bcn kp5 (by omega), _, h3, rfl, ru, hE.made.world (hE.made.has.kp kp5 ⟨fun x v e hx => hE.off.at_ x v e (.inr (.inr hx))⟩)⟩
  · have q8' : ¬ (8 : Int) < L.length := by omega
    rw [if_neg q8] at hE1
    have kf : Kp (fun q => q = bw) w1 w1 := Kp.refl _ _
    have bc2 := bc1
    rw [hE1] at bc2
    clear hE1
    clear q8 y3 lw1
    have d1 := blk_kp b1 kf (by omega)
    have d3 := blk_kp b3 kf (by omega)
    have z1 := box4 d1
    have ld1 := blk_lt d1
    have ld3 := blk_lt d3
    have ldc := blk_lt bc2
    have sz2 := kf.size
    have m2 : Mk w h w1 h1 := m1.world (m1.has.kp kf ⟨fun x v e hx => ho1.at_ x v e (.inl hx)⟩)
    have kw2 : Kp (fun q => q = bw) w w1 := (Kp.of_below (fun q => q = bw) kk1).trans kf (fun q hq e => e)
    obtain ⟨N, hN⟩ : ∃ N, (if kk = 2 then n + (L.length : Int) else n) = N := ⟨_, rfl⟩
    rw [hN] at hR
    have hwN : IntKind.i64.wrap (n + (L.length : Int)) = n + L.length := IntWalk.i64_in _ (by omega)
    have hq : ((kk == 2) = true ∧ n + (L.length : Int) = N) ∨ ((kk == 2) = false ∧ N = n) := by
      by_cases q : kk = 2
      · rw [if_pos q] at hN; exact .inl ⟨by simp [q], hN⟩
      · rw [if_neg q] at hN; exact .inr ⟨by simp [q], hN.symm⟩
    clear hN
    have hN5 : N ≤ 4611686018427387904 ∧ -9223372036854775808 ≤ N := by omega
    obtain ⟨f1, hf0, hf1, hf2⟩ : ∃ f1 : List Tm → Int → Int → List Ty → List Tm × Int × Int, Hid (∀ us sj Ej l, (l = [] ∨ Ej ≠ 0) → f1 us sj Ej l = (us, sj, Ej)) ∧ Hid (∀ us sj t ts, f1 us sj 0 (t :: ts) = f1 (us ++ [(rEta f (sj + 1) (if 4000 < sj + 1 then 2 else 0) 2 ((L.length : Int) - 1 - us.length) ⟨#[]⟩ t).1]) (rEta f (sj + 1) (if 4000 < sj + 1 then 2 else 0) 2 ((L.length : Int) - 1 - us.length) ⟨#[]⟩ t).2.1 (rEta f (sj + 1) (if 4000 < sj + 1 then 2 else 0) 2 ((L.length : Int) - 1 - us.length) ⟨#[]⟩ t).2.2 ts) ∧ Hid (R = (lamsT L.length (.mk kk N nm (f1 [] s E1 L).1), (f1 [] s E1 L).2)) :=
      ⟨fun us sj Ej ts => (us ++ (rEtaL (fun s E m a => rEta f s E 2 m ⟨#[]⟩ a) ((L.length : Int) - 1 - us.length) sj Ej ts).1, (rEtaL (fun s E m a => rEta f s E 2 m ⟨#[]⟩ a) ((L.length : Int) - 1 - us.length) sj Ej ts).2), by
        show ∀ _ _ _ _, _
        intro us sj Ej l hl
        rcases hl with rfl | hl
        · simp [rEtaL]
        · simp [rEtaL_stop hl], by
        show ∀ _ _ _ _, _
        intro us sj t ts
        simp only []
        rw [rEtaL, if_neg (by decide)]
        simp only [List.length_append, List.length_cons, List.length_nil, List.append_assoc, List.cons_append, List.nil_append]
        rw [show ((L.length : Int) - 1 - ((us.length + (0 + 1) : Nat) : Int)) = (L.length : Int) - 1 - us.length - 1 by omega], by
        show _ = _
        rw [← hR.out]
        simp only [List.length_nil, Int.ofNat_zero, Int.sub_zero, List.nil_append]⟩
    clear hR
    obtain ⟨WX, hWX⟩ : ∃ W, (w1.alloc (.cells #[.int .i64 kk, .int .i64 n, .string nm, .slice none 0 0] 34)).setCell ⟨w1.heap.size, 3, none⟩ (.slice none 0 0) = W := ⟨_, rfl⟩
    have bX : WX.heap[w1.heap.size]? = some (.cells #[.int .i64 kk, .int .i64 n, .string nm, .slice none 0 0] 34) := by rw [← hWX]; simpa using blk_set (blk_new w1 (.cells #[.int .i64 kk, .int .i64 n, .string nm, .slice none 0 0] 34)) 3 (.slice none 0 0)
    have e3 : WX.heap[w.heap.size + 2]? = some (.cells #[.int .i64 0, .int .i64 0, .string ⟨#[]⟩, .slice none 0 0] 34) := by rw [← hWX]; exact blk_far (blk_alloc d3 _) (by simp; omega) _
    have ec : WX.heap[bw]? = some (.cells #[lv, .int .i64 s, .int .i64 E1] 124) := by rw [← hWX]; exact blk_far (blk_alloc bc2 _) (by simp; omega) _
    have szX : WX.heap.size = w1.heap.size + 1 := by rw [← hWX]; simp [World.setCell]
    have mX : Mk w h WX h1 := by rw [← hWX]; exact m2.world ((m2.has.alloc _).set (fun x v e hx => by have := m2.has.lt e; simp at hx; omega) _)
    have kX : Kp (fun q => q = bw) w WX := by rw [← hWX]; exact (kw2.alloc _).trans ((Kp.refl (fun q => q = w1.heap.size) _).set (p := ⟨w1.heap.size, 3, none⟩) (.inl rfl) _) (fun q hq e => by omega)
    have g0 : WX.heap[w.heap.size]? = some (.cells #[.int .i64 kk, .int .i64 n, .string nm, .slice B0 l0 q0] 34) := by rw [← hWX]; exact blk_far (blk_alloc d1 _) (by simp; omega) _
    have zX := box4 g0
    have xX := box4 bX
    have fX := blk_frozen bX
    have lX := blk_lt bX
    have hoffX : ∀ x v, h1 x = some v → x.block < w1.heap.size := fun x v e => m2.has.lt e
    obtain ⟨W4, hW4, g4, kp4⟩ : ∃ W4, (WX.setCell ⟨w1.heap.size, 1, none⟩ (.int .i64 (n + (L.length : Int)))) = W4 ∧ W4.heap[w1.heap.size]? = some (.cells #[.int .i64 kk, .int .i64 (n + L.length), .string nm, .slice none 0 0] 34) ∧ Kp (fun q => q = w1.heap.size) WX W4 := ⟨_, rfl, by simpa using blk_set bX 1 (.int .i64 (n + (L.length : Int))), (Kp.refl (fun q => q = w1.heap.size) WX).set (p := ⟨w1.heap.size, 1, none⟩) (.inl rfl) _⟩
    have e3' := blk_kp e3 kp4 (by omega)
    have ec' := blk_kp ec kp4 (by omega)
    have mX' := mX.world (mX.has.kp kp4 ⟨fun x v e (hx : x.block = w1.heap.size) => by have := hoffX x v e; omega⟩)
    have kX' : Kp (fun q => q = bw) w W4 := kX.trans kp4 (fun q hq e => by omega)
    rcases hq with ⟨q5, hB1⟩ | ⟨q5, hB1⟩
    all_goals (first | (rw [hB1] at g4; replace hW4 := Lib.hid hW4; have D1 := g4; have D3 := e3'; have Dc := ec'; have Dm := mX'; have Dk := kX'; have Ds := kp4.size) | (subst hB1; have D1 := bX; have D3 := e3; have Dc := ec; have Dm := mX; have Dk := kX; have Ds := Nat.le_refl WX.heap.size))
    all_goals clear g4 e3' ec' mX' kX' kp4 e3 ec mX kX d1 d3 bc2 kf m2 kw2
    all_goals (try clear hB1)
    all_goals go_wp2_with fail
    all_goals (try rw [hW4.out])
    all_goals clear xX fX lX bX hWX g0 zX z1
    all_goals
      go_loopw [9] (fun i wr => ∃ us sj Ej sv xs h', us.length ≤ L.length ∧ i = .int .i64 us.length ∧ EuS w h bw w1.heap.size lv kk N nm us sj Ej sv xs wr h' ∧ Hid (Sub h1 h') ∧ Hid (f1 us sj Ej (L.drop us.length) = f1 [] s E1 L) ∧ Hid (0 ≤ sj ∧ sj + Ty.szL (L.drop us.length) ≤ s + Ty.szL L)) (fun i _ => L.length - (intOf i).toNat)
      case atStart => exact ⟨[], s, E1, .slice none 0 0, [], h1, by simp, rfl, ⟨D1, D3, Dc, World.ownsRow_nil .., .nil, Dm, Dk, ⟨fun x v e hq => by
        have := hoffX x v e
        rcases hq with hq | hq | hq | hq
        · exact ho1.at_ x v e (.inl hq)
        · omega
        · exact ho1.at_ x v e (.inr (by omega))
        · simp [Value.ownBlock] at hq⟩⟩, Lib.hid (Sub.refl h1), by show _ = _; simp, by show _ ∧ _; simp; omega⟩
      case round =>
        obtain ⟨us, sj, Ej, sv, xs, h', hj, rfl, hC, hs1, hI, hB⟩ := hrel
        have ls := blk_lt hC.b1
        have ls2 := blk_lt hC.b2
        have lsc := blk_lt hC.bcn
        obtain ⟨Aw, kw, rfl⟩ := own_form hC.own
        have zc := bx3g hC.bcn
        have skp := hC.kp.size
        by_cases hgo : us.length < L.length ∧ Ej = 0
        · obtain ⟨hlt, rfl⟩ := hgo
          obtain ⟨b', o', A', c', rfl, e0, e1, rt⟩ := hts.get us.length hlt
          have hLm := Lib.hid (hS.out L[us.length] (List.getElem_mem hlt))
          have rt' := Lib.hid (rt.sub hs1.out)
          have hI' := hI.out
          rw [List.drop_eq_getElem_cons hlt, hf1.out] at hI'
          replace hI' := Lib.hid hI'
          have hBn := Lib.hid (show 0 ≤ sj ∧ sj + L[us.length].sz + Ty.szL (L.drop (us.length + 1)) ≤ s + Ty.szL L by
            have := hB.out
            rw [List.drop_eq_getElem_cons hlt, Ty.szL] at this
            omega)
          have hsj : 0 ≤ sj ∧ sj ≤ 1000000000 := by have := hBn.out; omega
          have hltI : (us.length : Int) < L.length := by omega
          have fc := blk_frozen hC.bcn
          have hws : IntKind.i64.wrap (sj + 1) = sj + 1 := IntWalk.i64_in _ (by omega)
          obtain ⟨WA, hWA, bcA, kA⟩ : ∃ W, wr.setCell ⟨bw, 1, none⟩ (.int .i64 (sj + 1)) = W ∧ W.heap[bw]? = some (.cells #[lv, .int .i64 (sj + 1), .int .i64 0] 124) ∧ Kp (fun q => q = bw) wr W := ⟨_, rfl, by simpa using blk_set hC.bcn 1 (.int .i64 (sj + 1)), (Kp.refl (fun q => q = bw) wr).set (p := ⟨bw, 1, none⟩) (.inl rfl) _⟩
          have zA := bx3g bcA
          have lA := blk_lt bcA
          clear hI hB
          obtain ⟨EE, hEE⟩ : ∃ e : Int, (if 4000 < sj + 1 then 2 else 0) = e := ⟨_, rfl⟩
          by_cases c4 : 4000 < sj + 1
          · have hE2 : EE = 2 := by rw [← hEE, if_pos c4]
            go_wp2_with fail
            refine (fail_calls bw lv (sj + 1) 0 2 WA bcA).mono ?_
            rintro e wF ⟨rfl, kF, bcF⟩
            have kA2 := kA.trans kF (fun q hq e => e)
            have bcF2 : wF.heap[bw]? = some (.cells #[lv, .int .i64 (sj + 1), .int .i64 EE] 124) := by rw [hE2]; exact bcF
            clear hWA kA bcA zA lA kF bcF c4 hE2 zc fc
            obtain ⟨WA, hWF, kA, bcA⟩ : ∃ W, wF = W ∧ Kp (fun q => q = bw) wr W ∧ W.heap[bw]? = some (.cells #[lv, .int .i64 (sj + 1), .int .i64 EE] 124) := ⟨_, rfl, kA2, bcF2⟩
            rw [hWF]
            clear hWF kA2 bcF2
            go_wp2_with fail
            have hasA : Has WA h' := hC.made.has.kp kA ⟨fun x v e hx => hC.off.at_ x v e (.inl hx)⟩
            have gA1 := blk_kp hC.b1 kA (by omega)
            have gA2 := blk_kp hC.b2 kA (by omega)
            have xA3 := blk_cell gA1 3
            simp only [List.getElem?_toArray, List.getElem?_cons_succ, List.getElem?_cons_zero] at xA3
            have hwA := hasA.sub hs1.out
            have hc0 := hwA.cell _ _ e0
            have hc1 := hwA.cell _ _ e1
            have szA := kA.size
            have hne : b' ≠ bw := fun e => ho1.at_ _ _ e0 (.inl e)
            have hbX : w1.heap.size < WA.heap.size := by omega
            have lsA := blk_lt bcA
            have hw3 : IntKind.i64.wrap ((L.length : Int) - 1) = L.length - 1 := IntWalk.i64_in _ (by omega)
            have hw4 : IntKind.i64.wrap ((L.length : Int) - 1 - us.length) = L.length - 1 - us.length := IntWalk.i64_in _ (by omega)
            obtain ⟨X, hX⟩ : ∃ X, L[us.length] = X := ⟨_, rfl⟩
            rw [hX] at hc0 hc1 rt' hLm hI' hBn
            clear hX e0 e1 rt
            refine rgs 18 (fun V => V.cell? ⟨w1.heap.size, 3, none⟩ = some (.slice Aw us.length kw) ∧ V.cell? ⟨b', o' + us.length * 2, none⟩ = some (.string X.nm) ∧ V.cell? ⟨b', o' + us.length * 2 + 1, none⟩ = some (.slice A' X.ar.length c')) [15, 17] rfl ⟨xA3, hc0, hc1⟩ (fun hS => ?_)
            refine rgt 0 (.pointer (some ⟨w1.heap.size, 3, none⟩)) rfl (by kernel_rfl) (fun _ _ _ h => h) rfl hS (fun W hW => by go_simp) ?_
            refine rgt 1 (.slice Aw us.length kw) rfl (by kernel_rfl) (fun _ _ _ h => h) rfl hS (fun W hW => by obtain ⟨q1, q2, q3⟩ := hW; go_simp) ?_
            refine rgt 2 (.pointer (some ⟨bw, 0, none⟩)) rfl (by kernel_rfl) (fun _ _ _ h => h) rfl hS (fun W hW => by go_simp) ?_
            refine rgt 3 (.slice (some ⟨b', o', none⟩) L.length caps) rfl (by kernel_rfl) (fun _ _ _ h => h) rfl hS (fun W hW => by go_simp) ?_
            refine rgt 4 (.int .i64 L.length) rfl (by kernel_rfl) (fun _ _ _ h => h) rfl hS (fun W hW => by go_simp) ?_
            refine rgt 5 (.int .i64 ((L.length : Int) - 1)) rfl (by kernel_rfl) (fun _ _ _ h => h) rfl hS (fun W hW => by go_simp) ?_
            refine rgt 6 (.int .i64 us.length) rfl (by kernel_rfl) (fun _ _ _ h => h) rfl hS (fun W hW => by go_simp) ?_
            refine rgt 7 (.int .i64 ((L.length : Int) - 1 - us.length)) rfl (by kernel_rfl) (fun _ _ _ h => h) rfl hS (fun W hW => by go_simp) ?_
            refine rgt 8 (.agg #[.int .i64 2, .int .i64 ((L.length : Int) - 1 - us.length), .string ⟨#[]⟩, .slice none 0 0]) rfl (by kernel_rfl) (fun _ _ _ h => h) rfl hS (fun W hW => by go_simp) ?_
            refine rgt 9 (.slice (some ⟨b', o', none⟩) L.length caps) rfl (by kernel_rfl) (fun _ _ _ h => h) rfl hS (fun W hW => by go_simp) ?_
            refine rgt 10 (.int .i64 us.length) rfl (by kernel_rfl) (fun _ _ _ h => h) rfl hS (fun W hW => by go_simp) ?_
            refine rgt 11 (.pointer (some ⟨b', o' + us.length * 2, none⟩)) rfl (by kernel_rfl) (fun _ _ _ h => h) rfl hS (fun W hW => by go_simp) ?_
            refine rgt 12 (.agg #[.string X.nm, .slice A' X.ar.length c']) rfl (by kernel_rfl) (fun _ _ _ h => h) rfl hS (fun W hW => by obtain ⟨q1, q2, q3⟩ := hW; go_simp) ?_
            refine rg1 13 rfl (by kernel_rfl) (by decide) rfl (fun K hK => ?_)
            go_simp
            refine (IH.out bw lv (sj + 1) EE 2 ((L.length : Int) - 1 - us.length) ⟨#[]⟩ none 0 0 X _ WA.drew h' hasA.drew rt'.out ⟨fun x v e hq => hC.off.at_ x v e (.inl hq)⟩ (by omega) (by omega) hLm.out.1 hLm.out.2.1 hLm.out.2.2 (by have := hBn.out; omega) bcA).mono ?_
            rintro e w5 ⟨k5, hcn5, cs', h2, rfl, r2, m2⟩
            have hst := steps f (sj + 1) EE 2 ((L.length : Int) - 1 - us.length) ⟨#[]⟩ X hLm.out.1
            rw [hEE] at hI'
            obtain ⟨P, hP⟩ : ∃ P, rEta f (sj + 1) EE 2 ((L.length : Int) - 1 - us.length) ⟨#[]⟩ X = P := ⟨_, rfl⟩
            rw [hP] at hcn5 r2 hI' hst
            clear hP
            obtain ⟨u, s2, E2⟩ := P
            simp only [] at hcn5 r2 hI' hst
            obtain ⟨A1, c1, rfl, hl1, hl2, hk2, hn2, _⟩ := r2.open_
            simp only []
            have kq1 : Kp (fun q => q = bw) wr w5 := (kA.drew).trans k5 (fun i hi e => e)
            have sw1 := k5.size
            simp only [World.size_drew] at sw1
            refine hK.out _ _ ?_ (fun hS => ?_)
            · obtain ⟨q1, q2, q3⟩ := hS
              exact ⟨cell_kp q1 k5 (by simp; omega), cell_kp q2 k5 hne, cell_kp q3 k5 hne⟩
            refine rg1 14 rfl (by kernel_rfl) (by decide) rfl (fun K hK => ?_)
            go_simp
            refine hK.out _ _ ?_ (fun hS => ?_)
            · obtain ⟨q1, q2, q3⟩ := hS
              exact ⟨cell_alloc q1 _, cell_alloc q2 _, cell_alloc q3 _⟩
            refine rgl 15 rfl (by kernel_rfl) (by decide) rfl (fun K hK => ?_)
            have hown1 := own_kp hC.own kq1 (fun q e => own_ge hC.own (by omega))
            have kp1 : Kp (fun q => q = bw) wr (w5.alloc (.cells #[.int .i64 u.k, .int .i64 u.n, .string u.nm, .slice A1 u.ar.length c1] 34)) := kq1.alloc _
            refine app34 _ _ rfl rfl (own_kp hown1 ((Kp.refl (fun _ => False) w5).alloc _) (fun _ hf => hf.elim)) rfl (blk_new _ _) (by unfold lim; omega) (by simp; omega) ?_
            intro sv2 w6 hown2 hg2 hat
            obtain ⟨A2, c2', rfl⟩ := own_form hown2
            have kp2 : Kp (fun q => q = bw ∨ (Value.slice Aw us.length kw).ownBlock = some q) wr w6 := (kp1.mono (T := fun q => q = bw ∨ (Value.slice Aw us.length kw).ownBlock = some q) (fun _ hf => .inl hf)).grown hg2 (fun _ e => .inl (.inr e))
            have kg : Kp (fun q => (Value.slice Aw us.length kw).ownBlock = some q) w5 w6 := ((Kp.refl _ w5).alloc (.cells #[.int .i64 u.k, .int .i64 u.n, .string u.nm, .slice A1 u.ar.length c1] 34)).grown hg2 (fun q e => .inl e)
            have hnb : ∀ q, (q = w1.heap.size ∨ q = w.heap.size + 2) → ¬ (q = bw ∨ (Value.slice Aw us.length kw).ownBlock = some q) := fun q h1 hq => by
              rcases hq with hq | hq
              · omega
              · exact own_ge hC.own (by omega) hq
            have g1 := blk_kp hC.b1 kp2 (hnb _ (.inl rfl))
            have g2 := blk_kp hC.b2 kp2 (hnb _ (.inr rfl))
            have gz := blk_frozen g1 3
            have gl := blk_lt g1
            have gx := blk_cell g1 3
            refine hK.out _ _ ?_
            refine rgp 16 (.pointer (some ⟨w1.heap.size, 3, none⟩)) rfl (by kernel_rfl) (fun _ _ _ h => h) rfl (fun W => by go_simp) ?_
            refine rgl 17 rfl (by kernel_rfl) (by decide) rfl (fun K hK => ?_)
            go_simp
            refine hK.out _ _ ?_
            refine rgd (by kernel_rfl) ?_
            go_wp2_with fail
            have off1 : Off h2 (fun q => q = bw ∨ q = w1.heap.size ∨ q = w.heap.size + 2 ∨ (Value.slice Aw us.length kw).ownBlock = some q) := m2.off hC.off (fun q hq => by
              simp only [World.size_drew]
              rcases hq with hq | hq | hq | hq
              · omega
              · omega
              · omega
              · have := hC.own.lt _ hq; omega)
            have has2 : Has w6 h2 := m2.has.kp kg ⟨fun x v e hq => off1.at_ x v e (.inr (.inr (.inr hq)))⟩
            have has3 : Has (w6.setCell ⟨w1.heap.size, 3, none⟩ (.slice A2 (us.length + 1) c2')) h2 := has2.set (fun x v e hx => off1.at_ x v e (.inr (.inl hx))) _
            have sw2 := kg.size
            have hcn3 := blk_kp hcn5 kg (own_ge hC.own (by omega))
            refine ⟨⟨us ++ [u], s2, E2, .slice A2 (us.length + 1) c2', _, h2, by simp; omega, by simp, ⟨by simpa using blk_set g1 3 (.slice A2 (us.length + 1) c2'), blk_far g2 (by simp; omega) _, blk_far hcn3 (by simp; omega) _, by rw [List.length_append]; exact own_far hown2 (by simp) _,
              .snoc (hC.ch.imp (fun _ _ q => q.sub m2.sub)) r2 rfl, (hC.made.trans (m2.from_ (w0 := wr) (by simp; omega)) (by omega)).world has3, (hC.kp.trans kp2 (fun q hq e => ?_)).set (.inr (by simp; omega)) _, ⟨fun x v e hq => ?_⟩⟩, Lib.hid (hs1.out.trans m2.sub), ?_, ?_⟩, by simp [intOf]; omega⟩
            · rcases e with e | e
              · exact e
              · exact absurd e (own_ge hC.own (by omega))
            · rcases hq with hq | hq | hq | hq
              · exact off1.at_ x v e (.inl hq)
              · exact off1.at_ x v e (.inr (.inl hq))
              · exact off1.at_ x v e (.inr (.inr (.inl hq)))
              · rcases hat _ hq with hq | hq
                · exact off1.at_ x v e (.inr (.inr (.inr hq)))
                · have := m2.has.lt e
                  simp at hq
                  omega
            · show _ = _
              rw [List.length_append]
              exact hI'.out
            · show _ ∧ _
              rw [List.length_append]
              have := hBn.out
              exact ⟨by omega, by simp only [List.length_cons, List.length_nil, Nat.zero_add]; omega⟩
          · have hE2 : EE = 0 := by rw [← hEE, if_neg c4]
            go_wp2_with fail
            rw [← hE2] at bcA
            clear hWA zA lA c4 hE2 zc fc
            have hasA : Has WA h' := hC.made.has.kp kA ⟨fun x v e hx => hC.off.at_ x v e (.inl hx)⟩
            have gA1 := blk_kp hC.b1 kA (by omega)
            have gA2 := blk_kp hC.b2 kA (by omega)
            have xA3 := blk_cell gA1 3
            simp only [List.getElem?_toArray, List.getElem?_cons_succ, List.getElem?_cons_zero] at xA3
            have hwA := hasA.sub hs1.out
            have hc0 := hwA.cell _ _ e0
            have hc1 := hwA.cell _ _ e1
            have szA := kA.size
            have hne : b' ≠ bw := fun e => ho1.at_ _ _ e0 (.inl e)
            have hbX : w1.heap.size < WA.heap.size := by omega
            have lsA := blk_lt bcA
            have hw3 : IntKind.i64.wrap ((L.length : Int) - 1) = L.length - 1 := IntWalk.i64_in _ (by omega)
            have hw4 : IntKind.i64.wrap ((L.length : Int) - 1 - us.length) = L.length - 1 - us.length := IntWalk.i64_in _ (by omega)
            obtain ⟨X, hX⟩ : ∃ X, L[us.length] = X := ⟨_, rfl⟩
            rw [hX] at hc0 hc1 rt' hLm hI' hBn
            clear hX e0 e1 rt
            refine rgs 18 (fun V => V.cell? ⟨w1.heap.size, 3, none⟩ = some (.slice Aw us.length kw) ∧ V.cell? ⟨b', o' + us.length * 2, none⟩ = some (.string X.nm) ∧ V.cell? ⟨b', o' + us.length * 2 + 1, none⟩ = some (.slice A' X.ar.length c')) [15, 17] rfl ⟨xA3, hc0, hc1⟩ (fun hS => ?_)
            refine rgt 0 (.pointer (some ⟨w1.heap.size, 3, none⟩)) rfl (by kernel_rfl) (fun _ _ _ h => h) rfl hS (fun W hW => by go_simp) ?_
            refine rgt 1 (.slice Aw us.length kw) rfl (by kernel_rfl) (fun _ _ _ h => h) rfl hS (fun W hW => by obtain ⟨q1, q2, q3⟩ := hW; go_simp) ?_
            refine rgt 2 (.pointer (some ⟨bw, 0, none⟩)) rfl (by kernel_rfl) (fun _ _ _ h => h) rfl hS (fun W hW => by go_simp) ?_
            refine rgt 3 (.slice (some ⟨b', o', none⟩) L.length caps) rfl (by kernel_rfl) (fun _ _ _ h => h) rfl hS (fun W hW => by go_simp) ?_
            refine rgt 4 (.int .i64 L.length) rfl (by kernel_rfl) (fun _ _ _ h => h) rfl hS (fun W hW => by go_simp) ?_
            refine rgt 5 (.int .i64 ((L.length : Int) - 1)) rfl (by kernel_rfl) (fun _ _ _ h => h) rfl hS (fun W hW => by go_simp) ?_
            refine rgt 6 (.int .i64 us.length) rfl (by kernel_rfl) (fun _ _ _ h => h) rfl hS (fun W hW => by go_simp) ?_
            refine rgt 7 (.int .i64 ((L.length : Int) - 1 - us.length)) rfl (by kernel_rfl) (fun _ _ _ h => h) rfl hS (fun W hW => by go_simp) ?_
            refine rgt 8 (.agg #[.int .i64 2, .int .i64 ((L.length : Int) - 1 - us.length), .string ⟨#[]⟩, .slice none 0 0]) rfl (by kernel_rfl) (fun _ _ _ h => h) rfl hS (fun W hW => by go_simp) ?_
            refine rgt 9 (.slice (some ⟨b', o', none⟩) L.length caps) rfl (by kernel_rfl) (fun _ _ _ h => h) rfl hS (fun W hW => by go_simp) ?_
            refine rgt 10 (.int .i64 us.length) rfl (by kernel_rfl) (fun _ _ _ h => h) rfl hS (fun W hW => by go_simp) ?_
            refine rgt 11 (.pointer (some ⟨b', o' + us.length * 2, none⟩)) rfl (by kernel_rfl) (fun _ _ _ h => h) rfl hS (fun W hW => by go_simp) ?_
            refine rgt 12 (.agg #[.string X.nm, .slice A' X.ar.length c']) rfl (by kernel_rfl) (fun _ _ _ h => h) rfl hS (fun W hW => by obtain ⟨q1, q2, q3⟩ := hW; go_simp) ?_
            refine rg1 13 rfl (by kernel_rfl) (by decide) rfl (fun K hK => ?_)
            go_simp
            refine (IH.out bw lv (sj + 1) EE 2 ((L.length : Int) - 1 - us.length) ⟨#[]⟩ none 0 0 X _ WA.drew h' hasA.drew rt'.out ⟨fun x v e hq => hC.off.at_ x v e (.inl hq)⟩ (by omega) (by omega) hLm.out.1 hLm.out.2.1 hLm.out.2.2 (by have := hBn.out; omega) bcA).mono ?_
            rintro e w5 ⟨k5, hcn5, cs', h2, rfl, r2, m2⟩
            have hst := steps f (sj + 1) EE 2 ((L.length : Int) - 1 - us.length) ⟨#[]⟩ X hLm.out.1
            rw [hEE] at hI'
            obtain ⟨P, hP⟩ : ∃ P, rEta f (sj + 1) EE 2 ((L.length : Int) - 1 - us.length) ⟨#[]⟩ X = P := ⟨_, rfl⟩
            rw [hP] at hcn5 r2 hI' hst
            clear hP
            obtain ⟨u, s2, E2⟩ := P
            simp only [] at hcn5 r2 hI' hst
            obtain ⟨A1, c1, rfl, hl1, hl2, hk2, hn2, _⟩ := r2.open_
            simp only []
            have kq1 : Kp (fun q => q = bw) wr w5 := (kA.drew).trans k5 (fun i hi e => e)
            have sw1 := k5.size
            simp only [World.size_drew] at sw1
            refine hK.out _ _ ?_ (fun hS => ?_)
            · obtain ⟨q1, q2, q3⟩ := hS
              exact ⟨cell_kp q1 k5 (by simp; omega), cell_kp q2 k5 hne, cell_kp q3 k5 hne⟩
            refine rg1 14 rfl (by kernel_rfl) (by decide) rfl (fun K hK => ?_)
            go_simp
            refine hK.out _ _ ?_ (fun hS => ?_)
            · obtain ⟨q1, q2, q3⟩ := hS
              exact ⟨cell_alloc q1 _, cell_alloc q2 _, cell_alloc q3 _⟩
            refine rgl 15 rfl (by kernel_rfl) (by decide) rfl (fun K hK => ?_)
            have hown1 := own_kp hC.own kq1 (fun q e => own_ge hC.own (by omega))
            have kp1 : Kp (fun q => q = bw) wr (w5.alloc (.cells #[.int .i64 u.k, .int .i64 u.n, .string u.nm, .slice A1 u.ar.length c1] 34)) := kq1.alloc _
            refine app34 _ _ rfl rfl (own_kp hown1 ((Kp.refl (fun _ => False) w5).alloc _) (fun _ hf => hf.elim)) rfl (blk_new _ _) (by unfold lim; omega) (by simp; omega) ?_
            intro sv2 w6 hown2 hg2 hat
            obtain ⟨A2, c2', rfl⟩ := own_form hown2
            have kp2 : Kp (fun q => q = bw ∨ (Value.slice Aw us.length kw).ownBlock = some q) wr w6 := (kp1.mono (T := fun q => q = bw ∨ (Value.slice Aw us.length kw).ownBlock = some q) (fun _ hf => .inl hf)).grown hg2 (fun _ e => .inl (.inr e))
            have kg : Kp (fun q => (Value.slice Aw us.length kw).ownBlock = some q) w5 w6 := ((Kp.refl _ w5).alloc (.cells #[.int .i64 u.k, .int .i64 u.n, .string u.nm, .slice A1 u.ar.length c1] 34)).grown hg2 (fun q e => .inl e)
            have hnb : ∀ q, (q = w1.heap.size ∨ q = w.heap.size + 2) → ¬ (q = bw ∨ (Value.slice Aw us.length kw).ownBlock = some q) := fun q h1 hq => by
              rcases hq with hq | hq
              · omega
              · exact own_ge hC.own (by omega) hq
            have g1 := blk_kp hC.b1 kp2 (hnb _ (.inl rfl))
            have g2 := blk_kp hC.b2 kp2 (hnb _ (.inr rfl))
            have gz := blk_frozen g1 3
            have gl := blk_lt g1
            have gx := blk_cell g1 3
            refine hK.out _ _ ?_
            refine rgp 16 (.pointer (some ⟨w1.heap.size, 3, none⟩)) rfl (by kernel_rfl) (fun _ _ _ h => h) rfl (fun W => by go_simp) ?_
            refine rgl 17 rfl (by kernel_rfl) (by decide) rfl (fun K hK => ?_)
            go_simp
            refine hK.out _ _ ?_
            refine rgd (by kernel_rfl) ?_
            go_wp2_with fail
            have off1 : Off h2 (fun q => q = bw ∨ q = w1.heap.size ∨ q = w.heap.size + 2 ∨ (Value.slice Aw us.length kw).ownBlock = some q) := m2.off hC.off (fun q hq => by
              simp only [World.size_drew]
              rcases hq with hq | hq | hq | hq
              · omega
              · omega
              · omega
              · have := hC.own.lt _ hq; omega)
            have has2 : Has w6 h2 := m2.has.kp kg ⟨fun x v e hq => off1.at_ x v e (.inr (.inr (.inr hq)))⟩
            have has3 : Has (w6.setCell ⟨w1.heap.size, 3, none⟩ (.slice A2 (us.length + 1) c2')) h2 := has2.set (fun x v e hx => off1.at_ x v e (.inr (.inl hx))) _
            have sw2 := kg.size
            have hcn3 := blk_kp hcn5 kg (own_ge hC.own (by omega))
            refine ⟨⟨us ++ [u], s2, E2, .slice A2 (us.length + 1) c2', _, h2, by simp; omega, by simp, ⟨by simpa using blk_set g1 3 (.slice A2 (us.length + 1) c2'), blk_far g2 (by simp; omega) _, blk_far hcn3 (by simp; omega) _, by rw [List.length_append]; exact own_far hown2 (by simp) _,
              .snoc (hC.ch.imp (fun _ _ q => q.sub m2.sub)) r2 rfl, (hC.made.trans (m2.from_ (w0 := wr) (by simp; omega)) (by omega)).world has3, (hC.kp.trans kp2 (fun q hq e => ?_)).set (.inr (by simp; omega)) _, ⟨fun x v e hq => ?_⟩⟩, Lib.hid (hs1.out.trans m2.sub), ?_, ?_⟩, by simp [intOf]; omega⟩
            · rcases e with e | e
              · exact e
              · exact absurd e (own_ge hC.own (by omega))
            · rcases hq with hq | hq | hq | hq
              · exact off1.at_ x v e (.inl hq)
              · exact off1.at_ x v e (.inr (.inl hq))
              · exact off1.at_ x v e (.inr (.inr (.inl hq)))
              · rcases hat _ hq with hq | hq
                · exact off1.at_ x v e (.inr (.inr (.inr hq)))
                · have := m2.has.lt e
                  simp at hq
                  omega
            · show _ = _
              rw [List.length_append]
              exact hI'.out
            · show _ ∧ _
              rw [List.length_append]
              have := hBn.out
              exact ⟨by omega, by simp only [List.length_cons, List.length_nil, Nat.zero_add]; omega⟩
        · have hfin : Hid (f1 [] s E1 L = (us, sj, Ej)) := by
            have := hf0.out us sj Ej (L.drop us.length) (by
              by_cases h1 : us.length < L.length
              · exact .inr (fun e => hgo ⟨h1, e⟩)
              · exact .inl (List.drop_eq_nil_of_le (by omega)))
            have h2 := hI.out
            rw [this] at h2
            exact h2.symm
          have hR2 : Hid (R = (lamsT L.length (.mk kk N nm us), sj, Ej)) := by
            have := hf2.out
            rw [hfin.out] at this
            exact this
          obtain ⟨h2, A2, c2, e2, hn3, hc2', hr3, m3, hn4⟩ := own_Tm (w0 := w) hC.made.has (by omega) hC.own hC.ch
          cases e2
          have rT : TmR h2 (.mk kk N nm us) [.int .i64 kk, .int .i64 N, .string nm, .slice Aw us.length kw] := ⟨Aw, kw, rfl, hc2', by unfold lim; omega, hk, by omega, hr3⟩
          have off2 : Off h2 (fun q => q = bw ∨ q = w1.heap.size ∨ q = w.heap.size + 2) := ⟨fun x v e hx => by
            rcases hn4 x v e with q | q
            · exact hC.off.at_ x v q (by rcases hx with hx | hx | hx; exact .inl hx; exact .inr (.inl hx); exact .inr (.inr (.inl hx)))
            · exact own_ge hC.own (b := x.block) (by rcases hx with hx | hx | hx <;> omega) q⟩
          have mm2 := hC.made.then_ m3
          have hcond : (¬ (us.length : Int) < L.length ∧ True) ∨ ((us.length : Int) < L.length ∧ (Ej == 0) = false) := by
            by_cases h1 : us.length < L.length
            · exact .inr ⟨by omega, by simpa using fun e => hgo ⟨h1, e⟩⟩
            · exact .inl ⟨by omega, trivial⟩
          clear hn3 hc2' hr3 hn4 m3 hfin hI hgo hf0 hf1 hf2 hB
          rcases hcond with ⟨g1, g2⟩ | ⟨g1, g2⟩
          all_goals go_wp2_with fail
          all_goals
            go_loopw [10] (fun i wr => ∃ j h', j ≤ L.length ∧ i = .int .i64 (j : Nat) ∧ EuT w h bw w1.heap.size lv (.mk kk N nm us) sj Ej j wr h') (fun i _ => L.length - (intOf i).toNat)
            case atStart => exact ⟨0, h2, by omega, rfl, ⟨⟨_, hC.b1, rT⟩, hC.b2, hC.bcn, mm2, hC.kp, off2⟩⟩
            case round =>
              rename_i wr2 _
              obtain ⟨j, h3, hj2, rfl, hE⟩ := hrel
              obtain ⟨cu, hcu, ru⟩ := hE.b1
              have ls1 := blk_lt hE.b2
              have ls3 := blk_lt hE.bcn
              have ls4 := blk_lt hcu
              by_cases hlt2 : j < L.length
              · have hlam : lamsT (j + 1) (.mk kk N nm us) = .mk 5 0 ⟨#[]⟩ [lamsT j (.mk kk N nm us)] := rfl
                replace hlam := Lib.hid hlam
                generalize hV : lamsT j (.mk kk N nm us) = V at *
                clear hV
                obtain ⟨A3, c3, rfl, _⟩ := ru.open_
                have x1 := box4 hcu
                have f3 := blk_frozen hcu
                have l3 := blk_lt hcu
                go_wp2_with fail
                obtain ⟨W5, hW5, b5, kp5⟩ : ∃ W5, ((((wr.setCell ⟨w1.heap.size, 0, none⟩ (.int .i64 5)).setCell ⟨w1.heap.size, 1, none⟩ (.int .i64 0)).setCell ⟨w1.heap.size, 2, none⟩ (.string ⟨#[]⟩)).setCell ⟨w1.heap.size, 3, none⟩ (.slice (some ⟨wr.heap.size, 0, none⟩) 1 1)) = W5 ∧
                    W5.heap[w1.heap.size]? = some (.cells #[.int .i64 5, .int .i64 0, .string ⟨#[]⟩, .slice (some ⟨wr.heap.size, 0, none⟩) 1 1] 34) ∧ Kp (fun q => q = w1.heap.size) wr W5 := ⟨_, rfl, (set4 hcu _ _ _ _).1, (set4 hcu _ _ _ _).2⟩
                have s5 : W5.heap.size = wr.heap.size := by rw [← hW5]; simp [World.setCell]
                rw [hW5]
                clear hW5
                have has5 := hE.made.has.kp kp5 ⟨fun x v e hx => hE.off.at_ x v e (.inr (.inl hx))⟩
                obtain ⟨W6, hW6⟩ : ∃ W6, W5.alloc (.cells #[.int .i64 V.k, .int .i64 V.n, .string V.nm, .slice A3 V.ar.length c3] 34) = W6 := ⟨_, rfl⟩
                have kp6 : Kp (fun q => q = w1.heap.size) wr W6 := by rw [← hW6]; exact kp5.alloc _
                have g6 : W6.heap[wr.heap.size]? = some (.cells #[.int .i64 V.k, .int .i64 V.n, .string V.nm, .slice A3 V.ar.length c3] 34) := by rw [← hW6, ← s5]; exact blk_new _ _
                have b6 : W6.heap[w1.heap.size]? = some (.cells #[.int .i64 5, .int .i64 0, .string ⟨#[]⟩, .slice (some ⟨wr.heap.size, 0, none⟩) 1 1] 34) := by rw [← hW6]; exact blk_alloc b5 _
                have has6 : Has W6 h3 := by rw [← hW6]; exact has5.alloc _
                rw [hW6]
                clear hW6
                obtain ⟨h4, t4, m5, n5⟩ := one_Tm (w0 := w) has6 g6 ru (by omega)
                refine ⟨⟨j + 1, h4, by omega, by simp, ⟨⟨_, b6, by rw [hlam.out]; exact ⟨_, 1, rfl, by simp, by simp [lim], by omega, by omega, t4⟩⟩, blk_kp hE.b2 kp6 (by omega), blk_kp hE.bcn kp6 (by omega), hE.made.then_ m5, hE.kp.trans kp6 (fun q hq e => by omega), ⟨fun x v e hq => ?_⟩⟩⟩, by simp [intOf]; omega⟩
                rcases n5 x v e with g | g
                · exact hE.off.at_ x v g hq
                · omega
              · have hje2 := Lib.hid (show j = L.length by omega)
                have hV := Lib.hid (show lamsT j (.mk kk N nm us) = lamsT L.length (.mk kk N nm us) by rw [hje2.out])
                generalize hV2 : lamsT j (.mk kk N nm us) = V at *
                clear hV2
                obtain ⟨A3, c3, rfl, _⟩ := ru.open_
                have x1 := box4 hcu
                have x2 := box4 hE.b2
                have f3 := blk_frozen hE.b2
                have l3 := blk_lt hcu
                go_wp2_with fail
                obtain ⟨W5, hW5, b5, kp5⟩ : ∃ W5, ((((wr.setCell ⟨w.heap.size + 1 + 1, 0, none⟩ (.int .i64 V.k)).setCell ⟨w.heap.size + 1 + 1, 1, none⟩ (.int .i64 V.n)).setCell ⟨w.heap.size + 1 + 1, 2, none⟩ (.string V.nm)).setCell ⟨w.heap.size + 1 + 1, 3, none⟩ (.slice A3 V.ar.length c3)) = W5 ∧
                    W5.heap[w.heap.size + 1 + 1]? = some (.cells #[.int .i64 V.k, .int .i64 V.n, .string V.nm, .slice A3 V.ar.length c3] 34) ∧ Kp (fun q => q = w.heap.size + 1 + 1) wr W5 := ⟨_, rfl, (set4 hE.b2 _ _ _ _).1, (set4 hE.b2 _ _ _ _).2⟩
                rw [hW5]
                have x5 := box4 b5
                refine bodyPost_ret (v := .agg #[.int .i64 V.k, .int .i64 V.n, .string V.nm, .slice A3 V.ar.length c3]) (by simp [results, Tryz.results94, go_sem, x5]) rfl ?_
                rw [hR2.out, ← hV.out]
                exact ⟨hE.kp.trans kp5 (fun q hq e => by omega), blk_kp hE.bcn kp5 (by omega), _, h3, rfl, ru, hE.made.world (hE.made.has.kp kp5 ⟨fun x v e hx => hE.off.at_ x v e (.inr (.inr hx))⟩)⟩
theorem re_ok : ∀ f, REOK f
  | 0 => fun bw lv s E k n nm B0 l0 q0 ty ct w h H rt ho hk hn hz => by have := ty.sz_pos; omega
  | f + 1 => re_step f (Lib.hid (re_ok f))
end Go.Proofs.YtpgbeapojjinmaaGreatDoor
