/- Own text: types: the reference's functions on types (formed, typeNodes, typeDepth, FormType). -/
import Derived.Test.YtpgbeapojjinmaaGreatDoorB
set_option linter.unusedVariables false
set_option linter.unusedSimpArgs false
namespace Go.Proofs.YtpgbeapojjinmaaGreatDoor
open Go.RowKit Go.Proofs.YtpgbeapojjinmaaGreatDoorW.PrintLast
/-- The name of an arrow. -/
def arrB (nm : ByteArray) : Bool := nm.toList == ([45, 62] : List UInt8)
def formedT : Ty → Bool
  | .mk nm l => if arrB nm then (match l with | [a, b] => formedT a && formedT b | _ => false) else l.length == 0
theorem formedT_two {nm : ByteArray} {a b : Ty} (h : arrB nm = true) : formedT (.mk nm [a, b]) = (formedT a && formedT b) := by rw [formedT, if_pos h]
theorem arr_t {nm : ByteArray} (h : arrB nm = true) : (nm.toList == ([45, 62] : List UInt8)) = true ∧ (nm.toList != ([45, 62] : List UInt8)) = false := by
  unfold arrB at h; exact ⟨h, by simp only [bne, h]; rfl⟩
theorem arr_f {nm : ByteArray} (h : arrB nm = false) : (nm.toList == ([45, 62] : List UInt8)) = false ∧ (nm.toList != ([45, 62] : List UInt8)) = true := by
  unfold arrB at h; exact ⟨h, by simp only [bne, h]; rfl⟩
set_option maxRecDepth 100000 in
set_option maxHeartbeats 4000000 in
theorem formed_calls : ∀ (n : Nat) (t : Ty) (_ : t.sz ≤ n) (cs : List Value) (w : World) (h : Snap) (H : Has w h) (r : TyR h t cs),
    Calls Tryz.prog 123 #[.agg cs.toArray] w fun e w' => e = .returned (.bool (formedT t)) ∧ Below w.heap.size w w' := by
  intro n
  induction n with
  | zero => intro t ht; have := t.sz_pos; omega
  | succ n ih =>
  rintro ⟨nm, ar⟩ ht cs w h H ⟨A, cap, rfl, hl, hm, hr⟩
  have hu36 := Tryz.underlying36
  have IH := Lib.hid ih
  clear ih
  unfold lim at hm
  have hb := (Below.refl w.heap.size w).alloc (Nat.le_refl _) (.cells #[.string nm, .slice A ar.length cap] 36)
  cases ha : arrB nm
  · obtain ⟨q1, q2⟩ := arr_f ha
    go_enter Tryz.func123, Tryz.ntmps123
    go_wp2_with fail
    go_ret
    exact ⟨by unfold formedT; simp [ha]; rw [Bool.eq_iff_iff]; simp, hb⟩
  · obtain ⟨q1, q2⟩ := arr_t ha
    by_cases h2 : ar.length = 2
    · match ar, h2 with
      | [a, b], _ =>
        obtain ⟨b0, o, A0, c0, A1, c1, rfl, e0, e1, e2, e3, r0, r1⟩ := hr.two
        have hc0 := H.cell _ _ e0
        have hc1 := H.cell _ _ e1
        have hc2 := H.cell _ _ e2
        have hc3 := H.cell _ _ e3
        have lb := H.lt e0
        go_enter Tryz.func123, Tryz.ntmps123
        go_wp2_with fail
        refine (IH.out a ?_ _ _ h (H.alloc _) r0).mono ?_
        · simp only [Ty.sz, Ty.szL] at ht; omega
        rintro e w1 ⟨rfl, b1⟩
        obtain ⟨hq, hz⟩ := bcell b1
        cases hfa : formedT a
        · go_wp2_with fail
          go_ret
          exact ⟨by rw [formedT_two ha, hfa]; rfl, below_then hb b1 (by simp)⟩
        go_wp2_with fail
        refine (IH.out b ?_ _ _ h ((H.alloc _).below b1) r1).mono ?_
        · simp only [Ty.sz, Ty.szL] at ht; omega
        rintro e w2 ⟨rfl, b2⟩
        go_wp2_with fail
        go_ret
        exact ⟨by rw [formedT_two ha, hfa]; rfl, below_then (below_then hb b1 (by simp)) b2 (by have := b1.size; simp at this; omega)⟩
    · have h2' : ((ar.length : Int) == 2) = false := by simp; omega
      go_enter Tryz.func123, Tryz.ntmps123
      go_wp2_with fail
      go_ret
      refine ⟨?_, hb⟩
      unfold formedT
      simp only [ha, if_true]
      split
      · simp at h2
      · rfl
mutual
/-- 'typeNodes': most is the bound. -/
def tyN (most : Int) : Ty → Int → Int → Int
  | .mk _ l, n, d => tyNL most l (n + 1) d
def tyNL (most : Int) : List Ty → Int → Int → Int
  | [], n, _ => n
  | t :: ts, n, d => if n ≤ most ∧ 1 < d then tyNL most ts (tyN most t n (d - 1)) d else n
end
mutual
theorem tyN_bd (most : Int) : ∀ (t : Ty) (n d : Int), n ≤ most → n < tyN most t n d ∧ tyN most t n d ≤ most + 1
  | .mk _ l, n, d, h => by
    have := tyNL_bd most l (n + 1) d (by omega)
    rw [tyN]; omega
theorem tyNL_bd (most : Int) : ∀ (l : List Ty) (n d : Int), n ≤ most + 1 → n ≤ tyNL most l n d ∧ tyNL most l n d ≤ most + 1
  | [], n, d, h => by rw [tyNL]; omega
  | t :: ts, n, d, h => by
    rw [tyNL]
    split
    · rename_i hc
      have h1 := tyN_bd most t n (d - 1) hc.1
      have h2 := tyNL_bd most ts (tyN most t n (d - 1)) d h1.2
      omega
    · omega
end
set_option maxRecDepth 100000 in
set_option maxHeartbeats 4000000 in
theorem typeNodes_calls : ∀ (m : Nat) (t : Ty) (_ : t.sz ≤ m) (cs : List Value) (w : World) (h : Snap) (H : Has w h) (r : TyR h t cs) (n most d : Int) (h0 : 0 ≤ n) (h1 : n ≤ most) (h2 : most ≤ 1000000000) (h3 : 1 ≤ d) (h4 : d ≤ 1000000000),
    Calls Tryz.prog 121 #[.agg cs.toArray, .int .i64 n, .int .i64 most, .int .i64 d] w fun e w' => e = .returned (.int .i64 (tyN most t n d)) ∧ Below w.heap.size w w' := by
  intro m
  induction m with
  | zero => intro t ht; have := t.sz_pos; omega
  | succ m ih =>
  rintro ⟨nm, ar⟩ ht cs w h H ⟨A, cap, rfl, hl, hm, hr⟩ n most d h0 h1 h2 h3 h4
  have hu36 := Tryz.underlying36
  have IH := Lib.hid ih
  clear ih
  have hm' := Lib.hid hm
  unfold lim at hm
  have hb := (Below.refl w.heap.size w).alloc (Nat.le_refl _) (.cells #[.string nm, .slice A ar.length cap] 36)
  go_enter Tryz.func121, Tryz.ntmps121
  go_wp2_with fail
  go_loopw [1, 9] (fun v i wr => ∃ (k : Nat) (q : Int), k ≤ ar.length ∧ i = .int .i64 k ∧ v = .int .i64 q ∧ 0 ≤ q ∧ q ≤ most + 1 ∧ Hid (tyNL most (ar.drop k) q d = tyN most (.mk nm ar) n d) ∧ wr.heap[w.heap.size]? = some (.cells #[.string nm, .slice A ar.length cap] 36) ∧ Below w.heap.size w wr) (fun _ i _ => ar.length - (intOf i).toNat)
  case atStart => exact ⟨0, n + 1, by omega, rfl, by go_num, by omega, by omega, by show tyNL _ _ _ _ = _; rw [tyN]; simp, blk_new _ _, hb⟩
  case round =>
    obtain ⟨k, q, hk, rfl, rfl, q0, q1, hI, hB, hbel⟩ := hrel
    have ls := blk_lt hB
    have hc1 := blk_cell hB 1
    by_cases hlt : k < ar.length
    · by_cases hq : q ≤ most
      · by_cases hd : 1 < d
        · obtain ⟨b, o, A', cap', rfl, e0, e1, rt⟩ := hr.get k hlt
          have hw := H.below hbel
          have hc2 := hw.cell _ _ e0
          have hc3 := hw.cell _ _ e1
          have ht' := Lib.hid (show ar[k].sz ≤ m by have h1 := ht; have h2 := Ty.sz_at ar k hlt; simp only [Ty.sz] at h1; omega)
          clear ht
          go_wp2_with fail
          refine (IH.out ar[k] ht'.out _ _ h hw rt q most (d - 1) q0 hq h2 (by omega) (by omega)).mono ?_
          rintro e w1 ⟨rfl, b1⟩
          have bd := tyN_bd most ar[k] q (d - 1) hq
          have hB1 := blk_kp hB (Kp.of_below (fun _ => False) b1) (fun hf => hf)
          have hI' : Hid (tyNL most (ar.drop (k + 1)) (tyN most ar[k] q (d - 1)) d = tyN most (.mk nm ar) n d) := by
            have := hI.out
            rw [List.drop_eq_getElem_cons hlt, tyNL, if_pos ⟨hq, hd⟩] at this
            exact this
          generalize tyN most ar[k] q (d - 1) = z at *
          go_wp2_with fail
          exact ⟨⟨k + 1, z, by omega, by go_num, rfl, by omega, by omega, hI', hB1, below_then hbel b1 (by omega)⟩, by simp [intOf]; omega⟩
        · have hI' : Hid (q = tyN most (.mk nm ar) n d) := by
            have := hI.out
            rw [List.drop_eq_getElem_cons hlt, tyNL, if_neg (by omega)] at this
            exact this
          go_wp2_with fail
          go_ret
          exact ⟨ret_int hI'.out, hbel⟩
      · have hI' : Hid (q = tyN most (.mk nm ar) n d) := by
          have := hI.out
          rw [List.drop_eq_getElem_cons hlt, tyNL, if_neg (by omega)] at this
          exact this
        go_wp2_with fail
        go_ret
        exact ⟨ret_int hI'.out, hbel⟩
    · have hI' : Hid (q = tyN most (.mk nm ar) n d) := by
        have := hI.out
        rw [List.drop_eq_nil_of_le (by omega), tyNL] at this
        exact this
      go_wp2_with fail
      go_ret
      exact ⟨ret_int hI'.out, hbel⟩
mutual
/-- 'typeDepth'. -/
def tyD : Ty → Int → Int
  | .mk _ l, m => min (tyDL l m 0 + 1) m
def tyDL : List Ty → Int → Int → Int
  | [], _, d => d
  | t :: ts, m, d => if 1 < m then tyDL ts m (max d (tyD t (m - 1))) else d
end
mutual
theorem tyD_bd : ∀ (t : Ty) (m : Int), 1 ≤ m → 1 ≤ tyD t m ∧ tyD t m ≤ m
  | .mk _ l, m, h => by
    have := tyDL_bd l m 0
    rw [tyD]; omega
theorem tyDL_bd : ∀ (l : List Ty) (m d : Int), d ≤ tyDL l m d ∧ (d ≤ m → tyDL l m d ≤ max m d)
  | [], m, d => by rw [tyDL]; omega
  | t :: ts, m, d => by
    rw [tyDL]
    split
    · rename_i hc
      have h1 := tyD_bd t (m - 1) (by omega)
      have h2 := tyDL_bd ts m (max d (tyD t (m - 1)))
      omega
    · omega
end
set_option maxRecDepth 100000 in
set_option maxHeartbeats 4000000 in
theorem typeDepth_calls : ∀ (m : Nat) (t : Ty) (_ : t.sz ≤ m) (cs : List Value) (w : World) (h : Snap) (H : Has w h) (r : TyR h t cs) (d : Int) (h3 : 1 ≤ d) (h4 : d ≤ 1000000000),
    Calls Tryz.prog 122 #[.agg cs.toArray, .int .i64 d] w fun e w' => e = .returned (.int .i64 (tyD t d)) ∧ Below w.heap.size w w' := by
  intro m
  induction m with
  | zero => intro t ht; have := t.sz_pos; omega
  | succ m ih =>
  rintro ⟨nm, ar⟩ ht cs w h H ⟨A, cap, rfl, hl, hm, hr⟩ d h3 h4
  have hu36 := Tryz.underlying36
  have IH := Lib.hid ih
  clear ih
  have hm' := Lib.hid hm
  unfold lim at hm
  have hb := (Below.refl w.heap.size w).alloc (Nat.le_refl _) (.cells #[.string nm, .slice A ar.length cap] 36)
  go_enter Tryz.func122, Tryz.ntmps122
  go_wp2_with fail
  go_loopw [5, 6] (fun v i wr => ∃ (k : Nat) (q : Int), k ≤ ar.length ∧ i = .int .i64 k ∧ v = .int .i64 q ∧ 0 ≤ q ∧ q ≤ d ∧ Hid (tyDL (ar.drop k) d q = tyDL ar d 0) ∧ wr.heap[w.heap.size]? = some (.cells #[.string nm, .slice A ar.length cap] 36) ∧ Below w.heap.size w wr) (fun _ i _ => ar.length - (intOf i).toNat)
  case atStart => exact ⟨0, 0, by omega, rfl, rfl, by omega, by omega, by show tyDL _ _ _ = _; simp, blk_new _ _, hb⟩
  case round =>
    obtain ⟨k, q, hk, rfl, rfl, q0, q1, hI, hB, hbel⟩ := hrel
    have ls := blk_lt hB
    have hc1 := blk_cell hB 1
    by_cases hlt : k < ar.length
    · by_cases hd : 1 < d
      · obtain ⟨b, o, A', cap', rfl, e0, e1, rt⟩ := hr.get k hlt
        have hw := H.below hbel
        have hc2 := hw.cell _ _ e0
        have hc3 := hw.cell _ _ e1
        have ht' := Lib.hid (show ar[k].sz ≤ m by have h1 := ht; have h2 := Ty.sz_at ar k hlt; simp only [Ty.sz] at h1; omega)
        clear ht
        go_wp2_with fail
        refine (IH.out ar[k] ht'.out _ _ h hw rt (d - 1) (by omega) (by omega)).mono ?_
        rintro e w1 ⟨rfl, b1⟩
        have bd := tyD_bd ar[k] (d - 1) (by omega)
        have hB1 := blk_kp hB (Kp.of_below (fun _ => False) b1) (fun hf => hf)
        have hI' : Hid (tyDL (ar.drop (k + 1)) d (max q (tyD ar[k] (d - 1))) = tyDL ar d 0) := by
          have := hI.out
          rw [List.drop_eq_getElem_cons hlt, tyDL, if_pos hd] at this
          exact this
        generalize tyD ar[k] (d - 1) = z at *
        go_wp2_with fail
        exact ⟨⟨k + 1, max q z, by omega, by go_num, val_int (max_ite q z), by omega, by omega, hI', hB1, below_then hbel b1 (by omega)⟩, by simp [intOf]; omega⟩
      · have hI' : Hid (q = tyDL ar d 0) := by
          have := hI.out
          rw [List.drop_eq_getElem_cons hlt, tyDL, if_neg (by omega)] at this
          exact this
        go_wp2_with fail
        all_goals
          go_ret
          exact ⟨ret_int (by rw [tyD, ← hI'.out]; omega), hbel⟩
    · have hI' : Hid (q = tyDL ar d 0) := by
        have := hI.out
        rw [List.drop_eq_nil_of_le (by omega), tyDL] at this
        exact this
      go_wp2_with fail
      all_goals
        go_ret
        exact ⟨ret_int (by rw [tyD, ← hI'.out]; omega), hbel⟩
end Go.Proofs.YtpgbeapojjinmaaGreatDoor
