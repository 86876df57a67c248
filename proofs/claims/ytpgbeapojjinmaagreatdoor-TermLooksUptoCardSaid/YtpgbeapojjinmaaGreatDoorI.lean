/- Own text: guarded; types: measured, deepest, sized (the program's). · Own text: types: measured, sized (the program's). No law is proved here. -/
import Derived.Test.YtpgbeapojjinmaaGreatDoorG
set_option linter.unusedVariables false
set_option linter.unusedSimpArgs false
namespace Go.Proofs.YtpgbeapojjinmaaGreatDoor
open Go.RowKit Go.Proofs.YtpgbeapojjinmaaGreatDoorW.PrintLast
/-- How a guarded call ends: none: it returned; some c: it left with a fault. -/
def endG : Option Int → Ending
  | none => .returned (.tuple #[])
  | some c => .panicked (faultC c)
def codeG : Option Int → Int
  | none => 0
  | some c => c
set_option maxRecDepth 100000 in
set_option maxHeartbeats 4000000 in
theorem guarded_calls (f : Nat) (cap : Array Value) (w : World) (S : Nat → Prop) (Q : Option Int → World → Prop)
    (he : ∀ (args : Array Value) (w : World), (callFunc f args).run Tryz.prog w = .ok (.enter f args) w)
    (hf : ∀ W : World, W = w.alloc (.cells #[.int .i64 0] 42) → Calls Tryz.prog f cap W fun e w' => ∃ o, e = endG o ∧ Kp S W w' ∧ Q o w') (hS : ∀ k, S k → k < w.heap.size) :
    Calls Tryz.prog 78 #[.func (.func f) #[] cap] w fun e w' => ∃ o w1, e = .returned (.int .i64 (codeG o)) ∧ Q o w1 ∧ Kp S w w' ∧ Kp (fun q => q = w.heap.size) w1 w' := by
  have hmf := run_mf
  have hF := Lib.hid (hf _ rfl)
  clear hf
  obtain ⟨C, hC⟩ : ∃ C, C = w.alloc (.cells #[.int .i64 0] 42) := ⟨_, rfl⟩
  have q1 : C.heap[w.heap.size]? = some (.cells #[.int .i64 0] 42) := by rw [hC]; exact blk_new _ _
  have kC : Kp S w C := by rw [hC]; exact (Kp.refl S w).alloc _
  go_enter_defers Tryz.func78, Tryz.ntmps78
  go_wp2_with fail
  refine hF.out.mono ?_
  rw [← hC]
  clear hC hF
  rintro e w1 ⟨o, rfl, kp, hQ⟩
  have q2 := blk_kp q1 kp (fun hs => by have := hS _ hs; omega)
  have x2 := box1 q2
  have f2 := blk_frozen q2 0
  have l2 := blk_lt q2
  have k1 := kC.trans kp (fun i hi hs => hs)
  cases o with
  | none =>
    simp only [endG]
    go_wp2_with fail
    refine leaves_cons (f := 157) (args := #[.pointer (some ⟨w.heap.size, 0, none⟩)]) (by simp) (by simp [go_sem]) ?_
    refine (catch_idle ⟨w.heap.size, 0, none⟩ _).mono ?_
    rintro e u' w'' ⟨rfl, rfl, rfl⟩
    have q3 := box1 (blk_set q2 0 (.int .i64 0))
    simp [Leaves, settle, results, Tryz.results78, go_sem, q3]
    exact ⟨none, rfl, w1, hQ, k1.set (.inr (by simp)) _, Kp.set1 w1 ⟨w.heap.size, 0, none⟩ _⟩
  | some c =>
    simp only [endG]
    refine leaves_cons (f := 157) (args := #[.pointer (some ⟨w.heap.size, 0, none⟩)]) (by simp) (by simp [go_sem]) ?_
    refine (catch_panicking ⟨w.heap.size, 0, none⟩ _ c _ x2 f2 l2).mono ?_
    rintro e u' w'' ⟨rfl, rfl, rfl⟩
    have q3 := box1 (blk_set (blk_alloc q2 (.cells #[.int .i64 c] 184)) 0 (.int .i64 c))
    simp [Leaves, settle, results, Tryz.results78, go_sem, q3]
    exact ⟨some c, rfl, w1, hQ, (k1.alloc _).set (.inr (by simp)) _, ((Kp.refl (fun q => q = w.heap.size) w1).alloc _).trans (Kp.set1 _ ⟨w.heap.size, 0, none⟩ _) (fun i _ e => e)⟩
theorem typeArgs_calls (nm : ByteArray) (A : Option Addr) (n c : Nat) (w : World) :
    Calls Tryz.prog 114 #[.agg #[.string nm, .slice A n c]] w fun e w' => e = .returned (.slice A n c) ∧ Below w.heap.size w w' := by
  have hu36 := Tryz.underlying36
  have hb := (Below.refl w.heap.size w).alloc (Nat.le_refl _) (.cells #[.string nm, .slice A n c] 36)
  go_enter Tryz.func114, Tryz.ntmps114
  go_wp2_with fail
  go_ret
  exact ⟨rfl, hb⟩
/-- What 'measured' counts: the nodes so far, the depth so far, whether it goes on. -/
structure Ms where
  n : Int
  d : Int
  ok : Bool
mutual
def wkT : Ty → Int → Ms → Ms
  | .mk _ l, lv, m => if 4000 < m.n + 1 then ⟨m.n + 1, m.d, false⟩ else if lv ≤ 100 then wkTL l (lv + 1) ⟨m.n + 1, max m.d lv, true⟩ else ⟨m.n + 1, max m.d lv, true⟩
def wkTL : List Ty → Int → Ms → Ms
  | [], _, m => m
  | t :: ts, lv, m => if (wkT t lv m).ok then wkTL ts lv (wkT t lv m) else wkT t lv m
end
mutual
theorem wkT_bd : ∀ (t : Ty) (lv : Int) (m : Ms), 0 ≤ m.n → m.n ≤ 4000 → 0 ≤ (wkT t lv m).n ∧ (wkT t lv m).n ≤ 4001 ∧ ((wkT t lv m).ok = true → (wkT t lv m).n ≤ 4000) ∧ m.d ≤ (wkT t lv m).d ∧ (1 ≤ lv → lv ≤ 101 → m.d ≤ 101 → (wkT t lv m).d ≤ 101)
  | .mk _ l, lv, m, h0, h1 => by
    rw [wkT]
    split
    · refine ⟨by show 0 ≤ m.n + 1; omega, by show m.n + 1 ≤ 4001; omega, by simp, by simp, by simp⟩
    · split
      · have := wkTL_bd l (lv + 1) ⟨m.n + 1, max m.d lv, true⟩ (by show 0 ≤ m.n + 1; omega) (by show m.n + 1 ≤ 4000; omega)
        refine ⟨this.1, this.2.1, this.2.2.1, by have := this.2.2.2.1; simp at this; omega, fun a b c => this.2.2.2.2 (by omega) (by omega) (by simp; omega)⟩
      · exact ⟨by show 0 ≤ m.n + 1; omega, by show m.n + 1 ≤ 4001; omega, fun _ => by show m.n + 1 ≤ 4000; omega, by simp; omega, fun a b c => by simp; omega⟩
theorem wkTL_bd : ∀ (l : List Ty) (lv : Int) (m : Ms), 0 ≤ m.n → m.n ≤ 4000 → 0 ≤ (wkTL l lv m).n ∧ (wkTL l lv m).n ≤ 4001 ∧ ((wkTL l lv m).ok = true → (wkTL l lv m).n ≤ 4000) ∧ m.d ≤ (wkTL l lv m).d ∧ (1 ≤ lv → lv ≤ 101 → m.d ≤ 101 → (wkTL l lv m).d ≤ 101)
  | [], lv, m, h0, h1 => by rw [wkTL]; exact ⟨h0, by omega, fun _ => h1, Int.le_refl _, fun _ _ c => c⟩
  | t :: ts, lv, m, h0, h1 => by
    have a := wkT_bd t lv m h0 h1
    rw [wkTL]
    split
    · rename_i hk
      have b := wkTL_bd ts lv (wkT t lv m) a.1 (a.2.2.1 hk)
      exact ⟨b.1, b.2.1, b.2.2.1, Int.le_trans a.2.2.2.1 b.2.2.2.1, fun p q r => b.2.2.2.2 p q (a.2.2.2.2 p q r)⟩
    · exact ⟨a.1, a.2.1, a.2.2.1, a.2.2.2.1, a.2.2.2.2⟩
end
def pt (b : Nat) : Value := .pointer (some ⟨b, 0, none⟩)
/-- The captured variables of 'measured''s walk. -/
structure MsW (w : World) (bn bd ba bw : Nat) (m : Ms) : Prop where
  n : w.heap[bn]? = some (.cells #[.int .i64 m.n] 3)
  d : w.heap[bd]? = some (.cells #[.int .i64 m.d] 3)
  a : w.heap[ba]? = some (.cells #[.func (.func 114) #[] #[]] 146)
  w : w.heap[bw]? = some (.cells #[.func (.func 223) #[] #[.pointer (some ⟨bn, 0, none⟩), .pointer (some ⟨bd, 0, none⟩), .pointer (some ⟨ba, 0, none⟩), .pointer (some ⟨bw, 0, none⟩)]] 238)
def endM (m : Ms) : Ending := if m.ok then .returned (.tuple #[]) else .panicked (faultC 2)
set_option maxRecDepth 100000 in
set_option maxHeartbeats 4000000 in
theorem walkT_calls (bn bd ba bw : Nat) (hne : bn ≠ bd ∧ bn ≠ ba ∧ bn ≠ bw ∧ bd ≠ ba ∧ bd ≠ bw) : ∀ (k : Nat) (t : Ty) (_ : t.sz ≤ k) (cs : List Value) (lv : Int) (m : Ms) (w : World) (h : Snap) (H : Has w h) (ho : Off h (fun q => q = bn ∨ q = bd)) (r : TyR h t cs)
    (hm : MsW w bn bd ba bw m) (h0 : 0 ≤ m.n) (h1 : m.n ≤ 4000) (h2 : 1 ≤ lv) (h3 : lv ≤ 101) (hd0 : 0 ≤ m.d) (hd1 : m.d ≤ 101),
    Calls Tryz.prog 223 #[.agg cs.toArray, .int .i64 lv, .pointer (some ⟨bn, 0, none⟩), .pointer (some ⟨bd, 0, none⟩), .pointer (some ⟨ba, 0, none⟩), .pointer (some ⟨bw, 0, none⟩)] w fun e w' =>
      e = endM (wkT t lv m) ∧ Kp (fun q => q = bn ∨ q = bd) w w' ∧ MsW w' bn bd ba bw (wkT t lv m) := by
  intro k
  induction k with
  | zero => intro t ht; have := t.sz_pos; omega
  | succ k ih =>
  rintro ⟨nm, ar⟩ ht cs lv m w h H ho ⟨A, cap, rfl, hl, hlm, hr⟩ hm h0 h1 h2 h3 hd0 hd1
  obtain ⟨n1, n2, n3, n4, n5⟩ := hne
  have hu36 := Tryz.underlying36
  have IH := Lib.hid ih
  clear ih
  unfold lim at hlm
  have ln := blk_lt hm.n
  have ld := blk_lt hm.d
  have la := blk_lt hm.a
  have lw := blk_lt hm.w
  have xn := box1 hm.n
  have zn := blk_frozen hm.n 0
  have zd := blk_frozen hm.d 0
  have xd := box1 hm.d
  have xa := box1 hm.a
  have xw := box1 hm.w
  by_cases hc : 4000 < m.n + 1
  · have hdec : decide (m.n + 1 ≤ 4000) = false := by simp; omega
    have G := Lib.hid (show wkT (.mk nm ar) lv m = ⟨m.n + 1, m.d, false⟩ by rw [wkT, if_pos hc])
    clear hc
    go_enter Tryz.func223, Tryz.ntmps223
    go_wp2_with fail
    refine (must_no 2 _).mono ?_
    rintro e w1 ⟨rfl, rfl⟩
    refine ⟨rfl, by rw [G.out]; rfl, ((Kp.refl _ w).set (.inl (.inl rfl)) _).alloc _, ?_⟩
    rw [G.out]
    exact ⟨blk_alloc (by simpa using blk_set hm.n 0 _) _, blk_alloc (blk_far hm.d (by simp; omega) _) _, blk_alloc (blk_far hm.a (by simp; omega) _) _, blk_alloc (blk_far hm.w (by simp; omega) _) _⟩
  have hdec : decide (m.n + 1 ≤ 4000) = true := by simp; omega
  go_enter Tryz.func223, Tryz.ntmps223
  go_wp2_with fail
  refine (must_ok 2 _).mono ?_
  rintro e w1 ⟨rfl, hw1⟩
  have hB : w1.heap[w.heap.size]? = some (.cells #[.string nm, .slice A ar.length cap] 36) := by rw [hw1]; simpa using blk_new (w.setCell ⟨bn, 0, none⟩ (.int .i64 (m.n + 1))) (.cells #[.string nm, .slice A ar.length cap] 36)
  have k1 : Kp (fun q => q = bn ∨ q = bd) w w1 := by rw [hw1]; exact ((Kp.refl _ w).set (.inl (.inl rfl)) _).alloc _
  have m1 : MsW w1 bn bd ba bw ⟨m.n + 1, m.d, true⟩ := by rw [hw1]; exact ⟨blk_alloc (by simpa using blk_set hm.n 0 _) _, blk_alloc (blk_far hm.d (by simp; omega) _) _, blk_alloc (blk_far hm.a (by simp; omega) _) _, blk_alloc (blk_far hm.w (by simp; omega) _) _⟩
  clear hw1 xn zn zd xd xa xw
  have xa := box1 m1.a
  have xw := box1 m1.w
  obtain ⟨y0, y1⟩ := box2 hB
  have n6 : ¬ ba = bd := fun e => n4 e.symm
  have n7 : ¬ bw = bd := fun e => n5 e.symm
  have n8 : ¬ w.heap.size = bd := by omega
  have xd := box1 m1.d
  have zd := blk_frozen m1.d 0
  obtain ⟨z, hz⟩ : ∃ z, (if m.d < lv then lv else m.d) = z := ⟨_, rfl⟩
  have hzm := Lib.hid (hz.symm.trans (max_ite m.d lv))
  have hz0 : 0 ≤ z := by have := hzm.out; omega
  have hz1 : z ≤ 101 := by have := hzm.out; omega
  have hb3 := blk_far hB (p := ⟨bd, 0, none⟩) (by simp; omega) (.int .i64 z)
  have m3 : MsW (w1.setCell ⟨bd, 0, none⟩ (.int .i64 z)) bn bd ba bw ⟨m.n + 1, z, true⟩ := ⟨blk_far m1.n n1 _, by simpa using blk_set m1.d 0 _, blk_far m1.a n6 _, blk_far m1.w n7 _⟩
  have k3 := k1.set (p := ⟨bd, 0, none⟩) (.inl (.inr rfl)) (.int .i64 z)
  by_cases hlv : lv ≤ 100
  · have G := Lib.hid (show wkT (.mk nm ar) lv m = wkTL ar (lv + 1) ⟨m.n + 1, z, true⟩ by rw [wkT, if_neg (by omega), if_pos hlv, hzm.out])
    clear hc
    go_wp2_with fail
    refine (typeArgs_calls nm A ar.length cap _).mono ?_
    rintro e w4 ⟨rfl, b4⟩
    have k4 := k3.below_step b4
    have m4 : MsW w4 bn bd ba bw ⟨m.n + 1, z, true⟩ := ⟨box_below m3.n b4, box_below m3.d b4, box_below m3.a b4, box_below m3.w b4⟩
    have hb4 := box_below hb3 b4
    clear hz xd zd xa xw y0 y1
    go_wp2_with fail
    go_loopw [24] (fun i wr => ∃ (j : Nat) (q : Ms), j ≤ ar.length ∧ i = .int .i64 j ∧ q.ok = true ∧ 0 ≤ q.n ∧ q.n ≤ 4000 ∧ 0 ≤ q.d ∧ q.d ≤ 101 ∧ Hid (wkTL (ar.drop j) (lv + 1) q = wkTL ar (lv + 1) ⟨m.n + 1, z, true⟩) ∧ MsW wr bn bd ba bw q ∧ Kp (fun q => q = bn ∨ q = bd) w wr) (fun i _ => ar.length - (intOf i).toNat)
    case atStart => exact ⟨0, ⟨m.n + 1, z, true⟩, by omega, rfl, rfl, by show 0 ≤ m.n + 1; omega, by show m.n + 1 ≤ 4000; simp at hdec; omega, hz0, hz1, by show _ = _; simp, m4, k4⟩
    case round =>
      obtain ⟨j, q, hj, rfl, q1, q2, q3, q4, q5, hI, hq, kq⟩ := hrel
      have xw := box1 hq.w
      have lw := blk_lt hq.w
      have qw := kq.size
      by_cases hlt : j < ar.length
      · obtain ⟨b, o, A', cap', rfl, e0, e1, rt⟩ := hr.get j hlt
        have hw := H.kp kq ho
        have hc0 := hw.cell _ _ e0
        have hc1 := hw.cell _ _ e1
        have lb := hw.lt e0
        have ht' := Lib.hid (show ar[j].sz ≤ k by have h1 := ht; have h2 := Ty.sz_at ar j hlt; simp only [Ty.sz] at h1; omega)
        clear ht
        have hqa : MsW (wr.alloc (.cells #[.string ar[j].nm, .slice A' ar[j].ar.length cap'] 36)) bn bd ba bw q := ⟨blk_alloc hq.n _, blk_alloc hq.d _, blk_alloc hq.a _, blk_alloc hq.w _⟩
        go_wp2_with fail
        refine (IH.out ar[j] ht'.out _ (lv + 1) q _ h (hw.alloc _) ho rt hqa q2 q3 (by omega) (by omega) q4 q5).mono ?_
        rintro e w5 ⟨rfl, k5, m5⟩
        have bd5 := wkT_bd ar[j] (lv + 1) q q2 q3
        have k6 := (kq.alloc _).trans k5 (fun i _ e => e)
        cases hok : (wkT ar[j] (lv + 1) q).ok
        · have hI' : wkTL ar (lv + 1) ⟨m.n + 1, z, true⟩ = wkT ar[j] (lv + 1) q := by
            have := hI.out
            rw [List.drop_eq_getElem_cons hlt, wkTL, hok] at this
            exact this.symm
          simp only [endM, hok, Bool.false_eq_true, if_false]
          refine ⟨rfl, ?_⟩
          rw [G.out, hI']
          exact ⟨by simp [endM, hok], k6, m5⟩
        · have hI' : Hid (wkTL (ar.drop (j + 1)) (lv + 1) (wkT ar[j] (lv + 1) q) = wkTL ar (lv + 1) ⟨m.n + 1, z, true⟩) := by
            have := hI.out
            rw [List.drop_eq_getElem_cons hlt, wkTL, hok] at this
            exact this
          have hd5 := bd5.2.2.2.2 (by omega) (by omega) q5
          have hn5 := bd5.2.2.1 hok
          simp only [endM, hok, if_true]
          clear hqa k5
          generalize wkT ar[j] (lv + 1) q = p at *
          go_wp2_with fail
          exact ⟨⟨j + 1, p, by omega, by go_num, hok, by omega, hn5, by omega, hd5, hI', m5, k6⟩, by simp [intOf]; omega⟩
      · have hI' : q = wkTL ar (lv + 1) ⟨m.n + 1, z, true⟩ := by
          have := hI.out
          rw [List.drop_eq_nil_of_le (by omega), wkTL] at this
          exact this
        go_wp2_with fail
        go_end0
        rw [G.out, ← hI']
        exact ⟨by simp [endM, q1], kq, hq⟩
  · have G := Lib.hid (show wkT (.mk nm ar) lv m = ⟨m.n + 1, z, true⟩ by rw [wkT, if_neg (by omega), if_neg hlv, hzm.out])
    clear hc
    go_wp2_with fail
    go_end0
    rw [G.out]
    exact ⟨rfl, k3, m3⟩
mutual
def dpT : Ty → Int → Int
  | .mk _ l, lv => if lv ≤ 100 then dpTL l (lv + 1) lv else lv
def dpTL : List Ty → Int → Int → Int
  | [], _, d => d
  | t :: ts, lv, d => dpTL ts lv (max d (dpT t lv))
end
mutual
theorem dpT_bd : ∀ (t : Ty) (lv : Int), 1 ≤ lv → lv ≤ 101 → lv ≤ dpT t lv ∧ dpT t lv ≤ 101
  | .mk _ l, lv, h1, h2 => by
    rw [dpT]
    split
    · have := dpTL_bd l (lv + 1) lv (by omega) (by omega) (by omega); omega
    · omega
theorem dpTL_bd : ∀ (l : List Ty) (lv d : Int), 1 ≤ lv → lv ≤ 101 → d ≤ 101 → d ≤ dpTL l lv d ∧ dpTL l lv d ≤ 101
  | [], lv, d, h1, h2, h3 => by rw [dpTL]; omega
  | t :: ts, lv, d, h1, h2, h3 => by
    have a := dpT_bd t lv h1 h2
    have b := dpTL_bd ts lv (max d (dpT t lv)) h1 h2 (by omega)
    rw [dpTL]; omega
end
structure DpW (w : World) (ba bw : Nat) : Prop where
  a : w.heap[ba]? = some (.cells #[.func (.func 114) #[] #[]] 146)
  w : w.heap[bw]? = some (.cells #[.func (.func 245) #[] #[.pointer (some ⟨ba, 0, none⟩), .pointer (some ⟨bw, 0, none⟩)]] 151)
set_option maxRecDepth 100000 in
set_option maxHeartbeats 4000000 in
theorem deepT_calls (ba bw : Nat) : ∀ (k : Nat) (t : Ty) (_ : t.sz ≤ k) (cs : List Value) (lv : Int) (w : World) (h : Snap) (H : Has w h) (r : TyR h t cs) (hm : DpW w ba bw) (h2 : 1 ≤ lv) (h3 : lv ≤ 101),
    Calls Tryz.prog 245 #[.agg cs.toArray, .int .i64 lv, .pointer (some ⟨ba, 0, none⟩), .pointer (some ⟨bw, 0, none⟩)] w fun e w' => e = .returned (.int .i64 (dpT t lv)) ∧ Below w.heap.size w w' := by
  intro k
  induction k with
  | zero => intro t ht; have := t.sz_pos; omega
  | succ k ih =>
  rintro ⟨nm, ar⟩ ht cs lv w h H ⟨A, cap, rfl, hl, hlm, hr⟩ hm h2 h3
  have hu36 := Tryz.underlying36
  have IH := Lib.hid ih
  clear ih
  unfold lim at hlm
  have la := blk_lt hm.a
  have lw := blk_lt hm.w
  have xa := box1 hm.a
  have hb := (Below.refl w.heap.size w).alloc (Nat.le_refl _) (.cells #[.string nm, .slice A ar.length cap] 36)
  by_cases hlv : lv ≤ 100
  · have G := Lib.hid (show dpT (.mk nm ar) lv = dpTL ar (lv + 1) lv by rw [dpT, if_pos hlv])
    go_enter Tryz.func245, Tryz.ntmps245
    go_wp2_with fail
    refine (typeArgs_calls nm A ar.length cap _).mono ?_
    rintro e w1 ⟨rfl, b1⟩
    have hb1 := below_then hb b1 (by simp)
    go_wp2_with fail
    go_loopw [7, 17] (fun v i wr => ∃ (j : Nat) (d : Int), j ≤ ar.length ∧ i = .int .i64 j ∧ v = .int .i64 d ∧ 0 ≤ d ∧ d ≤ 101 ∧ Hid (dpTL (ar.drop j) (lv + 1) d = dpTL ar (lv + 1) lv) ∧ Below w.heap.size w wr) (fun _ i _ => ar.length - (intOf i).toNat)
    case atStart => exact ⟨0, lv, by omega, rfl, rfl, by omega, by omega, by show _ = _; simp, hb1⟩
    case round =>
      obtain ⟨j, d, hj, rfl, rfl, d0, d1, hI, hbel⟩ := hrel
      have hw := H.below hbel
      have hmr : DpW wr ba bw := ⟨box_below hm.a hbel, box_below hm.w hbel⟩
      have xw := box1 hmr.w
      have lw := blk_lt hmr.w
      by_cases hlt : j < ar.length
      · obtain ⟨b, o, A', cap', rfl, e0, e1, rt⟩ := hr.get j hlt
        have hc0 := hw.cell _ _ e0
        have hc1 := hw.cell _ _ e1
        have lb := hw.lt e0
        have ht' := Lib.hid (show ar[j].sz ≤ k by have h1 := ht; have h2 := Ty.sz_at ar j hlt; simp only [Ty.sz] at h1; omega)
        clear ht
        have hqa : DpW (wr.alloc (.cells #[.string ar[j].nm, .slice A' ar[j].ar.length cap'] 36)) ba bw := ⟨blk_alloc hmr.a _, blk_alloc hmr.w _⟩
        go_wp2_with fail
        refine (IH.out ar[j] ht'.out _ (lv + 1) _ h (hw.alloc _) rt hqa (by omega) (by omega)).mono ?_
        rintro e w5 ⟨rfl, b5⟩
        have bd5 := dpT_bd ar[j] (lv + 1) (by omega) (by omega)
        have hI' : Hid (dpTL (ar.drop (j + 1)) (lv + 1) (max d (dpT ar[j] (lv + 1))) = dpTL ar (lv + 1) lv) := by
          have := hI.out
          rw [List.drop_eq_getElem_cons hlt, dpTL] at this
          exact this
        have hb5 := below_then (hbel.alloc hbel.size (.cells #[.string ar[j].nm, .slice A' ar[j].ar.length cap'] 36)) b5 (by have := hbel.size; simp <;> omega)
        generalize dpT ar[j] (lv + 1) = p at *
        go_wp2_with fail
        exact ⟨⟨j + 1, max d p, by omega, by go_num, val_int (max_ite d p), by omega, by omega, hI', hb5⟩, by simp [intOf]; omega⟩
      · have hI' : Hid (d = dpTL ar (lv + 1) lv) := by
          have := hI.out
          rw [List.drop_eq_nil_of_le (by omega), dpTL] at this
          exact this
        go_wp2_with fail
        go_ret
        exact ⟨ret_int (by rw [G.out, ← hI'.out]), hbel⟩
  · have G := Lib.hid (show dpT (.mk nm ar) lv = lv by rw [dpT, if_neg hlv])
    go_enter Tryz.func245, Tryz.ntmps245
    go_wp2_with fail
    go_ret
    exact ⟨ret_int G.out.symm, hb⟩
set_option maxRecDepth 100000 in
set_option maxHeartbeats 4000000 in
theorem deepestT_calls (t : Ty) (cs : List Value) (w : World) (h : Snap) (H : Has w h) (r : TyR h t cs) :
    Calls Tryz.prog 224 #[.agg cs.toArray, .func (.func 114) #[] #[]] w fun e w' => e = .returned (.int .i64 (dpT t 1)) ∧ Below w.heap.size w w' := by
  obtain ⟨A, cap, rfl, hl, hm, hr⟩ := r.open_
  have hu36 := Tryz.underlying36
  have hmf := run_mf
  obtain ⟨p1, p2, p3, hb⟩ := alloc3 w (.cells #[.string t.nm, .slice A t.ar.length cap] 36) (.cells #[.func (.func 114) #[] #[]] 146) (.cells #[.func (.func 245) #[] #[.pointer (some ⟨w.heap.size + 1, 0, none⟩), .pointer (some ⟨w.heap.size + 1 + 1, 0, none⟩)]] 151)
  go_enter Tryz.func224, Tryz.ntmps224
  go_wp2_with fail
  refine (deepT_calls (w.heap.size + 1) (w.heap.size + 1 + 1) _ t (Nat.le_refl _) _ 1 _ h (H.below hb) r ⟨p2, p3⟩ (by omega) (by omega)).mono ?_
  rintro e w1 ⟨rfl, b1⟩
  go_wp2_with fail
  go_ret
  exact ⟨rfl, below_then hb b1 hb.size⟩
end Go.Proofs.YtpgbeapojjinmaaGreatDoor
namespace Go.Proofs.YtpgbeapojjinmaaGreatDoor
open Go.RowKit Go.Proofs.YtpgbeapojjinmaaGreatDoorW.PrintLast
set_option maxRecDepth 100000 in
set_option maxHeartbeats 4000000 in
theorem measT1_calls (bn bd ba bt : Nat) (hne : bn ≠ bd ∧ bn ≠ ba ∧ bd ≠ ba) (t : Ty) (cs : List Value) (w : World) (h : Snap) (H : Has w h) (ho : Off h (fun q => q = bn ∨ q = bd)) (r : TyR h t cs)
    (hn : w.heap[bn]? = some (.cells #[.int .i64 0] 3)) (hd : w.heap[bd]? = some (.cells #[.int .i64 0] 3)) (ha : w.heap[ba]? = some (.cells #[.func (.func 114) #[] #[]] 146)) (ht : w.heap[bt]? = some (.cells cs.toArray 36)) :
    Calls Tryz.prog 222 #[.pointer (some ⟨bn, 0, none⟩), .pointer (some ⟨bd, 0, none⟩), .pointer (some ⟨ba, 0, none⟩), .pointer (some ⟨bt, 0, none⟩)] w fun e w' => e = endM (wkT t 1 ⟨0, 0, true⟩) ∧ Kp (fun q => q = bn ∨ q = bd) w w' ∧
      w'.heap[bn]? = some (.cells #[.int .i64 (wkT t 1 ⟨0, 0, true⟩).n] 3) ∧ w'.heap[bd]? = some (.cells #[.int .i64 (wkT t 1 ⟨0, 0, true⟩).d] 3) := by
  obtain ⟨A, cap, rfl, hl, hm, hr⟩ := r.open_
  have hu36 := Tryz.underlying36
  have hmf := run_mf
  obtain ⟨x0, x1⟩ := box2 ht
  have ln := blk_lt hn
  have ld := blk_lt hd
  have la := blk_lt ha
  have lt := blk_lt ht
  go_enter Tryz.func222, Tryz.ntmps222
  go_wp2_with fail
  refine (walkT_calls bn bd ba w.heap.size ⟨hne.1, hne.2.1, by omega, hne.2.2, by omega⟩ _ t (Nat.le_refl _) _ 1 ⟨0, 0, true⟩ _ h (H.alloc _) ho r ⟨blk_alloc hn _, blk_alloc hd _, blk_alloc ha _, blk_new _ _⟩ (by simp) (by simp) (by omega) (by omega) (by simp) (by simp)).mono ?_
  rintro e w1 ⟨rfl, k1, m1⟩
  have kk := ((Kp.refl (fun q => q = bn ∨ q = bd) w).alloc (.cells #[.func (.func 223) #[] #[.pointer (some ⟨bn, 0, none⟩), .pointer (some ⟨bd, 0, none⟩), .pointer (some ⟨ba, 0, none⟩), .pointer (some ⟨w.heap.size, 0, none⟩)]] 238)).trans k1 (fun i _ e => e)
  cases hok : (wkT t 1 ⟨0, 0, true⟩).ok
  · simp only [endM, hok, Bool.false_eq_true, if_false]
    exact ⟨rfl, by simp [endM, hok], kk, m1.n, m1.d⟩
  · simp only [endM, hok, if_true]
    go_wp2_with fail
    go_end0
    exact ⟨by simp [endM, hok], kk, m1.n, m1.d⟩
/-- 'measured', of a type: the nodes and the depth. -/
def measT (t : Ty) : Int × Int := if (wkT t 1 ⟨0, 0, true⟩).ok then ((wkT t 1 ⟨0, 0, true⟩).n, (wkT t 1 ⟨0, 0, true⟩).d) else ((wkT t 1 ⟨0, 0, true⟩).n, dpT t 1)
set_option maxRecDepth 100000 in
set_option maxHeartbeats 4000000 in
theorem measuredT_calls (t : Ty) (cs : List Value) (w : World) (h : Snap) (H : Has w h) (r : TyR h t cs) :
    Calls Tryz.prog 176 #[.agg cs.toArray, .func (.func 114) #[] #[]] w fun e w' => e = .returned (.tuple #[.int .i64 (measT t).1, .int .i64 (measT t).2]) ∧ Below w.heap.size w w' := by
  obtain ⟨A, cap, rfl, hl, hm, hr⟩ := r.open_
  have hu36 := Tryz.underlying36
  have hmf := run_mf
  obtain ⟨p1, p2, p3, p4, hb⟩ := alloc4 w (.cells #[.string t.nm, .slice A t.ar.length cap] 36) (.cells #[.func (.func 114) #[] #[]] 146) (.cells #[.int .i64 0] 3) (.cells #[.int .i64 0] 3)
  go_enter Tryz.func176, Tryz.ntmps176
  go_wp2_with fail
  refine (guarded_calls 222 _ _ (fun q => q = w.heap.size + 1 + 1 ∨ q = w.heap.size + 1 + 1 + 1) (fun o W => (if (wkT t 1 ⟨0, 0, true⟩).ok then o = none else o = some 2) ∧ W.heap[w.heap.size + 1 + 1]? = some (.cells #[.int .i64 (wkT t 1 ⟨0, 0, true⟩).n] 3) ∧ W.heap[w.heap.size + 1 + 1 + 1]? = some (.cells #[.int .i64 (wkT t 1 ⟨0, 0, true⟩).d] 3)) (enters_ Tryz.func222 (by kernel_rfl) rfl) ?_ ?_).mono ?_
  · rintro W rfl
    refine (measT1_calls _ _ _ _ ⟨by omega, by omega, by omega⟩ t _ _ h ((H.below hb).alloc _) (H.off_new (fun q hq => by omega)) r (blk_alloc p3 _) (blk_alloc p4 _) (blk_alloc p2 _) (blk_alloc p1 _)).mono ?_
    rintro e w1 ⟨rfl, k1, g1, g2⟩
    refine ⟨if (wkT t 1 ⟨0, 0, true⟩).ok then none else some 2, ?_, k1, ?_, g1, g2⟩
    · unfold endM; split <;> rfl
    · split <;> rfl
  · intro q hq; have := blk_lt p4; omega
  rintro e w2 ⟨o, w1, rfl, ⟨q1, q2, q3⟩, k2, k3⟩
  have l4 := blk_lt p4
  have hb2 : Below w.heap.size w w2 := ((Kp.of_below (fun _ => False) hb).trans k2 (fun i hi hq => by omega)).below (fun _ _ hf => hf)
  have g1 := blk_kp q2 k3 (by simp <;> omega)
  have g2 := blk_kp q3 k3 (by simp <;> omega)
  have gt := blk_kp p1 k2 (by omega)
  have ga := blk_kp p2 k2 (by omega)
  have l5 := blk_lt g2
  have x1 := box1 g1
  have x2 := box1 g2
  have z1 := blk_frozen g1 0
  have z2 := blk_frozen g2 0
  obtain ⟨y1, y2⟩ := box2 gt
  have xa := box1 ga
  have Hw2 := H.below hb2
  generalize hM : wkT t 1 ⟨0, 0, true⟩ = M at *
  have hM' := Lib.hid hM
  clear hM k2 k3 q2 q3 hb p1 p2 p3 p4
  cases hok : M.ok
  · rw [hok] at q1
    simp only [Bool.false_eq_true, if_false] at q1
    subst q1
    have G := Lib.hid (show measT t = (M.n, dpT t 1) by unfold measT; rw [hM'.out, hok]; rfl)
    simp only [codeG]
    go_wp2_with fail
    refine (deepestT_calls t _ _ h Hw2 r).mono ?_
    rintro e w3 ⟨rfl, b3⟩
    have g1' := box_below g1 b3
    have g2' := box_below g2 b3
    have x1' := box1 g1'
    have x2' := box1 g2'
    have z1' := blk_frozen g1' 0
    have z2' := blk_frozen g2' 0
    have l5' := blk_lt g2'
    have hb3 := below_then hb2 b3 hb2.size
    clear x1 x2 z1 z2
    go_wp2_with fail
    obtain ⟨W, hW⟩ : ∃ W, W = w3.setCell ⟨w.heap.size + 1 + 1 + 1, 0, none⟩ (.int .i64 (dpT t 1)) := ⟨_, rfl⟩
    rw [← hW]
    have e1 : W.cell? ⟨w.heap.size + 1 + 1, 0, none⟩ = some (.int .i64 M.n) := by rw [hW]; exact box1 (blk_far g1' (by simp) _)
    have e2 : W.cell? ⟨w.heap.size + 1 + 1 + 1, 0, none⟩ = some (.int .i64 (dpT t 1)) := by rw [hW]; exact box1 (by simpa using blk_set g2' 0 _)
    have e3 : W.frozen? ⟨w.heap.size + 1 + 1, 0, none⟩ = false := by rw [hW]; exact blk_frozen (blk_far g1' (by simp) _) 0
    have e4 : W.frozen? ⟨w.heap.size + 1 + 1 + 1, 0, none⟩ = false := by rw [hW]; exact blk_frozen (by simpa using blk_set g2' 0 _) 0
    have e5 : Below w.heap.size w W := by rw [hW]; exact hb3.setCell (by simp; omega) _
    clear hW x1' x2' z1' z2'
    go_region
    go_wp2_with fail
    refine bodyPost_ret (v := .tuple #[.int .i64 M.n, .int .i64 (dpT t 1)]) ?_ rfl ?_
    · simp [results, Tryz.results176, go_sem, e1, e2]
    rw [G.out]
    exact ⟨rfl, ((e5.setCell (by simp; omega) _).setCell (by simp; omega) _).drew⟩
  · rw [hok] at q1
    simp only [if_true] at q1
    subst q1
    have G := Lib.hid (show measT t = (M.n, M.d) by unfold measT; rw [hM'.out, hok]; rfl)
    simp only [codeG]
    go_wp2_with fail
    go_region
    go_wp2_with fail
    refine bodyPost_ret (v := .tuple #[.int .i64 M.n, .int .i64 M.d]) ?_ rfl ?_
    · simp [results, Tryz.results176, go_sem, x1, x2]
    rw [G.out]
    exact ⟨rfl, ((hb2.setCell (by simp; omega) _).setCell (by simp; omega) _).drew⟩
/-- 'sized', of a type. -/
def sizedT (t : Ty) : Int := if 4000 < (measT t).1 then 2 else if 100 < (measT t).2 then 5 else 0
set_option maxRecDepth 100000 in
set_option maxHeartbeats 4000000 in
theorem sizedT_calls (t : Ty) (cs : List Value) (w : World) (h : Snap) (H : Has w h) (r : TyR h t cs) :
    Calls Tryz.prog 113 #[.agg cs.toArray, .func (.func 114) #[] #[]] w fun e w' => e = .returned (.int .i64 (sizedT t)) ∧ Below w.heap.size w w' := by
  obtain ⟨A, cap, rfl, hl, hm, hr⟩ := r.open_
  have hu36 := Tryz.underlying36
  have hb := (alloc1 w (.cells #[.string t.nm, .slice A t.ar.length cap] 36)).2
  have G := Lib.hid (show sizedT t = if 4000 < (measT t).1 then 2 else if 100 < (measT t).2 then 5 else 0 from rfl)
  go_enter Tryz.func113, Tryz.ntmps113
  go_wp2_with fail
  refine (measuredT_calls t _ _ h (H.below hb) r).mono ?_
  rintro e w1 ⟨rfl, b1⟩
  have hb1 := below_then hb b1 hb.size
  generalize (measT t).1 = x at *
  generalize (measT t).2 = y at *
  by_cases c1 : 4000 < x
  · have G' := Lib.hid (G.out.trans (if_pos c1))
    clear G
    go_wp2_with fail
    go_ret
    exact ⟨ret_int G'.out.symm, hb1⟩
  have G' := Lib.hid (G.out.trans (if_neg c1))
  clear G
  by_cases c2 : 100 < y
  · have G := Lib.hid (G'.out.trans (if_pos c2))
    clear G'
    go_wp2_with fail
    go_ret
    exact ⟨ret_int G.out.symm, hb1⟩
  have G := Lib.hid (G'.out.trans (if_neg c2))
  clear G'
  go_wp2_with fail
  go_ret
  exact ⟨ret_int G.out.symm, hb1⟩
end Go.Proofs.YtpgbeapojjinmaaGreatDoor
