/- Own text, made by wip/tools/dm.py out of text D: terms: the reference's nodes and depth. · Own text, made by wip/tools/dm.py out of text PA: plain law of the sizes of terms. No law is proved here. -/
import Derived.Test.YtpgbeapojjinmaaGreatDoorCC
set_option linter.unusedVariables false
set_option linter.unusedSimpArgs false
namespace Go.Proofs.YtpgbeapojjinmaaGreatDoor
open Go.RowKit Go.Proofs.YtpgbeapojjinmaaGreatDoorW.PrintLast
mutual
/-- 'termNodes': most is the bound. -/
def teN (most : Int) : Tm → Int → Int → Int
  | .mk _ _ _ l, n, d => teNL most l (n + 1) d
def teNL (most : Int) : List Tm → Int → Int → Int
  | [], n, _ => n
  | t :: ts, n, d => if n ≤ most ∧ 1 < d then teNL most ts (teN most t n (d - 1)) d else n
end
mutual
theorem teN_bd (most : Int) : ∀ (t : Tm) (n d : Int), n ≤ most → n < teN most t n d ∧ teN most t n d ≤ most + 1
  | .mk _ _ _ l, n, d, h => by
    have := teNL_bd most l (n + 1) d (by omega)
    rw [teN]; omega
theorem teNL_bd (most : Int) : ∀ (l : List Tm) (n d : Int), n ≤ most + 1 → n ≤ teNL most l n d ∧ teNL most l n d ≤ most + 1
  | [], n, d, h => by rw [teNL]; omega
  | t :: ts, n, d, h => by
    rw [teNL]
    split
    · rename_i hc
      have h1 := teN_bd most t n (d - 1) hc.1
      have h2 := teNL_bd most ts (teN most t n (d - 1)) d h1.2
      omega
    · omega
end
set_option maxRecDepth 100000 in
set_option maxHeartbeats 4000000 in
theorem termNodes_calls : ∀ (m : Nat) (t : Tm) (_ : t.sz ≤ m) (cs : List Value) (w : World) (h : Snap) (H : Has w h) (r : TmR h t cs) (n most d : Int) (h0 : 0 ≤ n) (h1 : n ≤ most) (h2 : most ≤ 1000000000) (h3 : 1 ≤ d) (h4 : d ≤ 1000000000),
    Calls Tryz.prog 83 #[.agg cs.toArray, .int .i64 n, .int .i64 most, .int .i64 d] w fun e w' => e = .returned (.int .i64 (teN most t n d)) ∧ Below w.heap.size w w' := by
  intro m
  induction m with
  | zero => intro t ht; have := t.sz_pos; omega
  | succ m ih =>
  rintro ⟨kk, nn, nm, ar⟩ ht cs w h H ⟨A, cap, rfl, hl, hm, hkk, hnn, hr⟩ n most d h0 h1 h2 h3 h4
  have hu34 := Tryz.underlying34
  have IH := Lib.hid ih
  clear ih
  have hm' := Lib.hid hm
  unfold lim at hm
  have hb := (Below.refl w.heap.size w).alloc (Nat.le_refl _) (.cells #[.int .i64 kk, .int .i64 nn, .string nm, .slice A ar.length cap] 34)
  go_enter Tryz.func83, Tryz.ntmps83
  go_wp2_with fail
  go_loopw [1, 9] (fun v i wr => ∃ (k : Nat) (q : Int), k ≤ ar.length ∧ i = .int .i64 k ∧ v = .int .i64 q ∧ 0 ≤ q ∧ q ≤ most + 1 ∧ Hid (teNL most (ar.drop k) q d = teN most (.mk kk nn nm ar) n d) ∧ wr.heap[w.heap.size]? = some (.cells #[.int .i64 kk, .int .i64 nn, .string nm, .slice A ar.length cap] 34) ∧ Below w.heap.size w wr) (fun _ i _ => ar.length - (intOf i).toNat)
  case atStart => exact ⟨0, n + 1, by omega, rfl, by go_num, by omega, by omega, by show teNL _ _ _ _ = _; rw [teN]; simp, blk_new _ _, hb⟩
  case round =>
    obtain ⟨k, q, hk, rfl, rfl, q0, q1, hI, hB, hbel⟩ := hrel
    have ls := blk_lt hB
    have hc1 := blk_cell hB 3
    by_cases hlt : k < ar.length
    · by_cases hq : q ≤ most
      · by_cases hd : 1 < d
        · obtain ⟨b, o, A', cap', rfl, e0, e1, e2, e3, rt⟩ := hr.get k hlt
          have hw := H.below hbel
          have hc2 := hw.cell _ _ e0
          have hc3 := hw.cell _ _ e1
          have hc4 := hw.cell _ _ e2
          have hc5 := hw.cell _ _ e3
          have ht' := Lib.hid (show ar[k].sz ≤ m by have h1 := ht; have h2 := Tm.sz_at ar k hlt; simp only [Tm.sz] at h1; omega)
          clear ht
          go_wp2_with fail
          refine (IH.out ar[k] ht'.out _ _ h hw rt q most (d - 1) q0 hq h2 (by omega) (by omega)).mono ?_
          rintro e w1 ⟨rfl, b1⟩
          have bd := teN_bd most ar[k] q (d - 1) hq
          have hB1 := blk_kp hB (Kp.of_below (fun _ => False) b1) (fun hf => hf)
          have hI' : Hid (teNL most (ar.drop (k + 1)) (teN most ar[k] q (d - 1)) d = teN most (.mk kk nn nm ar) n d) := by
            have := hI.out
            rw [List.drop_eq_getElem_cons hlt, teNL, if_pos ⟨hq, hd⟩] at this
            exact this
          generalize teN most ar[k] q (d - 1) = z at *
          go_wp2_with fail
          exact ⟨⟨k + 1, z, by omega, by go_num, rfl, by omega, by omega, hI', hB1, below_then hbel b1 (by omega)⟩, by simp [intOf]; omega⟩
        · have hI' : Hid (q = teN most (.mk kk nn nm ar) n d) := by
            have := hI.out
            rw [List.drop_eq_getElem_cons hlt, teNL, if_neg (by omega)] at this
            exact this
          go_wp2_with fail
          go_ret
          exact ⟨ret_int hI'.out, hbel⟩
      · have hI' : Hid (q = teN most (.mk kk nn nm ar) n d) := by
          have := hI.out
          rw [List.drop_eq_getElem_cons hlt, teNL, if_neg (by omega)] at this
          exact this
        go_wp2_with fail
        go_ret
        exact ⟨ret_int hI'.out, hbel⟩
    · have hI' : Hid (q = teN most (.mk kk nn nm ar) n d) := by
        have := hI.out
        rw [List.drop_eq_nil_of_le (by omega), teNL] at this
        exact this
      go_wp2_with fail
      go_ret
      exact ⟨ret_int hI'.out, hbel⟩
mutual
/-- 'termDepth'. -/
def teD : Tm → Int → Int
  | .mk _ _ _ l, m => min (teDL l m 0 + 1) m
def teDL : List Tm → Int → Int → Int
  | [], _, d => d
  | t :: ts, m, d => if 1 < m then teDL ts m (max d (teD t (m - 1))) else d
end
mutual
theorem teD_bd : ∀ (t : Tm) (m : Int), 1 ≤ m → 1 ≤ teD t m ∧ teD t m ≤ m
  | .mk _ _ _ l, m, h => by
    have := teDL_bd l m 0
    rw [teD]; omega
theorem teDL_bd : ∀ (l : List Tm) (m d : Int), d ≤ teDL l m d ∧ (d ≤ m → teDL l m d ≤ max m d)
  | [], m, d => by rw [teDL]; omega
  | t :: ts, m, d => by
    rw [teDL]
    split
    · rename_i hc
      have h1 := teD_bd t (m - 1) (by omega)
      have h2 := teDL_bd ts m (max d (teD t (m - 1)))
      omega
    · omega
end
set_option maxRecDepth 100000 in
set_option maxHeartbeats 4000000 in
theorem termDepth_calls : ∀ (m : Nat) (t : Tm) (_ : t.sz ≤ m) (cs : List Value) (w : World) (h : Snap) (H : Has w h) (r : TmR h t cs) (d : Int) (h3 : 1 ≤ d) (h4 : d ≤ 1000000000),
    Calls Tryz.prog 135 #[.agg cs.toArray, .int .i64 d] w fun e w' => e = .returned (.int .i64 (teD t d)) ∧ Below w.heap.size w w' := by
  intro m
  induction m with
  | zero => intro t ht; have := t.sz_pos; omega
  | succ m ih =>
  rintro ⟨kk, nn, nm, ar⟩ ht cs w h H ⟨A, cap, rfl, hl, hm, hkk, hnn, hr⟩ d h3 h4
  have hu34 := Tryz.underlying34
  have IH := Lib.hid ih
  clear ih
  have hm' := Lib.hid hm
  unfold lim at hm
  have hb := (Below.refl w.heap.size w).alloc (Nat.le_refl _) (.cells #[.int .i64 kk, .int .i64 nn, .string nm, .slice A ar.length cap] 34)
  go_enter Tryz.func135, Tryz.ntmps135
  go_wp2_with fail
  go_loopw [5, 6] (fun v i wr => ∃ (k : Nat) (q : Int), k ≤ ar.length ∧ i = .int .i64 k ∧ v = .int .i64 q ∧ 0 ≤ q ∧ q ≤ d ∧ Hid (teDL (ar.drop k) d q = teDL ar d 0) ∧ wr.heap[w.heap.size]? = some (.cells #[.int .i64 kk, .int .i64 nn, .string nm, .slice A ar.length cap] 34) ∧ Below w.heap.size w wr) (fun _ i _ => ar.length - (intOf i).toNat)
  case atStart => exact ⟨0, 0, by omega, rfl, rfl, by omega, by omega, by show teDL _ _ _ = _; simp, blk_new _ _, hb⟩
  case round =>
    obtain ⟨k, q, hk, rfl, rfl, q0, q1, hI, hB, hbel⟩ := hrel
    have ls := blk_lt hB
    have hc1 := blk_cell hB 3
    by_cases hlt : k < ar.length
    · by_cases hd : 1 < d
      · obtain ⟨b, o, A', cap', rfl, e0, e1, e2, e3, rt⟩ := hr.get k hlt
        have hw := H.below hbel
        have hc2 := hw.cell _ _ e0
        have hc3 := hw.cell _ _ e1
        have hc4 := hw.cell _ _ e2
        have hc5 := hw.cell _ _ e3
        have ht' := Lib.hid (show ar[k].sz ≤ m by have h1 := ht; have h2 := Tm.sz_at ar k hlt; simp only [Tm.sz] at h1; omega)
        clear ht
        go_wp2_with fail
        refine (IH.out ar[k] ht'.out _ _ h hw rt (d - 1) (by omega) (by omega)).mono ?_
        rintro e w1 ⟨rfl, b1⟩
        have bd := teD_bd ar[k] (d - 1) (by omega)
        have hB1 := blk_kp hB (Kp.of_below (fun _ => False) b1) (fun hf => hf)
        have hI' : Hid (teDL (ar.drop (k + 1)) d (max q (teD ar[k] (d - 1))) = teDL ar d 0) := by
          have := hI.out
          rw [List.drop_eq_getElem_cons hlt, teDL, if_pos hd] at this
          exact this
        generalize teD ar[k] (d - 1) = z at *
        go_wp2_with fail
        exact ⟨⟨k + 1, max q z, by omega, by go_num, (by first | rfl | exact val_int (max_ite q z)), by omega, by omega, hI', hB1, below_then hbel b1 (by omega)⟩, by simp [intOf]; omega⟩
      · have hI' : Hid (q = teDL ar d 0) := by
          have := hI.out
          rw [List.drop_eq_getElem_cons hlt, teDL, if_neg (by omega)] at this
          exact this
        go_wp2_with fail
        all_goals
          go_ret
          exact ⟨ret_int (by rw [teD, ← hI'.out] <;> omega), hbel⟩
    · have hI' : Hid (q = teDL ar d 0) := by
        have := hI.out
        rw [List.drop_eq_nil_of_le (by omega), teDL] at this
        exact this
      go_wp2_with fail
      all_goals
        go_ret
        exact ⟨ret_int (by rw [teD, ← hI'.out] <;> omega), hbel⟩
end Go.Proofs.YtpgbeapojjinmaaGreatDoor
namespace Go.Proofs.YtpgbeapojjinmaaGreatDoor
open Go.RowKit Go.Proofs.YtpgbeapojjinmaaGreatDoorW.PrintLast
theorem teNL_stop {l : List Tm} {n d : Int} (h : 4000 < n) : teNL 4000 l n d = n := by
  cases l with
  | nil => rw [teNL]
  | cons t ts => rw [teNL, if_neg (by omega)]
mutual
theorem wkM_eq : ∀ (t : Tm) (lv : Int) (m : Ms), 0 ≤ m.n → m.n ≤ 4000 → 1 ≤ lv → lv ≤ 101 → (wkM t lv m).n = teN 4000 t m.n (102 - lv) ∧ ((wkM t lv m).ok = true ↔ teN 4000 t m.n (102 - lv) ≤ 4000) ∧ ((wkM t lv m).ok = true → (wkM t lv m).d = max m.d (dpM t lv))
  | .mk _ _ nm l, lv, m, h0, h1, h2, h3 => by
    rw [wkM, teN, dpM]
    by_cases c : 4000 < m.n + 1
    · rw [if_pos c, teNL_stop c]
      exact ⟨rfl, ⟨fun h => by simp at h, fun h => by omega⟩, fun h => by simp at h⟩
    · rw [if_neg c]
      by_cases c2 : lv ≤ 100
      · rw [if_pos c2, if_pos c2]
        have := wkML_eq l (lv + 1) ⟨m.n + 1, max m.d lv, true⟩ (by show 0 ≤ m.n + 1; omega) (by show m.n + 1 ≤ 4000; omega) rfl (by omega) (by omega)
        rw [show (103 : Int) - (lv + 1) = 102 - lv by omega] at this
        refine ⟨this.1, this.2.1, fun h => ?_⟩
        rw [this.2.2 h, dpML_max]
      · rw [if_neg c2, if_neg c2]
        have hl : teNL 4000 l (m.n + 1) (102 - lv) = m.n + 1 := by
          cases l with
          | nil => rw [teNL]
          | cons t ts => rw [teNL, if_neg (by omega)]
        rw [hl]
        exact ⟨rfl, ⟨fun _ => by omega, fun _ => rfl⟩, fun _ => rfl⟩
theorem wkML_eq : ∀ (l : List Tm) (lv : Int) (m : Ms), 0 ≤ m.n → m.n ≤ 4000 → m.ok = true → 2 ≤ lv → lv ≤ 101 → (wkML l lv m).n = teNL 4000 l m.n (103 - lv) ∧ ((wkML l lv m).ok = true ↔ teNL 4000 l m.n (103 - lv) ≤ 4000) ∧ ((wkML l lv m).ok = true → (wkML l lv m).d = dpML l lv m.d)
  | [], lv, m, h0, h1, hk, h2, h3 => by
    rw [wkML, teNL, dpML]
    exact ⟨rfl, ⟨fun _ => h1, fun _ => hk⟩, fun _ => rfl⟩
  | t :: ts, lv, m, h0, h1, hk, h2, h3 => by
    have a := wkM_eq t lv m h0 h1 (by omega) h3
    have b := wkM_bd t lv m h0 h1
    rw [wkML, teNL, dpML, if_pos (show m.n ≤ 4000 ∧ (1 : Int) < 103 - lv from ⟨h1, by omega⟩), show (103 : Int) - lv - 1 = 102 - lv by omega]
    by_cases c : (wkM t lv m).ok = true
    · rw [if_pos c]
      have := wkML_eq ts lv (wkM t lv m) b.1 (b.2.2.1 c) c h2 h3
      rw [a.1, a.2.2 c] at this
      exact this
    · rw [if_neg c]
      have hn : 4000 < teN 4000 t m.n (102 - lv) := by have := mt a.2.1.2 c; omega
      rw [teNL_stop hn]
      exact ⟨a.1, ⟨fun h => absurd h c, fun h => by omega⟩, fun h => absurd h c⟩
theorem dpML_max : ∀ (l : List Tm) (lv a b : Int), dpML l lv (max a b) = max a (dpML l lv b)
  | [], lv, a, b => by rw [dpML, dpML]
  | t :: ts, lv, a, b => by rw [dpML, dpML, ← dpML_max ts]; congr 1; omega
end
mutual
theorem dpM_eq : ∀ (t : Tm) (lv : Int), 1 ≤ lv → lv ≤ 101 → dpM t lv = lv - 1 + teD t (102 - lv)
  | .mk _ _ nm l, lv, h1, h2 => by
    rw [dpM, teD]
    by_cases c : lv ≤ 100
    · have h := dpML_eq l lv 0 h1 c (by omega) (by omega)
      rw [Int.add_zero] at h
      rw [if_pos c, h.1]
      omega
    · rw [if_neg c]
      have hl : teDL l (102 - lv) 0 = 0 := by
        cases l with
        | nil => rw [teDL]
        | cons t ts => rw [teDL, if_neg (by omega)]
      rw [hl]
      omega
theorem dpML_eq : ∀ (l : List Tm) (lv d : Int), 1 ≤ lv → lv ≤ 100 → 0 ≤ d → d ≤ 101 - lv → dpML l (lv + 1) (lv + d) = lv + teDL l (102 - lv) d ∧ teDL l (102 - lv) d ≤ 101 - lv
  | [], lv, d, h1, h2, h3, h4 => by rw [dpML, teDL]; exact ⟨rfl, h4⟩
  | t :: ts, lv, d, h1, h2, h3, h4 => by
    have a := dpM_eq t (lv + 1) (by omega) (by omega)
    have b := teD_bd t (102 - lv - 1) (by omega)
    rw [show (102 : Int) - (lv + 1) = 102 - lv - 1 by omega] at a
    rw [dpML, teDL, if_pos (by omega), a]
    have := dpML_eq ts lv (max d (teD t (102 - lv - 1))) h1 h2 (by omega) (by omega)
    rw [← this.1]
    refine ⟨?_, this.2⟩
    congr 1
    omega
end
theorem measM_eq (t : Tm) : measM t = (teN 4000 t 0 101, teD t 101) := by
  have a := wkM_eq t 1 ⟨0, 0, true⟩ (by decide) (by decide) (by omega) (by omega)
  have b := dpM_eq t 1 (by omega) (by omega)
  have c := teD_bd t 101 (by omega)
  simp only [show (102 : Int) - 1 = 101 by omega] at a b
  unfold measM
  split
  · rename_i h
    rw [a.1, a.2.2 h, b]
    congr 1
    show max 0 (1 - 1 + teD t 101) = teD t 101
    omega
  · rw [a.1, b]
    congr 1
    omega
theorem sizedM_eq (t : Tm) : sizedM t = if 4000 < teN 4000 t 0 101 then 2 else if 100 < teD t 101 then 5 else 0 := by
  unfold sizedM
  rw [measM_eq]
/-! ### The whole size and the whole depth -/
mutual
def Tm.dep : Tm → Int
  | .mk _ _ _ l => Tm.depL l + 1
def Tm.depL : List Tm → Int
  | [] => 0
  | t :: ts => max (Tm.dep t) (Tm.depL ts)
end
mutual
theorem Tm.dep_pos : ∀ t : Tm, 1 ≤ t.dep
  | .mk _ _ _ l => by have := Tm.depL_pos l; rw [Tm.dep]; omega
theorem Tm.depL_pos : ∀ l : List Tm, 0 ≤ Tm.depL l
  | [] => by simp [Tm.depL]
  | t :: ts => by have := Tm.depL_pos ts; rw [Tm.depL]; omega
end
mutual
theorem teD_eq : ∀ (t : Tm) (m : Int), 1 ≤ m → teD t m = min t.dep m
  | .mk _ _ _ l, m, h => by
    have := teDL_eq l m 0 h (by omega)
    have h2 := Tm.depL_pos l
    rw [teD, this, Tm.dep]
    omega
theorem teDL_eq : ∀ (l : List Tm) (m d : Int), 1 ≤ m → 0 ≤ d → teDL l m d = max d (min (Tm.depL l) (m - 1))
  | [], m, d, h, h0 => by rw [teDL, Tm.depL]; omega
  | t :: ts, m, d, h, h0 => by
    have hp := Tm.dep_pos t
    have hq := Tm.depL_pos ts
    rw [teDL, Tm.depL]
    split
    · have a := teD_eq t (m - 1) (by omega)
      rw [teDL_eq ts m _ h (by omega), a]
      omega
    · omega
end
mutual
theorem teN_full : ∀ (t : Tm) (n m : Int), t.dep ≤ m → (n + t.sz ≤ 4000 → teN 4000 t n m = n + t.sz) ∧ (4000 < n + t.sz → 4000 < teN 4000 t n m)
  | .mk _ _ _ l, n, m, h => by
    rw [Tm.dep] at h
    have := teNL_full l (n + 1) m (by omega)
    rw [teN, Tm.sz]
    exact ⟨fun q => by rw [this.1 (by omega)]; omega, fun q => this.2 (by omega)⟩
theorem teNL_full : ∀ (l : List Tm) (n m : Int), Tm.depL l ≤ m - 1 → (n + Tm.szL l ≤ 4000 → teNL 4000 l n m = n + Tm.szL l) ∧ (4000 < n + Tm.szL l → 4000 < teNL 4000 l n m)
  | [], n, m, h => by rw [teNL, Tm.szL]; exact ⟨fun _ => by simp, fun q => by simpa using q⟩
  | t :: ts, n, m, h => by
    have hp := Tm.dep_pos t
    rw [Tm.depL] at h
    by_cases c : n ≤ 4000
    · have a := teN_full t n (m - 1) (by omega)
      rw [teNL, if_pos (show n ≤ 4000 ∧ (1 : Int) < m from ⟨c, by omega⟩), Tm.szL]
      by_cases c2 : n + t.sz ≤ 4000
      · rw [a.1 c2]
        have b := teNL_full ts (n + t.sz) m (by omega)
        exact ⟨fun q => by rw [b.1 (by omega)]; omega, fun q => b.2 (by omega)⟩
      · have q := a.2 (by omega)
        rw [teNL_stop q]
        exact ⟨fun q2 => by omega, fun _ => q⟩
    · rw [teNL_stop (by omega)]
      exact ⟨fun q2 => by omega, fun _ => by omega⟩
end
theorem sizedM_zero (t : Tm) : sizedM t = 0 ↔ t.sz ≤ 4000 ∧ t.dep ≤ 100 := by
  have a := teN_full t 0 101
  have b := teD_eq t 101 (by omega)
  rw [sizedM_eq]
  constructor
  · intro h
    split at h
    · cases h
    · split at h
      · cases h
      · have h1 : t.dep ≤ 101 := by omega
        have := (a h1).2
        omega
  · rintro ⟨h1, h2⟩
    have := (a (by omega)).1 (by omega)
    rw [if_neg (by omega), if_neg (by omega)]
end Go.Proofs.YtpgbeapojjinmaaGreatDoor
