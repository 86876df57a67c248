/- Plain law of the document's Shift and Lift. · term.Lift. No law is proved here. -/
import Derived.Test.YtpgbeapojjinmaaGreatDoorPS
set_option linter.unusedVariables false
set_option linter.unusedSimpArgs false
namespace Go.Proofs.YtpgbeapojjinmaaGreatDoor
open Go.RowKit Go.Shelf Go.Proofs.YtpgbeapojjinmaaGreatDoorW.PrintLast
/-! ### The document's shift, lift, greatest and Equal -/
mutual
def rsT (up k : Int) : Tm → Tm
  | .mk kk n nm ar => .mk kk (if kk = 2 ∧ k ≤ n then n + up else n) nm (rsL up (if kk = 5 then k + 1 else k) ar)
def rsL (up k : Int) : List Tm → List Tm
  | [] => []
  | t :: ts => rsT up k t :: rsL up k ts
end
mutual
def rlT (up k : Int) : Tm → Tm
  | .mk kk n nm ar => .mk kk (if kk = 3 ∧ k ≤ n then n + up else n) nm (rlL up k ar)
def rlL (up k : Int) : List Tm → List Tm
  | [] => []
  | t :: ts => rlT up k t :: rlL up k ts
end
mutual
def grT : Tm → Int
  | .mk _ n _ ar => grL ar n
def grL : List Tm → Int → Int
  | [], m => m
  | t :: ts, m => grL ts (max m (grT t))
end
mutual
def eqT : Tm → Tm → Bool
  | .mk k n nm ar, t => k == t.k && (n == t.n && (nm.toList == t.nm.toList && (ar.length == t.ar.length && eqTL ar t.ar)))
def eqTL : List Tm → List Tm → Bool
  | [], _ => true
  | t :: ts, us => match us with
    | [] => false
    | u :: us => eqT t u && eqTL ts us
end
mutual
theorem eqT_self : ∀ t : Tm, eqT t t = true
  | .mk k n nm ar => by rw [eqT]; simp [Tm.k, Tm.n, Tm.nm, Tm.ar, eqTL_self ar]
theorem eqTL_self : ∀ l : List Tm, eqTL l l = true
  | [] => by rw [eqTL]
  | t :: ts => by rw [eqTL]; simp [eqT_self t, eqTL_self ts]
end
theorem grL_max : ∀ (l : List Tm) (a b : Int), grL l (max a b) = max a (grL l b)
  | [], a, b => by rw [grL, grL]
  | t :: ts, a, b => by rw [grL, grL, ← grL_max ts]; congr 1; omega
theorem grL_ge (l : List Tm) (a : Int) : a ≤ grL l a := by
  have := grL_max l a a
  rw [Int.max_self] at this
  omega
theorem grL_le {l : List Tm} {a : Int} {t : Tm} {ts : List Tm} (h : l = t :: ts) (b : Int) : grL l a ≤ b ↔ (grT t ≤ b ∧ grL ts a ≤ b) := by
  subst h
  have e : max a (grT t) = max (grT t) a := by omega
  rw [grL, e, grL_max]
  omega
/-- What a head must keep so that a rebuilding with a test is the one without. -/
def Agree (g : Int → Int → Int → Option Int) (g' : Int → Int → Int → Int) (b b' : Int) : Prop := ∀ k n, n ≤ 100000 → g k n b = if g' k n b' ≤ 100000 then some (g' k n b') else none
mutual
theorem rs_eq (up k : Int) : ∀ (b : Int) (t : Tm), rawN t = true → rebT (shG up k) b t = if grT (rsT up (b + k) t) ≤ 100000 then some (rsT up (b + k) t) else none
  | b, .mk kk n nm ar, h => by
    rw [rawN, Bool.and_eq_true] at h
    have hn : n ≤ 100000 := nodeP_le h.1
    have ih := rsL_eq up k (if kk = 5 then b + 1 else b) ar h.2
    have e : (if kk = 5 then b + 1 else b) + k = (if kk = 5 then b + k + 1 else b + k) := by split <;> omega
    rw [e] at ih
    rw [rebT, ih, rsT, grT]
    obtain ⟨n', hn'⟩ : ∃ n', (if kk = 2 ∧ b + k ≤ n then n + up else n) = n' := ⟨_, rfl⟩
    have hg : shG up k kk n b = if n' ≤ 100000 then some n' else none := by
      unfold shG
      by_cases c : kk ≠ 2 ∨ n < b + k
      · rw [if_neg (by omega)] at hn'
        rw [if_pos c, ← hn', if_pos hn]
      · rw [if_pos (by omega)] at hn'
        rw [if_neg c, ← hn']
    rw [hg, hn']
    generalize rsL up (if kk = 5 then b + k + 1 else b + k) ar = l
    have hge := grL_ge l n'
    have hz : grL l n' ≤ 100000 ↔ n' ≤ 100000 ∧ grL l 0 ≤ 100000 := by
      have h1 := grL_max l n' 0
      have h2 := grL_max l 0 n'
      have e : max n' 0 = max 0 n' := by omega
      rw [e, h2] at h1
      have h3 := grL_ge l 0
      omega
    by_cases c1 : n' ≤ 100000
    · rw [if_pos c1]
      by_cases c2 : grL l 0 ≤ 100000
      · rw [if_pos c2, if_pos (hz.2 ⟨c1, c2⟩)]; rfl
      · rw [if_neg c2, if_neg (fun q => c2 (hz.1 q).2)]; rfl
    · rw [if_neg c1, if_neg (fun q => c1 (hz.1 q).1)]; rfl
theorem rsL_eq (up k : Int) : ∀ (b : Int) (l : List Tm), rawNL l = true → rebL (shG up k) b l = if grL (rsL up (b + k) l) 0 ≤ 100000 then some (rsL up (b + k) l) else none
  | b, [], h => by rw [rebL, rsL, grL, if_pos (by omega)]
  | b, t :: ts, h => by
    rw [rawNL, Bool.and_eq_true] at h
    have h1 := rs_eq up k b t h.1
    have h2 := rsL_eq up k b ts h.2
    rw [rebL, h1, h2, rsL]
    have hz := grL_le (l := rsT up (b + k) t :: rsL up (b + k) ts) (a := 0) rfl 100000
    by_cases c1 : grT (rsT up (b + k) t) ≤ 100000
    · rw [if_pos c1]
      by_cases c2 : grL (rsL up (b + k) ts) 0 ≤ 100000
      · rw [if_pos c2, if_pos (hz.2 ⟨c1, c2⟩)]; rfl
      · rw [if_neg c2, if_neg (fun q => c2 (hz.1 q).2)]; rfl
    · rw [if_neg c1, if_neg (fun q => c1 (hz.1 q).1)]; rfl
end
def paG (up from_ : Int) (k n b : Int) : Option Int := if k ≠ 3 ∨ n < from_ then some n else if n + up ≤ 100000 then some (n + up) else none
def liT (up from_ : Int) (t : Tm) : Option Tm := rebT (paG up from_) 0 t
mutual
theorem rl_eq (up k : Int) : ∀ (b : Int) (t : Tm), rawN t = true → rebT (paG up k) b t = if grT (rlT up k t) ≤ 100000 then some (rlT up k t) else none
  | b, .mk kk n nm ar, h => by
    rw [rawN, Bool.and_eq_true] at h
    have hn : n ≤ 100000 := nodeP_le h.1
    have ih := rlL_eq up k (if kk = 5 then b + 1 else b) ar h.2
    rw [rebT, ih, rlT, grT]
    obtain ⟨n', hn'⟩ : ∃ n', (if kk = 3 ∧ k ≤ n then n + up else n) = n' := ⟨_, rfl⟩
    have hg : paG up k kk n b = if n' ≤ 100000 then some n' else none := by
      unfold paG
      by_cases c : kk ≠ 3 ∨ n < k
      · rw [if_neg (by omega)] at hn'
        rw [if_pos c, ← hn', if_pos hn]
      · rw [if_pos (by omega)] at hn'
        rw [if_neg c, ← hn']
    rw [hg, hn']
    generalize rlL up k ar = l
    have hge := grL_ge l n'
    have hz : grL l n' ≤ 100000 ↔ n' ≤ 100000 ∧ grL l 0 ≤ 100000 := by
      have h1 := grL_max l n' 0
      have h2 := grL_max l 0 n'
      have e : max n' 0 = max 0 n' := by omega
      rw [e, h2] at h1
      have h3 := grL_ge l 0
      omega
    by_cases c1 : n' ≤ 100000
    · rw [if_pos c1]
      by_cases c2 : grL l 0 ≤ 100000
      · rw [if_pos c2, if_pos (hz.2 ⟨c1, c2⟩)]; rfl
      · rw [if_neg c2, if_neg (fun q => c2 (hz.1 q).2)]; rfl
    · rw [if_neg c1, if_neg (fun q => c1 (hz.1 q).1)]; rfl
theorem rlL_eq (up k : Int) : ∀ (b : Int) (l : List Tm), rawNL l = true → rebL (paG up k) b l = if grL (rlL up k l) 0 ≤ 100000 then some (rlL up k l) else none
  | b, [], h => by rw [rebL, rlL, grL, if_pos (by omega)]
  | b, t :: ts, h => by
    rw [rawNL, Bool.and_eq_true] at h
    have h1 := rl_eq up k b t h.1
    have h2 := rlL_eq up k b ts h.2
    rw [rebL, h1, h2, rlL]
    have hz := grL_le (l := rlT up k t :: rlL up k ts) (a := 0) rfl 100000
    by_cases c1 : grT (rlT up k t) ≤ 100000
    · rw [if_pos c1]
      by_cases c2 : grL (rlL up k ts) 0 ≤ 100000
      · rw [if_pos c2, if_pos (hz.2 ⟨c1, c2⟩)]; rfl
      · rw [if_neg c2, if_neg (fun q => c2 (hz.1 q).2)]; rfl
    · rw [if_neg c1, if_neg (fun q => c1 (hz.1 q).1)]; rfl
end
/-- What the document's Shift and Lift are: a term and an error. -/
def rMove (f : Tm → Tm) (t : Tm) (up k : Int) : Tm × Int := if askedP t up k = 0 then (if grT (f t) ≤ 100000 then (f t, 0) else (tm0, 2)) else (tm0, askedP t up k)
def liftS (t : Tm) (up from_ : Int) : Sum Int Tm := if askedP t up from_ = 0 then sumO 2 (liT up from_ t) else .inl (askedP t up from_)
theorem shift_law (t : Tm) (up k : Int) : (tmS (shiftS t up k), codeS (shiftS t up k)) = rMove (rsT up k) t up k := by
  unfold shiftS rMove
  by_cases q : askedP t up k = 0
  · rw [if_pos q, if_pos q]
    unfold shT
    rw [rs_eq up k 0 t (rawN_of (asked_in q).1), Int.zero_add]
    split <;> rfl
  · rw [if_neg q, if_neg q]; rfl
theorem lift_law (t : Tm) (up k : Int) : (tmS (liftS t up k), codeS (liftS t up k)) = rMove (rlT up k) t up k := by
  unfold liftS rMove
  by_cases q : askedP t up k = 0
  · rw [if_pos q, if_pos q]
    unfold liT
    rw [rl_eq up k 0 t (rawN_of (asked_in q).1)]
    split <;> rfl
  · rw [if_neg q, if_neg q]; rfl
end Go.Proofs.YtpgbeapojjinmaaGreatDoor
namespace Go.Proofs.YtpgbeapojjinmaaGreatDoor
open Go.RowKit Go.Shelf Go.Proofs.YtpgbeapojjinmaaGreatDoorW.PrintLast
theorem paG_in (up from_ : Int) (h0 : 0 ≤ up) : ∀ k n b n', -9223372036854775808 ≤ n ∧ n ≤ 9223372036854775807 → paG up from_ k n b = some n' → -9223372036854775808 ≤ n' ∧ n' ≤ 9223372036854775807 := by
  intro k n b n' hn e
  unfold paG at e
  split at e
  · cases e; exact hn
  · split at e
    · cases e; omega
    · cases e
set_option maxRecDepth 100000 in
set_option maxHeartbeats 4000000 in
theorem paG_calls (w0 : World) (up from_ : Int) (bu bf : Nat) (hu : w0.heap[bu]? = some (.cells #[.int .i64 up] 3)) (hf : w0.heap[bf]? = some (.cells #[.int .i64 from_] 3)) (h0 : 0 ≤ up ∧ up ≤ 100000) (h1 : 0 ≤ from_ ∧ from_ ≤ 100000) :
    HeadFn nodeP w0 129 #[.pointer (some ⟨bf, 0, none⟩), .pointer (some ⟨bu, 0, none⟩)] (paG up from_) := by
  intro t cs b W h hW H r hnd hb0 hb1
  have r0 := r
  obtain ⟨A, cap, rfl, hl, hlm, hk1, hn1, hr⟩ := r.open_
  have hn2 := nodeP_n hnd
  clear hnd
  have hu34 := Tryz.underlying34
  have xu := box1 (box_below hu hW)
  have lu := blk_lt (box_below hu hW)
  have xf := box1 (box_below hf hW)
  have lf := blk_lt (box_below hf hW)
  obtain ⟨hB, hb⟩ := alloc1 W (.cells #[.int .i64 t.k, .int .i64 t.n, .string t.nm, .slice A t.ar.length cap] 34)
  generalize t.k = k at *
  generalize t.n = n at *
  generalize t.nm = nm at *
  generalize t.ar.length = len at *
  by_cases q : k = 3
  · subst q
    by_cases q2 : n < from_
    · have G := Lib.hid (show paG up from_ 3 n b = some n by rw [paG, if_pos (.inr q2)])
      go_enter Tryz.func129, Tryz.ntmps129
      go_wp2_with fail
      go_ret
      exact ⟨by rw [G.out]; rfl, hb⟩
    · have G := Lib.hid (show paG up from_ 3 n b = if n + up ≤ 100000 then some (n + up) else none by rw [paG, if_neg (by simp; omega)])
      have q3 : from_ ≤ n := by omega
      by_cases q4 : n + up ≤ 100000
      · rw [if_pos q4] at G
        go_enter Tryz.func129, Tryz.ntmps129
        go_wp2_with fail
        refine (must_ok 2 _).mono ?_
        rintro e w2 ⟨rfl, rfl⟩
        go_wp2_with fail
        go_ret
        exact ⟨by rw [G.out]; rfl, hb⟩
      · rw [if_neg q4] at G
        have q5 : decide (n + up ≤ 100000) = false := by simpa using q4
        go_enter Tryz.func129, Tryz.ntmps129
        go_wp2_with fail
        refine (must_no 2 _).mono ?_
        rintro e w2 ⟨rfl, rfl⟩
        exact ⟨rfl, by rw [G.out]; rfl, hb⟩
  · have G := Lib.hid (show paG up from_ k n b = some n by rw [paG, if_pos (.inl q)])
    have q' : (k != 3) = true := by simp [q]
    go_enter Tryz.func129, Tryz.ntmps129
    go_wp2_with fail
    go_ret
    exact ⟨by rw [G.out]; rfl, hb⟩
set_option maxRecDepth 100000 in
set_option maxHeartbeats 4000000 in
theorem liftfn_calls (t : Tm) (up from_ : Int) (cs : List Value) (bt bu bf : Nat) (w : World) (h : Snap) (H : Has w h) (r : TmR h t cs) (hraw : rawN t = true) (hsz : t.sz ≤ 1000000) (h0 : 0 ≤ up ∧ up ≤ 100000) (h1 : 0 ≤ from_ ∧ from_ ≤ 100000)
    (ht : w.heap[bt]? = some (.cells cs.toArray 34)) (hu : w.heap[bu]? = some (.cells #[.int .i64 up] 3)) (hf : w.heap[bf]? = some (.cells #[.int .i64 from_] 3)) :
    Calls Tryz.prog 127 #[.pointer (some ⟨bt, 0, none⟩), .pointer (some ⟨bf, 0, none⟩), .pointer (some ⟨bu, 0, none⟩)] w (MadeTm w h (sumO 2 (liT up from_ t))) := by
  obtain ⟨A, cap, rfl, hl, hlm, hk1, hn1, hr⟩ := r.open_
  have hu34 := Tryz.underlying34
  have xt := box4 ht
  have xu := box1 hu
  have xf := box1 hf
  have lt := blk_lt ht
  have lu := blk_lt hu
  have lf := blk_lt hf
  obtain ⟨a1, ab⟩ := alloc1 w (.cells #[.int .i64 0, .int .i64 0, .string ⟨#[]⟩, .slice none 0 0] 34)
  have hmf := run_mf
  go_enter Tryz.func127, Tryz.ntmps127
  go_wp2_with fail
  have hh := paG_calls _ up from_ _ _ (box_below hu ab) (box_below hf ab) h0 h1
  refine (rebuilt_calls nodeP _ 129 _ (paG up from_) (enters_ Tryz.func129 (by kernel_rfl) rfl) hh (fun t b n' _ hn => paG_in up from_ h0.1 t.k t.n b n' hn) t.sz t (Nat.le_refl _) 0 (by have := t.ld_sz; omega) _ _ (Below.refl _ _) h (H.below ab) r ((allN_raw t).trans hraw)).mono ?_
  rintro e w1 ⟨k1, hm⟩
  have kk := below_then ab k1 ab.size
  rw [show rebT (paG up from_) 0 t = liT up from_ t from rfl] at hm
  generalize liT up from_ t = o at *
  cases o with
  | none =>
    subst hm
    exact ⟨rfl, kk, rfl⟩
  | some u =>
    obtain ⟨cs', h', rfl, r', m'⟩ := hm
    obtain ⟨A', cap', rfl, _⟩ := r'.open_
    have b4 := box_below a1 k1
    have l4 := blk_lt b4
    have f4 := blk_frozen b4
    have x4 := box4 b4
    go_wp2_with fail
    obtain ⟨W5, hW5, b5, kp5⟩ : ∃ W5, ((((w1.setCell ⟨w.heap.size, 0, none⟩ (.int .i64 u.k)).setCell ⟨w.heap.size, 1, none⟩ (.int .i64 u.n)).setCell ⟨w.heap.size, 2, none⟩ (.string u.nm)).setCell ⟨w.heap.size, 3, none⟩ (.slice A' u.ar.length cap')) = W5 ∧
        W5.heap[w.heap.size]? = some (.cells #[.int .i64 u.k, .int .i64 u.n, .string u.nm, .slice A' u.ar.length cap'] 34) ∧ Kp (fun q => q = w.heap.size) w1 W5 := ⟨_, rfl, (set4 b4 _ _ _ _).1, (set4 b4 _ _ _ _).2⟩
    rw [hW5]
    have x5 := box4 b5
    refine bodyPost_ret (v := .agg #[.int .i64 u.k, .int .i64 u.n, .string u.nm, .slice A' u.ar.length cap']) (by simp [results, Tryz.results127, go_sem, x5]) rfl ?_
    exact ⟨((Kp.of_below (fun q => q = w.heap.size) kk).trans kp5 (fun i hi e => e)).below (fun i hi e => by omega), _, h', rfl, r', ((m'.from_ (by simp)).world (m'.has.kp kp5 (m'.off (H.off_new (fun k hk => by omega)) (fun k hk => by simp; omega))))⟩
set_option maxRecDepth 100000 in
set_option maxHeartbeats 4000000 in
theorem Lift_calls (t : Tm) (up from_ : Int) (cs : List Value) (w : World) (h : Snap) (H : Has w h) (r : TmR h t cs) (hsz : rawP t = 0 → t.sz ≤ 1000000) :
    Calls Tryz.prog 46 #[.agg cs.toArray, .int .i64 up, .int .i64 from_] w (MadeRes w h (liftS t up from_)) := by
  have hmf := run_mf
  have r0 := r
  obtain ⟨A, cap, rfl, hl, hlm, hk1, hn1, hr⟩ := r.open_
  have hu34 := Tryz.underlying34
  obtain ⟨a1, a2, a3, a4, ab⟩ := alloc4 w (.cells #[.int .i64 t.k, .int .i64 t.n, .string t.nm, .slice A t.ar.length cap] 34) (.cells #[.int .i64 up] 3) (.cells #[.int .i64 from_] 3) (.cells #[.int .i64 0, .int .i64 0, .string ⟨#[]⟩, .slice none 0 0] 34)
  go_enter Tryz.func46, Tryz.ntmps46
  go_wp2_with fail
  refine (asked_calls t up from_ _ _ h (H.below ab) r).mono ?_
  rintro e w1 ⟨rfl, k1⟩
  have kk := below_then ab k1 ab.size
  have b1 := box_below a1 k1
  have b2 := box_below a2 k1
  have b3 := box_below a3 k1
  have b4 := box_below a4 k1
  have l4 := blk_lt b4
  have f4 := blk_frozen b4
  have x4 := box4 b4
  by_cases q : askedP t up from_ = 0
  · have G := Lib.hid (show liftS t up from_ = sumO 2 (liT up from_ t) by rw [liftS, if_pos q])
    have hin := Lib.hid (asked_in q)
    have q' : (askedP t up from_ != 0) = false := by simp [q]
    clear q
    go_wp2_with fail
    refine (made_calls 127 _ _ h (H.below kk) (sumO 2 (liT up from_ t)) sumO_nz (enters_ Tryz.func127 (by kernel_rfl) rfl) (fun W hW => liftfn_calls t up from_ _ _ _ _ W h ((H.below kk).below hW) r0 (rawN_of hin.out.1) (hsz hin.out.1) hin.out.2.1 hin.out.2.2 (box_below b1 hW) (box_below b2 hW) (box_below b3 hW))).mono ?_
    rintro e w3 ⟨k3, cs', h', rfl, r', m'⟩
    have kk3 := below_then kk k3 kk.size
    generalize sumO 2 (liT up from_ t) = o at *
    obtain ⟨A', cap', rfl, _⟩ := r'.open_
    have c4 := box_below b4 k3
    have l4 := blk_lt c4
    have f4 := blk_frozen c4
    have x4 := box4 c4
    go_wp2_with fail
    obtain ⟨W5, hW5, b5, kp5⟩ : ∃ W5, ((((w3.setCell ⟨w.heap.size + 1 + 1 + 1, 0, none⟩ (.int .i64 (tmS o).k)).setCell ⟨w.heap.size + 1 + 1 + 1, 1, none⟩ (.int .i64 (tmS o).n)).setCell ⟨w.heap.size + 1 + 1 + 1, 2, none⟩ (.string (tmS o).nm)).setCell ⟨w.heap.size + 1 + 1 + 1, 3, none⟩ (.slice A' (tmS o).ar.length cap')) = W5 ∧
        W5.heap[w.heap.size + 1 + 1 + 1]? = some (.cells #[.int .i64 (tmS o).k, .int .i64 (tmS o).n, .string (tmS o).nm, .slice A' (tmS o).ar.length cap'] 34) ∧ Kp (fun q => q = w.heap.size + 1 + 1 + 1) w3 W5 := ⟨_, rfl, (set4 c4 _ _ _ _).1, (set4 c4 _ _ _ _).2⟩
    rw [hW5]
    have x5 := box4 b5
    refine bodyPost_ret (v := .tuple #[.agg #[.int .i64 (tmS o).k, .int .i64 (tmS o).n, .string (tmS o).nm, .slice A' (tmS o).ar.length cap'], .int .i64 (codeS o)]) (by simp [results, Tryz.results46, go_sem, x5]) rfl ?_
    rw [G.out]
    have hs := ab.size
    have hs1 := k1.size
    exact ⟨((Kp.of_below (fun q => q = w.heap.size + 1 + 1 + 1) kk3).trans kp5 (fun i hi e => e)).below (fun i hi e => by omega), _, h', rfl, r', ((m'.from_ kk.size).world (m'.has.kp kp5 (m'.off (H.off_new (fun k hk => by omega)) (fun k hk => by rw [hk]; exact blk_lt b4))))⟩
  · have G := Lib.hid (show liftS t up from_ = .inl (askedP t up from_) by rw [liftS, if_neg q])
    have q' : (askedP t up from_ != 0) = true := by simp [q]
    clear q
    generalize askedP t up from_ = x at *
    go_wp2_with fail
    obtain ⟨W5, hW5, b5, kp5⟩ : ∃ W5, ((((w1.setCell ⟨w.heap.size + 1 + 1 + 1, 0, none⟩ (.int .i64 0)).setCell ⟨w.heap.size + 1 + 1 + 1, 1, none⟩ (.int .i64 0)).setCell ⟨w.heap.size + 1 + 1 + 1, 2, none⟩ (.string ⟨#[]⟩)).setCell ⟨w.heap.size + 1 + 1 + 1, 3, none⟩ (.slice none 0 0)) = W5 ∧
        W5.heap[w.heap.size + 1 + 1 + 1]? = some (.cells #[.int .i64 0, .int .i64 0, .string ⟨#[]⟩, .slice none 0 0] 34) ∧ Kp (fun q => q = w.heap.size + 1 + 1 + 1) w1 W5 := ⟨_, rfl, (set4 b4 _ _ _ _).1, (set4 b4 _ _ _ _).2⟩
    rw [hW5]
    have x5 := box4 b5
    have hb5 : Below w.heap.size w W5 := ((Kp.of_below (fun q => q = w.heap.size + 1 + 1 + 1) kk).trans kp5 (fun i hi e => e)).below (fun i hi e => by omega)
    refine bodyPost_ret (v := .tuple #[.agg #[.int .i64 0, .int .i64 0, .string ⟨#[]⟩, .slice none 0 0], .int .i64 x]) (by simp [results, Tryz.results46, go_sem, x5]) rfl ?_
    rw [G.out]
    exact ⟨hb5, _, h, rfl, tm0_R h, Mk.refl (H.below hb5)⟩
end Go.Proofs.YtpgbeapojjinmaaGreatDoor
