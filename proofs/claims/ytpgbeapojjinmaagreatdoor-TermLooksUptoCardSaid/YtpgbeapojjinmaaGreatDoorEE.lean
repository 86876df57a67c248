/- term.shifted, made, Shift. No law is proved here. -/
import Derived.Test.YtpgbeapojjinmaaGreatDoorDD
set_option linter.unusedVariables false
set_option linter.unusedSimpArgs false
namespace Go.Proofs.YtpgbeapojjinmaaGreatDoor
open Go.RowKit Go.Shelf Go.Proofs.YtpgbeapojjinmaaGreatDoorW.PrintLast
/-- The zero term. -/
def tm0 : Tm := .mk 0 0 ⟨#[]⟩ []
theorem tm0_R (h : Snap) : TmR h tm0 [.int .i64 0, .int .i64 0, .string ⟨#[]⟩, .slice none 0 0] := ⟨none, 0, rfl, by simp, by simp [lim], by omega, by omega, trivial⟩
/-- The head of a shifted term. -/
def shG (up from_ : Int) (k n b : Int) : Option Int := if k ≠ 2 ∨ n < b + from_ then some n else if n + up ≤ 100000 then some (n + up) else none
theorem shG_in (up from_ : Int) (h0 : 0 ≤ up) : ∀ k n b n', -9223372036854775808 ≤ n ∧ n ≤ 9223372036854775807 → shG up from_ k n b = some n' → -9223372036854775808 ≤ n' ∧ n' ≤ 9223372036854775807 := by
  intro k n b n' hn e
  unfold shG at e
  split at e
  · cases e; exact hn
  · split at e
    · cases e; omega
    · cases e
/-- A term whose free bound variables from an index on are raised; none: too high. -/
def shT (up from_ : Int) (t : Tm) : Option Tm := rebT (shG up from_) 0 t
theorem nodeP_n {t : Tm} (h : nodeP t = true) : 0 ≤ t.n ∧ t.n ≤ 100000 := by
  unfold nodeP at h
  split at h
  · simp at h; omega
  · split at h
    · simp at h; omega
    · simp at h; omega
set_option maxRecDepth 100000 in
set_option maxHeartbeats 4000000 in
theorem shG_calls (w0 : World) (up from_ : Int) (bu bf : Nat) (hu : w0.heap[bu]? = some (.cells #[.int .i64 up] 3)) (hf : w0.heap[bf]? = some (.cells #[.int .i64 from_] 3)) (h0 : 0 ≤ up ∧ up ≤ 100000) (h1 : 0 ≤ from_ ∧ from_ ≤ 100000) :
    HeadFn nodeP w0 180 #[.pointer (some ⟨bf, 0, none⟩), .pointer (some ⟨bu, 0, none⟩)] (shG up from_) := by
  intro t cs b W h hW H r hnd hb0 hb1
  have r0 := r
  obtain ⟨A, cap, rfl, hl, hlm, hk1, hn1, hr⟩ := r.open_
  have hn2 := nodeP_n hnd
  clear hnd
  have hu34 := Tryz.underlying34
  have xu := box1 (box_below hu hW)
  have lu := blk_lt (box_below hu hW)
  have xf := box1 (box_below hf hW)
  have lf := blk_lt (box_below hf hW)
  obtain ⟨hB, hb⟩ := alloc1 W (.cells #[.int .i64 t.k, .int .i64 t.n, .string t.nm, .slice A t.ar.length cap] 34)
  generalize t.k = k at *
  generalize t.n = n at *
  generalize t.nm = nm at *
  generalize t.ar.length = len at *
  by_cases q : k = 2
  · subst q
    by_cases q2 : n < b + from_
    · have G := Lib.hid (show shG up from_ 2 n b = some n by rw [shG, if_pos (.inr q2)])
      go_enter Tryz.func180, Tryz.ntmps180
      go_wp2_with fail
      go_ret
      exact ⟨by rw [G.out]; rfl, hb⟩
    · have G := Lib.hid (show shG up from_ 2 n b = if n + up ≤ 100000 then some (n + up) else none by rw [shG, if_neg (by simp; omega)])
      have q3 : b + from_ ≤ n := by omega
      by_cases q4 : n + up ≤ 100000
      · rw [if_pos q4] at G
        go_enter Tryz.func180, Tryz.ntmps180
        go_wp2_with fail
        refine (must_ok 2 _).mono ?_
        rintro e w2 ⟨rfl, rfl⟩
        go_wp2_with fail
        go_ret
        exact ⟨by rw [G.out]; rfl, hb⟩
      · rw [if_neg q4] at G
        have q5 : decide (n + up ≤ 100000) = false := by simpa using q4
        go_enter Tryz.func180, Tryz.ntmps180
        go_wp2_with fail
        refine (must_no 2 _).mono ?_
        rintro e w2 ⟨rfl, rfl⟩
        exact ⟨rfl, by rw [G.out]; rfl, hb⟩
  · have G := Lib.hid (show shG up from_ k n b = some n by rw [shG, if_pos (.inl q)])
    have q' : (k != 2) = true := by simp [q]
    go_enter Tryz.func180, Tryz.ntmps180
    go_wp2_with fail
    go_ret
    exact ⟨by rw [G.out]; rfl, hb⟩
set_option maxRecDepth 100000 in
set_option maxHeartbeats 4000000 in
theorem shifted_calls (t : Tm) (up from_ : Int) (cs : List Value) (w : World) (h : Snap) (H : Has w h) (r : TmR h t cs) (hraw : rawN t = true) (hsz : t.sz ≤ 1000000) (h0 : 0 ≤ up ∧ up ≤ 100000) (h1 : 0 ≤ from_ ∧ from_ ≤ 100000) :
    Calls Tryz.prog 126 #[.agg cs.toArray, .int .i64 up, .int .i64 from_] w (MadeTm w h (sumO 2 (shT up from_ t))) := by
  obtain ⟨A, cap, rfl, hl, hlm, hk1, hn1, hr⟩ := r.open_
  have hu34 := Tryz.underlying34
  have hmf := run_mf
  obtain ⟨a1, a2, a3, a4, ab⟩ := alloc4 w (.cells #[.int .i64 t.k, .int .i64 t.n, .string t.nm, .slice A t.ar.length cap] 34) (.cells #[.int .i64 up] 3) (.cells #[.int .i64 from_] 3) (.cells #[.int .i64 0, .int .i64 0, .string ⟨#[]⟩, .slice none 0 0] 34)
  go_enter Tryz.func126, Tryz.ntmps126
  go_wp2_with fail
  have hh := shG_calls _ up from_ _ _ a2 a3 h0 h1
  refine (rebuilt_calls nodeP _ 180 _ (shG up from_) (enters_ Tryz.func180 (by kernel_rfl) rfl) hh (fun t b n' _ hn => shG_in up from_ h0.1 t.k t.n b n' hn) t.sz t (Nat.le_refl _) 0 (by have := t.ld_sz; omega) _ _ (Below.refl _ _) h (H.below ab) r ((allN_raw t).trans hraw)).mono ?_
  rintro e w1 ⟨k1, hm⟩
  have kk := below_then ab k1 ab.size
  rw [show rebT (shG up from_) 0 t = shT up from_ t from rfl] at hm
  generalize shT up from_ t = o at *
  cases o with
  | none =>
    subst hm
    exact ⟨rfl, kk, rfl⟩
  | some u =>
    obtain ⟨cs', h', rfl, r', m'⟩ := hm
    obtain ⟨A', cap', rfl, _⟩ := r'.open_
    have b4 := box_below a4 k1
    have l4 := blk_lt b4
    have f4 := blk_frozen b4
    have x4 := box4 b4
    go_wp2_with fail
    obtain ⟨W5, hW5, b5, kp5⟩ : ∃ W5, ((((w1.setCell ⟨w.heap.size + 1 + 1 + 1, 0, none⟩ (.int .i64 u.k)).setCell ⟨w.heap.size + 1 + 1 + 1, 1, none⟩ (.int .i64 u.n)).setCell ⟨w.heap.size + 1 + 1 + 1, 2, none⟩ (.string u.nm)).setCell ⟨w.heap.size + 1 + 1 + 1, 3, none⟩ (.slice A' u.ar.length cap')) = W5 ∧
        W5.heap[w.heap.size + 1 + 1 + 1]? = some (.cells #[.int .i64 u.k, .int .i64 u.n, .string u.nm, .slice A' u.ar.length cap'] 34) ∧ Kp (fun q => q = w.heap.size + 1 + 1 + 1) w1 W5 := ⟨_, rfl, (set4 b4 _ _ _ _).1, (set4 b4 _ _ _ _).2⟩
    rw [hW5]
    have x5 := box4 b5
    refine bodyPost_ret (v := .agg #[.int .i64 u.k, .int .i64 u.n, .string u.nm, .slice A' u.ar.length cap']) (by simp [results, Tryz.results126, go_sem, x5]) rfl ?_
    exact ⟨((Kp.of_below (fun q => q = w.heap.size + 1 + 1 + 1) kk).trans kp5 (fun i hi e => e)).below (fun i hi e => by omega), _, h', rfl, r', ((m'.from_ (by simp; omega)).world (m'.has.kp kp5 (m'.off (H.off_new (fun k hk => by omega)) (fun k hk => by simp; omega))))⟩
/-! ### made -/
theorem run_made (fn : Fn) (first cap : Array Value) (w : World) : (Instr.makeFunc fn first cap).run Tryz.prog w = .ok (.func fn first cap) w := rfl
/-- The term and the error that 'made' returns. -/
def tmS : Sum Int Tm → Tm
  | .inl _ => tm0
  | .inr u => u
def codeS : Sum Int Tm → Int
  | .inl c => c
  | .inr _ => 0
/-- How the function within 'made' ends. -/
def MadeFn (w : World) (h : Snap) (bt : Nat) (o : Sum Int Tm) (e : Ending) (w' : World) : Prop := Kp (fun q => q = bt) w w' ∧ match o with
  | .inl c => e = .panicked (faultC c) ∧ Below w.heap.size w w'
  | .inr u => ∃ cs' h', e = .returned (.tuple #[]) ∧ TmR h' u cs' ∧ Mk w h w' h' ∧ w'.heap[bt]? = some (.cells cs'.toArray 34)
set_option maxRecDepth 100000 in
set_option maxHeartbeats 4000000 in
theorem madefn_calls (f : Nat) (cap : Array Value) (bf bt : Nat) (w : World) (h : Snap) (H : Has w h) (o : Sum Int Tm) (he : ∀ (args : Array Value) (w : World), (callFunc f args).run Tryz.prog w = .ok (.enter f args) w)
    (hbf : w.heap[bf]? = some (.cells #[.func (.func f) #[] cap] 121)) (hbt : w.heap[bt]? = some (.cells #[.int .i64 0, .int .i64 0, .string ⟨#[]⟩, .slice none 0 0] 34)) (hne : bf ≠ bt) (ho : Off h (fun q => q = bt))
    (hf : Calls Tryz.prog f cap w (MadeTm w h o)) :
    Calls Tryz.prog 163 #[.pointer (some ⟨bf, 0, none⟩), .pointer (some ⟨bt, 0, none⟩)] w (MadeFn w h bt o) := by
  have hu34 := Tryz.underlying34
  have xf := box1 hbf
  have lf := blk_lt hbf
  have lt := blk_lt hbt
  go_enter Tryz.func163, Tryz.ntmps163
  go_wp2_with fail
  refine hf.mono ?_
  rintro e w1 ⟨k1, hm⟩
  cases o with
  | inl c =>
    subst hm
    exact ⟨rfl, Kp.of_below _ k1, rfl, k1⟩
  | inr u =>
    obtain ⟨cs', h', rfl, r', m'⟩ := hm
    obtain ⟨A', cap', rfl, _⟩ := r'.open_
    have b4 := box_below hbt k1
    have l4 := blk_lt b4
    have f4 := blk_frozen b4
    have x4 := box4 b4
    go_wp2_with fail
    obtain ⟨W5, hW5, b5, kp5⟩ : ∃ W5, ((((w1.setCell ⟨bt, 0, none⟩ (.int .i64 u.k)).setCell ⟨bt, 1, none⟩ (.int .i64 u.n)).setCell ⟨bt, 2, none⟩ (.string u.nm)).setCell ⟨bt, 3, none⟩ (.slice A' u.ar.length cap')) = W5 ∧
        W5.heap[bt]? = some (.cells #[.int .i64 u.k, .int .i64 u.n, .string u.nm, .slice A' u.ar.length cap'] 34) ∧ Kp (fun q => q = bt) w1 W5 := ⟨_, rfl, (set4 b4 _ _ _ _).1, (set4 b4 _ _ _ _).2⟩
    rw [hW5]
    go_end0
    exact ⟨(Kp.of_below _ k1).trans kp5 (fun i hi e => e), _, h', rfl, r', m'.world (m'.has.kp kp5 (m'.off ho (fun k hk => by rw [hk]; exact lt))), b5⟩
/-- What 'made' returns. -/
def MadeRes (w : World) (h : Snap) (o : Sum Int Tm) (e : Ending) (w' : World) : Prop := Below w.heap.size w w' ∧ ∃ cs' h', e = .returned (.tuple #[.agg cs'.toArray, .int .i64 (codeS o)]) ∧ TmR h' (tmS o) cs' ∧ Mk w h w' h'
set_option maxRecDepth 100000 in
set_option maxHeartbeats 4000000 in
theorem made_calls (f : Nat) (cap : Array Value) (w : World) (h : Snap) (H : Has w h) (o : Sum Int Tm) (hnz : ∀ c, o = .inl c → c ≠ 0) (he : ∀ (args : Array Value) (w : World), (callFunc f args).run Tryz.prog w = .ok (.enter f args) w)
    (hf : ∀ W, Below w.heap.size w W → Calls Tryz.prog f cap W (MadeTm W h o)) :
    Calls Tryz.prog 89 #[.func (.func f) #[] cap] w (MadeRes w h o) := by
  have hmf := run_mf
  obtain ⟨a1, a2, ab⟩ := alloc2 w (.cells #[.func (.func f) #[] cap] 121) (.cells #[.int .i64 0, .int .i64 0, .string ⟨#[]⟩, .slice none 0 0] 34)
  go_enter Tryz.func89, Tryz.ntmps89
  go_wp2_with fail
  refine (guarded_calls 163 _ _ (fun q => q = w.heap.size + 1) (fun c W => (match o with
    | .inl x => c = some x ∧ W.heap[w.heap.size + 1]? = some (.cells #[.int .i64 0, .int .i64 0, .string ⟨#[]⟩, .slice none 0 0] 34)
    | .inr u => c = none ∧ ∃ cs' h', TmR h' u cs' ∧ Mk w h W h' ∧ Off h' (fun q => w.heap.size ≤ q ∧ q < w.heap.size + 3) ∧ W.heap[w.heap.size + 1]? = some (.cells cs'.toArray 34))) (enters_ Tryz.func163 (by kernel_rfl) rfl) ?_ (fun k hk => by rw [hk]; simp)).mono ?_
  · rintro W rfl
    have b3 := ab.alloc ab.size (.cells #[.int .i64 0] 42)
    refine (madefn_calls f cap w.heap.size (w.heap.size + 1) _ h (H.below b3) o he (blk_alloc a1 _) (blk_alloc a2 _) (by omega) (H.off_new (fun k hk => by omega)) (hf _ b3)).mono ?_
    rintro e w2 ⟨k2, hm⟩
    cases o with
    | inl c => exact ⟨some c, hm.1, k2, rfl, box_below (blk_alloc a2 _) hm.2⟩
    | inr u =>
      obtain ⟨cs', h', rfl, r', m', b'⟩ := hm
      exact ⟨none, rfl, k2, rfl, cs', h', r', m'.from_ (by simp; omega), m'.off (H.off_new (fun k hk => hk.1)) (fun k hk => by simp; omega), b'⟩
  rintro e w3 ⟨c, w2, rfl, hq, k2, k3⟩
  have hb3 : Below w.heap.size w w3 := ((Kp.of_below (fun q => w.heap.size ≤ q) ab).trans k2 (fun i hi hh => by omega)).below (fun i hi hh => by omega)
  cases o with
  | inl x =>
    obtain ⟨rfl, b'⟩ := hq
    have hx := hnz x rfl
    have hx' : (x != 0) = true := by simp [hx]
    have b4 := blk_kp b' k3 (by simp)
    have l4 := blk_lt b4
    have f4 := blk_frozen b4
    have x4 := box4 b4
    simp only [codeG]
    go_wp2_with fail
    obtain ⟨W5, hW5, b5, kp5⟩ : ∃ W5, ((((w3.setCell ⟨w.heap.size + 1, 0, none⟩ (.int .i64 0)).setCell ⟨w.heap.size + 1, 1, none⟩ (.int .i64 0)).setCell ⟨w.heap.size + 1, 2, none⟩ (.string ⟨#[]⟩)).setCell ⟨w.heap.size + 1, 3, none⟩ (.slice none 0 0)) = W5 ∧
        W5.heap[w.heap.size + 1]? = some (.cells #[.int .i64 0, .int .i64 0, .string ⟨#[]⟩, .slice none 0 0] 34) ∧ Kp (fun q => q = w.heap.size + 1) w3 W5 := ⟨_, rfl, (set4 b4 _ _ _ _).1, (set4 b4 _ _ _ _).2⟩
    rw [hW5]
    have x5 := box4 b5
    have hb5 : Below w.heap.size w W5 := ((Kp.of_below (fun q => q = w.heap.size + 1) hb3).trans kp5 (fun i hi e => e)).below (fun i hi e => by omega)
    refine bodyPost_ret (v := .tuple #[.agg #[.int .i64 0, .int .i64 0, .string ⟨#[]⟩, .slice none 0 0], .int .i64 x]) (by simp [results, Tryz.results89, go_sem, x5]) rfl ?_
    exact ⟨hb5, _, h, rfl, tm0_R h, Mk.refl (H.below hb5)⟩
  | inr u =>
    obtain ⟨rfl, cs', h', r', m', ho', b'⟩ := hq
    obtain ⟨A', cap', rfl, _⟩ := r'.open_
    have b4 := blk_kp b' k3 (by simp)
    have l4 := blk_lt b4
    have f4 := blk_frozen b4
    have x4 := box4 b4
    have has3 := m'.has.kp k3 ⟨fun a v e hs => ho'.at_ a v e (by simp at hs; omega)⟩
    simp only [codeG]
    go_wp2_with fail
    obtain ⟨W5, hW5, b5, kp5⟩ : ∃ W5, ((((w3.setCell ⟨w.heap.size + 1, 0, none⟩ (.int .i64 u.k)).setCell ⟨w.heap.size + 1, 1, none⟩ (.int .i64 u.n)).setCell ⟨w.heap.size + 1, 2, none⟩ (.string u.nm)).setCell ⟨w.heap.size + 1, 3, none⟩ (.slice A' u.ar.length cap')) = W5 ∧
        W5.heap[w.heap.size + 1]? = some (.cells #[.int .i64 u.k, .int .i64 u.n, .string u.nm, .slice A' u.ar.length cap'] 34) ∧ Kp (fun q => q = w.heap.size + 1) w3 W5 := ⟨_, rfl, (set4 b4 _ _ _ _).1, (set4 b4 _ _ _ _).2⟩
    rw [hW5]
    have x5 := box4 b5
    have hb5 : Below w.heap.size w W5 := ((Kp.of_below (fun q => q = w.heap.size + 1) hb3).trans kp5 (fun i hi e => e)).below (fun i hi e => by omega)
    refine bodyPost_ret (v := .tuple #[.agg #[.int .i64 u.k, .int .i64 u.n, .string u.nm, .slice A' u.ar.length cap'], .int .i64 0]) (by simp [results, Tryz.results89, go_sem, x5]) rfl ?_
    exact ⟨hb5, _, h', rfl, r', m'.world (has3.kp kp5 ⟨fun a v e hs => ho'.at_ a v e (by omega)⟩)⟩
/-! ### Shift -/
set_option maxRecDepth 100000 in
set_option maxHeartbeats 4000000 in
theorem shiftfn_calls (t : Tm) (up from_ : Int) (cs : List Value) (bt bu bf : Nat) (w : World) (h : Snap) (H : Has w h) (r : TmR h t cs) (hraw : rawN t = true) (hsz : t.sz ≤ 1000000) (h0 : 0 ≤ up ∧ up ≤ 100000) (h1 : 0 ≤ from_ ∧ from_ ≤ 100000)
    (ht : w.heap[bt]? = some (.cells cs.toArray 34)) (hu : w.heap[bu]? = some (.cells #[.int .i64 up] 3)) (hf : w.heap[bf]? = some (.cells #[.int .i64 from_] 3)) :
    Calls Tryz.prog 125 #[.pointer (some ⟨bt, 0, none⟩), .pointer (some ⟨bu, 0, none⟩), .pointer (some ⟨bf, 0, none⟩)] w (MadeTm w h (sumO 2 (shT up from_ t))) := by
  obtain ⟨A, cap, rfl, hl, hlm, hk1, hn1, hr⟩ := r.open_
  have hu34 := Tryz.underlying34
  have xt := box4 ht
  have xu := box1 hu
  have xf := box1 hf
  have lt := blk_lt ht
  have lu := blk_lt hu
  have lf := blk_lt hf
  obtain ⟨a1, ab⟩ := alloc1 w (.cells #[.int .i64 0, .int .i64 0, .string ⟨#[]⟩, .slice none 0 0] 34)
  go_enter Tryz.func125, Tryz.ntmps125
  go_wp2_with fail
  refine (shifted_calls t up from_ _ _ h (H.below ab) r hraw hsz h0 h1).mono ?_
  rintro e w1 ⟨k1, hm⟩
  have kk := below_then ab k1 ab.size
  generalize shT up from_ t = o at *
  cases o with
  | none =>
    subst hm
    exact ⟨rfl, kk, rfl⟩
  | some u =>
    obtain ⟨cs', h', rfl, r', m'⟩ := hm
    obtain ⟨A', cap', rfl, _⟩ := r'.open_
    have b4 := box_below a1 k1
    have l4 := blk_lt b4
    have f4 := blk_frozen b4
    have x4 := box4 b4
    go_wp2_with fail
    obtain ⟨W5, hW5, b5, kp5⟩ : ∃ W5, ((((w1.setCell ⟨w.heap.size, 0, none⟩ (.int .i64 u.k)).setCell ⟨w.heap.size, 1, none⟩ (.int .i64 u.n)).setCell ⟨w.heap.size, 2, none⟩ (.string u.nm)).setCell ⟨w.heap.size, 3, none⟩ (.slice A' u.ar.length cap')) = W5 ∧
        W5.heap[w.heap.size]? = some (.cells #[.int .i64 u.k, .int .i64 u.n, .string u.nm, .slice A' u.ar.length cap'] 34) ∧ Kp (fun q => q = w.heap.size) w1 W5 := ⟨_, rfl, (set4 b4 _ _ _ _).1, (set4 b4 _ _ _ _).2⟩
    rw [hW5]
    have x5 := box4 b5
    refine bodyPost_ret (v := .agg #[.int .i64 u.k, .int .i64 u.n, .string u.nm, .slice A' u.ar.length cap']) (by simp [results, Tryz.results125, go_sem, x5]) rfl ?_
    exact ⟨((Kp.of_below (fun q => q = w.heap.size) kk).trans kp5 (fun i hi e => e)).below (fun i hi e => by omega), _, h', rfl, r', ((m'.from_ (by simp)).world (m'.has.kp kp5 (m'.off (H.off_new (fun k hk => by omega)) (fun k hk => by simp; omega))))⟩
/-- The error of Shift, and what it makes. -/
def shiftS (t : Tm) (up from_ : Int) : Sum Int Tm := if askedP t up from_ = 0 then sumO 2 (shT up from_ t) else .inl (askedP t up from_)
theorem rawN_of {t : Tm} (h : rawP t = 0) : rawN t = true := by
  unfold rawP at h
  split at h
  · split at h
    · assumption
    · omega
  · contradiction
theorem asked_in {t : Tm} {n m : Int} (h : askedP t n m = 0) : rawP t = 0 ∧ (0 ≤ n ∧ n ≤ 100000) ∧ (0 ≤ m ∧ m ≤ 100000) := by
  unfold askedP at h
  split at h
  · split at h
    · omega
    · rename_i h1 h2; exact ⟨h1, by omega, by omega⟩
  · rename_i h1; exact absurd h h1
theorem sumO_nz {o : Option Tm} : ∀ c, sumO 2 o = .inl c → c ≠ 0 := by
  cases o <;> simp [sumO] <;> omega
set_option maxRecDepth 100000 in
set_option maxHeartbeats 4000000 in
theorem Shift_calls (t : Tm) (up from_ : Int) (cs : List Value) (w : World) (h : Snap) (H : Has w h) (r : TmR h t cs) (hsz : rawP t = 0 → t.sz ≤ 1000000) :
    Calls Tryz.prog 45 #[.agg cs.toArray, .int .i64 up, .int .i64 from_] w (MadeRes w h (shiftS t up from_)) := by
  have hmf := run_mf
  have r0 := r
  obtain ⟨A, cap, rfl, hl, hlm, hk1, hn1, hr⟩ := r.open_
  have hu34 := Tryz.underlying34
  obtain ⟨a1, a2, a3, a4, ab⟩ := alloc4 w (.cells #[.int .i64 t.k, .int .i64 t.n, .string t.nm, .slice A t.ar.length cap] 34) (.cells #[.int .i64 up] 3) (.cells #[.int .i64 from_] 3) (.cells #[.int .i64 0, .int .i64 0, .string ⟨#[]⟩, .slice none 0 0] 34)
  go_enter Tryz.func45, Tryz.ntmps45
  go_wp2_with fail
  refine (asked_calls t up from_ _ _ h (H.below ab) r).mono ?_
  rintro e w1 ⟨rfl, k1⟩
  have kk := below_then ab k1 ab.size
  have b1 := box_below a1 k1
  have b2 := box_below a2 k1
  have b3 := box_below a3 k1
  have b4 := box_below a4 k1
  have l4 := blk_lt b4
  have f4 := blk_frozen b4
  have x4 := box4 b4
  by_cases q : askedP t up from_ = 0
  · have G := Lib.hid (show shiftS t up from_ = sumO 2 (shT up from_ t) by rw [shiftS, if_pos q])
    have hin := Lib.hid (asked_in q)
    have q' : (askedP t up from_ != 0) = false := by simp [q]
    clear q
    go_wp2_with fail
    refine (made_calls 125 _ _ h (H.below kk) (sumO 2 (shT up from_ t)) sumO_nz (enters_ Tryz.func125 (by kernel_rfl) rfl) (fun W hW => shiftfn_calls t up from_ _ _ _ _ W h ((H.below kk).below hW) r0 (rawN_of hin.out.1) (hsz hin.out.1) hin.out.2.1 hin.out.2.2 (box_below b1 hW) (box_below b2 hW) (box_below b3 hW))).mono ?_
    rintro e w3 ⟨k3, cs', h', rfl, r', m'⟩
    have kk3 := below_then kk k3 kk.size
    generalize sumO 2 (shT up from_ t) = o at *
    obtain ⟨A', cap', rfl, _⟩ := r'.open_
    have c4 := box_below b4 k3
    have l4 := blk_lt c4
    have f4 := blk_frozen c4
    have x4 := box4 c4
    go_wp2_with fail
    obtain ⟨W5, hW5, b5, kp5⟩ : ∃ W5, ((((w3.setCell ⟨w.heap.size + 1 + 1 + 1, 0, none⟩ (.int .i64 (tmS o).k)).setCell ⟨w.heap.size + 1 + 1 + 1, 1, none⟩ (.int .i64 (tmS o).n)).setCell ⟨w.heap.size + 1 + 1 + 1, 2, none⟩ (.string (tmS o).nm)).setCell ⟨w.heap.size + 1 + 1 + 1, 3, none⟩ (.slice A' (tmS o).ar.length cap')) = W5 ∧
        W5.heap[w.heap.size + 1 + 1 + 1]? = some (.cells #[.int .i64 (tmS o).k, .int .i64 (tmS o).n, .string (tmS o).nm, .slice A' (tmS o).ar.length cap'] 34) ∧ Kp (fun q => q = w.heap.size + 1 + 1 + 1) w3 W5 := ⟨_, rfl, (set4 c4 _ _ _ _).1, (set4 c4 _ _ _ _).2⟩
    rw [hW5]
    have x5 := box4 b5
    refine bodyPost_ret (v := .tuple #[.agg #[.int .i64 (tmS o).k, .int .i64 (tmS o).n, .string (tmS o).nm, .slice A' (tmS o).ar.length cap'], .int .i64 (codeS o)]) (by simp [results, Tryz.results45, go_sem, x5]) rfl ?_
    rw [G.out]
    have hs := ab.size
    have hs1 := k1.size
    exact ⟨((Kp.of_below (fun q => q = w.heap.size + 1 + 1 + 1) kk3).trans kp5 (fun i hi e => e)).below (fun i hi e => by omega), _, h', rfl, r', ((m'.from_ kk.size).world (m'.has.kp kp5 (m'.off (H.off_new (fun k hk => by omega)) (fun k hk => by rw [hk]; exact blk_lt b4))))⟩
  · have G := Lib.hid (show shiftS t up from_ = .inl (askedP t up from_) by rw [shiftS, if_neg q])
    have q' : (askedP t up from_ != 0) = true := by simp [q]
    clear q
    generalize askedP t up from_ = x at *
    go_wp2_with fail
    obtain ⟨W5, hW5, b5, kp5⟩ : ∃ W5, ((((w1.setCell ⟨w.heap.size + 1 + 1 + 1, 0, none⟩ (.int .i64 0)).setCell ⟨w.heap.size + 1 + 1 + 1, 1, none⟩ (.int .i64 0)).setCell ⟨w.heap.size + 1 + 1 + 1, 2, none⟩ (.string ⟨#[]⟩)).setCell ⟨w.heap.size + 1 + 1 + 1, 3, none⟩ (.slice none 0 0)) = W5 ∧
        W5.heap[w.heap.size + 1 + 1 + 1]? = some (.cells #[.int .i64 0, .int .i64 0, .string ⟨#[]⟩, .slice none 0 0] 34) ∧ Kp (fun q => q = w.heap.size + 1 + 1 + 1) w1 W5 := ⟨_, rfl, (set4 b4 _ _ _ _).1, (set4 b4 _ _ _ _).2⟩
    rw [hW5]
    have x5 := box4 b5
    have hb5 : Below w.heap.size w W5 := ((Kp.of_below (fun q => q = w.heap.size + 1 + 1 + 1) kk).trans kp5 (fun i hi e => e)).below (fun i hi e => by omega)
    refine bodyPost_ret (v := .tuple #[.agg #[.int .i64 0, .int .i64 0, .string ⟨#[]⟩, .slice none 0 0], .int .i64 x]) (by simp [results, Tryz.results45, go_sem, x5]) rfl ?_
    rw [G.out]
    exact ⟨hb5, _, h, rfl, tm0_R h, Mk.refl (H.below hb5)⟩
end Go.Proofs.YtpgbeapojjinmaaGreatDoor
