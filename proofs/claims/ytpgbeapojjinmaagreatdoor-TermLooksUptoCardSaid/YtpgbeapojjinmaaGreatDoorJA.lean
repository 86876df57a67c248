/- term.worker: what it works out; raised[int] made, subst's head. No law is proved here. -/
import Derived.Test.YtpgbeapojjinmaaGreatDoorHH
set_option linter.unusedVariables false
set_option linter.unusedSimpArgs false
namespace Go.Proofs.YtpgbeapojjinmaaGreatDoor
open Go.RowKit Go.Shelf Go.Proofs.YtpgbeapojjinmaaGreatDoorW.PrintLast
abbrev WRes := Option (Sum Int (Tm × Int))
/-- A list is worked out from left to right. -/
def listW (r : Int → Tm → WRes) : Int → List Tm → Option (Sum Int (List Tm × Int))
  | c, [] => some (.inr ([], c))
  | c, t :: ts => match r c t with
    | none => none
    | some (.inl e) => some (.inl e)
    | some (.inr (u, c')) => match listW r c' ts with
      | some (.inr (us, c'')) => some (.inr (u :: us, c''))
      | x => x
/-- What the worker's methods are asked. -/
inductive WCmd where
  | rep (hd : Tm → Int → Option Tm × Int) (c : Int) (t : Tm) (b : Int)
  | app (c : Int) (t : Tm) (xs : List Tm)
  | sub (c : Int) (t s : Tm)
def okS (t : Tm) : Bool := allN smallN t && decide (t.ld ≤ 1000000000)
/-- The head of substitution. -/
def subHd (s : Tm) (t : Tm) (b : Int) : Option Tm × Int := if t.k ≠ 2 ∨ t.n < b then (none, t.n) else if t.n = b then (some (upB b s), 0) else (none, t.n - 1)
/-- replace, apply, subst of the program, with so much fuel; none: not told. -/
def runW : Nat → WCmd → WRes
  | 0, _ => none
  | f + 1, .rep hd c (.mk k n nm ar) b =>
    if k = 5 then match ar with
      | [] => none
      | a :: _ => match runW f (.rep hd c a (b + 1)) with
        | some (.inr (u, c')) => some (.inr (.mk 5 0 ⟨#[]⟩ [u], c'))
        | x => x
    else match listW (fun c t => runW f (.rep hd c t b)) c ar with
      | none => none
      | some (.inl e) => some (.inl e)
      | some (.inr (us, c')) => match hd (.mk k n nm ar) b with
        | (none, n') => some (.inr (.mk k n' nm us, c'))
        | (some s, _) => runW f (.app c' s us)
  | f + 1, .app c t [] => some (.inr (t, c))
  | f + 1, .app c (.mk k n nm ar) (a :: xs) =>
    if k = 5 then if c < 0 ∨ 2000 < c then none else (if c + 1 ≤ 2000 then match ar with
        | [] => none
        | body :: _ => match runW f (.sub (c + 1) body a) with
          | some (.inr (u, c')) => if (measM u).1 ≤ 4000 ∧ fitsP u = true ∧ u.ld ≤ 1000000000 then runW f (.app c' u xs) else if u.ld ≤ 1000000000 then some (.inl 2) else none
          | x => x
      else some (.inl 4))
    else none
  | f + 1, .sub c t s => if okS t && okS s then runW f (.rep (subHd s) c t 0) else none
/-- How a method of the worker ends. -/
def WPost (bc : Nat) (S : Nat → Prop) (I : Snap → World → Prop) (w : World) (h : Snap) (o : Sum Int (Tm × Int)) (e : Ending) (w' : World) : Prop := Kp (fun q => q = bc ∨ S q) w w' ∧ match o with
  | .inl x => e = .panicked (faultC x)
  | .inr (u, c') => ∃ cs' h', e = .returned (.agg cs'.toArray) ∧ TmR h' u cs' ∧ Mk w h w' h' ∧ I h' w' ∧ w'.heap[bc]? = some (.cells #[.int .i64 c'] 129)
/-- How a head function ends. -/
def HdPost (hd : Tm → Int → Option Tm × Int) (S : Nat → Prop) (I : Snap → World → Prop) (t : Tm) (b : Int) (W : World) (h : Snap) (e : Ending) (w' : World) : Prop := Kp S W w' ∧ (-9223372036854775808 ≤ (hd t b).2 ∧ (hd t b).2 ≤ 9223372036854775807) ∧
  ∃ ss h', e = .returned (.tuple #[.agg ss.toArray, .bool (hd t b).1.isSome, .int .i64 (hd t b).2]) ∧ TmR h' ((hd t b).1.getD tm0) ss ∧ Mk W h w' h' ∧ I h' w'
structure HeadW (okb : Int → Tm → Bool) (hd : Tm → Int → Option Tm × Int) (F : Nat) (cap : Array Value) (bc N0 : Nat) (S : Nat → Prop) (I : Snap → World → Prop) : Prop where
  call : ∀ (t : Tm) (cs : List Value) (b : Int) (W : World) (h : Snap), N0 ≤ W.heap.size → okb b t = true → Has W h → TmR h t cs → I h W → Calls Tryz.prog F (#[.agg cs.toArray, .int .i64 b] ++ cap) W (HdPost hd S I t b W h)
  ent : ∀ (args : Array Value) (w : World), (callFunc F args).run Tryz.prog w = .ok (.enter F args) w
  kp : ∀ h h' W W' (T : Nat → Prop), I h W → Kp T W W' → (∀ q, T q → q = bc ∨ N0 ≤ q) → Sub h h' → I h' W'
  off : ∀ h W, Has W h → I h W → Off h S
  lt : ∀ q, S q → q < N0 ∧ q ≠ bc
/-- What subst keeps in memory: the term, the map of its raised ones, and the function. -/
structure SubI (s : Tm) (bs bu bk bm : Nat) (h : Snap) (W : World) : Prop where
  up : UpI s bk bm h W
  bx : ∃ ss : List Value, W.heap[bs]? = some (.cells ss.toArray 34) ∧ TmR h s ss
  fn : W.heap[bu]? = some (.cells #[.func (.func 219) #[] #[.pointer (some ⟨bk, 0, none⟩)]] 191)
theorem SubI.kp {s : Tm} {bs bu bk bm : Nat} {h h' : Snap} {W W' : World} {S : Nat → Prop} (i : SubI s bs bu bk bm h W) (k : Kp S W W') (h1 : ¬ S bs) (h2 : ¬ S bu) (h3 : ¬ S bk) (h4 : ¬ S bm) (hs : Sub h h') : SubI s bs bu bk bm h' W' := by
  obtain ⟨u, ⟨ss, b1, r⟩, f⟩ := i
  exact ⟨u.kp k h3 h4 hs, ⟨ss, blk_kp b1 k h1, r.sub hs⟩, blk_kp f k h2⟩
set_option maxRecDepth 100000 in
set_option maxHeartbeats 4000000 in
theorem raised_calls (w : World) : Calls Tryz.prog 169 #[] w fun e w' => e = .returned (.func (.func 219) #[] #[.pointer (some ⟨w.heap.size + 1, 0, none⟩)]) ∧ w' = (w.alloc (.map #[] 0)).alloc (.cells #[.map (some w.heap.size)] 235) := by
  have hmf := run_mf
  have hmm := @run_makeMap Tryz.prog
  go_enter Tryz.func169, Tryz.ntmps169
  go_wp2_with fail
  go_ret
  exact ⟨rfl, rfl⟩
set_option maxRecDepth 100000 in
set_option maxHeartbeats 8000000 in
theorem subHd_calls (s : Tm) (bs bu bk bm bc N0 : Nat) (hN : bs < N0 ∧ bu < N0 ∧ bk < N0 ∧ bm < N0) (hn4 : bs ≠ bc ∧ bu ≠ bc ∧ bk ≠ bc ∧ bm ≠ bc) (hnm : bs ≠ bm ∧ bu ≠ bm ∧ bk ≠ bm) (hok : allN smallN s = true) (hz : s.ld ≤ 1000000000) :
    HeadW (fun b _ => decide (0 ≤ b ∧ b ≤ 1000000000)) (subHd s) 170 #[.pointer (some ⟨bu, 0, none⟩), .pointer (some ⟨bs, 0, none⟩)] bc N0 (fun q => q = bm) (SubI s bs bu bk bm) := by
  refine ⟨?_, enters_ Tryz.func170 (by kernel_rfl) rfl, fun h h' W W' T i k hT hs => i.kp k (fun q => by have := hT _ q; omega) (fun q => by have := hT _ q; omega) (fun q => by have := hT _ q; omega) (fun q => by have := hT _ q; omega) hs, fun h W H i => by
    obtain ⟨_, _, hb, _⟩ := i.up.mp; exact Off.map H hb, fun q e => by subst e; exact ⟨hN.2.2.2, hn4.2.2.2⟩⟩
  intro t cs b W h _ hb H r hi
  have hb' : 0 ≤ b ∧ b ≤ 1000000000 := by simpa using hb
  clear hb
  have r0 := r
  obtain ⟨A, cap, rfl, hl, hlm, hk1, hn1, hr⟩ := r.open_
  have hu34 := Tryz.underlying34
  obtain ⟨a1, a2, ab⟩ := alloc2 W (.cells #[.int .i64 t.k, .int .i64 t.n, .string t.nm, .slice A t.ar.length cap] 34) (.cells #[.int .i64 0, .int .i64 0, .string ⟨#[]⟩, .slice none 0 0] 34)
  have hv : subHd s t b = if t.k ≠ 2 ∨ t.n < b then (none, t.n) else if t.n = b then (some (upB b s), 0) else (none, t.n - 1) := rfl
  obtain ⟨hd, hhd⟩ : ∃ hd, subHd s = hd := ⟨_, rfl⟩
  rw [hhd] at hv ⊢
  clear hhd
  generalize t.k = k at *
  generalize t.n = n at *
  generalize t.nm = nm at *
  generalize t.ar.length = len at *
  have haA := blk_lt a1
  have haB := blk_lt a2
  obtain ⟨W0, hW0⟩ : ∃ W0, ((W.alloc (.cells #[.int .i64 k, .int .i64 n, .string nm, .slice A len cap] 34)).alloc (.cells #[.int .i64 0, .int .i64 0, .string ⟨#[]⟩, .slice none 0 0] 34)) = W0 := ⟨_, rfl⟩
  have sz0 : W0.heap.size = W.heap.size + 2 := by rw [← hW0]; simp
  rw [hW0] at a1 a2 ab haA haB
  have hW0' := Lib.hid hW0
  have sz0' := Lib.hid sz0
  clear hW0 sz0
  have x1 := box4 a1
  have x2 := box4 a2
  have f2 := blk_frozen a2
  have hr0 : TmR h tm0 [.int .i64 0, .int .i64 0, .string ⟨#[]⟩, .slice none 0 0] := tm0_R h
  obtain ⟨W4, hW4, b4, kp4⟩ : ∃ W4, (((((W0.setCell ⟨W.heap.size + 1, 0, none⟩ (.int .i64 0)).setCell ⟨W.heap.size + 1, 1, none⟩ (.int .i64 0)).setCell ⟨W.heap.size + 1, 2, none⟩ (.string ⟨#[]⟩)).setCell ⟨W.heap.size + 1, 3, none⟩ (.slice none 0 0)).drew) = W4 ∧
      W4.heap[W.heap.size + 1]? = some (.cells #[.int .i64 0, .int .i64 0, .string ⟨#[]⟩, .slice none 0 0] 34) ∧ Kp (fun q => q = W.heap.size + 1) W0 W4 := ⟨_, rfl, (set4 a2 _ _ _ _).1, ((set4 a2 (.int .i64 0) (.int .i64 0) (.string ⟨#[]⟩) (.slice none 0 0)).2).drew⟩
  have hW4' := Lib.hid hW4
  clear hW4
  have y4 := box4 b4
  have bel4 : Below W.heap.size W W4 := ((Kp.of_below (fun q => q = W.heap.size + 1) ab).trans kp4 (fun i hi e => e)).below (fun i hi e => by omega)
  have hi4 := Lib.hid (hi.kp (Kp.of_below (fun _ => False) bel4) (fun h => h) (fun h => h) (fun h => h) (fun h => h) (Sub.refl h))
  have xc4 : ∀ v, W0.cell? ⟨W.heap.size, 1, none⟩ = some v → W4.cell? ⟨W.heap.size, 1, none⟩ = some v := fun v e => cell_kp e kp4 (by simp)
  have xc4' := Lib.hid xc4
  clear xc4
  by_cases q : k ≠ 2 ∨ n < b
  · rw [if_pos q] at hv
    replace hv := Lib.hid hv
    rcases (show ((k != 2) = false ∧ n < b) ∨ ((k != 2) = true ∧ True) by
      by_cases e : k = 2
      · exact .inl ⟨by simp [e], q.resolve_left (fun h => h e)⟩
      · exact .inr ⟨by simp [e], trivial⟩) with ⟨q1, q2⟩ | ⟨q1, q2⟩
    all_goals clear q
    all_goals go_enter Tryz.func170, Tryz.ntmps170
    all_goals (go_wp2_with fail)
    all_goals
      rw [hW0'.out]
      refine rgs 6 (fun V => V.cell? ⟨W.heap.size, 1, none⟩ = some (.int .i64 n)) [] rfl ?_ (fun hS => ?_)
      · go_simp
      refine rgt 0 (.agg #[.int .i64 0, .int .i64 0, .string ⟨#[]⟩, .slice none 0 0]) rfl (by kernel_rfl) (fun _ _ _ h => h) rfl hS (fun V hV => by go_simp) ?_
      refine rgt 1 (.pointer (some ⟨W.heap.size, 1, none⟩)) rfl (by kernel_rfl) (fun _ _ _ h => h) rfl hS (fun V hV => by go_simp) ?_
      refine rgt 2 (.int .i64 n) rfl (by kernel_rfl) (fun _ _ _ h => h) rfl hS (fun V hV => by go_simp) ?_
      refine rg1 3 rfl (by kernel_rfl) (by decide) rfl (fun K hK => ?_)
      go_simp
      rw [hW4'.out]
      refine hK.out _ _ (xc4'.out _ hS) (fun hS => ?_)
      refine rgt 4 (.bool false) rfl (by kernel_rfl) (fun _ _ _ h => h) rfl hS (fun V hV => by go_simp) ?_
      refine rgt 5 (.int .i64 n) rfl (by kernel_rfl) (fun _ _ _ h => h) rfl hS (fun V hV => by go_simp) ?_
      refine rgd (by kernel_rfl) ?_
      go_wp2_with fail
      refine bodyPost_ret (v := .tuple #[.agg #[.int .i64 0, .int .i64 0, .string ⟨#[]⟩, .slice none 0 0], .bool false, .int .i64 n]) (by simp [results, Tryz.results170, go_sem, y4]) rfl ?_
      exact ⟨Kp.of_below _ bel4, by rw [hv.out]; exact hn1, _, h, by rw [hv.out]; rfl, by rw [hv.out]; exact hr0, Mk.refl (H.below bel4), hi4.out⟩
  · rw [if_neg q] at hv
    have q1 : (k != 2) = false := by simp; omega
    have q2 : b ≤ n := by omega
    clear q
    by_cases q3 : n = b
    · rw [if_pos q3] at hv
      replace hv := Lib.hid hv
      have hi0 := hi.kp (Kp.of_below (fun _ => False) ab) (fun h => h) (fun h => h) (fun h => h) (fun h => h) (Sub.refl h)
      have xu := box1 hi0.fn
      have lu := blk_lt hi0.fn
      obtain ⟨ss, hbs, hrs⟩ := hi0.bx
      obtain ⟨A', cap', rfl, _⟩ := hrs.open_
      obtain ⟨xs0, xs1, xs2, xs3⟩ := box4 hbs
      have ls := blk_lt hbs
      rw [← hW0'.out] at xu xs0 xs1 xs2 xs3 lu ls
      subst q3
      go_enter Tryz.func170, Tryz.ntmps170
      go_wp2_with fail
      rw [hW0'.out]
      have hlS : W.heap[bs]? = some (.cells [.int .i64 s.k, .int .i64 s.n, .string s.nm, .slice A' s.ar.length cap'].toArray 34) := by
        rw [← ab.block bs (by obtain ⟨_, b1, _⟩ := hi.bx; exact blk_lt b1)]; exact hbs
      have hbsl := blk_lt hlS
      have hbul := blk_lt hi.fn
      refine (up_calls s n bk bm _ W0 h (H.below ab) hrs hi0.up hb' hok hz).mono ?_
      rintro e w1 ⟨k1, cs', h', rfl, r', m', u'⟩
      have hi1 : SubI s bs bu bk bm h' w1 := ⟨u', ⟨_, blk_kp hbs k1 hnm.1, hrs.sub m'.sub⟩, blk_kp hi0.fn k1 hnm.2.1⟩
      obtain ⟨A1, c1, rfl, _⟩ := r'.open_
      have hbml : bm < W.heap.size := by obtain ⟨_, _, q1, _⟩ := hi.up.mp; exact blk_lt q1
      have hbkl := blk_lt hi.up.bx
      have e4 := blk_kp a2 k1 (by omega)
      have l4 := blk_lt e4
      have f4 := blk_frozen e4
      have x4 := box4 e4
      have s0 := sz0'.out
      have hi1' := Lib.hid hi1
      clear hi1 u'
      generalize upB n s = u at *
      go_wp2_with fail
      obtain ⟨W5, hW5, b5, kp5⟩ : ∃ W5, ((((w1.setCell ⟨W.heap.size + 1, 0, none⟩ (.int .i64 u.k)).setCell ⟨W.heap.size + 1, 1, none⟩ (.int .i64 u.n)).setCell ⟨W.heap.size + 1, 2, none⟩ (.string u.nm)).setCell ⟨W.heap.size + 1, 3, none⟩ (.slice A1 u.ar.length c1)) = W5 ∧
          W5.heap[W.heap.size + 1]? = some (.cells #[.int .i64 u.k, .int .i64 u.n, .string u.nm, .slice A1 u.ar.length c1] 34) ∧ Kp (fun q => q = W.heap.size + 1) w1 W5 := ⟨_, rfl, (set4 e4 _ _ _ _).1, (set4 e4 _ _ _ _).2⟩
      rw [hW5]
      have x5 := box4 b5
      refine bodyPost_ret (v := .tuple #[.agg #[.int .i64 u.k, .int .i64 u.n, .string u.nm, .slice A1 u.ar.length c1], .bool true, .int .i64 0]) (by simp [results, Tryz.results170, go_sem, x5]) rfl ?_
      exact ⟨((Kp.of_below (fun q => q = bm) ab).trans k1 (fun i hi e => e)).trans kp5 (fun i hi e => by omega), by rw [hv.out]; simp, _, h', by rw [hv.out]; rfl, by rw [hv.out]; exact r', (m'.from_ ab.size).world (m'.has.kp kp5 (m'.off (H.off_new (fun k hk => by omega)) (fun k hk => by omega))), hi1'.out.kp kp5 (by omega) (by omega) (by omega) (by omega) (Sub.refl _)⟩
    · rw [if_neg q3] at hv
      replace hv := Lib.hid hv
      have q4 : (n == b) = false := by simp [q3]
      have q5 : b < n := by omega
      have hw1 : IntKind.i64.wrap (n - 1) = n - 1 := IntWalk.i64_in _ (by omega)
      clear q3
      go_enter Tryz.func170, Tryz.ntmps170
      go_wp2_with fail
      rw [hW0'.out]
      refine rgs 7 (fun V => V.cell? ⟨W.heap.size, 1, none⟩ = some (.int .i64 n)) [] rfl ?_ (fun hS => ?_)
      · go_simp
      refine rgt 0 (.agg #[.int .i64 0, .int .i64 0, .string ⟨#[]⟩, .slice none 0 0]) rfl (by kernel_rfl) (fun _ _ _ h => h) rfl hS (fun V hV => by go_simp) ?_
      refine rgt 1 (.pointer (some ⟨W.heap.size, 1, none⟩)) rfl (by kernel_rfl) (fun _ _ _ h => h) rfl hS (fun V hV => by go_simp) ?_
      refine rgt 2 (.int .i64 n) rfl (by kernel_rfl) (fun _ _ _ h => h) rfl hS (fun V hV => by go_simp) ?_
      refine rgt 3 (.int .i64 (n - 1)) rfl (by kernel_rfl) (fun _ _ _ h => h) rfl hS (fun V hV => by go_simp) ?_
      refine rg1 4 rfl (by kernel_rfl) (by decide) rfl (fun K hK => ?_)
      go_simp
      rw [hW4'.out]
      refine hK.out _ _ (xc4'.out _ hS) (fun hS => ?_)
      refine rgt 5 (.bool false) rfl (by kernel_rfl) (fun _ _ _ h => h) rfl hS (fun V hV => by go_simp) ?_
      refine rgt 6 (.int .i64 (n - 1)) rfl (by kernel_rfl) (fun _ _ _ h => h) rfl hS (fun V hV => by go_simp) ?_
      refine rgd (by kernel_rfl) ?_
      go_wp2_with fail
      refine bodyPost_ret (v := .tuple #[.agg #[.int .i64 0, .int .i64 0, .string ⟨#[]⟩, .slice none 0 0], .bool false, .int .i64 (n - 1)]) (by simp [results, Tryz.results170, go_sem, y4]) rfl ?_
      exact ⟨Kp.of_below _ bel4, by rw [hv.out]; simp; omega, _, h, by rw [hv.out]; rfl, by rw [hv.out]; exact hr0, Mk.refl (H.below bel4), hi4.out⟩
end Go.Proofs.YtpgbeapojjinmaaGreatDoor
