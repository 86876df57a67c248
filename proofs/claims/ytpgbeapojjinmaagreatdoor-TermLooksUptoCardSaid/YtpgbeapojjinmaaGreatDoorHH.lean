/- term.raised at int. No law is proved here. -/
import Derived.Test.YtpgbeapojjinmaaGreatDoorGG
import Derived.Maps.Keyed
set_option linter.unusedVariables false
set_option linter.unusedSimpArgs false
namespace Go.Proofs.YtpgbeapojjinmaaGreatDoor
open Go.RowKit Go.Shelf Go.Proofs.YtpgbeapojjinmaaGreatDoorW.PrintLast
/-- The head of a raised term. -/
def upG (up : Int) (k n b : Int) : Option Int := some (if k = 2 ∧ b ≤ n then n + up else n)
mutual
theorem rebT_tot {g : Int → Int → Int → Option Int} (hg : ∀ k n b, (g k n b).isSome = true) : ∀ (b : Int) (t : Tm), (rebT g b t).isSome = true
  | b, .mk k n nm ar => by
    have h1 := hg k n b
    have h2 := rebL_tot hg (if k = 5 then b + 1 else b) ar
    rw [rebT]
    cases hx : g k n b with
    | none => rw [hx] at h1; cases h1
    | some z =>
      cases hy : rebL g (if k = 5 then b + 1 else b) ar with
      | none => rw [hy] at h2; cases h2
      | some l => rfl
theorem rebL_tot {g : Int → Int → Int → Option Int} (hg : ∀ k n b, (g k n b).isSome = true) : ∀ (b : Int) (l : List Tm), (rebL g b l).isSome = true
  | b, [] => rfl
  | b, t :: ts => by
    have h1 := rebT_tot hg b t
    have h2 := rebL_tot hg b ts
    rw [rebL]
    cases hx : rebT g b t with
    | none => rw [hx] at h1; cases h1
    | some z =>
      cases hy : rebL g b ts with
      | none => rw [hy] at h2; cases h2
      | some l => rfl
end
/-- A term whose free bound variables are raised. -/
def upT (up : Int) (t : Tm) : Tm := (rebT (upG up) 0 t).getD tm0
theorem upT_eq (up : Int) (t : Tm) : rebT (upG up) 0 t = some (upT up t) := by
  have := rebT_tot (g := upG up) (fun _ _ _ => rfl) 0 t
  unfold upT
  cases hx : rebT (upG up) 0 t with
  | none => rw [hx] at this; cases this
  | some u => rfl
/-- Numbers that are not too great to be raised. -/
def smallN (t : Tm) : Bool := decide (0 ≤ t.n ∧ t.n ≤ 1000000000)
theorem zero34 (w : World) : (zeroValue 34).run Tryz.prog w = .ok (.agg #[.int .i64 0, .int .i64 0, .string ⟨#[]⟩, .slice none 0 0]) w := by kernel_rfl
/-- A block becomes another object. -/
def mapSet (w : World) (b : Nat) (o : Obj) : World := { w with heap := w.heap.setIfInBounds b o }
theorem keyed3 : Maps.Keyed Tryz.prog 3 := Maps.int_keyed Tryz.underlying3
theorem key3 {k : Int} (h : 0 ≤ k ∧ k ≤ 1000000000) : keyOf Tryz.prog 3 (.int .i64 k) = some (.int .i64 k) := Maps.keyOf_int_mk Tryz.underlying3 (by simp [Lit.wf, IntKind.min, IntKind.max, IntKind.bits, IntKind.signed] <;> omega)
/-- A map whose keys are plain: what looking up a key, and storing one that is not there, does. -/
theorem look_run {t K : TypeId} {E : TypeId} (hu : Tryz.prog.underlying t = some (.map K E)) (KK : Maps.Keyed Tryz.prog K) {z : Value} (hz : ∀ w, (zeroValue E).run Tryz.prog w = .ok z w) {w : World} {bm : Nat} {es : Array MapEntry} {cl : Nat} (hb : w.heap[bm]? = some (.map es cl)) {key : Value} {l : Lit} (hkey : keyOf Tryz.prog K key = some l) (hk : ∀ e ∈ es.toList, ∃ l, keyOf Tryz.prog K e.key = some l) :
    ((∀ e ∈ es.toList, e.key ≠ key) ∧ (Instr.lookup t (.map (some bm)) key true).run Tryz.prog w = .ok (.tuple #[z, .bool false]) w ∧
      ∀ v, (Instr.mapUpdate t (.map (some bm)) key v).run Tryz.prog w = .ok () (mapSet w bm (.map (es.push { key := key, val := v, born := cl }) (cl + 1)))) ∨
    ∃ e, e ∈ es.toList ∧ e.key = key ∧ (Instr.lookup t (.map (some bm)) key true).run Tryz.prog w = .ok (.tuple #[e.val, .bool true]) w ∧ (Instr.lookup t (.map (some bm)) key false).run Tryz.prog w = .ok e.val w := by
  rcases KK.find w hkey es.toList hk with ⟨h1, h2⟩ | ⟨j, e0, h1, h2, h3⟩
  · refine .inl ⟨h2, ?_, fun v => ?_⟩
    · simp [Instr.lookup, run_underlying hu, MapKept.run_getObj_map hb, KK.check w _ hkey, h1, hz, Result.andThen]
    · simp [Instr.mapUpdate, run_underlying hu, MapKept.run_getObj_map hb, KK.check w _ hkey, h1, MapKept.run_setObj_map _ hb, Result.andThen, mapSet]
  · refine .inr ⟨e0, List.mem_of_getElem? h2, h3, ?_, ?_⟩
    · simp [Instr.lookup, run_underlying hu, MapKept.run_getObj_map hb, KK.check w _ hkey, h1, Result.andThen]
    · simp [Instr.lookup, run_underlying hu, MapKept.run_getObj_map hb, KK.check w _ hkey, h1, Result.andThen]
theorem mapSet_kp (w : World) (b : Nat) (o : Obj) : Kp (fun q => q = b) w (mapSet w b o) := ⟨rfl, rfl, rfl, by simp [mapSet], fun k hk hn => by simp only [mapSet]; exact Array.getElem?_setIfInBounds_ne (fun e => hn e.symm)⟩
theorem mapSet_at {w : World} {b : Nat} {o' : Obj} (hb : w.heap[b]? = some o') (o : Obj) : (mapSet w b o).heap[b]? = some o := by
  simp only [mapSet]; exact Array.getElem?_setIfInBounds_self_of_lt (blk_lt hb)
theorem upG_in (up : Int) (h0 : 0 ≤ up ∧ up ≤ 1000000000) (t : Tm) (ht : smallN t = true) : ∀ k b n', upG up k t.n b = some n' → 0 ≤ n' ∧ n' ≤ 2000000000 := by
  intro k b n' e
  unfold smallN at ht
  simp at ht
  unfold upG at e
  cases e
  split <;> omega
set_option maxRecDepth 100000 in
set_option maxHeartbeats 4000000 in
theorem uphead_calls (w0 : World) (up : Int) (bu : Nat) (hu : w0.heap[bu]? = some (.cells #[.int .i64 up] 3)) (h0 : 0 ≤ up ∧ up ≤ 1000000000) :
    HeadFn smallN w0 220 #[.pointer (some ⟨bu, 0, none⟩)] (upG up) := by
  intro t cs b W h hW H r hnd hb0 hb1
  obtain ⟨A, cap, rfl, hl, hlm, hk1, hn1, hr⟩ := r.open_
  have hn2 : 0 ≤ t.n ∧ t.n ≤ 1000000000 := by unfold smallN at hnd; simpa using hnd
  clear hnd
  have hu34 := Tryz.underlying34
  have xu := box1 (box_below hu hW)
  have lu := blk_lt (box_below hu hW)
  obtain ⟨hB, hb⟩ := alloc1 W (.cells #[.int .i64 t.k, .int .i64 t.n, .string t.nm, .slice A t.ar.length cap] 34)
  generalize t.k = k at *
  generalize t.n = n at *
  generalize t.nm = nm at *
  generalize t.ar.length = len at *
  by_cases q : k = 2
  · subst q
    by_cases q2 : b ≤ n
    · have G := Lib.hid (show upG up 2 n b = some (n + up) by rw [upG, if_pos ⟨rfl, q2⟩])
      go_enter Tryz.func220, Tryz.ntmps220
      go_wp2_with fail
      go_ret
      exact ⟨by rw [G.out]; rfl, hb⟩
    · have G := Lib.hid (show upG up 2 n b = some n by rw [upG, if_neg (by omega)])
      have q3 : n < b := by omega
      go_enter Tryz.func220, Tryz.ntmps220
      go_wp2_with fail
      go_ret
      exact ⟨by rw [G.out]; rfl, hb⟩
  · have G := Lib.hid (show upG up k n b = some n by rw [upG, if_neg (by omega)])
    have q' : (k == 2) = false := by simp [q]
    go_enter Tryz.func220, Tryz.ntmps220
    go_wp2_with fail
    go_ret
    exact ⟨by rw [G.out]; rfl, hb⟩
/-- What the map of raised terms holds. -/
structure UpI (s : Tm) (bk bm : Nat) (h : Snap) (W : World) : Prop where
  bx : W.heap[bk]? = some (.cells #[.map (some bm)] 235)
  mp : ∃ es cl, W.heap[bm]? = some (.map es cl) ∧ ∀ e ∈ es.toList, ∃ (k : Int) (cs : List Value), e.key = .int .i64 k ∧ (0 ≤ k ∧ k ≤ 1000000000) ∧ e.val = .agg cs.toArray ∧ TmR h (upT k s) cs
theorem UpI.kp {s : Tm} {bk bm : Nat} {h h' : Snap} {W W' : World} {S : Nat → Prop} (u : UpI s bk bm h W) (k : Kp S W W') (hk : ¬ S bk) (hm : ¬ S bm) (hs : Sub h h') : UpI s bk bm h' W' := by
  obtain ⟨b1, es, cl, b2, hes⟩ := u
  exact ⟨blk_kp b1 k hk, es, cl, blk_kp b2 k hm, fun e he => by
    obtain ⟨z, cs, h1, h2, h3, h4⟩ := hes e he
    exact ⟨z, cs, h1, h2, h3, h4.sub hs⟩⟩
/-- What is put for the bound variable below so many binders. -/
def upB (b : Int) (s : Tm) : Tm := if b = 0 then s else upT b s
def UpPost (s : Tm) (b : Int) (bk bm : Nat) (w : World) (h : Snap) (e : Ending) (w' : World) : Prop := Kp (fun q => q = bm) w w' ∧ ∃ cs' h', e = .returned (.agg cs'.toArray) ∧ TmR h' (upB b s) cs' ∧ Mk w h w' h' ∧ UpI s bk bm h' w'
theorem Off.map {h : Snap} {W : World} (H : Has W h) {bm : Nat} {es : Array MapEntry} {cl : Nat} (hb : W.heap[bm]? = some (.map es cl)) : Off h (fun q => q = bm) := ⟨fun a v e hs => by
  have := H.cell a v e
  rw [World.cell?, hs, hb] at this
  cases this⟩
set_option maxRecDepth 100000 in
set_option maxHeartbeats 8000000 in
theorem up_calls (s : Tm) (b : Int) (bk bm : Nat) (cs : List Value) (w : World) (h : Snap) (H : Has w h) (r : TmR h s cs) (hi : UpI s bk bm h w) (hb : 0 ≤ b ∧ b ≤ 1000000000) (hs : allN smallN s = true) (hz : s.ld ≤ 1000000000) :
    Calls Tryz.prog 219 (#[.int .i64 b, .agg cs.toArray, .int .i64 b] ++ #[.pointer (some ⟨bk, 0, none⟩)]) w (UpPost s b bk bm w h) := by
  have r0 := r
  obtain ⟨A, cap, rfl, hl, hlm, hk1, hn1, hr⟩ := r.open_
  have hu34 := Tryz.underlying34
  have hmf := run_mf
  obtain ⟨a1, a2, a3, ab⟩ := alloc3 w (.cells #[.int .i64 s.k, .int .i64 s.n, .string s.nm, .slice A s.ar.length cap] 34) (.cells #[.int .i64 b] 3) (.cells #[.int .i64 0, .int .i64 0, .string ⟨#[]⟩, .slice none 0 0] 34)
  have hbx := hi.bx
  have xk := box1 hbx
  have lk := blk_lt hbx
  by_cases q : b = 0
  · subst q
    have f3 := blk_frozen a3
    have x3 := box4 a3
    have l3 := blk_lt a3
    go_enter Tryz.func219, Tryz.ntmps219
    go_wp2_with fail
    obtain ⟨c1, c2, c3, cb⟩ := alloc3 w (.cells #[.int .i64 s.k, .int .i64 s.n, .string s.nm, .slice A s.ar.length cap] 34) (.cells #[.int .i64 0] 3) (.cells #[.int .i64 s.k, .int .i64 s.n, .string s.nm, .slice A s.ar.length cap] 34)
    have y3 := box4 c3
    refine bodyPost_ret (v := .agg #[.int .i64 s.k, .int .i64 s.n, .string s.nm, .slice A s.ar.length cap]) (by simp [results, Tryz.results219, go_sem, y3]) rfl ?_
    exact ⟨Kp.of_below _ cb, _, h, rfl, by rw [upB, if_pos rfl]; exact r0, Mk.refl (H.below cb), hi.kp (Kp.of_below (fun _ => False) cb) (fun h => h) (fun h => h) (Sub.refl h)⟩
  · have q' : (b == 0) = false := by simp [q]
    have G := Lib.hid (show upB b s = upT b s by rw [upB, if_neg q])
    clear q
    obtain ⟨es, cl, hbm, hes⟩ := hi.mp
    have hkey := key3 (k := b) (by omega)
    have hk : ∀ e ∈ es.toList, ∃ l, keyOf Tryz.prog 3 e.key = some l := fun e he => by
      obtain ⟨z, _, h1, h2, _⟩ := hes e he
      exact ⟨_, by rw [h1]; exact key3 h2⟩
    have hb3 := blk_alloc (blk_alloc (blk_alloc hbm (.cells #[.int .i64 s.k, .int .i64 s.n, .string s.nm, .slice A s.ar.length cap] 34)) (.cells #[.int .i64 b] 3)) (.cells #[.int .i64 0, .int .i64 0, .string ⟨#[]⟩, .slice none 0 0] 34)
    have xk3 := cell_alloc (cell_alloc (cell_alloc xk (.cells #[.int .i64 s.k, .int .i64 s.n, .string s.nm, .slice A s.ar.length cap] 34)) (.cells #[.int .i64 b] 3)) (.cells #[.int .i64 0, .int .i64 0, .string ⟨#[]⟩, .slice none 0 0] 34)
    have hes' := Lib.hid hes
    clear hes
    rcases look_run Tryz.underlying235 keyed3 zero34 hb3 hkey hk with ⟨hno, hl1, hup⟩ | ⟨e, he, hek, hl1, hl2⟩
    · have hno' := Lib.hid hno
      clear hno hup
      have z4 := zero34
      obtain ⟨W0, hW0⟩ : ∃ W0, ((((w.alloc (.cells #[.int .i64 s.k, .int .i64 s.n, .string s.nm, .slice A s.ar.length cap] 34)).alloc (.cells #[.int .i64 b] 3)).alloc (.cells #[.int .i64 0, .int .i64 0, .string ⟨#[]⟩, .slice none 0 0] 34)).alloc (.cells #[.int .i64 0, .int .i64 0, .string ⟨#[]⟩, .slice none 0 0] 34)) = W0 := ⟨_, rfl⟩
      have ab4 : Below w.heap.size w W0 := by rw [← hW0]; exact ab.alloc ab.size _
      have sz4 : W0.heap.size = w.heap.size + 4 := by rw [← hW0]; simp
      have d1 : W0.heap[w.heap.size]? = some (.cells #[.int .i64 s.k, .int .i64 s.n, .string s.nm, .slice A s.ar.length cap] 34) := by rw [← hW0]; exact blk_alloc a1 _
      have d2 : W0.heap[w.heap.size + 1]? = some (.cells #[.int .i64 b] 3) := by rw [← hW0]; exact blk_alloc a2 _
      have d3 : W0.heap[w.heap.size + 1 + 1]? = some (.cells #[.int .i64 0, .int .i64 0, .string ⟨#[]⟩, .slice none 0 0] 34) := by rw [← hW0]; exact blk_alloc a3 _
      have dm : W0.heap[bm]? = some (.map es cl) := by rw [← hW0]; exact blk_alloc hb3 _
      have dk := box_below hbx ab4
      have hW0' := Lib.hid hW0
      have hm_lt := blk_lt hbm
      have hne : bm ≠ bk := fun e => by rw [e, hbx] at hbm; cases hbm
      clear hW0
      go_enter Tryz.func219, Tryz.ntmps219
      go_wp2_with fail
      rw [hW0'.out]
      have xk4 := box1 dk
      have x1 := box4 d1
      have lk4 := blk_lt dk
      have l14 := blk_lt d1
      refine rgs 6 (fun W => W.cell? ⟨bk, 0, none⟩ = some (.map (some bm)) ∧ W.cell? ⟨w.heap.size, 0, none⟩ = some (.int .i64 s.k) ∧ W.cell? ⟨w.heap.size, 1, none⟩ = some (.int .i64 s.n) ∧ W.cell? ⟨w.heap.size, 2, none⟩ = some (.string s.nm) ∧ W.cell? ⟨w.heap.size, 3, none⟩ = some (.slice A s.ar.length cap)) [5] rfl ?_ (fun hS => ?_)
      · go_simp
      refine rgt 0 (.map (some bm)) rfl (by kernel_rfl) (fun _ _ _ h => h) rfl hS (fun W hW => by obtain ⟨q1, q2, q3, q4, q5⟩ := hW; go_simp) ?_
      refine rgt 1 (.int .i64 b) rfl (by kernel_rfl) (fun _ _ _ h => h) rfl hS (fun W hW => by go_simp) ?_
      refine rgt 2 (.agg #[.int .i64 s.k, .int .i64 s.n, .string s.nm, .slice A s.ar.length cap]) rfl (by kernel_rfl) (fun _ _ _ h => h) rfl hS (fun W hW => by obtain ⟨q1, q2, q3, q4, q5⟩ := hW; go_simp) ?_
      refine rgt 3 (.func (.func 220) #[] #[.pointer (some ⟨w.heap.size + 1, 0, none⟩)]) rfl (by kernel_rfl) (fun _ _ _ h => h) rfl hS (fun W hW => by go_simp) ?_
      refine rg1 4 rfl (by kernel_rfl) (by decide) rfl (fun K hK => ?_)
      go_simp
      refine (rebuilt_calls smallN W0 220 _ (upG b) (enters_ Tryz.func220 (by kernel_rfl) rfl) (uphead_calls W0 b _ d2 (by omega)) (fun t b' n' ht _ e => by have := upG_in b (by omega) t ht _ _ _ e; omega) s.sz s (Nat.le_refl _) 0 (by omega) _ _ (Below.refl _ _).drew h (H.below ab4).drew r0 hs).mono ?_
      rintro e w1 ⟨k1, hm⟩
      rw [upT_eq] at hm
      obtain ⟨cs', h', rfl, r', m'⟩ := hm
      obtain ⟨A', cap', rfl, _⟩ := r'.open_
      simp only []
      have k1' := undrew k1
      have kk1 := below_then ab4 k1' ab4.size
      refine hK.out _ _ ?_ (fun hS => ?_)
      · obtain ⟨q1, q2, q3, q4, q5⟩ := hS
        exact ⟨cell_below q1 k1, cell_below q2 k1, cell_below q3 k1, cell_below q4 k1, cell_below q5 k1⟩
      refine rgl 5 rfl (by kernel_rfl) (by decide) rfl (fun K hK => ?_)
      have em := box_below dm k1'
      rcases look_run Tryz.underlying235 keyed3 zero34 em hkey hk with ⟨_, _, hup⟩ | ⟨e', he', hek', _, _⟩
      rotate_left
      · exact absurd hek' (hno'.out e' he')
      have hupv := hup (.agg #[.int .i64 (upT b s).k, .int .i64 (upT b s).n, .string (upT b s).nm, .slice A' (upT b s).ar.length cap'])
      clear hup
      go_simp
      have kp2 : Kp (fun q => q = bm) w1 _ := mapSet_kp w1 bm (.map (es.push { key := .int .i64 b, val := .agg #[.int .i64 (upT b s).k, .int .i64 (upT b s).n, .string (upT b s).nm, .slice A' (upT b s).ar.length cap'], born := cl }) (cl + 1))
      have em2 := mapSet_at em (.map (es.push { key := .int .i64 b, val := .agg #[.int .i64 (upT b s).k, .int .i64 (upT b s).n, .string (upT b s).nm, .slice A' (upT b s).ar.length cap'], born := cl }) (cl + 1))
      refine hK.out _ _ ?_
      refine rgd (by kernel_rfl) ?_
      obtain ⟨W2, hW2⟩ : ∃ W2, mapSet w1 bm (.map (es.push { key := .int .i64 b, val := .agg #[.int .i64 (upT b s).k, .int .i64 (upT b s).n, .string (upT b s).nm, .slice A' (upT b s).ar.length cap'], born := cl }) (cl + 1)) = W2 := ⟨_, rfl⟩
      rw [hW2] at kp2 em2 ⊢
      clear hW2 hupv
      have hne1 : bk ≠ bm := fun e => hne e.symm
      have lbm := blk_lt hbm
      have e3 := blk_kp (box_below d3 k1') kp2 (by omega)
      have ek := blk_kp (box_below dk k1') kp2 hne1
      have yk := box1 ek
      have lyk := blk_lt ek
      have ye3 := box4 e3
      have fe3 := blk_frozen e3
      have le3 := blk_lt e3
      have hk2 : ∀ e ∈ (es.push { key := .int .i64 b, val := .agg #[.int .i64 (upT b s).k, .int .i64 (upT b s).n, .string (upT b s).nm, .slice A' (upT b s).ar.length cap'], born := cl } : Array MapEntry).toList, ∃ (k : Int) (cs : List Value), e.key = .int .i64 k ∧ (0 ≤ k ∧ k ≤ 1000000000) ∧ e.val = .agg cs.toArray ∧ TmR h' (upT k s) cs := by
        intro e he
        simp only [Array.toList_push, List.mem_append, List.mem_singleton] at he
        rcases he with he | rfl
        · obtain ⟨z, cs, g1, g2, g3, g4⟩ := hes'.out e he
          exact ⟨z, cs, g1, g2, g3, g4.sub m'.sub⟩
        · exact ⟨b, _, rfl, by omega, rfl, r'⟩
      rcases look_run Tryz.underlying235 keyed3 zero34 em2 hkey (fun e he => by
        obtain ⟨z, _, g1, g2, _⟩ := hk2 e he
        exact ⟨_, by rw [g1]; exact key3 g2⟩) with ⟨hno2, _, _⟩ | ⟨e', he', hek', _, hl4⟩
      · exact absurd rfl (hno2 { key := .int .i64 b, val := .agg #[.int .i64 (upT b s).k, .int .i64 (upT b s).n, .string (upT b s).nm, .slice A' (upT b s).ar.length cap'], born := cl } (by simp))
      obtain ⟨z', cs'', hy1, hy2, hy3, hy4⟩ := hk2 e' he'
      rw [hek'] at hy1
      cases hy1
      obtain ⟨A'', cap'', rfl, _⟩ := hy4.open_
      rw [hy3] at hl4
      have hk2' := Lib.hid hk2
      have em2' := Lib.hid em2
      clear hk2 em2 em he' hek' hy3 hk hno'
      have hm2 : Has W2 h' := m'.has.kp kp2 (Off.map m'.has (box_below dm k1'))
      generalize upT b s = u at *
      go_wp2_with fail
      obtain ⟨W5, hW5, b5, kp5⟩ : ∃ W5, ((((W2.setCell ⟨w.heap.size + 1 + 1, 0, none⟩ (.int .i64 u.k)).setCell ⟨w.heap.size + 1 + 1, 1, none⟩ (.int .i64 u.n)).setCell ⟨w.heap.size + 1 + 1, 2, none⟩ (.string u.nm)).setCell ⟨w.heap.size + 1 + 1, 3, none⟩ (.slice A'' u.ar.length cap'')) = W5 ∧
          W5.heap[w.heap.size + 1 + 1]? = some (.cells #[.int .i64 u.k, .int .i64 u.n, .string u.nm, .slice A'' u.ar.length cap''] 34) ∧ Kp (fun q => q = w.heap.size + 1 + 1) W2 W5 := ⟨_, rfl, (set4 e3 _ _ _ _).1, (set4 e3 _ _ _ _).2⟩
      rw [hW5]
      have x5 := box4 b5
      refine bodyPost_ret (v := .agg #[.int .i64 u.k, .int .i64 u.n, .string u.nm, .slice A'' u.ar.length cap'']) (by simp [results, Tryz.results219, go_sem, x5]) rfl ?_
      have m5 : Mk w h W5 h' := (m'.from_ (by show w.heap.size ≤ W0.heap.size; omega)).world (hm2.kp kp5 (m'.off (H.off_new (fun k hk => by omega)) (fun k hk => by show k < W0.heap.size; omega)))
      exact ⟨((Kp.of_below (fun q => q = bm) kk1).trans kp2 (fun i hi e => e)).trans kp5 (fun i hi e => by omega), _, h', rfl, by rw [G.out]; exact hy4, m5, blk_kp ek kp5 (by omega), _, _, blk_kp em2'.out kp5 (by omega), hk2'.out⟩
    · obtain ⟨z, cs', hz1, hz2, hz3, hz4⟩ := hes'.out e he
      rw [hek] at hz1
      cases hz1
      obtain ⟨A', cap', rfl, _⟩ := hz4.open_
      rw [hz3] at hl1 hl2
      have hb4 := blk_alloc hb3 (.cells #[.int .i64 (upT b s).k, .int .i64 (upT b s).n, .string (upT b s).nm, .slice A' (upT b s).ar.length cap'] 34)
      rcases look_run Tryz.underlying235 keyed3 zero34 hb4 hkey hk with ⟨hno, _, _⟩ | ⟨e', he', hek', _, hl4⟩
      · exact absurd hek (hno e he)
      obtain ⟨z', cs'', hy1, hy2, hy3, hy4⟩ := hes'.out e' he'
      rw [hek'] at hy1
      cases hy1
      obtain ⟨A'', cap'', rfl, _⟩ := hy4.open_
      rw [hy3] at hl4
      clear hb3 hb4 hk hl2
      have f3 := blk_frozen a3
      have x3 := box4 a3
      have l3 := blk_lt a3
      have xk4 := cell_alloc xk3 (.cells #[.int .i64 (upT b s).k, .int .i64 (upT b s).n, .string (upT b s).nm, .slice A' (upT b s).ar.length cap'] 34)
      have f4 := blk_frozen (blk_alloc a3 (.cells #[.int .i64 (upT b s).k, .int .i64 (upT b s).n, .string (upT b s).nm, .slice A' (upT b s).ar.length cap'] 34))
      have x4 := box4 (blk_alloc a3 (.cells #[.int .i64 (upT b s).k, .int .i64 (upT b s).n, .string (upT b s).nm, .slice A' (upT b s).ar.length cap'] 34))
      generalize upT b s = u at *
      go_enter Tryz.func219, Tryz.ntmps219
      go_wp2_with fail
      obtain ⟨c1, c2, c3, cb⟩ := alloc3 w (.cells #[.int .i64 s.k, .int .i64 s.n, .string s.nm, .slice A s.ar.length cap] 34) (.cells #[.int .i64 b] 3) (.cells #[.int .i64 u.k, .int .i64 u.n, .string u.nm, .slice A'' u.ar.length cap''] 34)
      have y3 := box4 (blk_alloc c3 (.cells #[.int .i64 u.k, .int .i64 u.n, .string u.nm, .slice A' u.ar.length cap'] 34))
      have cb4 := cb.alloc cb.size (.cells #[.int .i64 u.k, .int .i64 u.n, .string u.nm, .slice A' u.ar.length cap'] 34)
      refine bodyPost_ret (v := .agg #[.int .i64 u.k, .int .i64 u.n, .string u.nm, .slice A'' u.ar.length cap'']) (by simp [results, Tryz.results219, go_sem, y3]) rfl ?_
      exact ⟨Kp.of_below _ cb4, _, h, rfl, by rw [G.out]; exact hy4, Mk.refl (H.below cb4), hi.kp (Kp.of_below (fun _ => False) cb4) (fun h => h) (fun h => h) (Sub.refl h)⟩
end Go.Proofs.YtpgbeapojjinmaaGreatDoor
