/- Arrow, slices.Backward: a range over a function. No law is proved here. -/
import Derived.Test.YtpgbeapojjinmaaGreatDoorO
import Derived.RangeFuncNested
import Derived.RangeFuncBound
import Derived.RangeFuncCalls
import Derived.RangeFuncLeaves
import Derived.Shelf.Abstract
import Derived.Shelf.RegionOpen
import Derived.OwnWalkIn
import Derived.TacticsInMore
import Derived.LoopNIn
import Derived.LoopIn
set_option linter.unusedVariables false
set_option linter.unusedSimpArgs false
namespace Go.Proofs.YtpgbeapojjinmaaGreatDoor
open Go.RowKit Go.Shelf Go.Proofs.YtpgbeapojjinmaaGreatDoorW.PrintLast
attribute [local go_sem] Oper.semAt_some
/-- The numbers below N, from the greatest on. -/
def dn (N : Nat) : List (Fin N) := (List.finRange N).reverse
theorem dn_len (N : Nat) : (dn N).length = N := by simp [dn]
theorem dn_at (N k : Nat) (h : k < (dn N).length) : (dn N)[k].val = N - 1 - k := by simp [dn]
theorem w64 (n : Int) (h : -9223372036854775808 ≤ n ∧ n ≤ 9223372036854775807) : wrap64 n = n := by
  unfold wrap64
  omega
def Fits (h : Snap) (A : Option Addr) (N : Nat) (f : Fin N → List Value) : Prop := ∀ j : Fin N, ∃ g o v0 v1, A = some ⟨g, o, none⟩ ∧ h ⟨g, o + j.val * 2, none⟩ = some v0 ∧ h ⟨g, o + j.val * 2 + 1, none⟩ = some v1 ∧ f j = [v0, v1]
set_option maxRecDepth 100000 in
set_option maxHeartbeats 4000000 in
/-- slices.Backward's closure over a slice of types. -/
theorem backward1_in (n : Nat) (hn : 1 ≤ n) (l Bs N cap : Nat) (S : Nat → Prop) (A : Option Addr) (h : Snap) (f : Fin N → List Value) (hN : N ≤ lim) (hcap : N ≤ cap) (J Jx : List (Fin N) → World → Prop)
    (hY : ∀ pre x W, J pre W → pre.length < N → YieldAt Fence.wide (n - 1) Tryz.prog l #[.int .i64 x.val, .agg (f x).toArray] W fun e W' =>
      (e = .returned (.bool true) ∧ J (pre ++ [x]) W' ∧ Kp S W W') ∨ (e = .returned (.bool false) ∧ Jx (pre ++ [x]) W'))
    (W : World) (H : Has W h) (hf : Fits h A N f) (hS : Off h S) (hB0 : ¬ S Bs) (hBs : W.cell? ⟨Bs, 0, none⟩ = some (.slice A N cap)) (h0 : J [] W) :
    CallsIn Fence.wide n Tryz.prog 175 #[.func (.yield l) #[] #[], .pointer (some ⟨Bs, 0, none⟩)] W fun e W' => (∃ v, e = .returned v) ∧
      ((∃ ys, ys = dn N ∧ J ys W') ∨ (∃ pre, pre <+: dn N ∧ Jx pre W')) := by
  refine callsIn_of_wp Tryz.func175 rfl trivial ?_ rfl
  simp only [Tryz.ntmps175, List.size_toArray, List.length_cons, List.length_nil, Nat.reduceAdd, Nat.reduceSub, Array.replicate_succ, Array.replicate_zero, List.push_toArray, List.append_toArray, List.nil_append, List.cons_append]
  have hN' := hN
  unfold lim at hN'
  have w1 : wrap64 ((N : Int) - 1) = (N : Int) - 1 := w64 _ (by omega)
  gi_wp2
  gi_loopw [3] (fun i wr => ∃ k : Nat, k ≤ N ∧ i = .int .i64 ((N : Int) - 1 - k) ∧ J ((dn N).take k) wr ∧ Kp S W wr)
    (fun i _ => (intOf i + 1).toNat)
  case atStart => exact ⟨0, Nat.zero_le _, by simp, by simpa using h0, Kp.refl _ _⟩
  case round =>
    obtain ⟨k, hk, rfl, hJs, hnx⟩ := hrel
    have hBs' := (hnx.cell (p := ⟨Bs, 0, none⟩) (World.block_lt_of_cell? W _ hBs) hB0).trans hBs
    by_cases hlt : k < N
    · have hl : k < (dn N).length := by rw [dn_len]; exact hlt
      have hv := dn_at N k hl
      generalize hx : (dn N)[k] = x at hv
      obtain ⟨g, o, v0, v1, rfl, e0, e1, e⟩ := hf x
      have c0 := (hnx.cell (H.lt e0) (hS.at_ _ _ e0)).trans (H.cell _ _ e0)
      have c1 := (hnx.cell (H.lt e1) (hS.at_ _ _ e1)).trans (H.cell _ _ e1)
      have hxi : (N : Int) - 1 - k = x.val := by omega
      obtain ⟨fn, tmps, assign, body, hy, hR⟩ := hY _ x wr hJs (by rw [List.length_take, dn_len]; omega)
      rw [e] at hy
      rw [hxi]
      have hxl := x.isLt
      have hv2 := Lib.hid hv
      clear hv
      have w2 : wrap64 ((x.val : Int) - 1) = (x.val : Int) - 1 := w64 _ (by omega)
      gi_wp2
      refine hR.mono ?_
      rintro e W3 (⟨rfl, hJ3, hk3⟩ | ⟨rfl, hJx3⟩)
      · gi_wp2
        go_roundw
        case rel => exact ⟨k + 1, by omega, by have := hv2.out; simp <;> omega, by rw [take_snoc _ _ hl, hx]; exact hJ3, hnx.trans hk3 (fun _ _ h => h)⟩
        case measure => have := hv2.out; simp [intOf] <;> omega
      · gi_wp2
        refine bodyPost_ret (results_none rfl _ _ _) rfl ?_
        exact ⟨⟨_, rfl⟩, .inr ⟨(dn N).take (k + 1), List.take_prefix _ _, by rw [take_snoc _ _ hl, hx]; exact hJx3⟩⟩
    · obtain rfl : k = N := by omega
      have hJs' : J (dn k) wr := by rw [List.take_of_length_le (by rw [dn_len]; exact Nat.le_refl _)] at hJs; exact hJs
      have hge : ¬ ((k : Int) - 1 - k ≥ 0) := by omega
      gi_wp2
      go_end0
      exact ⟨⟨_, rfl⟩, .inl hJs'⟩

set_option maxHeartbeats 1000000 in
theorem backward_in (n : Nat) (A : Option Addr) (N cap : Nat) (w : World) :
    CallsIn Fence.wide n Tryz.prog 112 #[.slice A N cap] w fun e w' => e = .returned (.func (.func 175) #[] #[.pointer (some ⟨w.heap.size, 0, none⟩)]) ∧ w' = w.alloc (.cells #[.slice A N cap] 29) := by
  refine callsIn_of_wp Tryz.func112 rfl trivial ?_ rfl
  simp only [Tryz.ntmps112, List.size_toArray, List.length_cons, List.length_nil, Nat.reduceAdd, Nat.reduceSub, Array.replicate_succ, Array.replicate_zero, List.push_toArray, List.append_toArray, List.nil_append, List.cons_append]
  gi_wp2
  go_ret
  exact ⟨rfl, rfl⟩
theorem backward_stops (n : Nat) (hn : 1 ≤ n) (Bs N cap : Nat) (S : Nat → Prop) (A : Option Addr) (h : Snap) (f : Fin N → List Value) (hN : N ≤ lim) (hcap : N ≤ cap) (w : World) (H : Has w h) (hf : Fits h A N f)
    (hS : Off h S) (hB0 : ¬ S Bs) (hBs : w.cell? ⟨Bs, 0, none⟩ = some (.slice A N cap)) :
    SeqStopsK Fence.wide n Tryz.prog 175 #[.pointer (some ⟨Bs, 0, none⟩)] (fun x : Fin N => #[Value.int .i64 x.val, .agg (f x).toArray]) (Kp S) (fun ys => ys = dn N) (fun pre => pre <+: dn N) N w := fun l J Jx W hW _ _ hY h0 =>
  backward1_in n hn l Bs N cap S A h f hN hcap J Jx hY W (H.below hW) hf hS hB0 (cell_below hBs hW) h0
theorem keeps_kp {S : Nat → Prop} {B : Nat} {W W' : World} (k : Kp S W W') (hS : ∀ q o, W.heap[q]? = some o → S q → o.isCells = true) : KeepsFrom B W W' :=
  ⟨k.size, fun q o _ hq ho => (k.block q (blk_lt hq) (fun hs => by have := hS q o hq hs; rw [ho] at this; cases this)).trans hq⟩
theorem blk_own {β : Type} (B b : Nat) (cs : β → Array Value) (T : TypeId) : OwnFrom B (fun s W => W.heap[b]? = some (.cells (cs s) T)) := fun s X Y row hs hg hr => by
  refine (hg.block b (blk_lt hs) (fun e => ?_)).trans hs
  obtain ⟨_, o, ho, hc⟩ := hr b e.symm
  rw [hs] at ho
  cases ho
  cases hc
theorem has_own {β : Type} (B : Nat) (h : β → Snap) : OwnFrom B (fun s W => Has W (h s)) := fun s X Y row hs hg hr => ⟨fun a v e => cell_kept (hs.cell a v e) hg (fun r e => (hr r e).2)⟩
theorem ex_own {β γ : Type} {B : Nat} {I : γ → β → World → Prop} (h : ∀ c, OwnFrom B (I c)) : OwnFrom B (fun s W => ∃ c, I c s W) := fun s X Y row ⟨c, hs⟩ hg hr => ⟨c, h c s X Y row hs hg hr⟩
theorem kp_own {β : Type} {B : Nat} {S : Nat → Prop} {w : World} (hS : w.heap.size ≤ B) : OwnFrom B (fun (_ : β) W => Kp S w W) := fun s X Y row hs hg hr => hs.grown hg (fun k e => .inr (by have := (hr k e).1; omega))
/-- Arrow: what it makes. -/
def arrowT (nm : ByteArray) (ps : List Ty) : Ty := ps.foldr (fun p t => .mk ⟨#[45, 62]⟩ [p, t]) (.mk nm [])
/-- The state of Arrow's loop: the box b holds the type t that is made so far. -/
structure ArrI (w : World) (h : Snap) (b0 b : Nat) (t : Ty) (cs : Array Value) (h' : Snap) (W : World) : Prop where
  box0 : W.heap[b0]? = some (.cells #[.string ⟨#[]⟩, .slice none 0 0] 36)
  box : W.heap[b]? = some (.cells cs 36)
  rd : TyR h' t cs.toList
  sub : Sub h h'
  new : ∀ a v, h' a = some v → h a = some v ∨ w.heap.size ≤ a.block
  has : Has W h'
  off0 : Off h' (fun q => q = b0)
  off : Off h' (fun q => q = b)
  bel : Below w.heap.size w W
theorem arrI_own {N : Nat} {w : World} {h : Snap} {b0 b B : Nat} {t : List (Fin N) → Ty} (hB : w.heap.size ≤ B) : OwnFrom B (fun s W => ∃ cs h', ArrI w h b0 b (t s) cs h' W) := fun s X Y row ⟨cs, h', i⟩ hg hr =>
  ⟨cs, h', blk_own (β := Unit) B b0 (fun _ => _) 36 () X Y row i.box0 hg hr, blk_own (β := Unit) B b (fun _ => cs) 36 () X Y row i.box hg hr, i.rd, i.sub, i.new, has_own (β := Unit) B (fun _ => h') () X Y row i.has hg hr, i.off0, i.off,
    i.bel.grown hg i.bel.size (fun k e => by have := (hr k e).1; omega)⟩
theorem fin_map (ps : List Ty) : (List.finRange ps.length).map (fun x => ps[x.val]) = ps := by
  apply List.ext_getElem <;> simp
theorem arr_step {w W w1 : World} {h h' h1 : Snap} {b0 b : Nat} {acc p : Ty} {anm pn : ByteArray} {A2 A1 : Option Addr} {an c2 n1 d1 : Nat} (i : ArrI w h b0 b acc #[.string anm, .slice A2 an c2] h' W) (hb : b0 ≠ b) (hw0 : w.heap.size ≤ b0) (hw : w.heap.size ≤ b)
    (k1 : Below W.heap.size W w1) (m1 : Mk W h' w1 h1) (r1 : TyR h1 p [.string pn, .slice A1 n1 d1]) {Wf : World}
    (hWf : ((w1.setCell ⟨b, 0, none⟩ (.string ⟨#[45, 62]⟩)).setCell ⟨b, 1, none⟩ (.slice (some ⟨w1.heap.size, 0, none⟩) 2 2)).alloc (.cells #[.string pn, .slice A1 n1 d1, .string anm, .slice A2 an c2] 36) = Wf) :
    (∃ cs h2, ArrI w h b0 b (.mk ⟨#[45, 62]⟩ [p, acc]) cs h2 Wf) ∧ Kp (fun q => q = b) W Wf := by
  have b5 := box_below i.box k1
  have b0' := box_below i.box0 k1
  have lb := blk_lt i.box
  have lb0 := blk_lt i.box0
  have hs1 := k1.size
  have kp : Kp (fun q => q = b) w1 ((w1.setCell ⟨b, 0, none⟩ (.string ⟨#[45, 62]⟩)).setCell ⟨b, 1, none⟩ (.slice (some ⟨w1.heap.size, 0, none⟩) 2 2)) := ((Kp.refl (fun q => q = b) w1).set (p := ⟨b, 0, none⟩) (.inl rfl) _).set (p := ⟨b, 1, none⟩) (.inl rfl) _
  have kf : Kp (fun q => q = b) w1 Wf := by rw [← hWf]; exact kp.alloc _
  have off1 : Off h1 (fun q => q = b) := m1.off i.off (fun k e => by omega)
  have off0 : Off h1 (fun q => q = b0) := m1.off i.off0 (fun k e => by omega)
  have H1 : Has Wf h1 := m1.has.kp kf off1
  have hsz : ((w1.setCell ⟨b, 0, none⟩ (.string ⟨#[45, 62]⟩)).setCell ⟨b, 1, none⟩ (.slice (some ⟨w1.heap.size, 0, none⟩) 2 2)).heap.size = w1.heap.size := by simp
  have nb : Wf.heap[w1.heap.size]? = some (.cells #[.string pn, .slice A1 n1 d1, .string anm, .slice A2 an c2] 36) := by have h := blk_new ((w1.setCell ⟨b, 0, none⟩ (.string ⟨#[45, 62]⟩)).setCell ⟨b, 1, none⟩ (.slice (some ⟨w1.heap.size, 0, none⟩) 2 2)) (.cells #[.string pn, .slice A1 n1 d1, .string anm, .slice A2 an c2] 36); rw [hsz, hWf] at h; exact h
  have c4 := box4 nb
  have hb5 : Wf.heap[b]? = some (.cells #[.string ⟨#[45, 62]⟩, .slice (some ⟨w1.heap.size, 0, none⟩) 2 2] 36) := by
    rw [← hWf]; exact blk_alloc (blk_set (blk_set b5 0 _) 1 _) _
  refine ⟨⟨_, withRow h1 Wf w1.heap.size 4, ⟨(kf.block _ (blk_lt b0') hb).trans b0', hb5, ?_, (i.sub.trans m1.sub).trans (withRow.sub ..), ?_, withRow.has H1 .., ?_, ?_, ?_⟩⟩, (Kp.of_below _ k1).trans kf (fun _ _ h => h)⟩
  · refine ⟨some ⟨w1.heap.size, 0, none⟩, 2, rfl, Nat.le_refl _, by simp [lim], ⟨w1.heap.size, 0, _, _, rfl, withRow.at_ H1 (by omega) c4.1, withRow.at_ H1 (by omega) c4.2.1, r1.sub (withRow.sub ..)⟩, ⟨w1.heap.size, 0, _, _, rfl, withRow.at_ H1 (by omega) c4.2.2.1, withRow.at_ H1 (by omega) c4.2.2.2, ?_⟩, trivial⟩
    exact (i.rd.sub m1.sub).sub (withRow.sub ..)
  · intro a v e
    rcases withRow.new e with e | e
    · rcases m1.new _ _ e with e | e
      · exact i.new _ _ e
      · have := i.bel.size; exact .inr (by omega)
    · have := i.bel.size; exact .inr (by omega)
  · exact ⟨fun a v e hq => by
      rcases withRow.new e with e | e
      · exact off0.at_ _ _ e hq
      · have : a.block = b0 := hq; omega⟩
  · exact ⟨fun a v e hq => by
      rcases withRow.new e with e | e
      · exact off1.at_ _ _ e hq
      · have : a.block = b := hq; omega⟩
  · exact (i.bel.trans (k1.mono i.bel.size)).trans ⟨kf.os, kf.tape, kf.output, kf.size, fun k hk => kf.block k (by have := i.bel.size; omega) (by omega)⟩
set_option maxRecDepth 100000 in
set_option maxHeartbeats 4000000 in
theorem Arrow_calls (nm : ByteArray) (ps : List Ty) (sv : Value) (w : World) (h : Snap) (H : Has w h) (r : TyS h ps sv) :
    Calls Tryz.prog 39 #[sv, .string nm] w fun e w' => ∃ cs' h', e = .returned (.agg cs'.toArray) ∧ TyR h' (arrowT nm ps) cs' ∧ Below w.heap.size w w' ∧ Mk w h w' h' := by
  refine (callsIn_wide (n := 9)).1 ?_
  obtain ⟨A, cap, rfl, hcap, hlim, hr⟩ := r
  have hl := Lib.hid hlim
  clear hlim
  refine callsIn_of_wp_marks Tryz.func39 rfl trivial ?_ rfl
  simp only [Tryz.ntmps39, List.size_toArray, List.length_cons, List.length_nil, Nat.reduceAdd, Nat.reduceSub, Array.replicate_succ, Array.replicate_zero, List.push_toArray, List.append_toArray, List.nil_append, List.cons_append]
  gi_wp2_with (refine ⟨trivial, ?_⟩; gi_at_call 112; refine (backward_in _ _ _ _ _).mono ?_; rintro e w' ⟨rfl, rfl⟩)
  obtain ⟨W0, hW0⟩ : ∃ W0, (((w.alloc (Obj.cells #[Value.string { data := #[] }, Value.slice none 0 0] 36)).alloc (Obj.cells #[Value.string nm, Value.slice none 0 0] 36)).alloc (Obj.cells #[.slice A ps.length cap] 29)) = W0 := ⟨_, rfl⟩
  have ha := alloc3 w (Obj.cells #[Value.string { data := #[] }, Value.slice none 0 0] 36) (Obj.cells #[Value.string nm, Value.slice none 0 0] 36) (Obj.cells #[.slice A ps.length cap] 29)
  rw [hW0] at ha
  try rw [hW0]
  have hsz : W0.heap.size = w.heap.size + 3 := by rw [← hW0]; simp
  have HW : Has W0 h := H.below ha.2.2.2
  have hex : ∀ j : Fin ps.length, ∃ cs, (∃ g o v0 v1, A = some ⟨g, o, none⟩ ∧ h ⟨g, o + j.val * 2, none⟩ = some v0 ∧ h ⟨g, o + j.val * 2 + 1, none⟩ = some v1 ∧ cs = [v0, v1]) ∧ TyR h ps[j.val] cs := by
    intro j
    obtain ⟨g, o, v0, v1, e, e0, e1, r⟩ := hr.at_ j.val j.isLt
    rw [Nat.zero_add] at e0 e1
    exact ⟨_, ⟨g, o, v0, v1, e, e0, e1, rfl⟩, r⟩
  obtain ⟨f, hf⟩ := Classical.axiomOfChoice hex
  have hfit : Fits h A ps.length f := fun j => (hf j).1
  have hS : Off h (fun q => q = w.heap.size + 1 ∨ W0.heap.size ≤ q) := H.off_new (fun k hk => by omega)
  refine wpIn_rangeFunc_ownH rfl (by decide) (gf := 175) (lb := #[.pointer (some ⟨w.heap.size + 1 + 1, 0, none⟩)]) rfl trivial (enters_of Tryz.func175 (by kernel_rfl) rfl)
    (backward_stops _ (by decide) (w.heap.size + 1 + 1) ps.length cap (fun q => q = w.heap.size + 1 ∨ W0.heap.size ≤ q) A h f hl.out hcap W0 HW hfit hS (by omega) (box1 ha.2.2.1))
    (fun a b => a.trans b (fun _ _ h => h)) (fun W l o o' hle hlo hc hw => (Kp.refl _ W).grown (grownBy_putObj' W l o') (fun k e => by cases e; exact .inl (.inr hle)))
    (Below.refl _ _) (fun _ => rfl)
    (fun pre W => ∃ cs h', ArrI w h w.heap.size (w.heap.size + 1) (pre.foldl (fun t x => .mk ⟨#[45, 62]⟩ [ps[x.val], t]) (.mk nm [])) cs h' W)
    (fun _ _ _ => False)
    (arrI_own (w := w) (B := W0.heap.size) (by omega)) (fun _ _ _ _ _ hs _ _ => hs)
    ⟨#[.string nm, .slice none 0 0], h, ⟨ha.1, ha.2.1, ⟨none, 0, rfl, Nat.le_refl _, Nat.zero_le _, trivial⟩, Sub.refl _, fun _ _ e => .inl e, HW, H.off_new (fun k e => by omega), H.off_new (fun k e => by omega), ha.2.2.2⟩⟩
    (fun x a' W => ∃ Bx, w.heap.size + 1 < Bx ∧ W.heap[Bx]? = some (.cells (f x).toArray 36) ∧ a' = { tmps := #[.slice A ps.length cap, .string nm, undef, undef, .pointer (some ⟨w.heap.size, 0, none⟩), .pointer (some ⟨w.heap.size + 1, 0, none⟩), undef, .pointer (some ⟨Bx, 0, none⟩), .string nm, .agg #[.string nm, .slice none 0 0], .slice A ps.length cap, .func (.func 175) #[] #[.pointer (some ⟨w.heap.size + 1 + 1, 0, none⟩)], .int .i64 x.val, .agg (f x).toArray, undef, undef, undef, undef, undef, undef], defers := [] })
    (fun x a' => ex_own (fun Bx => OwnFrom.and (ownFrom_pure _ _) (OwnFrom.and (blk_own _ _ _ _) (ownFrom_pure _ _)))) ?assign ?body ?done ?stop
  case assign =>
    intro l pre x W K hi hK
    obtain ⟨A', c', ev, _⟩ := (hf x).2.open_
    rw [ev] at hK ⊢
    have h1 := alloc1 W (.cells #[.string ⟨#[]⟩, .slice none 0 0] 36)
    have hc1 := box2 h1.1
    have hf1 := blk_frozen h1.1
    gi_wp2
    obtain ⟨cs, h', i⟩ := hi
    exact hK _ _ ((KeepsOthers.alloc _ _).from _) ((Kp.refl _ W).alloc _) (OwnFrom.alloc (arrI_own (w := w) (B := W0.heap.size) (by omega)) _ ⟨cs, h', i⟩) ⟨W.heap.size, blk_lt i.box, blk_new _ _, rfl⟩
  case body =>
    rintro l pre x a' W hl' ⟨rr, hrr⟩ ⟨cs, h', i⟩ ⟨Bx, hBx, bX, rfl⟩ hlt
    have hmx : Tryz.prog.follows .mixedOrders = true := by kernel_rfl
    obtain ⟨A', c', ev, _⟩ := (hf x).2.open_
    have rx := (hf x).2.sub i.sub
    obtain ⟨A2, c2, e2, _⟩ := i.rd.open_
    have hcs : cs = #[.string (pre.foldl (fun t x => Ty.mk ⟨#[45, 62]⟩ [ps[x.val], t]) (.mk nm [])).nm, .slice A2 (pre.foldl (fun t x => Ty.mk ⟨#[45, 62]⟩ [ps[x.val], t]) (.mk nm [])).ar.length c2] := by rw [← e2]
    generalize hacc : pre.foldl (fun t x => Ty.mk ⟨#[45, 62]⟩ [ps[x.val], t]) (.mk nm []) = acc at i hcs
    rw [ev] at bX rx ⊢
    subst hcs
    clear e2
    generalize acc.ar.length = an at i
    generalize acc.nm = anm at i
    have b5 := i.box
    generalize ps[x.val].ar.length = xn at bX rx ⊢
    generalize ps[x.val].nm = xnm at bX rx ⊢
    have cX := box2 bX
    have fX := blk_frozen bX
    have c5 := box2 b5
    have f5 := blk_frozen b5
    gi_wp2
    gi_region_with_o (refine ⟨trivial, ?_⟩; gi_at_call 110; refine (CallsIn.inRound l (callsIn_wide.2 (copied_calls _ _ (Nat.le_refl _) _ _ h' (i.has.drew) rx))).mono ?_; rintro e w1 ⟨cs1, h1, rfl, r1, k1, m1⟩; obtain ⟨A1, d1, rfl, _⟩ := r1.open_; have b51 := box_below (w := W.drew) b5 k1; have c51 := box2 b51; have f51 := blk_frozen b51; have c52 := fun o => box2 (blk_alloc b51 o); have f52 := fun o => blk_frozen (blk_alloc b51 o); have l51 := blk_lt b51)
    all_goals gi_wp2
    all_goals
      obtain ⟨⟨cs2, h2, i2⟩, kf⟩ := arr_step i (by omega) (Nat.le_refl _) (by omega) (undrew k1) (m1.from_ (Nat.le_refl _)) r1 rfl
      exact ⟨keeps_kp kf (fun q o hq e => by subst e; rw [b5] at hq; cases hq; rfl), kf.mono (fun _ e => .inl e), cs2, h2, by rw [List.foldl_append]; simp only [List.foldl_cons, List.foldl_nil]; rw [hacc]; exact i2⟩
  case done =>
    rintro D ys W hD rfl ⟨cs, h', i⟩ hK
    have hacc : (dn ps.length).foldl (fun t x => Ty.mk ⟨#[45, 62]⟩ [ps[x.val], t]) (.mk nm []) = arrowT nm ps := by
      unfold arrowT dn
      rw [List.foldl_reverse]
      conv => rhs; rw [← fin_map ps, List.foldr_map]
    rw [hacc] at i
    obtain ⟨A2, c2, e2, _⟩ := i.rd.open_
    have hcs : cs = #[.string (arrowT nm ps).nm, .slice A2 (arrowT nm ps).ar.length c2] := by rw [← e2]
    subst hcs
    have b5 := i.box
    have rd := i.rd
    clear e2
    generalize (arrowT nm ps).ar.length = an at b5 rd
    generalize (arrowT nm ps).nm = anm at b5 rd
    have c5 := box2 b5
    have c0 := box2 i.box0
    have f0 := blk_frozen i.box0
    gi_wp2
    have hK2 := (((KeepsOthers.setCell W ⟨w.heap.size, 0, none⟩ (.string anm)).trans (KeepsOthers.setCell _ ⟨w.heap.size, 1, none⟩ (.slice A2 an c2)))).same D _ hK rfl
    have hne : D ≠ w.heap.size := by have := i.bel.size; omega
    obtain ⟨W2, hW2⟩ : ∃ W2, ((W.setCell ⟨w.heap.size, 0, none⟩ (.string anm)).setCell ⟨w.heap.size, 1, none⟩ (.slice A2 an c2)) = W2 := ⟨_, rfl⟩
    have b0' : W2.heap[w.heap.size]? = some (.cells #[.string anm, .slice A2 an c2] 36) := by rw [← hW2]; exact blk_set (blk_set i.box0 0 _) 1 _
    have kf : Kp (fun q => q = w.heap.size) W W2 := by rw [← hW2]; exact ((Kp.refl (fun q => q = w.heap.size) W).set (p := ⟨w.heap.size, 0, none⟩) (.inl rfl) _).set (p := ⟨w.heap.size, 1, none⟩) (.inl rfl) _
    rw [hW2] at hK2 ⊢
    refine ⟨by simp, .inl ⟨_, _, rfl, run_takeDeferred hK2, ?_⟩⟩
    have kf2 : Kp (fun q => q = w.heap.size ∨ q = D) W2 (W2.putObj D (.deferred none)) := (Kp.refl _ W2).grown (grownBy_putObj' W2 D _) (fun k e => by cases e; exact .inl (.inr rfl))
    have b02 := blk_kp b0' ((Kp.refl (fun q => q = D) W2).grown (grownBy_putObj' W2 D (.deferred none)) (fun k e => by cases e; exact .inl rfl)) (fun e => hne e.symm)
    have c02 := box2 b02
    refine ⟨.agg #[.string anm, .slice A2 an c2], by simp [results, Tryz.results39, go_sem, c02], [.string anm, .slice A2 an c2], rfl, h', rd, ?_, i.sub, ?_, i.new⟩
    · have hs := i.bel.size
      have hs1 := kf.size
      exact i.bel.trans ⟨kf2.os.trans kf.os, kf2.tape.trans kf.tape, kf2.output.trans kf.output, Nat.le_trans kf.size kf2.size, fun k hk => (kf2.block k (by omega) (by omega)).trans (kf.block k (by omega) (by omega))⟩
    · exact has_own (β := Unit) 0 (fun _ => h') () W2 _ (some D) (i.has.kp kf i.off0) (grownBy_putObj' _ _ _) (fun r e => by cases e; exact ⟨Nat.zero_le _, _, hK2, rfl⟩)
  case stop =>
    rintro D c pre W _ _ h _
    exact h.elim
end Go.Proofs.YtpgbeapojjinmaaGreatDoor
