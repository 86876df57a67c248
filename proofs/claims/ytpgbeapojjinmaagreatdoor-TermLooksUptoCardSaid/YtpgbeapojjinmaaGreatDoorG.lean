/- Own text: types: parts, split, Parts, Arity. -/
import Derived.Test.YtpgbeapojjinmaaGreatDoorE
set_option linter.unusedVariables false
set_option linter.unusedSimpArgs false
namespace Go.Proofs.YtpgbeapojjinmaaGreatDoor
open Go.RowKit Go.Proofs.YtpgbeapojjinmaaGreatDoorW.PrintLast
/-- 'parts': the arguments, and the name at the end. -/
def partsL : Ty → List Ty
  | .mk _ [a, b] => a :: partsL b
  | .mk _ _ => []
def partsR : Ty → ByteArray
  | .mk _ [_, b] => partsR b
  | .mk nm _ => nm
theorem parts_two {nm : ByteArray} {a b : Ty} : partsL (.mk nm [a, b]) = a :: partsL b ∧ partsR (.mk nm [a, b]) = partsR b := by simp [partsL, partsR]
theorem parts_else {u : Ty} (h : u.ar.length ≠ 2) : partsL u = [] ∧ partsR u = u.nm := by
  match u with
  | .mk nm [] => simp [partsL, partsR, Ty.nm]
  | .mk nm [a] => simp [partsL, partsR, Ty.nm]
  | .mk nm [a, b] => simp [Ty.ar] at h
  | .mk nm (a :: b :: c :: d) => simp [partsL, partsR, Ty.nm]
theorem Ty.two {u : Ty} (h : u.ar.length = 2) : ∃ nm a b, u = .mk nm [a, b] := by
  obtain ⟨nm, l⟩ := u
  match l, h with
  | [a, b], _ => exact ⟨nm, a, b, rfl⟩
def lenO : Option Value → Nat
  | some (.slice _ n _) => n
  | _ => 0
/-- The length of a slice. -/
def lenV : Value → Nat
  | .slice _ n _ => n
  | _ => 0
set_option maxRecDepth 100000 in
set_option maxHeartbeats 4000000 in
theorem parts_calls (t : Ty) (cs : List Value) (w : World) (h : Snap) (H : Has w h) (r : TyR h t cs) (hd : (partsL t).length ≤ lim) :
    Calls Tryz.prog 92 #[.agg cs.toArray] w fun e w' => ∃ sv xs, e = .returned (.tuple #[sv, .string (partsR t)]) ∧ w'.ownsRow w.heap.size 36 2 sv (partsL t).length xs ∧ Chunks (TyR h) 2 (partsL t) xs ∧ Below w.heap.size w w' := by
  obtain ⟨A, cap, rfl, hl, hm, hr⟩ := r.open_
  have hu36 := Tryz.underlying36
  unfold lim at hd
  go_enter Tryz.func92, Tryz.ntmps92
  go_wp2_with fail
  go_loopw [2] (fun sv wr => ∃ (u : Ty) (A : Option Addr) (c : Nat) (ts : List Ty) (xs : List Value), wr.heap[w.heap.size]? = some (.cells #[.string u.nm, .slice A u.ar.length c] 36) ∧ TyR h u [.string u.nm, .slice A u.ar.length c] ∧ wr.ownsRow (w.heap.size + 1) 36 2 sv ts.length xs ∧ Chunks (TyR h) 2 ts xs ∧ Hid (partsL t = ts ++ partsL u) ∧ Hid (partsR t = partsR u) ∧ Below w.heap.size w wr) (fun sv _ => (partsL t).length - lenV sv)
  case atStart => exact ⟨t, A, cap, [], [], blk_new _ _, r, by simpa using World.ownsRow_nil (w.alloc _) (w.heap.size + 1) 36 2, .nil, by show _ = _; simp, rfl, (Below.refl w.heap.size w).alloc (Nat.le_refl _) _⟩
  case round =>
    obtain ⟨u, A, c, ts, xs, hB, hu, hown, hch, hI, hJ, hbel⟩ := hrel
    obtain ⟨x0, x1⟩ := box2 hB
    obtain ⟨As, ks, rfl⟩ := own_form hown
    have ls := blk_lt hB
    have hw := H.below hbel
    by_cases h2 : u.ar.length = 2
    · obtain ⟨nm, a, b, rfl⟩ := u.two h2
      obtain ⟨A', c', eq, h3, h4, hr2⟩ := hu
      simp only [Ty.nm, Ty.ar, List.cons.injEq, Value.slice.injEq, and_true, true_and] at eq
      obtain ⟨rfl, rfl⟩ := eq
      obtain ⟨g, o, A0, c0, A1, c1, rfl, e0, e1, e2, e3, r0, r1⟩ := hr2.two
      have hc0 := hw.cell _ _ e0
      have hc1 := hw.cell _ _ e1
      have hc2 := hw.cell _ _ e2
      have hc3 := hw.cell _ _ e3
      have lb := hw.lt e0
      have hlen : ts.length + 1 ≤ (partsL t).length := by rw [hI.out, parts_two.1]; simp
      simp only [Ty.nm, Ty.ar, List.length_cons, List.length_nil, Nat.zero_add, Nat.reduceAdd] at hB x0 x1 h2
      go_wp2_with (refine app36L rfl _ _ rfl rfl (own_kp hown ((Kp.refl (fun _ => False) wr).alloc _) (fun _ hf => hf.elim)) rfl (blk_new _ _) (by unfold lim; omega) (by simp <;> omega) ?_; intro sv2 w2 hown2 hg2 hat; obtain ⟨A2, c2, rfl⟩ := own_form hown2
                   have kp := ((Kp.refl (fun q => (Value.slice As ts.length ks).ownBlock = some q) wr).alloc (.cells #[.string a.nm, .slice A0 a.ar.length c0] 36)).grown hg2 (fun _ e => .inl e)
                   have hB2 := blk_kp hB kp (own_ge hown (by omega))
                   have hw2 := hw.kp kp (H.off_new (fun q e => by have := hown.lt _ e; omega))
                   obtain ⟨z0, z1⟩ := box2 hB2
                   have f0 := blk_frozen hB2 0
                   have f1 := blk_frozen hB2 1
                   have hd2 := hw2.cell _ _ e2
                   have hd3 := hw2.cell _ _ e3)
      have hw3 : Has (w2.setCell ⟨w.heap.size, 0, none⟩ (.string b.nm)) h := hw2.set (fun x v e hx => by have := H.lt e; simp at hx; omega) _
      refine ⟨⟨b, A1, c1, ts ++ [a], _, by simpa using blk_set (blk_set hB2 0 (.string b.nm)) 1 (.slice A1 b.ar.length c1), r1, by simpa using own_far (own_far hown2 (p := ⟨w.heap.size, 0, none⟩) (by simp) (.string b.nm)) (p := ⟨w.heap.size, 1, none⟩) (by simp) (.slice A1 b.ar.length c1), hch.snoc r0 rfl, by show _ = _; rw [hI.out, parts_two.1]; simp, by show _ = _; rw [hJ.out, parts_two.2], ?_⟩, by simp [lenV]; omega⟩
      have k2 : Kp (fun q => w.heap.size ≤ q) w w2 := (Kp.of_below _ hbel).trans kp (fun q hq e => by have := hown.lt _ e; omega)
      exact ((k2.below (fun i hi => by omega)).setCell (by simp) _).setCell (by simp) _
    · obtain ⟨p1, p2⟩ := parts_else h2
      have hq : ((u.ar.length : Int) == 2) = false := by simp; omega
      clear h2
      go_wp2_with fail
      go_quiet (fail)
      go_wp2_with fail
      go_ret2
      rw [hI.out, hJ.out, p1, p2, List.append_nil]
      exact ⟨_, xs, rfl, own_drewN (own_base hown (by omega)) _, hch, below_drewN hbel _⟩
/-- 'split', of a formed type. -/
theorem split_parts {u : Ty} (hf : formedT u = true) : arrB u.nm = (u.ar.length == 2) := by
  obtain ⟨nm, l⟩ := u
  cases ha : arrB nm
  · have : l = [] := by
      unfold formedT at hf
      simpa [ha] using hf
    simp [Ty.nm, Ty.ar, ha, this]
  · obtain ⟨a, b, rfl, _⟩ := formedT_inv ha hf
    simp [Ty.nm, Ty.ar, ha]
set_option maxRecDepth 100000 in
set_option maxHeartbeats 4000000 in
theorem split_calls (t : Ty) (cs : List Value) (w : World) (h : Snap) (H : Has w h) (r : TyR h t cs) (hd : (partsL t).length ≤ lim) (hf : formedT t = true) :
    Calls Tryz.prog 111 #[.agg cs.toArray] w fun e w' => ∃ sv xs, e = .returned (.agg #[sv, .string (partsR t)]) ∧ w'.ownsRow w.heap.size 36 2 sv (partsL t).length xs ∧ Chunks (TyR h) 2 (partsL t) xs ∧ Below w.heap.size w w' := by
  obtain ⟨A, cap, rfl, hl, hm, hr⟩ := r.open_
  have hu36 := Tryz.underlying36
  have hu62 := Tryz.underlying62
  unfold lim at hd
  obtain ⟨C, hC⟩ : ∃ C, C = (((w.alloc (.cells #[.string t.nm, .slice A t.ar.length cap] 36)).alloc (.cells #[.slice none 0 0, .string ⟨#[]⟩] 62)).alloc (.cells #[.slice none 0 0, .string ⟨#[]⟩] 62)) := ⟨_, rfl⟩
  have hb : Below w.heap.size w C := by rw [hC]; exact (((Below.refl w.heap.size w).alloc (Nat.le_refl _) _).alloc (by simp) _).alloc (by simp <;> omega) _
  have q1 : C.heap[w.heap.size]? = some (.cells #[.string t.nm, .slice A t.ar.length cap] 36) := by rw [hC]; exact blk_alloc (blk_alloc (blk_new _ _) _) _
  have q2 : C.heap[w.heap.size + 1]? = some (.cells #[.slice none 0 0, .string ⟨#[]⟩] 62) := by rw [hC]; exact blk_alloc (by simpa using blk_new (w.alloc _) _) _
  have q3 : C.heap[w.heap.size + 1 + 1]? = some (.cells #[.slice none 0 0, .string ⟨#[]⟩] 62) := by rw [hC]; simpa using blk_new ((w.alloc _).alloc _) _
  go_enter Tryz.func111, Tryz.ntmps111
  go_wp2_with fail
  rw [← hC]
  have hC' := Lib.hid hC
  clear hC
  go_loopw [4] (fun _ wr => ∃ (u : Ty) (A : Option Addr) (c : Nat) (ts : List Ty) (xs : List Value) (sv : Value), wr.heap[w.heap.size]? = some (.cells #[.string u.nm, .slice A u.ar.length c] 36) ∧ wr.heap[w.heap.size + 1]? = some (.cells #[.slice none 0 0, .string ⟨#[]⟩] 62) ∧
      wr.heap[w.heap.size + 1 + 1]? = some (.cells #[sv, .string ⟨#[]⟩] 62) ∧ TyR h u [.string u.nm, .slice A u.ar.length c] ∧ wr.ownsRow (w.heap.size + 3) 36 2 sv ts.length xs ∧ Chunks (TyR h) 2 ts xs ∧ Hid (partsL t = ts ++ partsL u) ∧ Hid (partsR t = partsR u) ∧ Hid (formedT u = true) ∧ Below w.heap.size w wr)
    (fun _ wr => (partsL t).length - lenO (wr.cell? ⟨w.heap.size + 1 + 1, 0, none⟩))
  case atStart => exact ⟨t, A, cap, [], [], .slice none 0 0, q1, q2, q3, r, World.ownsRow_nil .., .nil, by show _ = _; simp, rfl, hf, hb⟩
  case round =>
    obtain ⟨u, A, c, ts, xs, sv, hB, hB2, hB3, hu, hown, hch, hI, hJ, hF, hbel⟩ := hrel
    obtain ⟨x0, x1⟩ := box2 hB
    obtain ⟨y0, y1⟩ := box2 hB3
    obtain ⟨As, ks, rfl⟩ := own_form hown
    have ls := blk_lt hB3
    have hw := H.below hbel
    by_cases h2 : u.ar.length = 2
    · have ha : arrB u.nm = true := by rw [split_parts hF.out, h2]; rfl
      obtain ⟨q1, q2⟩ := arr_t ha
      obtain ⟨nm, a, b, rfl⟩ := u.two h2
      obtain ⟨A', c', eq, h3, h4, hr2⟩ := hu
      simp only [Ty.nm, Ty.ar, List.cons.injEq, Value.slice.injEq, and_true, true_and] at eq
      obtain ⟨rfl, rfl⟩ := eq
      obtain ⟨g, o, A0, c0, A1, c1, rfl, e0, e1, e2, e3, r0, r1⟩ := hr2.two
      have hc0 := hw.cell _ _ e0
      have hc1 := hw.cell _ _ e1
      have lb := hw.lt e0
      have hfb : Hid (formedT b = true) := by
        have := hF.out
        simp only [Ty.nm] at ha
        rw [formedT_two ha, Bool.and_eq_true] at this
        exact this.2
      have hlen : ts.length + 1 ≤ (partsL t).length := by rw [hI.out, parts_two.1]; simp
      simp only [Ty.nm, Ty.ar, List.length_cons, List.length_nil, Nat.zero_add, Nat.reduceAdd] at hB x0 x1 h2 q1 q2
      clear ha
      go_wp2_with fail
      refine rgs 10 (fun W => W.cell? ⟨w.heap.size + 1 + 1, 0, none⟩ = some (.slice As ts.length ks) ∧ W.cell? ⟨w.heap.size, 1, none⟩ = some (.slice (some ⟨g, o, none⟩) 2 c) ∧ W.cell? ⟨g, o, none⟩ = some (.string a.nm) ∧ W.cell? ⟨g, o + 1, none⟩ = some (.slice A0 a.ar.length c0)) [7, 9] rfl ?_ (fun hS => ?_)
      · go_simp
      refine rgt 0 (.pointer (some ⟨w.heap.size + 1 + 1, 0, none⟩)) rfl (by kernel_rfl) (fun _ _ _ h => h) rfl hS (fun W hW => by go_simp) ?_
      refine rgt 1 (.slice As ts.length ks) rfl (by kernel_rfl) (fun _ _ _ h => h) rfl hS (fun W hW => by obtain ⟨s1, s2, s3, s4⟩ := hW; go_simp) ?_
      refine rgt 2 (.pointer (some ⟨w.heap.size, 1, none⟩)) rfl (by kernel_rfl) (fun _ _ _ h => h) rfl hS (fun W hW => by go_simp) ?_
      refine rgt 3 (.slice (some ⟨g, o, none⟩) 2 c) rfl (by kernel_rfl) (fun _ _ _ h => h) rfl hS (fun W hW => by obtain ⟨s1, s2, s3, s4⟩ := hW; go_simp) ?_
      refine rgt 4 (.pointer (some ⟨g, o, none⟩)) rfl (by kernel_rfl) (fun _ _ _ h => h) rfl hS (fun W hW => by go_simp) ?_
      refine rgt 5 (.agg #[.string a.nm, .slice A0 a.ar.length c0]) rfl (by kernel_rfl) (fun _ _ _ h => h) rfl hS (fun W hW => by obtain ⟨s1, s2, s3, s4⟩ := hW; go_simp) ?_
      refine rg1 6 rfl (by kernel_rfl) (by decide) rfl (fun K hK => ?_)
      go_simp
      refine hK.out _ _ ?_ (fun hS => ?_)
      · obtain ⟨s1, s2, s3, s4⟩ := hS
        exact ⟨cell_alloc s1 _, cell_alloc s2 _, cell_alloc s3 _, cell_alloc s4 _⟩
      refine rgl 7 rfl (by kernel_rfl) (by decide) rfl (fun K hK => ?_)
      refine app36 _ _ rfl rfl (own_kp hown ((((Kp.refl (fun _ => False) wr)).alloc _).drew) (fun _ hf => hf.elim)) rfl (blk_new wr _) (by unfold lim; omega) (by simp <;> omega) ?_
      intro sv2 w2 hown2 hg2 hat
      obtain ⟨A2, c2, rfl⟩ := own_form hown2
      have kp := (((Kp.refl (fun q => (Value.slice As ts.length ks).ownBlock = some q) wr).alloc (.cells #[.string a.nm, .slice A0 a.ar.length c0] 36)).drew).grown hg2 (fun _ e => .inl e)
      have hn := fun q (hq : q < w.heap.size + 3) => own_ge hown hq
      have hBb := blk_kp hB kp (hn _ (by omega))
      have hB2b := blk_kp hB2 kp (hn _ (by omega))
      have hB3b := blk_kp hB3 kp (hn _ (by omega))
      have hw2 := hw.kp kp (H.off_new (fun q e => by have := hown.lt _ e; omega))
      obtain ⟨z0, z1⟩ := box2 hBb
      obtain ⟨z2, z3⟩ := box2 hB3b
      have f0 := blk_frozen hBb 0
      have f1 := blk_frozen hBb 1
      have f2 := blk_frozen hB3b 0
      have hd2 := hw2.cell _ _ e2
      have hd3 := hw2.cell _ _ e3
      refine hK.out _ _ ?_
      refine rgp 8 (.pointer (some ⟨w.heap.size + 1 + 1, 0, none⟩)) rfl (by kernel_rfl) (fun _ _ _ h => h) rfl (fun W => by go_simp) ?_
      refine rgl 9 rfl (by kernel_rfl) (by decide) rfl (fun K hK => ?_)
      go_simp
      refine hK.out _ _ ?_
      refine rgd (by kernel_rfl) ?_
      clear hK hS
      go_wp2_with fail
      have k2 : Kp (fun q => w.heap.size ≤ q) w w2 := (Kp.of_below _ hbel).trans kp (fun q hq e => by have := hown.lt _ e; omega)
      have k3 := (k2.below (fun i hi => by omega))
      obtain ⟨W, hW⟩ : ∃ W, W = ((w2.setCell ⟨w.heap.size + 1 + 1, 0, none⟩ (.slice A2 (ts.length + 1) c2)).setCell ⟨w.heap.size, 0, none⟩ (.string b.nm)).setCell ⟨w.heap.size, 1, none⟩ (.slice A1 b.ar.length c1) := ⟨_, rfl⟩
      rw [← hW]
      have g1 : W.heap[w.heap.size]? = some (.cells #[.string b.nm, .slice A1 b.ar.length c1] 36) := by rw [hW]; simpa using blk_set (blk_set (blk_far hBb (p := ⟨w.heap.size + 1 + 1, 0, none⟩) (by simp; omega) (.slice A2 (ts.length + 1) c2)) 0 (.string b.nm)) 1 (.slice A1 b.ar.length c1)
      have g2 : W.heap[w.heap.size + 1]? = some (.cells #[.slice none 0 0, .string ⟨#[]⟩] 62) := by rw [hW]; exact blk_far (blk_far (blk_far hB2b (by simp) _) (by simp) _) (by simp) _
      have g3 : W.heap[w.heap.size + 1 + 1]? = some (.cells #[.slice A2 (ts.length + 1) c2, .string ⟨#[]⟩] 62) := by rw [hW]; exact blk_far (blk_far (by simpa using blk_set hB3b 0 (.slice A2 (ts.length + 1) c2)) (by simp; omega) _) (by simp; omega) _
      have g4 : W.ownsRow (w.heap.size + 3) 36 2 (.slice A2 (ts.length + 1) c2) (ts.length + 1) (xs ++ [.string a.nm, .slice A0 a.ar.length c0]) := by rw [hW]; exact own_far (own_far (own_far hown2 (by simp) _) (by simp) _) (by simp) _
      have g5 : Below w.heap.size w W := by rw [hW]; exact ((k3.setCell (by simp; omega) _).setCell (by simp) _).setCell (by simp) _
      refine ⟨⟨b, A1, c1, ts ++ [a], _, .slice A2 (ts.length + 1) c2, g1, g2, g3, r1, by simpa using g4, hch.snoc r0 rfl, by show _ = _; rw [hI.out, parts_two.1]; simp, by show _ = _; rw [hJ.out, parts_two.2], hfb, g5⟩, ?_⟩
      rw [(box2 g3).1, y0]
      simp only [lenO]
      omega
    · obtain ⟨p1, p2⟩ := parts_else h2
      have ha : arrB u.nm = false := by rw [split_parts hF.out]; simp [h2]
      obtain ⟨q1, q2⟩ := arr_f ha
      obtain ⟨z0, z1⟩ := box2 hB2
      have f0 := blk_frozen hB2 0
      have f1 := blk_frozen hB2 1
      have f2 := blk_frozen hB3 1
      clear h2 ha
      go_wp2_with fail
      refine bodyPost_ret (v := .agg #[.slice As ts.length ks, .string u.nm]) ?_ rfl ?_
      · simp [results, Tryz.results111, go_sem, z0, z1]
      rw [hI.out, hJ.out, p1, p2, List.append_nil]
      exact ⟨_, xs, rfl, own_base (own_far (own_far (own_far hown (by simp) _) (by simp) _) (by simp) _) (by omega), hch, ((hbel.setCell (by simp; omega) _).setCell (by simp) _).setCell (by simp) _⟩
theorem tyD_parts : ∀ (t : Ty) (m : Int), 1 ≤ m → min (((partsL t).length : Int) + 1) m ≤ tyD t m
  | .mk nm [], m, h => by have := tyD_bd (.mk nm []) m h; simp [partsL]; omega
  | .mk nm [a], m, h => by have := tyD_bd (.mk nm [a]) m h; simp [partsL]; omega
  | .mk nm (a :: b :: c :: d), m, h => by have := tyD_bd (.mk nm (a :: b :: c :: d)) m h; simp [partsL]; omega
  | .mk nm [a, b], m, h => by
    by_cases hm : 1 < m
    · have := tyD_parts b (m - 1) (by omega)
      rw [parts_two.1]
      simp only [tyD, tyDL, if_pos hm, List.length_cons]
      omega
    · have := tyD_bd (.mk nm [a, b]) m h
      omega
theorem formTy_depth {t : Ty} (h : formTy t = 0) : tyD t 101 ≤ 100 := by
  unfold formTy at h
  split at h
  · cases h
  · split at h
    · cases h
    · omega
theorem parts_short {t : Ty} (h : formTy t = 0) : (partsL t).length < 100 := by
  have h1 := formTy_depth h
  have h2 := tyD_parts t 101 (by omega)
  omega
def PartsL (t : Ty) : List Ty := if formTy t = 0 then partsL t else []
def PartsR (t : Ty) : ByteArray := if formTy t = 0 then partsR t else ⟨#[]⟩
theorem TyS_nil (h : Snap) : TyS h [] (.slice none 0 0) := ⟨none, 0, rfl, by simp, by simp, trivial⟩
/-- A row of the call's own, from now on read. -/
theorem own_TyS {w0 w : World} {B : Nat} {h : Snap} {v : Value} {n : Nat} {xs : List Value} {ts : List Ty} (H : Has w h) (hB : w0.heap.size ≤ B) (ho : w.ownsRow B 36 2 v n xs) (hc : Chunks (TyR h) 2 ts xs) (hl : ts.length ≤ lim) :
    ∃ h', TyS h' ts v ∧ Mk w0 h w h' ∧ (∀ a u, h' a = some u → h a = some u ∨ v.ownBlock = some a.block) := by
  obtain ⟨h', A, cap, rfl, rfl, hc, hr, m, n⟩ := own_Ty H hB ho hc
  exact ⟨h', ⟨A, cap, rfl, hc, hl, hr⟩, m, n⟩
set_option maxRecDepth 100000 in
set_option maxHeartbeats 4000000 in
theorem RParts_calls (t : Ty) (cs : List Value) (w : World) (h : Snap) (H : Has w h) (r : TyR h t cs) :
    Calls Tryz.prog 35 #[.agg cs.toArray] w fun e w' => ∃ sv h', e = .returned (.agg #[sv, .string (PartsR t)]) ∧ TyS h' (PartsL t) sv ∧ Mk w h w' h' ∧ Below w.heap.size w w' := by
  obtain ⟨A, cap, rfl, hl, hm, hr⟩ := r.open_
  have hu36 := Tryz.underlying36
  have hu62 := Tryz.underlying62
  have hb := ((Below.refl w.heap.size w).alloc (Nat.le_refl _) (.cells #[.string t.nm, .slice A t.ar.length cap] 36)).alloc (by simp) (.cells #[.slice none 0 0, .string ⟨#[]⟩] 62)
  have hB := blk_alloc (blk_new w (.cells #[.string t.nm, .slice A t.ar.length cap] 36)) (.cells #[.slice none 0 0, .string ⟨#[]⟩] 62)
  have hD := blk_new (w.alloc (.cells #[.string t.nm, .slice A t.ar.length cap] 36)) (.cells #[.slice none 0 0, .string ⟨#[]⟩] 62)
  simp only [World.size_alloc] at hD
  go_enter Tryz.func35, Tryz.ntmps35
  go_wp2_with fail
  refine (FormType_calls t _ _ h (H.below hb) r).mono ?_
  rintro e w1 ⟨rfl, b1⟩
  have hb1 := below_then hb b1 (by simp <;> omega)
  have hB1 := box_below hB b1
  have hD1 := box_below hD b1
  obtain ⟨x0, x1⟩ := box2 hB1
  obtain ⟨x2, x3⟩ := box2 hD1
  have f0 := blk_frozen hD1 0
  have f1 := blk_frozen hD1 1
  have l1 := blk_lt hD1
  by_cases c1 : formTy t = 0
  · have G := Lib.hid (show PartsL t = partsL t ∧ PartsR t = partsR t by simp [PartsL, PartsR, c1])
    have ff := Lib.hid (formTy_formed c1)
    have sh := parts_short c1
    have cq : (formTy t != 0) = false := by simp [c1]
    clear c1
    go_wp2_with fail
    refine (split_calls t _ _ h (H.below hb1) r (by unfold lim; omega) ff.out).mono ?_
    rintro e w2 ⟨sv, xs, rfl, hown, hch, b2⟩
    obtain ⟨As, ks, rfl⟩ := own_form hown
    have hb2 := below_then hb1 b2 (by omega)
    have hD2 := box_below hD1 b2
    obtain ⟨y2, y3⟩ := box2 hD2
    have f2 := blk_frozen hD2 0
    have f3 := blk_frozen hD2 1
    go_wp2_with fail
    refine bodyPost_ret (v := .agg #[.slice As (partsL t).length ks, .string (partsR t)]) ?_ rfl ?_
    · simp [results, Tryz.results35, go_sem, y2, y3]
    obtain ⟨h', hs, hk, hn⟩ := own_TyS (w0 := w) (H.below hb2) (by omega) hown hch (by unfold lim; omega)
    rw [G.out.1, G.out.2]
    have off : ∀ x u, h' x = some u → x.block ≠ w.heap.size + 1 := fun x u e hx => by
      rcases hn x u e with q | q
      · have := H.lt q; omega
      · exact own_ge hown (b := x.block) (by omega) q
    exact ⟨_, h', rfl, hs, hk.world ((hk.has.set (p := ⟨w.heap.size + 1, 0, none⟩) off _).set (p := ⟨w.heap.size + 1, 1, none⟩) off _), (hb2.setCell (by simp) _).setCell (by simp) _⟩
  · have G := Lib.hid (show PartsL t = [] ∧ PartsR t = ⟨#[]⟩ by simp [PartsL, PartsR, c1])
    have cq : (formTy t != 0) = true := by simp [c1]
    clear c1
    go_wp2_with fail
    refine bodyPost_ret (v := .agg #[.slice none 0 0, .string ⟨#[]⟩]) ?_ rfl ?_
    · simp [results, Tryz.results35, go_sem, x2, x3]
    rw [G.out.1, G.out.2]
    have off : ∀ x u, h x = some u → x.block ≠ w.heap.size + 1 := fun x u e hx => by have := H.lt e; omega
    exact ⟨_, h, rfl, TyS_nil h, Mk.refl (((H.below hb1).set (p := ⟨w.heap.size + 1, 0, none⟩) off _).set (p := ⟨w.heap.size + 1, 1, none⟩) off _), (hb1.setCell (by simp) _).setCell (by simp) _⟩
theorem run_field62_0 (A : Option Addr) (n c : Nat) (b : Value) (w : World) : (Instr.field 62 (.agg #[.slice A n c, b]) 0).run Tryz.prog w = .ok (.slice A n c) w := by kernel_rfl
set_option maxRecDepth 100000 in
set_option maxHeartbeats 4000000 in
theorem RArity_calls (t : Ty) (cs : List Value) (w : World) (h : Snap) (H : Has w h) (r : TyR h t cs) :
    Calls Tryz.prog 38 #[.agg cs.toArray] w fun e w' => e = .returned (.int .i64 (PartsL t).length) ∧ Below w.heap.size w w' := by
  obtain ⟨A, cap, rfl, hl, hm, hr⟩ := r.open_
  have hu36 := Tryz.underlying36
  have hu62 := Tryz.underlying62
  have hb := (Below.refl w.heap.size w).alloc (Nat.le_refl _) (.cells #[.string t.nm, .slice A t.ar.length cap] 36)
  have hfld := run_field62_0
  go_enter Tryz.func38, Tryz.ntmps38
  go_wp2_with fail
  refine (RParts_calls t _ _ h (H.below hb) r).mono ?_
  rintro e w1 ⟨sv, h', rfl, ⟨As, ks, rfl, _⟩, m1, b1⟩
  go_wp2_with fail
  go_ret
  exact ⟨rfl, below_then hb b1 (by simp)⟩
end Go.Proofs.YtpgbeapojjinmaaGreatDoor
