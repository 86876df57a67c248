/- The chapter's examples: sane. No law is proved here. -/
import Derived.Test.YtpgbeapojjinmaaGreatDoorNB
set_option linter.unusedVariables false
set_option linter.unusedSimpArgs false
namespace Go.Proofs.YtpgbeapojjinmaaGreatDoor
open Go.RowKit Go.Shelf Go.Proofs.YtpgbeapojjinmaaGreatDoorW.PrintLast
/-- A box that holds a term, a type. -/
structure BoxM (h : Snap) (b : Nat) (t : Tm) : Prop where
  at_ : ∃ A c, h ⟨b, 0, none⟩ = some (.int .i64 t.k) ∧ h ⟨b, 1, none⟩ = some (.int .i64 t.n) ∧ h ⟨b, 2, none⟩ = some (.string t.nm) ∧ h ⟨b, 3, none⟩ = some (.slice A t.ar.length c) ∧ TmR h t [.int .i64 t.k, .int .i64 t.n, .string t.nm, .slice A t.ar.length c]
structure BoxY (h : Snap) (b : Nat) (t : Ty) : Prop where
  at_ : ∃ A c, h ⟨b, 0, none⟩ = some (.string t.nm) ∧ h ⟨b, 1, none⟩ = some (.slice A t.ar.length c) ∧ TyR h t [.string t.nm, .slice A t.ar.length c]
theorem BoxM.sub {h h' : Snap} {b : Nat} {t : Tm} (x : BoxM h b t) (s : Sub h h') : BoxM h' b t := by
  obtain ⟨A, c, e0, e1, e2, e3, r⟩ := x.at_
  exact ⟨A, c, s.at_ _ _ e0, s.at_ _ _ e1, s.at_ _ _ e2, s.at_ _ _ e3, r.sub s⟩
theorem BoxY.sub {h h' : Snap} {b : Nat} {t : Ty} (x : BoxY h b t) (s : Sub h h') : BoxY h' b t := by
  obtain ⟨A, c, e0, e1, r⟩ := x.at_
  exact ⟨A, c, s.at_ _ _ e0, s.at_ _ _ e1, r.sub s⟩
theorem BoxM.mk_ {w0 W : World} {h : Snap} {u : Tm} {A : Option Addr} {c g : Nat} (H : Has W h) (hb : W.heap[g]? = some (.cells #[.int .i64 u.k, .int .i64 u.n, .string u.nm, .slice A u.ar.length c] 34)) (r : TmR h u [.int .i64 u.k, .int .i64 u.n, .string u.nm, .slice A u.ar.length c]) (hg : w0.heap.size ≤ g) :
    ∃ h2, BoxM h2 g u ∧ Mk w0 h W h2 := by
  have hx : ∀ i, W.cell? ⟨g, i, none⟩ = _ := fun i => blk_cell hb i
  exact ⟨withRow h W g 4, ⟨A, c, withRow.at_ H (by omega) (hx 0), withRow.at_ H (by omega) (hx 1), withRow.at_ H (by omega) (hx 2), withRow.at_ H (by omega) (hx 3), r.sub (withRow.sub ..)⟩, ⟨withRow.sub .., withRow.has H .., fun a v e => (withRow.new e).imp_right (fun k => by omega)⟩⟩
theorem BoxY.mk_ {w0 W : World} {h : Snap} {u : Ty} {A : Option Addr} {c g : Nat} (H : Has W h) (hb : W.heap[g]? = some (.cells #[.string u.nm, .slice A u.ar.length c] 36)) (r : TyR h u [.string u.nm, .slice A u.ar.length c]) (hg : w0.heap.size ≤ g) :
    ∃ h2, BoxY h2 g u ∧ Mk w0 h W h2 := by
  have hx : ∀ i, W.cell? ⟨g, i, none⟩ = _ := fun i => blk_cell hb i
  exact ⟨withRow h W g 2, ⟨A, c, withRow.at_ H (by omega) (hx 0), withRow.at_ H (by omega) (hx 1), r.sub (withRow.sub ..)⟩, ⟨withRow.sub .., withRow.has H .., fun a v e => (withRow.new e).imp_right (fun k => by omega)⟩⟩
theorem one_TyS2 {w0 W : World} {h : Snap} {u : Ty} {A : Option Addr} {c g : Nat} (H : Has W h) (hb : W.heap[g]? = some (.cells #[.string u.nm, .slice A u.ar.length c] 36)) (r : TyR h u [.string u.nm, .slice A u.ar.length c]) (hg : w0.heap.size ≤ g) :
    ∃ h2, TyS h2 [u] (.slice (some ⟨g, 0, none⟩) 1 1) ∧ Mk w0 h W h2 ∧ ∀ a v, h2 a = some v → h a = some v ∨ a.block = g := by
  have hx : ∀ i, W.cell? ⟨g, i, none⟩ = _ := fun i => blk_cell hb i
  exact ⟨withRow h W g 2, ⟨_, 1, rfl, by simp, by simp [lim], ⟨⟨g, 0, _, _, rfl, withRow.at_ H (by omega) (hx 0), withRow.at_ H (by omega) (hx 1), r.sub (withRow.sub ..)⟩, trivial⟩⟩, ⟨withRow.sub .., withRow.has H .., fun a v e => (withRow.new e).imp_right (fun k => by omega)⟩, fun a v e => withRow.new e⟩
theorem one_TmS2 {w0 W : World} {h : Snap} {u : Tm} {A : Option Addr} {c g : Nat} (H : Has W h) (hb : W.heap[g]? = some (.cells #[.int .i64 u.k, .int .i64 u.n, .string u.nm, .slice A u.ar.length c] 34)) (r : TmR h u [.int .i64 u.k, .int .i64 u.n, .string u.nm, .slice A u.ar.length c]) (hg : w0.heap.size ≤ g) :
    ∃ h2, TmS h2 [u] (.slice (some ⟨g, 0, none⟩) 1 1) ∧ Mk w0 h W h2 ∧ ∀ a v, h2 a = some v → h a = some v ∨ a.block = g := by
  have hx : ∀ i, W.cell? ⟨g, i, none⟩ = _ := fun i => blk_cell hb i
  exact ⟨withRow h W g 4, ⟨_, 1, rfl, by simp, by simp [lim], ⟨⟨g, 0, _, _, _, _, rfl, withRow.at_ H (by omega) (hx 0), withRow.at_ H (by omega) (hx 1), withRow.at_ H (by omega) (hx 2), withRow.at_ H (by omega) (hx 3), r.sub (withRow.sub ..)⟩, trivial⟩⟩, ⟨withRow.sub .., withRow.has H .., fun a v e => (withRow.new e).imp_right (fun k => by omega)⟩, fun a v e => withRow.new e⟩
/-- Two blocks that hold other things are two. -/
theorem blk_ne {W : World} {g g' : Nat} {o o' : Obj} (h : W.heap[g]? = some o) (h' : W.heap[g']? = some o') (hne : o ≠ o') : g ≠ g' := fun e => by
  subst e
  rw [h] at h'
  exact hne (Option.some.inj h')
theorem off_made {W W' : World} {h0 h h' : Snap} {g b : Nat} (m : Mk W h W' h') (hn : ∀ a v, h a = some v → h0 a = some v ∨ a.block = g) (ho : Off h0 (fun q => q = b)) (hne : g ≠ b) (hb : b < W.heap.size) : Off h' (fun q => q = b) := ⟨fun a v e hq => by
  rcases m.new a v e with e | e
  · rcases hn a v e with e | e
    · exact ho.at_ a v e hq
    · exact hne (e.symm.trans hq)
  · have : a.block = b := hq
    omega⟩
def pS (t : Tm) : Bool := decide (0 ≤ t.n ∧ t.n < 100)
/-- A term's text, of small numbers. -/
structure TxIs (t : Tm) (s : ByteArray) : Prop where
  sz : t.sz ≤ 100000
  nm : allN pS t = true
  jn : (Lib.join ((wrT t).map (·.data.toList)) [32]).length ≤ 140737488355328
  tx : textP t = s
theorem TextS_calls {t : Tm} {s : ByteArray} (hx : TxIs t s) (cs : List Value) (w : World) (h : Snap) (H : Has w h) (r : TmR h t cs) : Calls Tryz.prog 71 #[.agg cs.toArray] w fun e w' => e = .returned (.string s) ∧ Below w.heap.size w w' := by
  have := Text_calls pS (fun _ => True) 0 (fun t W ht _ => (Itoa_small t.n (by unfold pS at ht; simp at ht; exact ht.1) (by unfold pS at ht; simp at ht; exact ht.2) W).mono (fun e w' ⟨he, hw⟩ => ⟨he, hw ▸ Below.refl _ _⟩)) (fun _ _ _ _ _ _ => trivial) t cs w h H r trivial (Nat.zero_le _) (fun _ => ⟨hx.sz, hx.nm, hx.jn⟩)
  rw [hx.tx] at this
  exact this
theorem off_row {h0 h : Snap} {g b : Nat} (hn : ∀ a v, h a = some v → h0 a = some v ∨ a.block = g) (ho : Off h0 (fun q => q = b)) (hne : g ≠ b) : Off h (fun q => q = b) := ⟨fun a v e hq => by
  rcases hn a v e with e | e
  · exact ho.at_ a v e hq
  · exact hne (e.symm.trans hq)⟩
theorem vrT_R {h : Snap} {l : List Tm} {A : Option Addr} {c : Nat} (r : TmS h l (.slice A l.length c)) : TmR h (.mk 4 0 ⟨#[]⟩ l) [.int .i64 4, .int .i64 0, .string ⟨#[]⟩, .slice A l.length c] := by
  obtain ⟨A', c', e, h1, h2, h3⟩ := r
  cases e
  exact ⟨A, c, rfl, h1, h2, by omega, by omega, h3⟩
theorem set5 {w : World} {b : Nat} {x0 x1 x2 x3 x4 : Value} {T : TypeId} (hb : w.heap[b]? = some (.cells #[x0, x1, x2, x3, x4] T)) (y0 y1 y2 y3 y4 : Value) :
    (((((w.setCell ⟨b, 0, none⟩ y0).setCell ⟨b, 1, none⟩ y1).setCell ⟨b, 2, none⟩ y2).setCell ⟨b, 3, none⟩ y3).setCell ⟨b, 4, none⟩ y4).heap[b]? = some (.cells #[y0, y1, y2, y3, y4] T) ∧
      Kp (fun q => q = b) w (((((w.setCell ⟨b, 0, none⟩ y0).setCell ⟨b, 1, none⟩ y1).setCell ⟨b, 2, none⟩ y2).setCell ⟨b, 3, none⟩ y3).setCell ⟨b, 4, none⟩ y4) :=
  ⟨by have := blk_set (blk_set (blk_set (blk_set (blk_set hb 0 y0) 1 y1) 2 y2) 3 y3) 4 y4; simpa using this, ((((((Kp.refl (fun q => q = b) w).set (p := ⟨b, 0, none⟩) (.inl rfl) y0).set (p := ⟨b, 1, none⟩) (.inl rfl) y1).set (p := ⟨b, 2, none⟩) (.inl rfl) y2).set (p := ⟨b, 3, none⟩) (.inl rfl) y3).set (p := ⟨b, 4, none⟩) (.inl rfl) y4)⟩
theorem box5 {w : World} {b : Nat} {x y z u v : Value} {T : TypeId} (hb : w.heap[b]? = some (.cells #[x, y, z, u, v] T)) : w.cell? ⟨b, 0, none⟩ = some x ∧ w.cell? ⟨b, 1, none⟩ = some y ∧ w.cell? ⟨b, 2, none⟩ = some z ∧ w.cell? ⟨b, 3, none⟩ = some u ∧ w.cell? ⟨b, 4, none⟩ = some v :=
  ⟨(blk_cell hb 0).trans rfl, (blk_cell hb 1).trans rfl, (blk_cell hb 2).trans rfl, (blk_cell hb 3).trans rfl, (blk_cell hb 4).trans rfl⟩
/-- A box that holds a program. -/
structure BoxP (h : Snap) (b : Nat) (p : Pg) : Prop where
  at_ : ∃ v0 v1 v2 v3 v4, h ⟨b, 0, none⟩ = some v0 ∧ h ⟨b, 1, none⟩ = some v1 ∧ h ⟨b, 2, none⟩ = some v2 ∧ h ⟨b, 3, none⟩ = some v3 ∧ h ⟨b, 4, none⟩ = some v4 ∧ PgR h p [v0, v1, v2, v3, v4]
theorem BoxP.sub {h h' : Snap} {b : Nat} {p : Pg} (x : BoxP h b p) (s : Sub h h') : BoxP h' b p := by
  obtain ⟨v0, v1, v2, v3, v4, e0, e1, e2, e3, e4, r⟩ := x.at_
  exact ⟨v0, v1, v2, v3, v4, s.at_ _ _ e0, s.at_ _ _ e1, s.at_ _ _ e2, s.at_ _ _ e3, s.at_ _ _ e4, PgR.sub r s⟩
theorem BoxP.mk_ {w0 W : World} {h : Snap} {nt c1 c2 c3 : ByteArray} {N Y Z : Ty} {AN AY AZ : Option Addr} {cN cY cZ g0 g9 g : Nat} (H : Has W h) (b0 : W.heap[g0]? = some (.cells #[.string nt] 9)) (b9 : W.heap[g9]? = some (.cells #[.string c1, .string N.nm, .slice AN N.ar.length cN, .string c2, .string Y.nm, .slice AY Y.ar.length cY, .string c3, .string Z.nm, .slice AZ Z.ar.length cZ] 105))
    (b : W.heap[g]? = some (.cells #[.slice (some ⟨g0, 0, none⟩) 1 1, .slice (some ⟨g9, 0, none⟩) 3 3, .slice none 0 0, .slice none 0 0, .slice none 0 0] 28)) (rN : TyR h N [.string N.nm, .slice AN N.ar.length cN]) (rY : TyR h Y [.string Y.nm, .slice AY Y.ar.length cY]) (rZ : TyR h Z [.string Z.nm, .slice AZ Z.ar.length cZ]) (h0 : w0.heap.size ≤ g0) (h9 : w0.heap.size ≤ g9) (hg : w0.heap.size ≤ g) :
    ∃ h2, BoxP h2 g ⟨[nt], [(c1, N), (c2, Y), (c3, Z)]⟩ ∧ Mk w0 h W h2 := by
  have s1 := withRow.sub h W g0 1
  have H1 := withRow.has H g0 1
  have s2 := withRow.sub (withRow h W g0 1) W g9 9
  have H2 := withRow.has H1 g9 9
  have s3 := withRow.sub (withRow (withRow h W g0 1) W g9 9) W g 5
  have H3 := withRow.has H2 g 5
  have x0 : ∀ i, W.cell? ⟨g0, i, none⟩ = _ := fun i => blk_cell b0 i
  have x9 : ∀ i, W.cell? ⟨g9, i, none⟩ = _ := fun i => blk_cell b9 i
  have x : ∀ i, W.cell? ⟨g, i, none⟩ = _ := fun i => blk_cell b i
  have y9 : ∀ i v, i < 9 → W.cell? ⟨g9, i, none⟩ = some v → withRow (withRow (withRow h W g0 1) W g9 9) W g 5 ⟨g9, i, none⟩ = some v := fun i v hi e => s3.at_ _ _ (withRow.at_ H1 hi e)
  have ss := s1.trans (s2.trans s3)
  refine ⟨_, ⟨_, _, _, _, _, withRow.at_ H2 (by omega) (x 0), withRow.at_ H2 (by omega) (x 1), withRow.at_ H2 (by omega) (x 2), withRow.at_ H2 (by omega) (x 3), withRow.at_ H2 (by omega) (x 4), _, _, none, 0, 0, none, 0, 0, none, 0, 0, rfl, ⟨_, 1, rfl, by simp, by simp [lim], fun j hj => ?_⟩, ⟨_, 3, rfl, by simp, by simp [lim], fun j hj => ?_⟩⟩, ⟨ss, H3, fun a v e => ?_⟩⟩
  · match j, hj with
    | 0, _ => exact ⟨g0, 0, rfl, s3.at_ _ _ (s2.at_ _ _ (withRow.at_ H (by omega) (x0 0)))⟩
  · match j, hj with
    | 0, _ => exact ⟨g9, 0, AN, cN, rfl, y9 0 _ (by omega) (x9 0), y9 1 _ (by omega) (x9 1), y9 2 _ (by omega) (x9 2), rN.sub ss⟩
    | 1, _ => exact ⟨g9, 0, AY, cY, rfl, y9 3 _ (by omega) (x9 3), y9 4 _ (by omega) (x9 4), y9 5 _ (by omega) (x9 5), rY.sub ss⟩
    | 2, _ => exact ⟨g9, 0, AZ, cZ, rfl, y9 6 _ (by omega) (x9 6), y9 7 _ (by omega) (x9 7), y9 8 _ (by omega) (x9 8), rZ.sub ss⟩
  · rcases withRow.new e with e | e
    · rcases withRow.new e with e | e
      · rcases withRow.new e with e | e
        · exact .inl e
        · right; omega
      · right; omega
    · right; omega
theorem tx4 : TxIs T4 ⟨#[108, 97, 109, 32, 40, 32, 92, 32, 46, 32, 115, 32, 66, 48, 32, 41]⟩ := ⟨Nat.le_of_ble_eq_true (by kernel_rfl), by kernel_rfl, Nat.le_of_ble_eq_true (by kernel_rfl), by kernel_rfl⟩
theorem tx6 : TxIs T6 ⟨#[115, 32, 122]⟩ := ⟨Nat.le_of_ble_eq_true (by kernel_rfl), by kernel_rfl, Nat.le_of_ble_eq_true (by kernel_rfl), by kernel_rfl⟩
theorem tx8 : TxIs T8 ⟨#[92, 32, 46, 32, 115, 32, 66, 48]⟩ := ⟨Nat.le_of_ble_eq_true (by kernel_rfl), by kernel_rfl, Nat.le_of_ble_eq_true (by kernel_rfl), by kernel_rfl⟩
theorem tx12 : TxIs T12 ⟨#[92, 32, 46, 32, 80, 48, 32, 40, 32, 92, 32, 46, 32, 66, 49, 32, 66, 48, 32, 41]⟩ := ⟨Nat.le_of_ble_eq_true (by kernel_rfl), by kernel_rfl, Nat.le_of_ble_eq_true (by kernel_rfl), by kernel_rfl⟩
theorem tx14 : TxIs T14 ⟨#[115, 32, 40, 32, 115, 32, 122, 32, 41]⟩ := ⟨Nat.le_of_ble_eq_true (by kernel_rfl), by kernel_rfl, Nat.le_of_ble_eq_true (by kernel_rfl), by kernel_rfl⟩
theorem tx18 : TxIs T18 ⟨#[92, 32, 46, 32, 66, 48, 32, 66, 51]⟩ := ⟨Nat.le_of_ble_eq_true (by kernel_rfl), by kernel_rfl, Nat.le_of_ble_eq_true (by kernel_rfl), by kernel_rfl⟩
/-- Three operations may come up. -/
theorem rg3 {ops : Array Oper} {Q : Exit → Act → World → Prop} {S : World → Prop} {ds : List Nat} {a : Act} {w : World} {l : Array Bool} {fuel : Nat} (i j k : Nat) {oi oj ok : Oper} (hi : ops[i]? = some oi) (hj : ops[j]? = some oj) (hk : ops[k]? = some ok) (hc : (Region.ready .any ops l == [i, j, k]) = true) (hdi : i ∉ ds) (hdj : j ∉ ds) (hdk : k ∉ ds)
    (hwi : Region.wanted oi (yielded ops a.tmps) = true) (hwj : Region.wanted oj (yielded ops a.tmps) = true) (hwk : Region.wanted ok (yielded ops a.tmps) = true)
    (h1 : ∀ K : Act → World → Prop, Shut (∀ a' w', S w' → (S w' → wpAnyLast Tryz.prog .any ops Q S ds fuel (l.setIfInBounds i true) a' w') → K a' w') → Oper.wp Tryz.prog oi a w K Q)
    (h2 : ∀ K : Act → World → Prop, Shut (∀ a' w', S w' → (S w' → wpAnyLast Tryz.prog .any ops Q S ds fuel (l.setIfInBounds j true) a' w') → K a' w') → Oper.wp Tryz.prog oj a w K Q)
    (h3 : ∀ K : Act → World → Prop, Shut (∀ a' w', S w' → (S w' → wpAnyLast Tryz.prog .any ops Q S ds fuel (l.setIfInBounds k true) a' w') → K a' w') → Oper.wp Tryz.prog ok a w K Q) :
    wpAnyLast Tryz.prog .any ops Q S ds (fuel + 1) l a w :=
  three_ (l.setIfInBounds i true) (l.setIfInBounds j true) (l.setIfInBounds k true) hi hj hk rfl rfl rfl (by rw [hc]; simp) hdi hdj hdk (fun K hK => by rw [if_pos hwi]; exact h1 K hK) (fun K hK => by rw [if_pos hwj]; exact h2 K hK) (fun K hK => by rw [if_pos hwk]; exact h3 K hK)
set_option maxRecDepth 100000 in
set_option maxHeartbeats 16000000 in
theorem sane_calls (w : World) (h : Snap) (H : Has w h) : Calls Tryz.prog 17 #[] w fun e w' => e = .returned (.bool true) ∧ Below w.heap.size w w' := by
  have hu34 := Tryz.underlying34
  have hu36 := Tryz.underlying36
  have hu28 := Tryz.underlying28
  have hu105 := Tryz.underlying105
  go_enter Tryz.func17, Tryz.ntmps17
  go_wp2_with fail
  refine (base_calls _ _).mono ?_
  rintro e w1 ⟨rfl, k1⟩
  go_wp2_with fail
  obtain ⟨a1, a2, ab⟩ := alloc2 w1 (.cells #[.string ⟨#[110, 97, 116]⟩, .slice none 0 0] 36) (.cells #[.string ⟨#[110, 97, 116]⟩, .slice none 0 0] 36)
  have kk := below_then k1 ab k1.size
  have rn0 : ∀ h : Snap, TyR h natT [.string natT.nm, .slice none natT.ar.length 0] := fun h => ⟨none, 0, rfl, by simp, by simp, trivial⟩
  obtain ⟨h1, B1, m1⟩ := BoxY.mk_ (w0 := w) (u := natT) (H.below kk) a1 (rn0 h) k1.size
  obtain ⟨h2, t2, m2⟩ := one_TyS (w0 := w) (u := natT) m1.has a2 (rn0 h1) (by have := k1.size; omega)
  obtain ⟨W1, hW1⟩ : ∃ W1, ((w1.alloc (.cells #[.string ⟨#[110, 97, 116]⟩, .slice none 0 0] 36)).alloc (.cells #[.string ⟨#[110, 97, 116]⟩, .slice none 0 0] 36)) = W1 := ⟨_, rfl⟩
  rw [hW1] at a1 a2 ab kk m1 m2 ⊢
  clear hW1
  refine (Arrow_calls ⟨#[110, 97, 116]⟩ [natT] _ W1 h2 m2.has t2).mono ?_
  rintro e w2 ⟨cs, h3, rfl, r3, k2, m3⟩
  obtain ⟨Y, hY'⟩ : ∃ Y, oneT = Y := ⟨_, rfl⟩
  have r3' : TyR h3 Y cs := by rw [← hY']; exact r3
  have hY := Lib.hid hY'
  have mm3 := (m1.then_ m2).trans m3 kk.size
  replace B1 := (B1.sub m2.sub).sub m3.sub
  have kk2 := below_then kk k2 kk.size
  obtain ⟨N, hN'⟩ : ∃ N, natT = N := ⟨_, rfl⟩
  rw [hN'] at B1
  have hN := Lib.hid hN'
  clear hY' r3 hN' rn0 a1 a2 ab m1 m2 t2 m3 h1 h2
  obtain ⟨AY, cY, rfl, _⟩ := r3'.open_
  go_wp2_with fail
  have a3 := blk_new w2 (.cells #[.string Y.nm, .slice AY Y.ar.length cY] 36)
  obtain ⟨h3, B2, m3⟩ := BoxY.mk_ (w0 := w) (mm3.has.alloc (.cells #[.string Y.nm, .slice AY Y.ar.length cY] 36)) a3 r3' kk2.size
  have k3 := kk2.alloc kk2.size (.cells #[.string Y.nm, .slice AY Y.ar.length cY] 36)
  obtain ⟨W3, hW3⟩ : ∃ W3, w2.alloc (.cells #[.string Y.nm, .slice AY Y.ar.length cY] 36) = W3 := ⟨_, rfl⟩
  rw [hW3] at a3 m3 k3 ⊢
  clear hW3
  have m3x := m3
  replace m3 := mm3.then_ m3
  replace B1 := B1.sub m3x.sub
  have rY := r3'.sub m3x.sub
  obtain ⟨AN, cN, n0', n1', rN⟩ := B1.at_
  have n0 := m3.has.cell _ _ n0'
  have n1 := m3.has.cell _ _ n1'
  have y01 := box2 a3
  have y0 := y01.1
  have y1 := y01.2
  obtain ⟨Z, hZ'⟩ : ∃ Z, arrowT ⟨#[110, 97, 116]⟩ [Y] = Z := ⟨_, rfl⟩
  have hZ := Lib.hid hZ'
  clear hZ' y01 n0' n1' mm3 r3'
  refine rgs 13 (fun V => Below W3.heap.size W3 V) [12] rfl ((Below.refl _ _).drew) (fun hS => ?_)
  refine rgt 1 (.agg #[.string N.nm, .slice AN N.ar.length cN]) rfl (by kernel_rfl) (fun _ _ _ h => h) (by kernel_rfl) hS (fun V hV => by have q0 := cell_below n0 hV; have q1 := cell_below n1 hV; go_simp) ?_
  refine rgt 2 (.agg #[.string ⟨#[122]⟩, .string N.nm, .slice AN N.ar.length cN]) rfl (by kernel_rfl) (fun _ _ _ h => h) (by kernel_rfl) hS (fun V hV => by go_simp) ?_
  refine rgt 3 (.agg #[.string Y.nm, .slice AY Y.ar.length cY]) rfl (by kernel_rfl) (fun _ _ _ h => h) (by kernel_rfl) hS (fun V hV => by have q0 := cell_below y0 hV; have q1 := cell_below y1 hV; go_simp) ?_
  refine rgt 4 (.agg #[.string ⟨#[115]⟩, .string Y.nm, .slice AY Y.ar.length cY]) rfl (by kernel_rfl) (fun _ _ _ h => h) (by kernel_rfl) hS (fun V hV => by go_simp) ?_
  refine rgt 5 (.agg #[.string Y.nm, .slice AY Y.ar.length cY]) rfl (by kernel_rfl) (fun _ _ _ h => h) (by kernel_rfl) hS (fun V hV => by have q0 := cell_below y0 hV; have q1 := cell_below y1 hV; go_simp) ?_
  refine join_ (σ := Nat × Nat × Option Addr × Nat × Snap × Nat × Nat × Unit) 1 #[true, true, true, true, true, true, true, true, true, true, true, true, false] (fun s => [(24, .slice (some ⟨s.1, 0, none⟩) 1 1), (30, .slice (some ⟨s.2.1, 0, none⟩) 1 1), (31, .agg #[.string Z.nm, .slice s.2.2.1 Z.ar.length s.2.2.2.1]), (32, .agg #[.string ⟨#[108, 97, 109]⟩, .string Z.nm, .slice s.2.2.1 Z.ar.length s.2.2.2.1]), (33, .slice (some ⟨s.2.2.2.2.2.1, 0, none⟩) 3 3), (34, .agg #[.slice (some ⟨s.1, 0, none⟩) 1 1, .slice (some ⟨s.2.2.2.2.2.1, 0, none⟩) 3 3, .slice none 0 0, .slice none 0 0, .slice none 0 0]), (3, .pointer (some ⟨s.2.2.2.2.2.2.1, 0, none⟩))]) (fun s W => Below W3.heap.size W3 W ∧ (W.heap[s.1]? = some (.cells #[.string ⟨#[110, 97, 116]⟩] 9) ∧ W3.heap.size ≤ s.1) ∧ (W.heap[s.2.1]? = some (.cells #[.string Y.nm, .slice AY Y.ar.length cY] 36) ∧ W3.heap.size ≤ s.2.1) ∧ (TyR s.2.2.2.2.1 Z [.string Z.nm, .slice s.2.2.1 Z.ar.length s.2.2.2.1] ∧ Mk w h3 W s.2.2.2.2.1) ∧ (W.heap[s.2.2.2.2.2.1]? = some (.cells #[.string ⟨#[122]⟩, .string N.nm, .slice AN N.ar.length cN, .string ⟨#[115]⟩, .string Y.nm, .slice AY Y.ar.length cY, .string ⟨#[108, 97, 109]⟩, .string Z.nm, .slice s.2.2.1 Z.ar.length s.2.2.2.1] 105) ∧ W3.heap.size ≤ s.2.2.2.2.2.1) ∧ (W.heap[s.2.2.2.2.2.2.1]? = some (.cells #[.slice none 0 0, .slice none 0 0, .slice none 0 0, .slice none 0 0, .slice none 0 0] 28) ∧ W3.heap.size ≤ s.2.2.2.2.2.2.1) ∧ (Off s.2.2.2.2.1 (fun q => q = s.2.2.2.2.2.2.1)) ∧ True) ?_ (fun sta_0_6_7_9_11 => ?_)
  rotate_left
  · refine join_ (σ := Nat × Nat × Option Addr × Nat × Snap × Nat × Unit) 2 #[true, true, true, true, true, true, true, true, true, true, true, false, false] (fun s => [(24, .slice (some ⟨s.1, 0, none⟩) 1 1), (30, .slice (some ⟨s.2.1, 0, none⟩) 1 1), (31, .agg #[.string Z.nm, .slice s.2.2.1 Z.ar.length s.2.2.2.1]), (32, .agg #[.string ⟨#[108, 97, 109]⟩, .string Z.nm, .slice s.2.2.1 Z.ar.length s.2.2.2.1]), (33, .slice (some ⟨s.2.2.2.2.2.1, 0, none⟩) 3 3), (34, .agg #[.slice (some ⟨s.1, 0, none⟩) 1 1, .slice (some ⟨s.2.2.2.2.2.1, 0, none⟩) 3 3, .slice none 0 0, .slice none 0 0, .slice none 0 0])]) (fun s W => Below W3.heap.size W3 W ∧ (W.heap[s.1]? = some (.cells #[.string ⟨#[110, 97, 116]⟩] 9) ∧ W3.heap.size ≤ s.1) ∧ (W.heap[s.2.1]? = some (.cells #[.string Y.nm, .slice AY Y.ar.length cY] 36) ∧ W3.heap.size ≤ s.2.1) ∧ (TyR s.2.2.2.2.1 Z [.string Z.nm, .slice s.2.2.1 Z.ar.length s.2.2.2.1] ∧ Mk w h3 W s.2.2.2.2.1) ∧ (W.heap[s.2.2.2.2.2.1]? = some (.cells #[.string ⟨#[122]⟩, .string N.nm, .slice AN N.ar.length cN, .string ⟨#[115]⟩, .string Y.nm, .slice AY Y.ar.length cY, .string ⟨#[108, 97, 109]⟩, .string Z.nm, .slice s.2.2.1 Z.ar.length s.2.2.2.1] 105) ∧ W3.heap.size ≤ s.2.2.2.2.2.1) ∧ True) ?_ (fun sta_0_6_7_9 => ?_)
    · rintro ⟨g0, g6, AZ, cZ, h7, g9, ⟨⟩⟩ W ⟨hS, f0, f6, f7, f9, -⟩
      dsimp only [putAll]
      refine rg1 11 rfl (by kernel_rfl) (by decide) (by kernel_rfl) (fun K hK => ?_)
      have hS0 := hS
      go_simp
      have kx := (alloc1 W (.cells #[.slice none 0 0, .slice none 0 0, .slice none 0 0, .slice none 0 0, .slice none 0 0] 28)).2
      have kn := blk_new W (.cells #[.slice none 0 0, .slice none 0 0, .slice none 0 0, .slice none 0 0, .slice none 0 0] 28)
      have kz : W3.heap.size ≤ W.heap.size := hS.size
      refine hK.out _ _ (below_then hS kx hS.size) (fun hS => ?_)
      exact norm_ (by kernel_rfl) (sta_0_6_7_9_11 (g0, g6, AZ, cZ, h7, g9, W.heap.size, ()) _ ⟨hS, ⟨box_below f0.1 kx, f0.2⟩, ⟨box_below f6.1 kx, f6.2⟩, ⟨f7.1, f7.2.world (f7.2.has.below kx)⟩, ⟨box_below f9.1 kx, f9.2⟩, ⟨kn, kz⟩, f7.2.has.off_new (fun k e => by rw [e]; exact Nat.le_refl _), trivial⟩)
    refine join_ (σ := Nat × Nat × Option Addr × Nat × Snap × Nat × Unit) 3 #[true, true, true, true, true, true, true, true, true, false, false, true, false] (fun s => [(24, .slice (some ⟨s.1, 0, none⟩) 1 1), (30, .slice (some ⟨s.2.1, 0, none⟩) 1 1), (31, .agg #[.string Z.nm, .slice s.2.2.1 Z.ar.length s.2.2.2.1]), (32, .agg #[.string ⟨#[108, 97, 109]⟩, .string Z.nm, .slice s.2.2.1 Z.ar.length s.2.2.2.1]), (3, .pointer (some ⟨s.2.2.2.2.2.1, 0, none⟩))]) (fun s W => Below W3.heap.size W3 W ∧ (W.heap[s.1]? = some (.cells #[.string ⟨#[110, 97, 116]⟩] 9) ∧ W3.heap.size ≤ s.1) ∧ (W.heap[s.2.1]? = some (.cells #[.string Y.nm, .slice AY Y.ar.length cY] 36) ∧ W3.heap.size ≤ s.2.1) ∧ (TyR s.2.2.2.2.1 Z [.string Z.nm, .slice s.2.2.1 Z.ar.length s.2.2.2.1] ∧ Mk w h3 W s.2.2.2.2.1) ∧ (W.heap[s.2.2.2.2.2.1]? = some (.cells #[.slice none 0 0, .slice none 0 0, .slice none 0 0, .slice none 0 0, .slice none 0 0] 28) ∧ W3.heap.size ≤ s.2.2.2.2.2.1) ∧ (Off s.2.2.2.2.1 (fun q => q = s.2.2.2.2.2.1)) ∧ True) ?_ (fun sta_0_6_7_11 => ?_)
    · rintro ⟨g0, g6, AZ, cZ, h7, g11, ⟨⟩⟩ W ⟨hS, f0, f6, f7, f11, p7_11, -⟩
      dsimp only [putAll]
      refine rg1 9 rfl (by kernel_rfl) (by decide) (by kernel_rfl) (fun K hK => ?_)
      have hS0 := hS
      go_simp
      have kx := (alloc1 W (.cells #[.string ⟨#[122]⟩, .string N.nm, .slice AN N.ar.length cN, .string ⟨#[115]⟩, .string Y.nm, .slice AY Y.ar.length cY, .string ⟨#[108, 97, 109]⟩, .string Z.nm, .slice AZ Z.ar.length cZ] 105)).2
      have kn := blk_new W (.cells #[.string ⟨#[122]⟩, .string N.nm, .slice AN N.ar.length cN, .string ⟨#[115]⟩, .string Y.nm, .slice AY Y.ar.length cY, .string ⟨#[108, 97, 109]⟩, .string Z.nm, .slice AZ Z.ar.length cZ] 105)
      have kz : W3.heap.size ≤ W.heap.size := hS.size
      refine hK.out _ _ (below_then hS kx hS.size) (fun hS => ?_)
      refine rgt 10 (.agg #[.slice (some ⟨g0, 0, none⟩) 1 1, .slice (some ⟨W.heap.size, 0, none⟩) 3 3, .slice none 0 0, .slice none 0 0, .slice none 0 0]) rfl (by kernel_rfl) (fun _ _ _ h => h) (by kernel_rfl) hS (fun V hV => by go_simp) ?_
      exact norm_ (by kernel_rfl) (sta_0_6_7_9_11 (g0, g6, AZ, cZ, h7, W.heap.size, g11, ()) _ ⟨hS, ⟨box_below f0.1 kx, f0.2⟩, ⟨box_below f6.1 kx, f6.2⟩, ⟨f7.1, f7.2.world (f7.2.has.below kx)⟩, ⟨kn, kz⟩, ⟨box_below f11.1 kx, f11.2⟩, p7_11, trivial⟩)
    refine join_ (σ := Nat × Option Addr × Nat × Snap × Nat × Nat × Unit) 3 #[false, true, true, true, true, true, true, true, true, true, false, true, false] (fun s => [(30, .slice (some ⟨s.1, 0, none⟩) 1 1), (31, .agg #[.string Z.nm, .slice s.2.1 Z.ar.length s.2.2.1]), (32, .agg #[.string ⟨#[108, 97, 109]⟩, .string Z.nm, .slice s.2.1 Z.ar.length s.2.2.1]), (33, .slice (some ⟨s.2.2.2.2.1, 0, none⟩) 3 3), (3, .pointer (some ⟨s.2.2.2.2.2.1, 0, none⟩))]) (fun s W => Below W3.heap.size W3 W ∧ (W.heap[s.1]? = some (.cells #[.string Y.nm, .slice AY Y.ar.length cY] 36) ∧ W3.heap.size ≤ s.1) ∧ (TyR s.2.2.2.1 Z [.string Z.nm, .slice s.2.1 Z.ar.length s.2.2.1] ∧ Mk w h3 W s.2.2.2.1) ∧ (W.heap[s.2.2.2.2.1]? = some (.cells #[.string ⟨#[122]⟩, .string N.nm, .slice AN N.ar.length cN, .string ⟨#[115]⟩, .string Y.nm, .slice AY Y.ar.length cY, .string ⟨#[108, 97, 109]⟩, .string Z.nm, .slice s.2.1 Z.ar.length s.2.2.1] 105) ∧ W3.heap.size ≤ s.2.2.2.2.1) ∧ (W.heap[s.2.2.2.2.2.1]? = some (.cells #[.slice none 0 0, .slice none 0 0, .slice none 0 0, .slice none 0 0, .slice none 0 0] 28) ∧ W3.heap.size ≤ s.2.2.2.2.2.1) ∧ (Off s.2.2.2.1 (fun q => q = s.2.2.2.2.2.1)) ∧ True) ?_ (fun sta_6_7_9_11 => ?_)
    · rintro ⟨g6, AZ, cZ, h7, g9, g11, ⟨⟩⟩ W ⟨hS, f6, f7, f9, f11, p7_11, -⟩
      dsimp only [putAll]
      refine rg1 0 rfl (by kernel_rfl) (by decide) (by kernel_rfl) (fun K hK => ?_)
      have hS0 := hS
      go_simp
      have kx := (alloc1 W (.cells #[.string ⟨#[110, 97, 116]⟩] 9)).2
      have kn := blk_new W (.cells #[.string ⟨#[110, 97, 116]⟩] 9)
      have kz : W3.heap.size ≤ W.heap.size := hS.size
      refine hK.out _ _ (below_then hS kx hS.size) (fun hS => ?_)
      refine rgt 10 (.agg #[.slice (some ⟨W.heap.size, 0, none⟩) 1 1, .slice (some ⟨g9, 0, none⟩) 3 3, .slice none 0 0, .slice none 0 0, .slice none 0 0]) rfl (by kernel_rfl) (fun _ _ _ h => h) (by kernel_rfl) hS (fun V hV => by go_simp) ?_
      exact norm_ (by kernel_rfl) (sta_0_6_7_9_11 (W.heap.size, g6, AZ, cZ, h7, g9, g11, ()) _ ⟨hS, ⟨kn, kz⟩, ⟨box_below f6.1 kx, f6.2⟩, ⟨f7.1, f7.2.world (f7.2.has.below kx)⟩, ⟨box_below f9.1 kx, f9.2⟩, ⟨box_below f11.1 kx, f11.2⟩, p7_11, trivial⟩)
    refine join_ (σ := Nat × Nat × Option Addr × Nat × Snap × Unit) 4 #[true, true, true, true, true, true, true, true, true, false, false, false, false] (fun s => [(24, .slice (some ⟨s.1, 0, none⟩) 1 1), (30, .slice (some ⟨s.2.1, 0, none⟩) 1 1), (31, .agg #[.string Z.nm, .slice s.2.2.1 Z.ar.length s.2.2.2.1]), (32, .agg #[.string ⟨#[108, 97, 109]⟩, .string Z.nm, .slice s.2.2.1 Z.ar.length s.2.2.2.1])]) (fun s W => Below W3.heap.size W3 W ∧ (W.heap[s.1]? = some (.cells #[.string ⟨#[110, 97, 116]⟩] 9) ∧ W3.heap.size ≤ s.1) ∧ (W.heap[s.2.1]? = some (.cells #[.string Y.nm, .slice AY Y.ar.length cY] 36) ∧ W3.heap.size ≤ s.2.1) ∧ (TyR s.2.2.2.2.1 Z [.string Z.nm, .slice s.2.2.1 Z.ar.length s.2.2.2.1] ∧ Mk w h3 W s.2.2.2.2.1) ∧ True) ?_ (fun sta_0_6_7 => ?_)
    · rintro ⟨g0, g6, AZ, cZ, h7, ⟨⟩⟩ W ⟨hS, f0, f6, f7, -⟩
      dsimp only [putAll]
      refine rg2 9 11 rfl rfl (by kernel_rfl) (by decide) (by decide) (by kernel_rfl) (by kernel_rfl) (fun K hK => ?_) (fun K hK => ?_)
      · have hS0 := hS
        go_simp
        have kx := (alloc1 W (.cells #[.string ⟨#[122]⟩, .string N.nm, .slice AN N.ar.length cN, .string ⟨#[115]⟩, .string Y.nm, .slice AY Y.ar.length cY, .string ⟨#[108, 97, 109]⟩, .string Z.nm, .slice AZ Z.ar.length cZ] 105)).2
        have kn := blk_new W (.cells #[.string ⟨#[122]⟩, .string N.nm, .slice AN N.ar.length cN, .string ⟨#[115]⟩, .string Y.nm, .slice AY Y.ar.length cY, .string ⟨#[108, 97, 109]⟩, .string Z.nm, .slice AZ Z.ar.length cZ] 105)
        have kz : W3.heap.size ≤ W.heap.size := hS.size
        refine hK.out _ _ (below_then hS kx hS.size) (fun hS => ?_)
        refine rgt 10 (.agg #[.slice (some ⟨g0, 0, none⟩) 1 1, .slice (some ⟨W.heap.size, 0, none⟩) 3 3, .slice none 0 0, .slice none 0 0, .slice none 0 0]) rfl (by kernel_rfl) (fun _ _ _ h => h) (by kernel_rfl) hS (fun V hV => by go_simp) ?_
        exact norm_ (by kernel_rfl) (sta_0_6_7_9 (g0, g6, AZ, cZ, h7, W.heap.size, ()) _ ⟨hS, ⟨box_below f0.1 kx, f0.2⟩, ⟨box_below f6.1 kx, f6.2⟩, ⟨f7.1, f7.2.world (f7.2.has.below kx)⟩, ⟨kn, kz⟩, trivial⟩)
      · have hS0 := hS
        go_simp
        have kx := (alloc1 W (.cells #[.slice none 0 0, .slice none 0 0, .slice none 0 0, .slice none 0 0, .slice none 0 0] 28)).2
        have kn := blk_new W (.cells #[.slice none 0 0, .slice none 0 0, .slice none 0 0, .slice none 0 0, .slice none 0 0] 28)
        have kz : W3.heap.size ≤ W.heap.size := hS.size
        refine hK.out _ _ (below_then hS kx hS.size) (fun hS => ?_)
        exact norm_ (by kernel_rfl) (sta_0_6_7_11 (g0, g6, AZ, cZ, h7, W.heap.size, ()) _ ⟨hS, ⟨box_below f0.1 kx, f0.2⟩, ⟨box_below f6.1 kx, f6.2⟩, ⟨f7.1, f7.2.world (f7.2.has.below kx)⟩, ⟨kn, kz⟩, f7.2.has.off_new (fun k e => by rw [e]; exact Nat.le_refl _), trivial⟩)
    refine join_ (σ := Nat × Nat × Nat × Unit) 5 #[true, true, true, true, true, true, true, false, false, false, false, true, false] (fun s => [(24, .slice (some ⟨s.1, 0, none⟩) 1 1), (30, .slice (some ⟨s.2.1, 0, none⟩) 1 1), (3, .pointer (some ⟨s.2.2.1, 0, none⟩))]) (fun s W => Below W3.heap.size W3 W ∧ (W.heap[s.1]? = some (.cells #[.string ⟨#[110, 97, 116]⟩] 9) ∧ W3.heap.size ≤ s.1) ∧ (W.heap[s.2.1]? = some (.cells #[.string Y.nm, .slice AY Y.ar.length cY] 36) ∧ W3.heap.size ≤ s.2.1) ∧ (W.heap[s.2.2.1]? = some (.cells #[.slice none 0 0, .slice none 0 0, .slice none 0 0, .slice none 0 0, .slice none 0 0] 28) ∧ W3.heap.size ≤ s.2.2.1) ∧ True) ?_ (fun sta_0_6_11 => ?_)
    · rintro ⟨g0, g6, g11, ⟨⟩⟩ W ⟨hS, f0, f6, f11, -⟩
      dsimp only [putAll]
      refine rg1 7 rfl (by kernel_rfl) (by decide) (by kernel_rfl) (fun K hK => ?_)
      have hS0 := hS
      go_simp
      have hS_size := hS.size
      obtain ⟨h6, t6, m6, v6⟩ := one_TyS2 (w0 := w) (m3.has.below hS) f6.1 rY (Nat.le_trans k3.size f6.2)
      refine (Arrow_calls ⟨#[110, 97, 116]⟩ [Y] _ W h6 m6.has t6).mono ?_
      rintro e W7 ⟨cs7, h7, rfl, r7, k7, m7⟩
      rw [hZ.out] at r7
      obtain ⟨AZ, cZ, rfl, _⟩ := r7.open_
      simp only []
      have kx := k7
      refine hK.out _ _ (below_then hS kx hS.size) (fun hS => ?_)
      refine rgt 8 (.agg #[.string ⟨#[108, 97, 109]⟩, .string Z.nm, .slice AZ Z.ar.length cZ]) rfl (by kernel_rfl) (fun _ _ _ h => h) (by kernel_rfl) hS (fun V hV => by go_simp) ?_
      exact norm_ (by kernel_rfl) (sta_0_6_7_11 (g0, g6, AZ, cZ, h7, g11, ()) _ ⟨hS, ⟨box_below f0.1 kx, f0.2⟩, ⟨box_below f6.1 kx, f6.2⟩, ⟨r7, m6.trans m7 (Nat.le_trans k3.size hS_size)⟩, ⟨box_below f11.1 kx, f11.2⟩, off_made m7 v6 (m3.has.off_new (S := fun q => q = g11) (fun k e => by rw [e]; exact f11.2)) (blk_ne f6.1 f11.1 (by simp)) (blk_lt f11.1), trivial⟩)
    refine join_ (σ := Nat × Option Addr × Nat × Snap × Nat × Unit) 4 #[false, true, true, true, true, true, true, true, true, true, false, false, false] (fun s => [(30, .slice (some ⟨s.1, 0, none⟩) 1 1), (31, .agg #[.string Z.nm, .slice s.2.1 Z.ar.length s.2.2.1]), (32, .agg #[.string ⟨#[108, 97, 109]⟩, .string Z.nm, .slice s.2.1 Z.ar.length s.2.2.1]), (33, .slice (some ⟨s.2.2.2.2.1, 0, none⟩) 3 3)]) (fun s W => Below W3.heap.size W3 W ∧ (W.heap[s.1]? = some (.cells #[.string Y.nm, .slice AY Y.ar.length cY] 36) ∧ W3.heap.size ≤ s.1) ∧ (TyR s.2.2.2.1 Z [.string Z.nm, .slice s.2.1 Z.ar.length s.2.2.1] ∧ Mk w h3 W s.2.2.2.1) ∧ (W.heap[s.2.2.2.2.1]? = some (.cells #[.string ⟨#[122]⟩, .string N.nm, .slice AN N.ar.length cN, .string ⟨#[115]⟩, .string Y.nm, .slice AY Y.ar.length cY, .string ⟨#[108, 97, 109]⟩, .string Z.nm, .slice s.2.1 Z.ar.length s.2.2.1] 105) ∧ W3.heap.size ≤ s.2.2.2.2.1) ∧ True) ?_ (fun sta_6_7_9 => ?_)
    · rintro ⟨g6, AZ, cZ, h7, g9, ⟨⟩⟩ W ⟨hS, f6, f7, f9, -⟩
      dsimp only [putAll]
      refine rg2 0 11 rfl rfl (by kernel_rfl) (by decide) (by decide) (by kernel_rfl) (by kernel_rfl) (fun K hK => ?_) (fun K hK => ?_)
      · have hS0 := hS
        go_simp
        have kx := (alloc1 W (.cells #[.string ⟨#[110, 97, 116]⟩] 9)).2
        have kn := blk_new W (.cells #[.string ⟨#[110, 97, 116]⟩] 9)
        have kz : W3.heap.size ≤ W.heap.size := hS.size
        refine hK.out _ _ (below_then hS kx hS.size) (fun hS => ?_)
        refine rgt 10 (.agg #[.slice (some ⟨W.heap.size, 0, none⟩) 1 1, .slice (some ⟨g9, 0, none⟩) 3 3, .slice none 0 0, .slice none 0 0, .slice none 0 0]) rfl (by kernel_rfl) (fun _ _ _ h => h) (by kernel_rfl) hS (fun V hV => by go_simp) ?_
        exact norm_ (by kernel_rfl) (sta_0_6_7_9 (W.heap.size, g6, AZ, cZ, h7, g9, ()) _ ⟨hS, ⟨kn, kz⟩, ⟨box_below f6.1 kx, f6.2⟩, ⟨f7.1, f7.2.world (f7.2.has.below kx)⟩, ⟨box_below f9.1 kx, f9.2⟩, trivial⟩)
      · have hS0 := hS
        go_simp
        have kx := (alloc1 W (.cells #[.slice none 0 0, .slice none 0 0, .slice none 0 0, .slice none 0 0, .slice none 0 0] 28)).2
        have kn := blk_new W (.cells #[.slice none 0 0, .slice none 0 0, .slice none 0 0, .slice none 0 0, .slice none 0 0] 28)
        have kz : W3.heap.size ≤ W.heap.size := hS.size
        refine hK.out _ _ (below_then hS kx hS.size) (fun hS => ?_)
        exact norm_ (by kernel_rfl) (sta_6_7_9_11 (g6, AZ, cZ, h7, g9, W.heap.size, ()) _ ⟨hS, ⟨box_below f6.1 kx, f6.2⟩, ⟨f7.1, f7.2.world (f7.2.has.below kx)⟩, ⟨box_below f9.1 kx, f9.2⟩, ⟨kn, kz⟩, f7.2.has.off_new (fun k e => by rw [e]; exact Nat.le_refl _), trivial⟩)
    refine join_ (σ := Nat × Option Addr × Nat × Snap × Nat × Unit) 4 #[false, true, true, true, true, true, true, true, true, false, false, true, false] (fun s => [(30, .slice (some ⟨s.1, 0, none⟩) 1 1), (31, .agg #[.string Z.nm, .slice s.2.1 Z.ar.length s.2.2.1]), (32, .agg #[.string ⟨#[108, 97, 109]⟩, .string Z.nm, .slice s.2.1 Z.ar.length s.2.2.1]), (3, .pointer (some ⟨s.2.2.2.2.1, 0, none⟩))]) (fun s W => Below W3.heap.size W3 W ∧ (W.heap[s.1]? = some (.cells #[.string Y.nm, .slice AY Y.ar.length cY] 36) ∧ W3.heap.size ≤ s.1) ∧ (TyR s.2.2.2.1 Z [.string Z.nm, .slice s.2.1 Z.ar.length s.2.2.1] ∧ Mk w h3 W s.2.2.2.1) ∧ (W.heap[s.2.2.2.2.1]? = some (.cells #[.slice none 0 0, .slice none 0 0, .slice none 0 0, .slice none 0 0, .slice none 0 0] 28) ∧ W3.heap.size ≤ s.2.2.2.2.1) ∧ (Off s.2.2.2.1 (fun q => q = s.2.2.2.2.1)) ∧ True) ?_ (fun sta_6_7_11 => ?_)
    · rintro ⟨g6, AZ, cZ, h7, g11, ⟨⟩⟩ W ⟨hS, f6, f7, f11, p7_11, -⟩
      dsimp only [putAll]
      refine rg2 0 9 rfl rfl (by kernel_rfl) (by decide) (by decide) (by kernel_rfl) (by kernel_rfl) (fun K hK => ?_) (fun K hK => ?_)
      · have hS0 := hS
        go_simp
        have kx := (alloc1 W (.cells #[.string ⟨#[110, 97, 116]⟩] 9)).2
        have kn := blk_new W (.cells #[.string ⟨#[110, 97, 116]⟩] 9)
        have kz : W3.heap.size ≤ W.heap.size := hS.size
        refine hK.out _ _ (below_then hS kx hS.size) (fun hS => ?_)
        exact norm_ (by kernel_rfl) (sta_0_6_7_11 (W.heap.size, g6, AZ, cZ, h7, g11, ()) _ ⟨hS, ⟨kn, kz⟩, ⟨box_below f6.1 kx, f6.2⟩, ⟨f7.1, f7.2.world (f7.2.has.below kx)⟩, ⟨box_below f11.1 kx, f11.2⟩, p7_11, trivial⟩)
      · have hS0 := hS
        go_simp
        have kx := (alloc1 W (.cells #[.string ⟨#[122]⟩, .string N.nm, .slice AN N.ar.length cN, .string ⟨#[115]⟩, .string Y.nm, .slice AY Y.ar.length cY, .string ⟨#[108, 97, 109]⟩, .string Z.nm, .slice AZ Z.ar.length cZ] 105)).2
        have kn := blk_new W (.cells #[.string ⟨#[122]⟩, .string N.nm, .slice AN N.ar.length cN, .string ⟨#[115]⟩, .string Y.nm, .slice AY Y.ar.length cY, .string ⟨#[108, 97, 109]⟩, .string Z.nm, .slice AZ Z.ar.length cZ] 105)
        have kz : W3.heap.size ≤ W.heap.size := hS.size
        refine hK.out _ _ (below_then hS kx hS.size) (fun hS => ?_)
        exact norm_ (by kernel_rfl) (sta_6_7_9_11 (g6, AZ, cZ, h7, W.heap.size, g11, ()) _ ⟨hS, ⟨box_below f6.1 kx, f6.2⟩, ⟨f7.1, f7.2.world (f7.2.has.below kx)⟩, ⟨kn, kz⟩, ⟨box_below f11.1 kx, f11.2⟩, p7_11, trivial⟩)
    refine join_ (σ := Nat × Nat × Unit) 6 #[true, true, true, true, true, true, true, false, false, false, false, false, false] (fun s => [(24, .slice (some ⟨s.1, 0, none⟩) 1 1), (30, .slice (some ⟨s.2.1, 0, none⟩) 1 1)]) (fun s W => Below W3.heap.size W3 W ∧ (W.heap[s.1]? = some (.cells #[.string ⟨#[110, 97, 116]⟩] 9) ∧ W3.heap.size ≤ s.1) ∧ (W.heap[s.2.1]? = some (.cells #[.string Y.nm, .slice AY Y.ar.length cY] 36) ∧ W3.heap.size ≤ s.2.1) ∧ True) ?_ (fun sta_0_6 => ?_)
    · rintro ⟨g0, g6, ⟨⟩⟩ W ⟨hS, f0, f6, -⟩
      dsimp only [putAll]
      refine rg2 7 11 rfl rfl (by kernel_rfl) (by decide) (by decide) (by kernel_rfl) (by kernel_rfl) (fun K hK => ?_) (fun K hK => ?_)
      · have hS0 := hS
        go_simp
        have hS_size := hS.size
        obtain ⟨h6, t6, m6, v6⟩ := one_TyS2 (w0 := w) (m3.has.below hS) f6.1 rY (Nat.le_trans k3.size f6.2)
        refine (Arrow_calls ⟨#[110, 97, 116]⟩ [Y] _ W h6 m6.has t6).mono ?_
        rintro e W7 ⟨cs7, h7, rfl, r7, k7, m7⟩
        rw [hZ.out] at r7
        obtain ⟨AZ, cZ, rfl, _⟩ := r7.open_
        simp only []
        have kx := k7
        refine hK.out _ _ (below_then hS kx hS.size) (fun hS => ?_)
        refine rgt 8 (.agg #[.string ⟨#[108, 97, 109]⟩, .string Z.nm, .slice AZ Z.ar.length cZ]) rfl (by kernel_rfl) (fun _ _ _ h => h) (by kernel_rfl) hS (fun V hV => by go_simp) ?_
        exact norm_ (by kernel_rfl) (sta_0_6_7 (g0, g6, AZ, cZ, h7, ()) _ ⟨hS, ⟨box_below f0.1 kx, f0.2⟩, ⟨box_below f6.1 kx, f6.2⟩, ⟨r7, m6.trans m7 (Nat.le_trans k3.size hS_size)⟩, trivial⟩)
      · have hS0 := hS
        go_simp
        have kx := (alloc1 W (.cells #[.slice none 0 0, .slice none 0 0, .slice none 0 0, .slice none 0 0, .slice none 0 0] 28)).2
        have kn := blk_new W (.cells #[.slice none 0 0, .slice none 0 0, .slice none 0 0, .slice none 0 0, .slice none 0 0] 28)
        have kz : W3.heap.size ≤ W.heap.size := hS.size
        refine hK.out _ _ (below_then hS kx hS.size) (fun hS => ?_)
        exact norm_ (by kernel_rfl) (sta_0_6_11 (g0, g6, W.heap.size, ()) _ ⟨hS, ⟨box_below f0.1 kx, f0.2⟩, ⟨box_below f6.1 kx, f6.2⟩, ⟨kn, kz⟩, trivial⟩)
    refine join_ (σ := Nat × Nat × Unit) 6 #[true, true, true, true, true, true, false, false, false, false, false, true, false] (fun s => [(24, .slice (some ⟨s.1, 0, none⟩) 1 1), (3, .pointer (some ⟨s.2.1, 0, none⟩))]) (fun s W => Below W3.heap.size W3 W ∧ (W.heap[s.1]? = some (.cells #[.string ⟨#[110, 97, 116]⟩] 9) ∧ W3.heap.size ≤ s.1) ∧ (W.heap[s.2.1]? = some (.cells #[.slice none 0 0, .slice none 0 0, .slice none 0 0, .slice none 0 0, .slice none 0 0] 28) ∧ W3.heap.size ≤ s.2.1) ∧ True) ?_ (fun sta_0_11 => ?_)
    · rintro ⟨g0, g11, ⟨⟩⟩ W ⟨hS, f0, f11, -⟩
      dsimp only [putAll]
      refine rg1 6 rfl (by kernel_rfl) (by decide) (by kernel_rfl) (fun K hK => ?_)
      have hS0 := hS
      go_simp
      have kx := (alloc1 W (.cells #[.string Y.nm, .slice AY Y.ar.length cY] 36)).2
      have kn := blk_new W (.cells #[.string Y.nm, .slice AY Y.ar.length cY] 36)
      have kz : W3.heap.size ≤ W.heap.size := hS.size
      refine hK.out _ _ (below_then hS kx hS.size) (fun hS => ?_)
      exact norm_ (by kernel_rfl) (sta_0_6_11 (g0, W.heap.size, g11, ()) _ ⟨hS, ⟨box_below f0.1 kx, f0.2⟩, ⟨kn, kz⟩, ⟨box_below f11.1 kx, f11.2⟩, trivial⟩)
    refine join_ (σ := Nat × Option Addr × Nat × Snap × Unit) 5 #[false, true, true, true, true, true, true, true, true, false, false, false, false] (fun s => [(30, .slice (some ⟨s.1, 0, none⟩) 1 1), (31, .agg #[.string Z.nm, .slice s.2.1 Z.ar.length s.2.2.1]), (32, .agg #[.string ⟨#[108, 97, 109]⟩, .string Z.nm, .slice s.2.1 Z.ar.length s.2.2.1])]) (fun s W => Below W3.heap.size W3 W ∧ (W.heap[s.1]? = some (.cells #[.string Y.nm, .slice AY Y.ar.length cY] 36) ∧ W3.heap.size ≤ s.1) ∧ (TyR s.2.2.2.1 Z [.string Z.nm, .slice s.2.1 Z.ar.length s.2.2.1] ∧ Mk w h3 W s.2.2.2.1) ∧ True) ?_ (fun sta_6_7 => ?_)
    · rintro ⟨g6, AZ, cZ, h7, ⟨⟩⟩ W ⟨hS, f6, f7, -⟩
      dsimp only [putAll]
      refine rg3 0 9 11 rfl rfl rfl (by kernel_rfl) (by decide) (by decide) (by decide) (by kernel_rfl) (by kernel_rfl) (by kernel_rfl) (fun K hK => ?_) (fun K hK => ?_) (fun K hK => ?_)
      · have hS0 := hS
        go_simp
        have kx := (alloc1 W (.cells #[.string ⟨#[110, 97, 116]⟩] 9)).2
        have kn := blk_new W (.cells #[.string ⟨#[110, 97, 116]⟩] 9)
        have kz : W3.heap.size ≤ W.heap.size := hS.size
        refine hK.out _ _ (below_then hS kx hS.size) (fun hS => ?_)
        exact norm_ (by kernel_rfl) (sta_0_6_7 (W.heap.size, g6, AZ, cZ, h7, ()) _ ⟨hS, ⟨kn, kz⟩, ⟨box_below f6.1 kx, f6.2⟩, ⟨f7.1, f7.2.world (f7.2.has.below kx)⟩, trivial⟩)
      · have hS0 := hS
        go_simp
        have kx := (alloc1 W (.cells #[.string ⟨#[122]⟩, .string N.nm, .slice AN N.ar.length cN, .string ⟨#[115]⟩, .string Y.nm, .slice AY Y.ar.length cY, .string ⟨#[108, 97, 109]⟩, .string Z.nm, .slice AZ Z.ar.length cZ] 105)).2
        have kn := blk_new W (.cells #[.string ⟨#[122]⟩, .string N.nm, .slice AN N.ar.length cN, .string ⟨#[115]⟩, .string Y.nm, .slice AY Y.ar.length cY, .string ⟨#[108, 97, 109]⟩, .string Z.nm, .slice AZ Z.ar.length cZ] 105)
        have kz : W3.heap.size ≤ W.heap.size := hS.size
        refine hK.out _ _ (below_then hS kx hS.size) (fun hS => ?_)
        exact norm_ (by kernel_rfl) (sta_6_7_9 (g6, AZ, cZ, h7, W.heap.size, ()) _ ⟨hS, ⟨box_below f6.1 kx, f6.2⟩, ⟨f7.1, f7.2.world (f7.2.has.below kx)⟩, ⟨kn, kz⟩, trivial⟩)
      · have hS0 := hS
        go_simp
        have kx := (alloc1 W (.cells #[.slice none 0 0, .slice none 0 0, .slice none 0 0, .slice none 0 0, .slice none 0 0] 28)).2
        have kn := blk_new W (.cells #[.slice none 0 0, .slice none 0 0, .slice none 0 0, .slice none 0 0, .slice none 0 0] 28)
        have kz : W3.heap.size ≤ W.heap.size := hS.size
        refine hK.out _ _ (below_then hS kx hS.size) (fun hS => ?_)
        exact norm_ (by kernel_rfl) (sta_6_7_11 (g6, AZ, cZ, h7, W.heap.size, ()) _ ⟨hS, ⟨box_below f6.1 kx, f6.2⟩, ⟨f7.1, f7.2.world (f7.2.has.below kx)⟩, ⟨kn, kz⟩, f7.2.has.off_new (fun k e => by rw [e]; exact Nat.le_refl _), trivial⟩)
    refine join_ (σ := Nat × Nat × Unit) 6 #[false, true, true, true, true, true, true, false, false, false, false, true, false] (fun s => [(30, .slice (some ⟨s.1, 0, none⟩) 1 1), (3, .pointer (some ⟨s.2.1, 0, none⟩))]) (fun s W => Below W3.heap.size W3 W ∧ (W.heap[s.1]? = some (.cells #[.string Y.nm, .slice AY Y.ar.length cY] 36) ∧ W3.heap.size ≤ s.1) ∧ (W.heap[s.2.1]? = some (.cells #[.slice none 0 0, .slice none 0 0, .slice none 0 0, .slice none 0 0, .slice none 0 0] 28) ∧ W3.heap.size ≤ s.2.1) ∧ True) ?_ (fun sta_6_11 => ?_)
    · rintro ⟨g6, g11, ⟨⟩⟩ W ⟨hS, f6, f11, -⟩
      dsimp only [putAll]
      refine rg2 0 7 rfl rfl (by kernel_rfl) (by decide) (by decide) (by kernel_rfl) (by kernel_rfl) (fun K hK => ?_) (fun K hK => ?_)
      · have hS0 := hS
        go_simp
        have kx := (alloc1 W (.cells #[.string ⟨#[110, 97, 116]⟩] 9)).2
        have kn := blk_new W (.cells #[.string ⟨#[110, 97, 116]⟩] 9)
        have kz : W3.heap.size ≤ W.heap.size := hS.size
        refine hK.out _ _ (below_then hS kx hS.size) (fun hS => ?_)
        exact norm_ (by kernel_rfl) (sta_0_6_11 (W.heap.size, g6, g11, ()) _ ⟨hS, ⟨kn, kz⟩, ⟨box_below f6.1 kx, f6.2⟩, ⟨box_below f11.1 kx, f11.2⟩, trivial⟩)
      · have hS0 := hS
        go_simp
        have hS_size := hS.size
        obtain ⟨h6, t6, m6, v6⟩ := one_TyS2 (w0 := w) (m3.has.below hS) f6.1 rY (Nat.le_trans k3.size f6.2)
        refine (Arrow_calls ⟨#[110, 97, 116]⟩ [Y] _ W h6 m6.has t6).mono ?_
        rintro e W7 ⟨cs7, h7, rfl, r7, k7, m7⟩
        rw [hZ.out] at r7
        obtain ⟨AZ, cZ, rfl, _⟩ := r7.open_
        simp only []
        have kx := k7
        refine hK.out _ _ (below_then hS kx hS.size) (fun hS => ?_)
        refine rgt 8 (.agg #[.string ⟨#[108, 97, 109]⟩, .string Z.nm, .slice AZ Z.ar.length cZ]) rfl (by kernel_rfl) (fun _ _ _ h => h) (by kernel_rfl) hS (fun V hV => by go_simp) ?_
        exact norm_ (by kernel_rfl) (sta_6_7_11 (g6, AZ, cZ, h7, g11, ()) _ ⟨hS, ⟨box_below f6.1 kx, f6.2⟩, ⟨r7, m6.trans m7 (Nat.le_trans k3.size hS_size)⟩, ⟨box_below f11.1 kx, f11.2⟩, off_made m7 v6 (m3.has.off_new (S := fun q => q = g11) (fun k e => by rw [e]; exact f11.2)) (blk_ne f6.1 f11.1 (by simp)) (blk_lt f11.1), trivial⟩)
    refine join_ (σ := Nat × Unit) 7 #[true, true, true, true, true, true, false, false, false, false, false, false, false] (fun s => [(24, .slice (some ⟨s.1, 0, none⟩) 1 1)]) (fun s W => Below W3.heap.size W3 W ∧ (W.heap[s.1]? = some (.cells #[.string ⟨#[110, 97, 116]⟩] 9) ∧ W3.heap.size ≤ s.1) ∧ True) ?_ (fun sta_0 => ?_)
    · rintro ⟨g0, ⟨⟩⟩ W ⟨hS, f0, -⟩
      dsimp only [putAll]
      refine rg2 6 11 rfl rfl (by kernel_rfl) (by decide) (by decide) (by kernel_rfl) (by kernel_rfl) (fun K hK => ?_) (fun K hK => ?_)
      · have hS0 := hS
        go_simp
        have kx := (alloc1 W (.cells #[.string Y.nm, .slice AY Y.ar.length cY] 36)).2
        have kn := blk_new W (.cells #[.string Y.nm, .slice AY Y.ar.length cY] 36)
        have kz : W3.heap.size ≤ W.heap.size := hS.size
        refine hK.out _ _ (below_then hS kx hS.size) (fun hS => ?_)
        exact norm_ (by kernel_rfl) (sta_0_6 (g0, W.heap.size, ()) _ ⟨hS, ⟨box_below f0.1 kx, f0.2⟩, ⟨kn, kz⟩, trivial⟩)
      · have hS0 := hS
        go_simp
        have kx := (alloc1 W (.cells #[.slice none 0 0, .slice none 0 0, .slice none 0 0, .slice none 0 0, .slice none 0 0] 28)).2
        have kn := blk_new W (.cells #[.slice none 0 0, .slice none 0 0, .slice none 0 0, .slice none 0 0, .slice none 0 0] 28)
        have kz : W3.heap.size ≤ W.heap.size := hS.size
        refine hK.out _ _ (below_then hS kx hS.size) (fun hS => ?_)
        exact norm_ (by kernel_rfl) (sta_0_11 (g0, W.heap.size, ()) _ ⟨hS, ⟨box_below f0.1 kx, f0.2⟩, ⟨kn, kz⟩, trivial⟩)
    refine join_ (σ := Nat × Unit) 7 #[false, true, true, true, true, true, true, false, false, false, false, false, false] (fun s => [(30, .slice (some ⟨s.1, 0, none⟩) 1 1)]) (fun s W => Below W3.heap.size W3 W ∧ (W.heap[s.1]? = some (.cells #[.string Y.nm, .slice AY Y.ar.length cY] 36) ∧ W3.heap.size ≤ s.1) ∧ True) ?_ (fun sta_6 => ?_)
    · rintro ⟨g6, ⟨⟩⟩ W ⟨hS, f6, -⟩
      dsimp only [putAll]
      refine rg3 0 7 11 rfl rfl rfl (by kernel_rfl) (by decide) (by decide) (by decide) (by kernel_rfl) (by kernel_rfl) (by kernel_rfl) (fun K hK => ?_) (fun K hK => ?_) (fun K hK => ?_)
      · have hS0 := hS
        go_simp
        have kx := (alloc1 W (.cells #[.string ⟨#[110, 97, 116]⟩] 9)).2
        have kn := blk_new W (.cells #[.string ⟨#[110, 97, 116]⟩] 9)
        have kz : W3.heap.size ≤ W.heap.size := hS.size
        refine hK.out _ _ (below_then hS kx hS.size) (fun hS => ?_)
        exact norm_ (by kernel_rfl) (sta_0_6 (W.heap.size, g6, ()) _ ⟨hS, ⟨kn, kz⟩, ⟨box_below f6.1 kx, f6.2⟩, trivial⟩)
      · have hS0 := hS
        go_simp
        have hS_size := hS.size
        obtain ⟨h6, t6, m6, v6⟩ := one_TyS2 (w0 := w) (m3.has.below hS) f6.1 rY (Nat.le_trans k3.size f6.2)
        refine (Arrow_calls ⟨#[110, 97, 116]⟩ [Y] _ W h6 m6.has t6).mono ?_
        rintro e W7 ⟨cs7, h7, rfl, r7, k7, m7⟩
        rw [hZ.out] at r7
        obtain ⟨AZ, cZ, rfl, _⟩ := r7.open_
        simp only []
        have kx := k7
        refine hK.out _ _ (below_then hS kx hS.size) (fun hS => ?_)
        refine rgt 8 (.agg #[.string ⟨#[108, 97, 109]⟩, .string Z.nm, .slice AZ Z.ar.length cZ]) rfl (by kernel_rfl) (fun _ _ _ h => h) (by kernel_rfl) hS (fun V hV => by go_simp) ?_
        exact norm_ (by kernel_rfl) (sta_6_7 (g6, AZ, cZ, h7, ()) _ ⟨hS, ⟨box_below f6.1 kx, f6.2⟩, ⟨r7, m6.trans m7 (Nat.le_trans k3.size hS_size)⟩, trivial⟩)
      · have hS0 := hS
        go_simp
        have kx := (alloc1 W (.cells #[.slice none 0 0, .slice none 0 0, .slice none 0 0, .slice none 0 0, .slice none 0 0] 28)).2
        have kn := blk_new W (.cells #[.slice none 0 0, .slice none 0 0, .slice none 0 0, .slice none 0 0, .slice none 0 0] 28)
        have kz : W3.heap.size ≤ W.heap.size := hS.size
        refine hK.out _ _ (below_then hS kx hS.size) (fun hS => ?_)
        exact norm_ (by kernel_rfl) (sta_6_11 (g6, W.heap.size, ()) _ ⟨hS, ⟨box_below f6.1 kx, f6.2⟩, ⟨kn, kz⟩, trivial⟩)
    refine join_ (σ := Nat × Unit) 7 #[false, true, true, true, true, true, false, false, false, false, false, true, false] (fun s => [(3, .pointer (some ⟨s.1, 0, none⟩))]) (fun s W => Below W3.heap.size W3 W ∧ (W.heap[s.1]? = some (.cells #[.slice none 0 0, .slice none 0 0, .slice none 0 0, .slice none 0 0, .slice none 0 0] 28) ∧ W3.heap.size ≤ s.1) ∧ True) ?_ (fun sta_11 => ?_)
    · rintro ⟨g11, ⟨⟩⟩ W ⟨hS, f11, -⟩
      dsimp only [putAll]
      refine rg2 0 6 rfl rfl (by kernel_rfl) (by decide) (by decide) (by kernel_rfl) (by kernel_rfl) (fun K hK => ?_) (fun K hK => ?_)
      · have hS0 := hS
        go_simp
        have kx := (alloc1 W (.cells #[.string ⟨#[110, 97, 116]⟩] 9)).2
        have kn := blk_new W (.cells #[.string ⟨#[110, 97, 116]⟩] 9)
        have kz : W3.heap.size ≤ W.heap.size := hS.size
        refine hK.out _ _ (below_then hS kx hS.size) (fun hS => ?_)
        exact norm_ (by kernel_rfl) (sta_0_11 (W.heap.size, g11, ()) _ ⟨hS, ⟨kn, kz⟩, ⟨box_below f11.1 kx, f11.2⟩, trivial⟩)
      · have hS0 := hS
        go_simp
        have kx := (alloc1 W (.cells #[.string Y.nm, .slice AY Y.ar.length cY] 36)).2
        have kn := blk_new W (.cells #[.string Y.nm, .slice AY Y.ar.length cY] 36)
        have kz : W3.heap.size ≤ W.heap.size := hS.size
        refine hK.out _ _ (below_then hS kx hS.size) (fun hS => ?_)
        exact norm_ (by kernel_rfl) (sta_6_11 (W.heap.size, g11, ()) _ ⟨hS, ⟨kn, kz⟩, ⟨box_below f11.1 kx, f11.2⟩, trivial⟩)
    refine rg3 0 6 11 rfl rfl rfl (by kernel_rfl) (by decide) (by decide) (by decide) (by kernel_rfl) (by kernel_rfl) (by kernel_rfl) (fun K hK => ?_) (fun K hK => ?_) (fun K hK => ?_)
    · have hS0 := hS
      go_simp
      have kx := (alloc1 W3.drew (.cells #[.string ⟨#[110, 97, 116]⟩] 9)).2
      have kn := blk_new W3.drew (.cells #[.string ⟨#[110, 97, 116]⟩] 9)
      have kz : W3.heap.size ≤ W3.drew.heap.size := hS.size
      refine hK.out _ _ (below_then hS kx hS.size) (fun hS => ?_)
      exact norm_ (by kernel_rfl) (sta_0 (W3.drew.heap.size, ()) _ ⟨hS, ⟨kn, kz⟩, trivial⟩)
    · have hS0 := hS
      go_simp
      have kx := (alloc1 W3.drew (.cells #[.string Y.nm, .slice AY Y.ar.length cY] 36)).2
      have kn := blk_new W3.drew (.cells #[.string Y.nm, .slice AY Y.ar.length cY] 36)
      have kz : W3.heap.size ≤ W3.drew.heap.size := hS.size
      refine hK.out _ _ (below_then hS kx hS.size) (fun hS => ?_)
      exact norm_ (by kernel_rfl) (sta_6 (W3.drew.heap.size, ()) _ ⟨hS, ⟨kn, kz⟩, trivial⟩)
    · have hS0 := hS
      go_simp
      have kx := (alloc1 W3.drew (.cells #[.slice none 0 0, .slice none 0 0, .slice none 0 0, .slice none 0 0, .slice none 0 0] 28)).2
      have kn := blk_new W3.drew (.cells #[.slice none 0 0, .slice none 0 0, .slice none 0 0, .slice none 0 0, .slice none 0 0] 28)
      have kz : W3.heap.size ≤ W3.drew.heap.size := hS.size
      refine hK.out _ _ (below_then hS kx hS.size) (fun hS => ?_)
      exact norm_ (by kernel_rfl) (sta_11 (W3.drew.heap.size, ()) _ ⟨hS, ⟨kn, kz⟩, trivial⟩)
  rintro ⟨g0, g6, AZ, cZ, h7, g9, g11, ⟨⟩⟩ W4 ⟨hS, f0, f6, f7, f9, f11, p7_11, -⟩
  dsimp only [putAll]
  try dsimp only at f0
  try dsimp only at f6
  try dsimp only at f7
  try dsimp only at f9
  try dsimp only at f11
  try dsimp only at p7_11
  have x11 := box5 f11.1
  have z11 := blk_frozen f11.1
  have l11 := blk_lt f11.1
  refine rgl 12 rfl (by kernel_rfl) (by decide) (by kernel_rfl) (fun K hK => ?_)
  go_simp
  refine hK.out _ _ ?_
  refine rgd (by kernel_rfl) ?_
  obtain ⟨W5, hW5, b5, kp5⟩ : ∃ W5, (((((W4.setCell ⟨g11, 0, none⟩ (.slice (some ⟨g0, 0, none⟩) 1 1)).setCell ⟨g11, 1, none⟩ (.slice (some ⟨g9, 0, none⟩) 3 3)).setCell ⟨g11, 2, none⟩ (.slice none 0 0)).setCell ⟨g11, 3, none⟩ (.slice none 0 0)).setCell ⟨g11, 4, none⟩ (.slice none 0 0)) = W5 ∧ W5.heap[g11]? = some (.cells #[.slice (some ⟨g0, 0, none⟩) 1 1, .slice (some ⟨g9, 0, none⟩) 3 3, .slice none 0 0, .slice none 0 0, .slice none 0 0] 28) ∧ Kp (fun q => q = g11) W4 W5 := ⟨_, rfl, (set5 f11.1 _ _ _ _ _).1, (set5 f11.1 _ _ _ _ _).2⟩
  rw [hW5]
  have H5 := f7.2.has.kp kp5 p7_11
  have k4 := below_then k3 hS k3.size
  have k5 : Below w.heap.size w W5 := ((Kp.of_below (fun q => q = g11) k4).trans kp5 (fun i hi e => e)).below (fun i hi (e : i = g11) => by have h1 := f11.2; have h2 := k3.size; omega)
  have s37 := f7.2.sub
  obtain ⟨h8, BP, m8⟩ := BoxP.mk_ (w0 := w) H5 (blk_kp f0.1 kp5 (blk_ne f0.1 f11.1 (by simp))) (blk_kp f9.1 kp5 (blk_ne f9.1 f11.1 (by simp))) b5 (rN.sub s37) (rY.sub s37) f7.1 (Nat.le_trans k3.size f0.2) (Nat.le_trans k3.size f9.2) (Nat.le_trans k3.size f11.2)
  have s38 := s37.trans m8.sub
  replace m8 := (m3.then_ (f7.2.world H5)).then_ m8
  replace B1 := B1.sub s38
  replace B2 := B2.sub s38
  obtain ⟨P, hP'⟩ : ∃ P, (⟨[⟨#[110, 97, 116]⟩], [(⟨#[122]⟩, N), (⟨#[115]⟩, Y), (⟨#[108, 97, 109]⟩, Z)]⟩ : Pg) = P := ⟨_, rfl⟩
  rw [hP'] at BP
  have hP : Hid (progP = P) := Lib.hid (by rw [← hP', ← hZ.out, ← hY.out, ← hN.out]; rfl)
  clear hP' hW5 H5 f0 f6 f7 f9 f11 p7_11 kp5 b5 s37 s38 rN rY n0 n1 y0 y1 x11 z11 l11 hS k4 m3 k3 a3 k2 k1 kk2 kk
  go_wp2_with fail
  refine (bound_calls 0 _ none 0 0 rfl _).mono ?_
  rintro e w6 ⟨rfl, k6⟩
  go_wp2_with fail
  refine (con_calls ⟨#[115]⟩ _ (some ⟨w6.heap.size, 0, none⟩) 1 1 rfl _).mono ?_
  rintro e w7 ⟨rfl, k7⟩
  go_wp2_with fail
  refine (lam_calls _ _ _ _ _ _ _).mono ?_
  rintro e w8 ⟨gl, rfl, k8, bl, hgl⟩
  go_wp2_with fail
  refine (con_calls ⟨#[108, 97, 109]⟩ _ (some ⟨w8.heap.size, 0, none⟩) 1 1 rfl _).mono ?_
  rintro e w9 ⟨rfl, k9⟩
  have q6 := below_then k5 k6 k5.size
  have b6 := blk_new w6 (.cells #[.int .i64 2, .int .i64 0, .string ⟨#[]⟩, .slice none 0 0] 34)
  have q6a := q6.alloc q6.size (.cells #[.int .i64 2, .int .i64 0, .string ⟨#[]⟩, .slice none 0 0] 34)
  obtain ⟨h9, t9, m9⟩ := one_TmS (w0 := w) (u := bdT 0 []) ((m8.has.below k6).alloc _) b6 (bdT_R (by omega) (TmS_nil h8)) q6.size
  have q7 := below_then q6a k7 q6a.size
  have q8 := below_then q7 k8 q7.size
  obtain ⟨h10, t10, m10⟩ := one_TmS (w0 := w) (u := sB) ((m9.has.below k7).below k8) bl (cnT_R t9) (Nat.le_trans q7.size hgl)
  have q8a := q8.alloc q8.size (.cells #[.int .i64 5, .int .i64 0, .string ⟨#[]⟩, .slice (some ⟨gl, 0, none⟩) 1 1] 34)
  have b8 := blk_new w8 (.cells #[.int .i64 5, .int .i64 0, .string ⟨#[]⟩, .slice (some ⟨gl, 0, none⟩) 1 1] 34)
  obtain ⟨h11, t11, m11⟩ := one_TmS (w0 := w) (u := lmT sB) (m10.has.alloc _) b8 (lmT_R t10) q8.size
  have q9 := below_then q8a k9 q8a.size
  have r4 : TmR h11 T4 _ := cnT_R (s := ⟨#[108, 97, 109]⟩) t11
  go_wp2_with fail
  have b9 := blk_new w9 (.cells #[.int .i64 1, .int .i64 0, .string ⟨#[108, 97, 109]⟩, .slice (some ⟨w8.heap.size, 0, none⟩) 1 1] 34)
  have q9a := q9.alloc q9.size (.cells #[.int .i64 1, .int .i64 0, .string ⟨#[108, 97, 109]⟩, .slice (some ⟨w8.heap.size, 0, none⟩) 1 1] 34)
  obtain ⟨h12, B4, m12⟩ := BoxM.mk_ (w0 := w) (u := T4) ((m11.has.below k9).alloc _) b9 r4 q9.size
  obtain ⟨W10, hW10⟩ : ∃ W10, w9.alloc (.cells #[.int .i64 1, .int .i64 0, .string ⟨#[108, 97, 109]⟩, .slice (some ⟨w8.heap.size, 0, none⟩) 1 1] 34) = W10 := ⟨_, rfl⟩
  rw [hW10] at q9a m12 ⊢
  have ss := ((m9.sub.trans m10.sub).trans m11.sub).trans m12.sub
  have mm := ((((m8.then_ m9).then_ m10).then_ m11).then_ m12)
  replace B1 := B1.sub ss
  replace B2 := B2.sub ss
  replace BP := BP.sub ss
  obtain ⟨X4, hX4'⟩ : ∃ X, T4 = X := ⟨_, rfl⟩
  rw [hX4'] at B4
  have hX4 := Lib.hid hX4'
  clear hX4' hW10 b9 m12 m11 m10 m9 m8 ss r4 t9 t10 t11 b8 b6 bl q6 q6a q7 q8 q8a q9 k5 k6 k7 k8 k9 hgl h8 h9 h10 h11
  refine (bound_calls 0 _ none 0 0 rfl _).mono ?_
  rintro e v6 ⟨rfl, k6⟩
  go_wp2_with fail
  refine (con_calls ⟨#[115]⟩ _ (some ⟨v6.heap.size, 0, none⟩) 1 1 rfl _).mono ?_
  rintro e v7 ⟨rfl, k7⟩
  go_wp2_with fail
  refine (lam_calls _ _ _ _ _ _ _).mono ?_
  rintro e v8 ⟨hl, rfl, k8, bl, hgl⟩
  go_wp2_with fail
  have q6 := below_then q9a k6 q9a.size
  have b6 := blk_new v6 (.cells #[.int .i64 2, .int .i64 0, .string ⟨#[]⟩, .slice none 0 0] 34)
  have q6a := q6.alloc q6.size (.cells #[.int .i64 2, .int .i64 0, .string ⟨#[]⟩, .slice none 0 0] 34)
  obtain ⟨h13, t13, m13⟩ := one_TmS (w0 := w) (u := bdT 0 []) ((mm.has.below k6).alloc _) b6 (bdT_R (by omega) (TmS_nil h12)) q6.size
  have q7 := below_then q6a k7 q6a.size
  have q8 := below_then q7 k8 q7.size
  obtain ⟨h14, t14, m14⟩ := one_TmS (w0 := w) (u := sB) ((m13.has.below k7).below k8) bl (cnT_R t13) (Nat.le_trans q7.size hgl)
  have q8a := q8.alloc q8.size (.cells #[.int .i64 5, .int .i64 0, .string ⟨#[]⟩, .slice (some ⟨hl, 0, none⟩) 1 1] 34)
  have b8 := blk_new v8 (.cells #[.int .i64 5, .int .i64 0, .string ⟨#[]⟩, .slice (some ⟨hl, 0, none⟩) 1 1] 34)
  obtain ⟨hb, B5, mb⟩ := BoxM.mk_ (w0 := w) (u := T5) (m14.has.alloc _) b8 (lmT_R t14) q8.size
  obtain ⟨W6, hW6⟩ : ∃ W6, v8.alloc (.cells #[.int .i64 5, .int .i64 0, .string ⟨#[]⟩, .slice (some ⟨hl, 0, none⟩) 1 1] 34) = W6 := ⟨_, rfl⟩
  rw [hW6] at q8a mb ⊢
  have ss := (m13.sub.trans m14.sub).trans mb.sub
  replace mb := ((mm.then_ m13).then_ m14).then_ mb
  have kb := q8a
  replace B1 := B1.sub ss
  replace B2 := B2.sub ss
  replace BP := BP.sub ss
  replace B4 := B4.sub ss
  obtain ⟨X5, hX5'⟩ : ∃ X, T5 = X := ⟨_, rfl⟩
  rw [hX5'] at B5
  have hX5 := Lib.hid hX5'
  obtain ⟨X6, hX6'⟩ : ∃ X, T6 = X := ⟨_, rfl⟩
  have eX6 := Lib.hid hX6'
  have hs6 : Hid (SubstIs S6 X5 (.inr X6)) := Lib.hid (by rw [← hX5', ← hX6']; exact subst6)
  clear hX5' hX6' hW6 b8 m14 m13 mm ss t13 t14 b6 bl q6 q6a q7 q8 q8a q9a k6 k7 k8 hgl h13 h14
  obtain ⟨AX5, cX5, e50, e51, e52, e53, r5⟩ := B5.at_
  have x50 := mb.has.cell _ _ e50
  have x51 := mb.has.cell _ _ e51
  have x52 := mb.has.cell _ _ e52
  have x53 := mb.has.cell _ _ e53
  clear e50 e51 e52 e53
  refine rgs 11 (fun V => Below W6.heap.size W6 V) [9] rfl ((Below.refl _ _).drew) (fun hS => ?_)
  refine rgt 3 (.agg #[.int .i64 X5.k, .int .i64 X5.n, .string X5.nm, .slice AX5 X5.ar.length cX5]) rfl (by kernel_rfl) (fun _ _ _ h => h) (by kernel_rfl) hS (fun V hV => by have q0 := cell_below x50 hV; have q1 := cell_below x51 hV; have q2 := cell_below x52 hV; have q3 := cell_below x53 hV; go_simp) ?_
  refine join_ (σ := Nat × Option Addr × Nat × Snap × Nat × Unit) 2 #[true, true, true, true, true, true, true, true, true, false, false] (fun s => [(46, .agg #[.int .i64 1, .int .i64 0, .string ⟨#[122]⟩, .slice none 0 0]), (47, .slice (some ⟨s.1, 0, none⟩) 1 1), (48, .agg #[.int .i64 2, .int .i64 0, .string ⟨#[]⟩, .slice (some ⟨s.1, 0, none⟩) 1 1]), (50, .tuple #[.agg #[.int .i64 X6.k, .int .i64 X6.n, .string X6.nm, .slice s.2.1 X6.ar.length s.2.2.1], .int .i64 0]), (45, .tuple #[.agg #[.int .i64 X6.k, .int .i64 X6.n, .string X6.nm, .slice s.2.1 X6.ar.length s.2.2.1], .int .i64 0]), (51, .agg #[.int .i64 X6.k, .int .i64 X6.n, .string X6.nm, .slice s.2.1 X6.ar.length s.2.2.1]), (52, .int .i64 0), (6, .pointer (some ⟨s.2.2.2.2.1, 0, none⟩))]) (fun s W => Below W6.heap.size W6 W ∧ (W.heap[s.1]? = some (.cells #[.int .i64 1, .int .i64 0, .string ⟨#[122]⟩, .slice none 0 0] 34) ∧ W6.heap.size ≤ s.1) ∧ (TmR s.2.2.2.1 X6 [.int .i64 X6.k, .int .i64 X6.n, .string X6.nm, .slice s.2.1 X6.ar.length s.2.2.1] ∧ Mk w hb W s.2.2.2.1) ∧ (W.heap[s.2.2.2.2.1]? = some (.cells #[.int .i64 0, .int .i64 0, .string ⟨#[]⟩, .slice none 0 0] 34) ∧ W6.heap.size ≤ s.2.2.2.2.1) ∧ (Off s.2.2.2.1 (fun q => q = s.2.2.2.2.1)) ∧ True) ?_ (fun stb_0_1_2_4_8 => ?_)
  rotate_left
  · refine join_ (σ := Nat × Option Addr × Nat × Snap × Unit) 3 #[true, true, true, true, true, true, true, true, false, false, false] (fun s => [(46, .agg #[.int .i64 1, .int .i64 0, .string ⟨#[122]⟩, .slice none 0 0]), (47, .slice (some ⟨s.1, 0, none⟩) 1 1), (48, .agg #[.int .i64 2, .int .i64 0, .string ⟨#[]⟩, .slice (some ⟨s.1, 0, none⟩) 1 1]), (50, .tuple #[.agg #[.int .i64 X6.k, .int .i64 X6.n, .string X6.nm, .slice s.2.1 X6.ar.length s.2.2.1], .int .i64 0]), (45, .tuple #[.agg #[.int .i64 X6.k, .int .i64 X6.n, .string X6.nm, .slice s.2.1 X6.ar.length s.2.2.1], .int .i64 0]), (51, .agg #[.int .i64 X6.k, .int .i64 X6.n, .string X6.nm, .slice s.2.1 X6.ar.length s.2.2.1]), (52, .int .i64 0)]) (fun s W => Below W6.heap.size W6 W ∧ (W.heap[s.1]? = some (.cells #[.int .i64 1, .int .i64 0, .string ⟨#[122]⟩, .slice none 0 0] 34) ∧ W6.heap.size ≤ s.1) ∧ (TmR s.2.2.2.1 X6 [.int .i64 X6.k, .int .i64 X6.n, .string X6.nm, .slice s.2.1 X6.ar.length s.2.2.1] ∧ Mk w hb W s.2.2.2.1) ∧ True) ?_ (fun stb_0_1_2_4 => ?_)
    · rintro ⟨g1, AX6, cX6, hX6, ⟨⟩⟩ W ⟨hS, f1, f4, -⟩
      dsimp only [putAll]
      refine rg1 8 rfl (by kernel_rfl) (by decide) (by kernel_rfl) (fun K hK => ?_)
      have hS0 := hS
      go_simp
      have kx := (alloc1 W (.cells #[.int .i64 0, .int .i64 0, .string ⟨#[]⟩, .slice none 0 0] 34)).2
      have kn := blk_new W (.cells #[.int .i64 0, .int .i64 0, .string ⟨#[]⟩, .slice none 0 0] 34)
      have kz : W6.heap.size ≤ W.heap.size := hS.size
      refine hK.out _ _ (below_then hS kx hS.size) (fun hS => ?_)
      exact norm_ (by kernel_rfl) (stb_0_1_2_4_8 (g1, AX6, cX6, hX6, W.heap.size, ()) _ ⟨hS, ⟨box_below f1.1 kx, f1.2⟩, ⟨f4.1, f4.2.world (f4.2.has.below kx)⟩, ⟨kn, kz⟩, f4.2.has.off_new (fun k e => by rw [e]; exact Nat.le_refl _), trivial⟩)
    refine join_ (σ := Nat × Nat × Unit) 6 #[true, true, true, true, false, false, false, false, true, false, false] (fun s => [(46, .agg #[.int .i64 1, .int .i64 0, .string ⟨#[122]⟩, .slice none 0 0]), (47, .slice (some ⟨s.1, 0, none⟩) 1 1), (48, .agg #[.int .i64 2, .int .i64 0, .string ⟨#[]⟩, .slice (some ⟨s.1, 0, none⟩) 1 1]), (6, .pointer (some ⟨s.2.1, 0, none⟩))]) (fun s W => Below W6.heap.size W6 W ∧ (W.heap[s.1]? = some (.cells #[.int .i64 1, .int .i64 0, .string ⟨#[122]⟩, .slice none 0 0] 34) ∧ W6.heap.size ≤ s.1) ∧ (W.heap[s.2.1]? = some (.cells #[.int .i64 0, .int .i64 0, .string ⟨#[]⟩, .slice none 0 0] 34) ∧ W6.heap.size ≤ s.2.1) ∧ True) ?_ (fun stb_0_1_2_8 => ?_)
    · rintro ⟨g1, g8, ⟨⟩⟩ W ⟨hS, f1, f8, -⟩
      dsimp only [putAll]
      refine rg1 4 rfl (by kernel_rfl) (by decide) (by kernel_rfl) (fun K hK => ?_)
      have hS0 := hS
      go_simp
      have hS_size := hS.size
      obtain ⟨hz, tz, mz, vz⟩ := one_TmS2 (w0 := w) (u := zT) (mb.has.below hS) f1.1 (cnT_R (TmS_nil _)) (Nat.le_trans kb.size f1.2)
      refine (Subst_calls S6 X5 (.inr X6) _ _ W hz mz.has (bdT_R (by omega) tz) (r5.sub mz.sub) hs6.out).mono ?_
      rintro e W7 ⟨k7, cs7, hX6, rfl, r7, m7⟩
      replace r7 : TmR hX6 X6 cs7 := r7
      obtain ⟨AX6, cX6, rfl, _⟩ := r7.open_
      rw [show codeS (.inr X6 : Sum Int Tm) = 0 from rfl]
      simp only []
      have kx := k7
      refine hK.out _ _ (below_then hS kx hS.size) (fun hS => ?_)
      refine rgt 5 (.tuple #[.agg #[.int .i64 X6.k, .int .i64 X6.n, .string X6.nm, .slice AX6 X6.ar.length cX6], .int .i64 0]) rfl (by kernel_rfl) (fun _ _ _ h => h) (by kernel_rfl) hS (fun V hV => by go_simp) ?_
      refine rgt 6 (.agg #[.int .i64 X6.k, .int .i64 X6.n, .string X6.nm, .slice AX6 X6.ar.length cX6]) rfl (by kernel_rfl) (fun _ _ _ h => h) (by kernel_rfl) hS (fun V hV => by go_simp) ?_
      refine rgp 7 (.int .i64 0) rfl (by kernel_rfl) (fun _ _ _ h => h) (by kernel_rfl) (fun V => by go_simp) ?_
      exact norm_ (by kernel_rfl) (stb_0_1_2_4_8 (g1, AX6, cX6, hX6, g8, ()) _ ⟨hS, ⟨box_below f1.1 kx, f1.2⟩, ⟨r7, mz.trans m7 (Nat.le_trans kb.size hS_size)⟩, ⟨box_below f8.1 kx, f8.2⟩, off_made m7 vz (mb.has.off_new (S := fun q => q = g8) (fun k e => by rw [e]; exact f8.2)) (blk_ne f1.1 f8.1 (by simp)) (blk_lt f8.1), trivial⟩)
    refine join_ (σ := Nat × Unit) 7 #[true, true, true, true, false, false, false, false, false, false, false] (fun s => [(46, .agg #[.int .i64 1, .int .i64 0, .string ⟨#[122]⟩, .slice none 0 0]), (47, .slice (some ⟨s.1, 0, none⟩) 1 1), (48, .agg #[.int .i64 2, .int .i64 0, .string ⟨#[]⟩, .slice (some ⟨s.1, 0, none⟩) 1 1])]) (fun s W => Below W6.heap.size W6 W ∧ (W.heap[s.1]? = some (.cells #[.int .i64 1, .int .i64 0, .string ⟨#[122]⟩, .slice none 0 0] 34) ∧ W6.heap.size ≤ s.1) ∧ True) ?_ (fun stb_0_1_2 => ?_)
    · rintro ⟨g1, ⟨⟩⟩ W ⟨hS, f1, -⟩
      dsimp only [putAll]
      refine rg2 4 8 rfl rfl (by kernel_rfl) (by decide) (by decide) (by kernel_rfl) (by kernel_rfl) (fun K hK => ?_) (fun K hK => ?_)
      · have hS0 := hS
        go_simp
        have hS_size := hS.size
        obtain ⟨hz, tz, mz, vz⟩ := one_TmS2 (w0 := w) (u := zT) (mb.has.below hS) f1.1 (cnT_R (TmS_nil _)) (Nat.le_trans kb.size f1.2)
        refine (Subst_calls S6 X5 (.inr X6) _ _ W hz mz.has (bdT_R (by omega) tz) (r5.sub mz.sub) hs6.out).mono ?_
        rintro e W7 ⟨k7, cs7, hX6, rfl, r7, m7⟩
        replace r7 : TmR hX6 X6 cs7 := r7
        obtain ⟨AX6, cX6, rfl, _⟩ := r7.open_
        rw [show codeS (.inr X6 : Sum Int Tm) = 0 from rfl]
        simp only []
        have kx := k7
        refine hK.out _ _ (below_then hS kx hS.size) (fun hS => ?_)
        refine rgt 5 (.tuple #[.agg #[.int .i64 X6.k, .int .i64 X6.n, .string X6.nm, .slice AX6 X6.ar.length cX6], .int .i64 0]) rfl (by kernel_rfl) (fun _ _ _ h => h) (by kernel_rfl) hS (fun V hV => by go_simp) ?_
        refine rgt 6 (.agg #[.int .i64 X6.k, .int .i64 X6.n, .string X6.nm, .slice AX6 X6.ar.length cX6]) rfl (by kernel_rfl) (fun _ _ _ h => h) (by kernel_rfl) hS (fun V hV => by go_simp) ?_
        refine rgp 7 (.int .i64 0) rfl (by kernel_rfl) (fun _ _ _ h => h) (by kernel_rfl) (fun V => by go_simp) ?_
        exact norm_ (by kernel_rfl) (stb_0_1_2_4 (g1, AX6, cX6, hX6, ()) _ ⟨hS, ⟨box_below f1.1 kx, f1.2⟩, ⟨r7, mz.trans m7 (Nat.le_trans kb.size hS_size)⟩, trivial⟩)
      · have hS0 := hS
        go_simp
        have kx := (alloc1 W (.cells #[.int .i64 0, .int .i64 0, .string ⟨#[]⟩, .slice none 0 0] 34)).2
        have kn := blk_new W (.cells #[.int .i64 0, .int .i64 0, .string ⟨#[]⟩, .slice none 0 0] 34)
        have kz : W6.heap.size ≤ W.heap.size := hS.size
        refine hK.out _ _ (below_then hS kx hS.size) (fun hS => ?_)
        exact norm_ (by kernel_rfl) (stb_0_1_2_8 (g1, W.heap.size, ()) _ ⟨hS, ⟨box_below f1.1 kx, f1.2⟩, ⟨kn, kz⟩, trivial⟩)
    refine join_ (σ := Nat × Nat × Unit) 7 #[true, true, false, true, false, false, false, false, true, false, false] (fun s => [(46, .agg #[.int .i64 1, .int .i64 0, .string ⟨#[122]⟩, .slice none 0 0]), (47, .slice (some ⟨s.1, 0, none⟩) 1 1), (6, .pointer (some ⟨s.2.1, 0, none⟩))]) (fun s W => Below W6.heap.size W6 W ∧ (W.heap[s.1]? = some (.cells #[.int .i64 1, .int .i64 0, .string ⟨#[122]⟩, .slice none 0 0] 34) ∧ W6.heap.size ≤ s.1) ∧ (W.heap[s.2.1]? = some (.cells #[.int .i64 0, .int .i64 0, .string ⟨#[]⟩, .slice none 0 0] 34) ∧ W6.heap.size ≤ s.2.1) ∧ True) ?_ (fun stb_0_1_8 => ?_)
    · rintro ⟨g1, g8, ⟨⟩⟩ W ⟨hS, f1, f8, -⟩
      dsimp only [putAll]
      refine rg1 2 rfl (by kernel_rfl) (by decide) (by kernel_rfl) (fun K hK => ?_)
      have hS0 := hS
      go_simp
      refine (bound_calls 0 _ (some ⟨g1, 0, none⟩) 1 1 rfl _).mono ?_
      rintro e W7 ⟨rfl, k7⟩
      simp only []
      have kx := k7
      refine hK.out _ _ (below_then hS kx hS.size) (fun hS => ?_)
      exact norm_ (by kernel_rfl) (stb_0_1_2_8 (g1, g8, ()) _ ⟨hS, ⟨box_below f1.1 kx, f1.2⟩, ⟨box_below f8.1 kx, f8.2⟩, trivial⟩)
    refine join_ (σ := Nat × Unit) 8 #[true, true, false, true, false, false, false, false, false, false, false] (fun s => [(46, .agg #[.int .i64 1, .int .i64 0, .string ⟨#[122]⟩, .slice none 0 0]), (47, .slice (some ⟨s.1, 0, none⟩) 1 1)]) (fun s W => Below W6.heap.size W6 W ∧ (W.heap[s.1]? = some (.cells #[.int .i64 1, .int .i64 0, .string ⟨#[122]⟩, .slice none 0 0] 34) ∧ W6.heap.size ≤ s.1) ∧ True) ?_ (fun stb_0_1 => ?_)
    · rintro ⟨g1, ⟨⟩⟩ W ⟨hS, f1, -⟩
      dsimp only [putAll]
      refine rg2 2 8 rfl rfl (by kernel_rfl) (by decide) (by decide) (by kernel_rfl) (by kernel_rfl) (fun K hK => ?_) (fun K hK => ?_)
      · have hS0 := hS
        go_simp
        refine (bound_calls 0 _ (some ⟨g1, 0, none⟩) 1 1 rfl _).mono ?_
        rintro e W7 ⟨rfl, k7⟩
        simp only []
        have kx := k7
        refine hK.out _ _ (below_then hS kx hS.size) (fun hS => ?_)
        exact norm_ (by kernel_rfl) (stb_0_1_2 (g1, ()) _ ⟨hS, ⟨box_below f1.1 kx, f1.2⟩, trivial⟩)
      · have hS0 := hS
        go_simp
        have kx := (alloc1 W (.cells #[.int .i64 0, .int .i64 0, .string ⟨#[]⟩, .slice none 0 0] 34)).2
        have kn := blk_new W (.cells #[.int .i64 0, .int .i64 0, .string ⟨#[]⟩, .slice none 0 0] 34)
        have kz : W6.heap.size ≤ W.heap.size := hS.size
        refine hK.out _ _ (below_then hS kx hS.size) (fun hS => ?_)
        exact norm_ (by kernel_rfl) (stb_0_1_8 (g1, W.heap.size, ()) _ ⟨hS, ⟨box_below f1.1 kx, f1.2⟩, ⟨kn, kz⟩, trivial⟩)
    refine join_ (σ := Nat × Unit) 8 #[true, false, false, true, false, false, false, false, true, false, false] (fun s => [(46, .agg #[.int .i64 1, .int .i64 0, .string ⟨#[122]⟩, .slice none 0 0]), (6, .pointer (some ⟨s.1, 0, none⟩))]) (fun s W => Below W6.heap.size W6 W ∧ (W.heap[s.1]? = some (.cells #[.int .i64 0, .int .i64 0, .string ⟨#[]⟩, .slice none 0 0] 34) ∧ W6.heap.size ≤ s.1) ∧ True) ?_ (fun stb_0_8 => ?_)
    · rintro ⟨g8, ⟨⟩⟩ W ⟨hS, f8, -⟩
      dsimp only [putAll]
      refine rg1 1 rfl (by kernel_rfl) (by decide) (by kernel_rfl) (fun K hK => ?_)
      have hS0 := hS
      go_simp
      have kx := (alloc1 W (.cells #[.int .i64 1, .int .i64 0, .string ⟨#[122]⟩, .slice none 0 0] 34)).2
      have kn := blk_new W (.cells #[.int .i64 1, .int .i64 0, .string ⟨#[122]⟩, .slice none 0 0] 34)
      have kz : W6.heap.size ≤ W.heap.size := hS.size
      refine hK.out _ _ (below_then hS kx hS.size) (fun hS => ?_)
      exact norm_ (by kernel_rfl) (stb_0_1_8 (W.heap.size, g8, ()) _ ⟨hS, ⟨kn, kz⟩, ⟨box_below f8.1 kx, f8.2⟩, trivial⟩)
    refine join_ (σ := Unit) 9 #[true, false, false, true, false, false, false, false, false, false, false] (fun s => [(46, .agg #[.int .i64 1, .int .i64 0, .string ⟨#[122]⟩, .slice none 0 0])]) (fun s W => Below W6.heap.size W6 W ∧ True) ?_ (fun stb_0 => ?_)
    · rintro ⟨⟩ W ⟨hS, -⟩
      dsimp only [putAll]
      refine rg2 1 8 rfl rfl (by kernel_rfl) (by decide) (by decide) (by kernel_rfl) (by kernel_rfl) (fun K hK => ?_) (fun K hK => ?_)
      · have hS0 := hS
        go_simp
        have kx := (alloc1 W (.cells #[.int .i64 1, .int .i64 0, .string ⟨#[122]⟩, .slice none 0 0] 34)).2
        have kn := blk_new W (.cells #[.int .i64 1, .int .i64 0, .string ⟨#[122]⟩, .slice none 0 0] 34)
        have kz : W6.heap.size ≤ W.heap.size := hS.size
        refine hK.out _ _ (below_then hS kx hS.size) (fun hS => ?_)
        exact norm_ (by kernel_rfl) (stb_0_1 (W.heap.size, ()) _ ⟨hS, ⟨kn, kz⟩, trivial⟩)
      · have hS0 := hS
        go_simp
        have kx := (alloc1 W (.cells #[.int .i64 0, .int .i64 0, .string ⟨#[]⟩, .slice none 0 0] 34)).2
        have kn := blk_new W (.cells #[.int .i64 0, .int .i64 0, .string ⟨#[]⟩, .slice none 0 0] 34)
        have kz : W6.heap.size ≤ W.heap.size := hS.size
        refine hK.out _ _ (below_then hS kx hS.size) (fun hS => ?_)
        exact norm_ (by kernel_rfl) (stb_0_8 (W.heap.size, ()) _ ⟨hS, ⟨kn, kz⟩, trivial⟩)
    refine join_ (σ := Nat × Unit) 9 #[false, false, false, true, false, false, false, false, true, false, false] (fun s => [(6, .pointer (some ⟨s.1, 0, none⟩))]) (fun s W => Below W6.heap.size W6 W ∧ (W.heap[s.1]? = some (.cells #[.int .i64 0, .int .i64 0, .string ⟨#[]⟩, .slice none 0 0] 34) ∧ W6.heap.size ≤ s.1) ∧ True) ?_ (fun stb_8 => ?_)
    · rintro ⟨g8, ⟨⟩⟩ W ⟨hS, f8, -⟩
      dsimp only [putAll]
      refine rg1 0 rfl (by kernel_rfl) (by decide) (by kernel_rfl) (fun K hK => ?_)
      have hS0 := hS
      go_simp
      refine (con_calls ⟨#[122]⟩ _ none 0 0 rfl _).mono ?_
      rintro e W7 ⟨rfl, k7⟩
      simp only []
      have kx := k7
      refine hK.out _ _ (below_then hS kx hS.size) (fun hS => ?_)
      exact norm_ (by kernel_rfl) (stb_0_8 (g8, ()) _ ⟨hS, ⟨box_below f8.1 kx, f8.2⟩, trivial⟩)
    refine rg2 0 8 rfl rfl (by kernel_rfl) (by decide) (by decide) (by kernel_rfl) (by kernel_rfl) (fun K hK => ?_) (fun K hK => ?_)
    · have hS0 := hS
      go_simp
      refine (con_calls ⟨#[122]⟩ _ none 0 0 rfl _).mono ?_
      rintro e W7 ⟨rfl, k7⟩
      simp only []
      have kx := k7
      refine hK.out _ _ (below_then hS kx hS.size) (fun hS => ?_)
      exact norm_ (by kernel_rfl) (stb_0 () _ ⟨hS, trivial⟩)
    · have hS0 := hS
      go_simp
      have kx := (alloc1 W6.drew (.cells #[.int .i64 0, .int .i64 0, .string ⟨#[]⟩, .slice none 0 0] 34)).2
      have kn := blk_new W6.drew (.cells #[.int .i64 0, .int .i64 0, .string ⟨#[]⟩, .slice none 0 0] 34)
      have kz : W6.heap.size ≤ W6.drew.heap.size := hS.size
      refine hK.out _ _ (below_then hS kx hS.size) (fun hS => ?_)
      exact norm_ (by kernel_rfl) (stb_8 (W6.drew.heap.size, ()) _ ⟨hS, ⟨kn, kz⟩, trivial⟩)
  rintro ⟨g1, AX6, cX6, hX6, g8, ⟨⟩⟩ WE ⟨hS, f1, f4, f8, p4_8, -⟩
  dsimp only [putAll]
  try dsimp only at f1
  try dsimp only at f4
  try dsimp only at f8
  try dsimp only at p4_8
  have xg := box4 f8.1
  have zg := blk_frozen f8.1
  have lg := blk_lt f8.1
  refine rgl 9 rfl (by kernel_rfl) (by decide) (by kernel_rfl) (fun K hK => ?_)
  go_simp
  refine hK.out _ _ ?_
  refine rgp 10 (.int .i64 0) rfl (by kernel_rfl) (fun _ _ _ h => h) (by kernel_rfl) (fun V => by go_simp) ?_
  refine rgd (by kernel_rfl) ?_
  obtain ⟨W7s, hWF, bF, kpF⟩ : ∃ W7s, ((((WE.setCell ⟨g8, 0, none⟩ (.int .i64 X6.k)).setCell ⟨g8, 1, none⟩ (.int .i64 X6.n)).setCell ⟨g8, 2, none⟩ (.string X6.nm)).setCell ⟨g8, 3, none⟩ (.slice AX6 X6.ar.length cX6)) = W7s ∧
      W7s.heap[g8]? = some (.cells #[.int .i64 X6.k, .int .i64 X6.n, .string X6.nm, .slice AX6 X6.ar.length cX6] 34) ∧ Kp (fun q => q = g8) WE W7s := ⟨_, rfl, (set4 f8.1 _ _ _ _).1, (set4 f8.1 _ _ _ _).2⟩
  rw [hWF]
  have HF := f4.2.has.kp kpF p4_8
  have kE := below_then kb hS kb.size
  have kF : Below w.heap.size w W7s := ((Kp.of_below (fun q => q = g8) kE).trans kpF (fun i hi e => e)).below (fun i hi (e : i = g8) => by have h1 := f8.2; have h2 := kb.size; omega)
  obtain ⟨hb7, B6, mc⟩ := BoxM.mk_ (w0 := w) HF bF f4.1 (Nat.le_trans kb.size f8.2)
  have ss := f4.2.sub.trans mc.sub
  replace mc := (mb.then_ (f4.2.world HF)).then_ mc
  replace B1 := B1.sub ss
  replace B2 := B2.sub ss
  replace BP := BP.sub ss
  replace B4 := B4.sub ss
  replace B5 := B5.sub ss
  clear hWF xg zg lg HF kE kpF bF ss hS x50 x51 x52 x53 r5 kb mb f1 f4 f8 p4_8
  have kb := kF
  have mb := mc
  clear kF mc
  obtain ⟨X8, hX8'⟩ : ∃ X, T8 = X := ⟨_, rfl⟩
  have eX8 := Lib.hid hX8'
  have hs8 : Hid (SubstIs S8 X5 (.inr X8)) := Lib.hid (by rw [← hX5.out, ← hX8']; exact subst8)
  clear hX8'
  go_wp2_with fail
  obtain ⟨AX5, cX5, e50, e51, e52, e53, r5⟩ := B5.at_
  have x50 := mb.has.cell _ _ e50
  have x51 := mb.has.cell _ _ e51
  have x52 := mb.has.cell _ _ e52
  have x53 := mb.has.cell _ _ e53
  clear e50 e51 e52 e53
  refine rgs 12 (fun V => Below W7s.heap.size W7s V) [10] rfl ((Below.refl _ _).drew) (fun hS => ?_)
  refine rgt 4 (.agg #[.int .i64 X5.k, .int .i64 X5.n, .string X5.nm, .slice AX5 X5.ar.length cX5]) rfl (by kernel_rfl) (fun _ _ _ h => h) (by kernel_rfl) hS (fun V hV => by have q0 := cell_below x50 hV; have q1 := cell_below x51 hV; have q2 := cell_below x52 hV; have q3 := cell_below x53 hV; go_simp) ?_
  refine join_ (σ := Nat × Nat × Option Addr × Nat × Snap × Nat × Unit) 2 #[true, true, true, true, true, true, true, true, true, true, false, false] (fun s => [(54, .agg #[.int .i64 2, .int .i64 0, .string ⟨#[]⟩, .slice none 0 0]), (55, .slice (some ⟨s.1, 0, none⟩) 1 1), (56, .agg #[.int .i64 2, .int .i64 1, .string ⟨#[]⟩, .slice (some ⟨s.1, 0, none⟩) 1 1]), (57, .agg #[.int .i64 5, .int .i64 0, .string ⟨#[]⟩, .slice (some ⟨s.2.1, 0, none⟩) 1 1]), (59, .tuple #[.agg #[.int .i64 X8.k, .int .i64 X8.n, .string X8.nm, .slice s.2.2.1 X8.ar.length s.2.2.2.1], .int .i64 0]), (53, .tuple #[.agg #[.int .i64 X8.k, .int .i64 X8.n, .string X8.nm, .slice s.2.2.1 X8.ar.length s.2.2.2.1], .int .i64 0]), (60, .agg #[.int .i64 X8.k, .int .i64 X8.n, .string X8.nm, .slice s.2.2.1 X8.ar.length s.2.2.2.1]), (61, .int .i64 0), (8, .pointer (some ⟨s.2.2.2.2.2.1, 0, none⟩))]) (fun s W => Below W7s.heap.size W7s W ∧ (W.heap[s.1]? = some (.cells #[.int .i64 2, .int .i64 0, .string ⟨#[]⟩, .slice none 0 0] 34) ∧ W7s.heap.size ≤ s.1) ∧ (W.heap[s.2.1]? = some (.cells #[.int .i64 2, .int .i64 1, .string ⟨#[]⟩, .slice (some ⟨s.1, 0, none⟩) 1 1] 34) ∧ W7s.heap.size ≤ s.2.1) ∧ (TmR s.2.2.2.2.1 X8 [.int .i64 X8.k, .int .i64 X8.n, .string X8.nm, .slice s.2.2.1 X8.ar.length s.2.2.2.1] ∧ Mk w hb7 W s.2.2.2.2.1) ∧ (W.heap[s.2.2.2.2.2.1]? = some (.cells #[.int .i64 0, .int .i64 0, .string ⟨#[]⟩, .slice none 0 0] 34) ∧ W7s.heap.size ≤ s.2.2.2.2.2.1) ∧ (Off s.2.2.2.2.1 (fun q => q = s.2.2.2.2.2.1)) ∧ True) ?_ (fun stc_0_1_2_3_5_9 => ?_)
  rotate_left
  · refine join_ (σ := Nat × Nat × Option Addr × Nat × Snap × Unit) 3 #[true, true, true, true, true, true, true, true, true, false, false, false] (fun s => [(54, .agg #[.int .i64 2, .int .i64 0, .string ⟨#[]⟩, .slice none 0 0]), (55, .slice (some ⟨s.1, 0, none⟩) 1 1), (56, .agg #[.int .i64 2, .int .i64 1, .string ⟨#[]⟩, .slice (some ⟨s.1, 0, none⟩) 1 1]), (57, .agg #[.int .i64 5, .int .i64 0, .string ⟨#[]⟩, .slice (some ⟨s.2.1, 0, none⟩) 1 1]), (59, .tuple #[.agg #[.int .i64 X8.k, .int .i64 X8.n, .string X8.nm, .slice s.2.2.1 X8.ar.length s.2.2.2.1], .int .i64 0]), (53, .tuple #[.agg #[.int .i64 X8.k, .int .i64 X8.n, .string X8.nm, .slice s.2.2.1 X8.ar.length s.2.2.2.1], .int .i64 0]), (60, .agg #[.int .i64 X8.k, .int .i64 X8.n, .string X8.nm, .slice s.2.2.1 X8.ar.length s.2.2.2.1]), (61, .int .i64 0)]) (fun s W => Below W7s.heap.size W7s W ∧ (W.heap[s.1]? = some (.cells #[.int .i64 2, .int .i64 0, .string ⟨#[]⟩, .slice none 0 0] 34) ∧ W7s.heap.size ≤ s.1) ∧ (W.heap[s.2.1]? = some (.cells #[.int .i64 2, .int .i64 1, .string ⟨#[]⟩, .slice (some ⟨s.1, 0, none⟩) 1 1] 34) ∧ W7s.heap.size ≤ s.2.1) ∧ (TmR s.2.2.2.2.1 X8 [.int .i64 X8.k, .int .i64 X8.n, .string X8.nm, .slice s.2.2.1 X8.ar.length s.2.2.2.1] ∧ Mk w hb7 W s.2.2.2.2.1) ∧ True) ?_ (fun stc_0_1_2_3_5 => ?_)
    · rintro ⟨g1, gl, AX8, cX8, hX8, ⟨⟩⟩ W ⟨hS, f1, f3, f5, -⟩
      dsimp only [putAll]
      refine rg1 9 rfl (by kernel_rfl) (by decide) (by kernel_rfl) (fun K hK => ?_)
      have hS0 := hS
      go_simp
      have kx := (alloc1 W (.cells #[.int .i64 0, .int .i64 0, .string ⟨#[]⟩, .slice none 0 0] 34)).2
      have kn := blk_new W (.cells #[.int .i64 0, .int .i64 0, .string ⟨#[]⟩, .slice none 0 0] 34)
      have kz : W7s.heap.size ≤ W.heap.size := hS.size
      refine hK.out _ _ (below_then hS kx hS.size) (fun hS => ?_)
      exact norm_ (by kernel_rfl) (stc_0_1_2_3_5_9 (g1, gl, AX8, cX8, hX8, W.heap.size, ()) _ ⟨hS, ⟨box_below f1.1 kx, f1.2⟩, ⟨box_below f3.1 kx, f3.2⟩, ⟨f5.1, f5.2.world (f5.2.has.below kx)⟩, ⟨kn, kz⟩, f5.2.has.off_new (fun k e => by rw [e]; exact Nat.le_refl _), trivial⟩)
    refine join_ (σ := Nat × Nat × Nat × Unit) 6 #[true, true, true, true, true, false, false, false, false, true, false, false] (fun s => [(54, .agg #[.int .i64 2, .int .i64 0, .string ⟨#[]⟩, .slice none 0 0]), (55, .slice (some ⟨s.1, 0, none⟩) 1 1), (56, .agg #[.int .i64 2, .int .i64 1, .string ⟨#[]⟩, .slice (some ⟨s.1, 0, none⟩) 1 1]), (57, .agg #[.int .i64 5, .int .i64 0, .string ⟨#[]⟩, .slice (some ⟨s.2.1, 0, none⟩) 1 1]), (8, .pointer (some ⟨s.2.2.1, 0, none⟩))]) (fun s W => Below W7s.heap.size W7s W ∧ (W.heap[s.1]? = some (.cells #[.int .i64 2, .int .i64 0, .string ⟨#[]⟩, .slice none 0 0] 34) ∧ W7s.heap.size ≤ s.1) ∧ (W.heap[s.2.1]? = some (.cells #[.int .i64 2, .int .i64 1, .string ⟨#[]⟩, .slice (some ⟨s.1, 0, none⟩) 1 1] 34) ∧ W7s.heap.size ≤ s.2.1) ∧ (W.heap[s.2.2.1]? = some (.cells #[.int .i64 0, .int .i64 0, .string ⟨#[]⟩, .slice none 0 0] 34) ∧ W7s.heap.size ≤ s.2.2.1) ∧ True) ?_ (fun stc_0_1_2_3_9 => ?_)
    · rintro ⟨g1, gl, g9, ⟨⟩⟩ W ⟨hS, f1, f3, f9, -⟩
      dsimp only [putAll]
      refine rg1 5 rfl (by kernel_rfl) (by decide) (by kernel_rfl) (fun K hK => ?_)
      have hS0 := hS
      go_simp
      have hS_size := hS.size
      obtain ⟨hz, tz, mz, vz⟩ := one_TmS2 (w0 := w) (u := bdT 0 []) (mb.has.below hS) f1.1 (bdT_R (by omega) (TmS_nil _)) (Nat.le_trans kb.size f1.2)
      obtain ⟨hy, ty, my, vy⟩ := one_TmS2 (w0 := w) (u := bdT 1 [bdT 0 []]) mz.has f3.1 (bdT_R (by omega) tz) (Nat.le_trans kb.size f3.2)
      refine (Subst_calls S8 X5 (.inr X8) _ _ W hy my.has (lmT_R ty) ((r5.sub mz.sub).sub my.sub) hs8.out).mono ?_
      rintro e W7 ⟨k7, cs7, hX8, rfl, r7, m7⟩
      replace r7 : TmR hX8 X8 cs7 := r7
      obtain ⟨AX8, cX8, rfl, _⟩ := r7.open_
      rw [show codeS (.inr X8 : Sum Int Tm) = 0 from rfl]
      simp only []
      have kx := k7
      refine hK.out _ _ (below_then hS kx hS.size) (fun hS => ?_)
      refine rgt 6 (.tuple #[.agg #[.int .i64 X8.k, .int .i64 X8.n, .string X8.nm, .slice AX8 X8.ar.length cX8], .int .i64 0]) rfl (by kernel_rfl) (fun _ _ _ h => h) (by kernel_rfl) hS (fun V hV => by go_simp) ?_
      refine rgt 7 (.agg #[.int .i64 X8.k, .int .i64 X8.n, .string X8.nm, .slice AX8 X8.ar.length cX8]) rfl (by kernel_rfl) (fun _ _ _ h => h) (by kernel_rfl) hS (fun V hV => by go_simp) ?_
      refine rgp 8 (.int .i64 0) rfl (by kernel_rfl) (fun _ _ _ h => h) (by kernel_rfl) (fun V => by go_simp) ?_
      exact norm_ (by kernel_rfl) (stc_0_1_2_3_5_9 (g1, gl, AX8, cX8, hX8, g9, ()) _ ⟨hS, ⟨box_below f1.1 kx, f1.2⟩, ⟨box_below f3.1 kx, f3.2⟩, ⟨r7, (mz.then_ my).trans m7 (Nat.le_trans kb.size hS_size)⟩, ⟨box_below f9.1 kx, f9.2⟩, off_made m7 vy (off_row vz (mb.has.off_new (S := fun q => q = g9) (fun k e => by rw [e]; exact f9.2)) (blk_ne f1.1 f9.1 (by simp))) (blk_ne f3.1 f9.1 (by simp)) (blk_lt f9.1), trivial⟩)
    refine join_ (σ := Nat × Nat × Unit) 7 #[true, true, true, true, true, false, false, false, false, false, false, false] (fun s => [(54, .agg #[.int .i64 2, .int .i64 0, .string ⟨#[]⟩, .slice none 0 0]), (55, .slice (some ⟨s.1, 0, none⟩) 1 1), (56, .agg #[.int .i64 2, .int .i64 1, .string ⟨#[]⟩, .slice (some ⟨s.1, 0, none⟩) 1 1]), (57, .agg #[.int .i64 5, .int .i64 0, .string ⟨#[]⟩, .slice (some ⟨s.2.1, 0, none⟩) 1 1])]) (fun s W => Below W7s.heap.size W7s W ∧ (W.heap[s.1]? = some (.cells #[.int .i64 2, .int .i64 0, .string ⟨#[]⟩, .slice none 0 0] 34) ∧ W7s.heap.size ≤ s.1) ∧ (W.heap[s.2.1]? = some (.cells #[.int .i64 2, .int .i64 1, .string ⟨#[]⟩, .slice (some ⟨s.1, 0, none⟩) 1 1] 34) ∧ W7s.heap.size ≤ s.2.1) ∧ True) ?_ (fun stc_0_1_2_3 => ?_)
    · rintro ⟨g1, gl, ⟨⟩⟩ W ⟨hS, f1, f3, -⟩
      dsimp only [putAll]
      refine rg2 5 9 rfl rfl (by kernel_rfl) (by decide) (by decide) (by kernel_rfl) (by kernel_rfl) (fun K hK => ?_) (fun K hK => ?_)
      · have hS0 := hS
        go_simp
        have hS_size := hS.size
        obtain ⟨hz, tz, mz, vz⟩ := one_TmS2 (w0 := w) (u := bdT 0 []) (mb.has.below hS) f1.1 (bdT_R (by omega) (TmS_nil _)) (Nat.le_trans kb.size f1.2)
        obtain ⟨hy, ty, my, vy⟩ := one_TmS2 (w0 := w) (u := bdT 1 [bdT 0 []]) mz.has f3.1 (bdT_R (by omega) tz) (Nat.le_trans kb.size f3.2)
        refine (Subst_calls S8 X5 (.inr X8) _ _ W hy my.has (lmT_R ty) ((r5.sub mz.sub).sub my.sub) hs8.out).mono ?_
        rintro e W7 ⟨k7, cs7, hX8, rfl, r7, m7⟩
        replace r7 : TmR hX8 X8 cs7 := r7
        obtain ⟨AX8, cX8, rfl, _⟩ := r7.open_
        rw [show codeS (.inr X8 : Sum Int Tm) = 0 from rfl]
        simp only []
        have kx := k7
        refine hK.out _ _ (below_then hS kx hS.size) (fun hS => ?_)
        refine rgt 6 (.tuple #[.agg #[.int .i64 X8.k, .int .i64 X8.n, .string X8.nm, .slice AX8 X8.ar.length cX8], .int .i64 0]) rfl (by kernel_rfl) (fun _ _ _ h => h) (by kernel_rfl) hS (fun V hV => by go_simp) ?_
        refine rgt 7 (.agg #[.int .i64 X8.k, .int .i64 X8.n, .string X8.nm, .slice AX8 X8.ar.length cX8]) rfl (by kernel_rfl) (fun _ _ _ h => h) (by kernel_rfl) hS (fun V hV => by go_simp) ?_
        refine rgp 8 (.int .i64 0) rfl (by kernel_rfl) (fun _ _ _ h => h) (by kernel_rfl) (fun V => by go_simp) ?_
        exact norm_ (by kernel_rfl) (stc_0_1_2_3_5 (g1, gl, AX8, cX8, hX8, ()) _ ⟨hS, ⟨box_below f1.1 kx, f1.2⟩, ⟨box_below f3.1 kx, f3.2⟩, ⟨r7, (mz.then_ my).trans m7 (Nat.le_trans kb.size hS_size)⟩, trivial⟩)
      · have hS0 := hS
        go_simp
        have kx := (alloc1 W (.cells #[.int .i64 0, .int .i64 0, .string ⟨#[]⟩, .slice none 0 0] 34)).2
        have kn := blk_new W (.cells #[.int .i64 0, .int .i64 0, .string ⟨#[]⟩, .slice none 0 0] 34)
        have kz : W7s.heap.size ≤ W.heap.size := hS.size
        refine hK.out _ _ (below_then hS kx hS.size) (fun hS => ?_)
        exact norm_ (by kernel_rfl) (stc_0_1_2_3_9 (g1, gl, W.heap.size, ()) _ ⟨hS, ⟨box_below f1.1 kx, f1.2⟩, ⟨box_below f3.1 kx, f3.2⟩, ⟨kn, kz⟩, trivial⟩)
    refine join_ (σ := Nat × Nat × Unit) 7 #[true, true, true, false, true, false, false, false, false, true, false, false] (fun s => [(54, .agg #[.int .i64 2, .int .i64 0, .string ⟨#[]⟩, .slice none 0 0]), (55, .slice (some ⟨s.1, 0, none⟩) 1 1), (56, .agg #[.int .i64 2, .int .i64 1, .string ⟨#[]⟩, .slice (some ⟨s.1, 0, none⟩) 1 1]), (8, .pointer (some ⟨s.2.1, 0, none⟩))]) (fun s W => Below W7s.heap.size W7s W ∧ (W.heap[s.1]? = some (.cells #[.int .i64 2, .int .i64 0, .string ⟨#[]⟩, .slice none 0 0] 34) ∧ W7s.heap.size ≤ s.1) ∧ (W.heap[s.2.1]? = some (.cells #[.int .i64 0, .int .i64 0, .string ⟨#[]⟩, .slice none 0 0] 34) ∧ W7s.heap.size ≤ s.2.1) ∧ True) ?_ (fun stc_0_1_2_9 => ?_)
    · rintro ⟨g1, g9, ⟨⟩⟩ W ⟨hS, f1, f9, -⟩
      dsimp only [putAll]
      refine rg1 3 rfl (by kernel_rfl) (by decide) (by kernel_rfl) (fun K hK => ?_)
      have hS0 := hS
      go_simp
      refine (lam_calls _ _ _ _ _ _ _).mono ?_
      rintro e W7 ⟨gl, rfl, k7, bl, hgl⟩
      simp only []
      have kx := k7
      refine hK.out _ _ (below_then hS kx hS.size) (fun hS => ?_)
      exact norm_ (by kernel_rfl) (stc_0_1_2_3_9 (g1, gl, g9, ()) _ ⟨hS, ⟨box_below f1.1 kx, f1.2⟩, ⟨bl, Nat.le_trans hS0.size hgl⟩, ⟨box_below f9.1 kx, f9.2⟩, trivial⟩)
    refine join_ (σ := Nat × Unit) 8 #[true, true, true, false, true, false, false, false, false, false, false, false] (fun s => [(54, .agg #[.int .i64 2, .int .i64 0, .string ⟨#[]⟩, .slice none 0 0]), (55, .slice (some ⟨s.1, 0, none⟩) 1 1), (56, .agg #[.int .i64 2, .int .i64 1, .string ⟨#[]⟩, .slice (some ⟨s.1, 0, none⟩) 1 1])]) (fun s W => Below W7s.heap.size W7s W ∧ (W.heap[s.1]? = some (.cells #[.int .i64 2, .int .i64 0, .string ⟨#[]⟩, .slice none 0 0] 34) ∧ W7s.heap.size ≤ s.1) ∧ True) ?_ (fun stc_0_1_2 => ?_)
    · rintro ⟨g1, ⟨⟩⟩ W ⟨hS, f1, -⟩
      dsimp only [putAll]
      refine rg2 3 9 rfl rfl (by kernel_rfl) (by decide) (by decide) (by kernel_rfl) (by kernel_rfl) (fun K hK => ?_) (fun K hK => ?_)
      · have hS0 := hS
        go_simp
        refine (lam_calls _ _ _ _ _ _ _).mono ?_
        rintro e W7 ⟨gl, rfl, k7, bl, hgl⟩
        simp only []
        have kx := k7
        refine hK.out _ _ (below_then hS kx hS.size) (fun hS => ?_)
        exact norm_ (by kernel_rfl) (stc_0_1_2_3 (g1, gl, ()) _ ⟨hS, ⟨box_below f1.1 kx, f1.2⟩, ⟨bl, Nat.le_trans hS0.size hgl⟩, trivial⟩)
      · have hS0 := hS
        go_simp
        have kx := (alloc1 W (.cells #[.int .i64 0, .int .i64 0, .string ⟨#[]⟩, .slice none 0 0] 34)).2
        have kn := blk_new W (.cells #[.int .i64 0, .int .i64 0, .string ⟨#[]⟩, .slice none 0 0] 34)
        have kz : W7s.heap.size ≤ W.heap.size := hS.size
        refine hK.out _ _ (below_then hS kx hS.size) (fun hS => ?_)
        exact norm_ (by kernel_rfl) (stc_0_1_2_9 (g1, W.heap.size, ()) _ ⟨hS, ⟨box_below f1.1 kx, f1.2⟩, ⟨kn, kz⟩, trivial⟩)
    refine join_ (σ := Nat × Nat × Unit) 8 #[true, true, false, false, true, false, false, false, false, true, false, false] (fun s => [(54, .agg #[.int .i64 2, .int .i64 0, .string ⟨#[]⟩, .slice none 0 0]), (55, .slice (some ⟨s.1, 0, none⟩) 1 1), (8, .pointer (some ⟨s.2.1, 0, none⟩))]) (fun s W => Below W7s.heap.size W7s W ∧ (W.heap[s.1]? = some (.cells #[.int .i64 2, .int .i64 0, .string ⟨#[]⟩, .slice none 0 0] 34) ∧ W7s.heap.size ≤ s.1) ∧ (W.heap[s.2.1]? = some (.cells #[.int .i64 0, .int .i64 0, .string ⟨#[]⟩, .slice none 0 0] 34) ∧ W7s.heap.size ≤ s.2.1) ∧ True) ?_ (fun stc_0_1_9 => ?_)
    · rintro ⟨g1, g9, ⟨⟩⟩ W ⟨hS, f1, f9, -⟩
      dsimp only [putAll]
      refine rg1 2 rfl (by kernel_rfl) (by decide) (by kernel_rfl) (fun K hK => ?_)
      have hS0 := hS
      go_simp
      refine (bound_calls 1 _ (some ⟨g1, 0, none⟩) 1 1 rfl _).mono ?_
      rintro e W7 ⟨rfl, k7⟩
      simp only []
      have kx := k7
      refine hK.out _ _ (below_then hS kx hS.size) (fun hS => ?_)
      exact norm_ (by kernel_rfl) (stc_0_1_2_9 (g1, g9, ()) _ ⟨hS, ⟨box_below f1.1 kx, f1.2⟩, ⟨box_below f9.1 kx, f9.2⟩, trivial⟩)
    refine join_ (σ := Nat × Unit) 9 #[true, true, false, false, true, false, false, false, false, false, false, false] (fun s => [(54, .agg #[.int .i64 2, .int .i64 0, .string ⟨#[]⟩, .slice none 0 0]), (55, .slice (some ⟨s.1, 0, none⟩) 1 1)]) (fun s W => Below W7s.heap.size W7s W ∧ (W.heap[s.1]? = some (.cells #[.int .i64 2, .int .i64 0, .string ⟨#[]⟩, .slice none 0 0] 34) ∧ W7s.heap.size ≤ s.1) ∧ True) ?_ (fun stc_0_1 => ?_)
    · rintro ⟨g1, ⟨⟩⟩ W ⟨hS, f1, -⟩
      dsimp only [putAll]
      refine rg2 2 9 rfl rfl (by kernel_rfl) (by decide) (by decide) (by kernel_rfl) (by kernel_rfl) (fun K hK => ?_) (fun K hK => ?_)
      · have hS0 := hS
        go_simp
        refine (bound_calls 1 _ (some ⟨g1, 0, none⟩) 1 1 rfl _).mono ?_
        rintro e W7 ⟨rfl, k7⟩
        simp only []
        have kx := k7
        refine hK.out _ _ (below_then hS kx hS.size) (fun hS => ?_)
        exact norm_ (by kernel_rfl) (stc_0_1_2 (g1, ()) _ ⟨hS, ⟨box_below f1.1 kx, f1.2⟩, trivial⟩)
      · have hS0 := hS
        go_simp
        have kx := (alloc1 W (.cells #[.int .i64 0, .int .i64 0, .string ⟨#[]⟩, .slice none 0 0] 34)).2
        have kn := blk_new W (.cells #[.int .i64 0, .int .i64 0, .string ⟨#[]⟩, .slice none 0 0] 34)
        have kz : W7s.heap.size ≤ W.heap.size := hS.size
        refine hK.out _ _ (below_then hS kx hS.size) (fun hS => ?_)
        exact norm_ (by kernel_rfl) (stc_0_1_9 (g1, W.heap.size, ()) _ ⟨hS, ⟨box_below f1.1 kx, f1.2⟩, ⟨kn, kz⟩, trivial⟩)
    refine join_ (σ := Nat × Unit) 9 #[true, false, false, false, true, false, false, false, false, true, false, false] (fun s => [(54, .agg #[.int .i64 2, .int .i64 0, .string ⟨#[]⟩, .slice none 0 0]), (8, .pointer (some ⟨s.1, 0, none⟩))]) (fun s W => Below W7s.heap.size W7s W ∧ (W.heap[s.1]? = some (.cells #[.int .i64 0, .int .i64 0, .string ⟨#[]⟩, .slice none 0 0] 34) ∧ W7s.heap.size ≤ s.1) ∧ True) ?_ (fun stc_0_9 => ?_)
    · rintro ⟨g9, ⟨⟩⟩ W ⟨hS, f9, -⟩
      dsimp only [putAll]
      refine rg1 1 rfl (by kernel_rfl) (by decide) (by kernel_rfl) (fun K hK => ?_)
      have hS0 := hS
      go_simp
      have kx := (alloc1 W (.cells #[.int .i64 2, .int .i64 0, .string ⟨#[]⟩, .slice none 0 0] 34)).2
      have kn := blk_new W (.cells #[.int .i64 2, .int .i64 0, .string ⟨#[]⟩, .slice none 0 0] 34)
      have kz : W7s.heap.size ≤ W.heap.size := hS.size
      refine hK.out _ _ (below_then hS kx hS.size) (fun hS => ?_)
      exact norm_ (by kernel_rfl) (stc_0_1_9 (W.heap.size, g9, ()) _ ⟨hS, ⟨kn, kz⟩, ⟨box_below f9.1 kx, f9.2⟩, trivial⟩)
    refine join_ (σ := Unit) 10 #[true, false, false, false, true, false, false, false, false, false, false, false] (fun s => [(54, .agg #[.int .i64 2, .int .i64 0, .string ⟨#[]⟩, .slice none 0 0])]) (fun s W => Below W7s.heap.size W7s W ∧ True) ?_ (fun stc_0 => ?_)
    · rintro ⟨⟩ W ⟨hS, -⟩
      dsimp only [putAll]
      refine rg2 1 9 rfl rfl (by kernel_rfl) (by decide) (by decide) (by kernel_rfl) (by kernel_rfl) (fun K hK => ?_) (fun K hK => ?_)
      · have hS0 := hS
        go_simp
        have kx := (alloc1 W (.cells #[.int .i64 2, .int .i64 0, .string ⟨#[]⟩, .slice none 0 0] 34)).2
        have kn := blk_new W (.cells #[.int .i64 2, .int .i64 0, .string ⟨#[]⟩, .slice none 0 0] 34)
        have kz : W7s.heap.size ≤ W.heap.size := hS.size
        refine hK.out _ _ (below_then hS kx hS.size) (fun hS => ?_)
        exact norm_ (by kernel_rfl) (stc_0_1 (W.heap.size, ()) _ ⟨hS, ⟨kn, kz⟩, trivial⟩)
      · have hS0 := hS
        go_simp
        have kx := (alloc1 W (.cells #[.int .i64 0, .int .i64 0, .string ⟨#[]⟩, .slice none 0 0] 34)).2
        have kn := blk_new W (.cells #[.int .i64 0, .int .i64 0, .string ⟨#[]⟩, .slice none 0 0] 34)
        have kz : W7s.heap.size ≤ W.heap.size := hS.size
        refine hK.out _ _ (below_then hS kx hS.size) (fun hS => ?_)
        exact norm_ (by kernel_rfl) (stc_0_9 (W.heap.size, ()) _ ⟨hS, ⟨kn, kz⟩, trivial⟩)
    refine join_ (σ := Nat × Unit) 10 #[false, false, false, false, true, false, false, false, false, true, false, false] (fun s => [(8, .pointer (some ⟨s.1, 0, none⟩))]) (fun s W => Below W7s.heap.size W7s W ∧ (W.heap[s.1]? = some (.cells #[.int .i64 0, .int .i64 0, .string ⟨#[]⟩, .slice none 0 0] 34) ∧ W7s.heap.size ≤ s.1) ∧ True) ?_ (fun stc_9 => ?_)
    · rintro ⟨g9, ⟨⟩⟩ W ⟨hS, f9, -⟩
      dsimp only [putAll]
      refine rg1 0 rfl (by kernel_rfl) (by decide) (by kernel_rfl) (fun K hK => ?_)
      have hS0 := hS
      go_simp
      refine (bound_calls 0 _ none 0 0 rfl _).mono ?_
      rintro e W7 ⟨rfl, k7⟩
      simp only []
      have kx := k7
      refine hK.out _ _ (below_then hS kx hS.size) (fun hS => ?_)
      exact norm_ (by kernel_rfl) (stc_0_9 (g9, ()) _ ⟨hS, ⟨box_below f9.1 kx, f9.2⟩, trivial⟩)
    refine rg2 0 9 rfl rfl (by kernel_rfl) (by decide) (by decide) (by kernel_rfl) (by kernel_rfl) (fun K hK => ?_) (fun K hK => ?_)
    · have hS0 := hS
      go_simp
      refine (bound_calls 0 _ none 0 0 rfl _).mono ?_
      rintro e W7 ⟨rfl, k7⟩
      simp only []
      have kx := k7
      refine hK.out _ _ (below_then hS kx hS.size) (fun hS => ?_)
      exact norm_ (by kernel_rfl) (stc_0 () _ ⟨hS, trivial⟩)
    · have hS0 := hS
      go_simp
      have kx := (alloc1 W7s.drew (.cells #[.int .i64 0, .int .i64 0, .string ⟨#[]⟩, .slice none 0 0] 34)).2
      have kn := blk_new W7s.drew (.cells #[.int .i64 0, .int .i64 0, .string ⟨#[]⟩, .slice none 0 0] 34)
      have kz : W7s.heap.size ≤ W7s.drew.heap.size := hS.size
      refine hK.out _ _ (below_then hS kx hS.size) (fun hS => ?_)
      exact norm_ (by kernel_rfl) (stc_9 (W7s.drew.heap.size, ()) _ ⟨hS, ⟨kn, kz⟩, trivial⟩)
  rintro ⟨g1, gl, AX8, cX8, hX8, g9, ⟨⟩⟩ WE ⟨hS, f1, f3, f5, f9, p5_9, -⟩
  dsimp only [putAll]
  try dsimp only at f1
  try dsimp only at f3
  try dsimp only at f5
  try dsimp only at f9
  try dsimp only at p5_9
  have xg := box4 f9.1
  have zg := blk_frozen f9.1
  have lg := blk_lt f9.1
  refine rgl 10 rfl (by kernel_rfl) (by decide) (by kernel_rfl) (fun K hK => ?_)
  go_simp
  refine hK.out _ _ ?_
  refine rgp 11 (.int .i64 0) rfl (by kernel_rfl) (fun _ _ _ h => h) (by kernel_rfl) (fun V => by go_simp) ?_
  refine rgd (by kernel_rfl) ?_
  obtain ⟨W8s, hWF, bF, kpF⟩ : ∃ W8s, ((((WE.setCell ⟨g9, 0, none⟩ (.int .i64 X8.k)).setCell ⟨g9, 1, none⟩ (.int .i64 X8.n)).setCell ⟨g9, 2, none⟩ (.string X8.nm)).setCell ⟨g9, 3, none⟩ (.slice AX8 X8.ar.length cX8)) = W8s ∧
      W8s.heap[g9]? = some (.cells #[.int .i64 X8.k, .int .i64 X8.n, .string X8.nm, .slice AX8 X8.ar.length cX8] 34) ∧ Kp (fun q => q = g9) WE W8s := ⟨_, rfl, (set4 f9.1 _ _ _ _).1, (set4 f9.1 _ _ _ _).2⟩
  rw [hWF]
  have HF := f5.2.has.kp kpF p5_9
  have kE := below_then kb hS kb.size
  have kF : Below w.heap.size w W8s := ((Kp.of_below (fun q => q = g9) kE).trans kpF (fun i hi e => e)).below (fun i hi (e : i = g9) => by have h1 := f9.2; have h2 := kb.size; omega)
  obtain ⟨hb8, B8, mc⟩ := BoxM.mk_ (w0 := w) HF bF f5.1 (Nat.le_trans kb.size f9.2)
  have ss := f5.2.sub.trans mc.sub
  replace mc := (mb.then_ (f5.2.world HF)).then_ mc
  replace B1 := B1.sub ss
  replace B2 := B2.sub ss
  replace BP := BP.sub ss
  replace B4 := B4.sub ss
  replace B5 := B5.sub ss
  replace B6 := B6.sub ss
  clear hWF xg zg lg HF kE kpF bF ss hS x50 x51 x52 x53 r5 kb mb f1 f3 f5 f9 p5_9
  have kb := kF
  have mb := mc
  clear kF mc
  go_wp2_with fail
  refine (bound_calls 0 _ none 0 0 rfl _).mono ?_
  rintro e v1 ⟨rfl, j1⟩
  go_wp2_with fail
  refine (bound_calls 0 _ (some ⟨v1.heap.size, 0, none⟩) 1 1 rfl _).mono ?_
  rintro e v2 ⟨rfl, j2⟩
  go_wp2_with fail
  refine (bound_calls 0 _ none 0 0 rfl _).mono ?_
  rintro e v3 ⟨rfl, j3⟩
  go_wp2_with fail
  refine (bound_calls 0 _ (some ⟨v3.heap.size, 0, none⟩) 1 1 rfl _).mono ?_
  rintro e v4 ⟨rfl, j4⟩
  go_wp2_with fail
  refine (lam_calls _ _ _ _ _ _ _).mono ?_
  rintro e v5 ⟨gl, rfl, j5, bl, hgl⟩
  go_wp2_with fail
  have i1 := below_then kb j1 kb.size
  have b1 := blk_new v1 (.cells #[.int .i64 2, .int .i64 0, .string ⟨#[]⟩, .slice none 0 0] 34)
  have i1a := i1.alloc i1.size (.cells #[.int .i64 2, .int .i64 0, .string ⟨#[]⟩, .slice none 0 0] 34)
  obtain ⟨h1, t1, m1⟩ := one_TmS (w0 := w) (u := bdT 0 []) ((mb.has.below j1).alloc _) b1 (bdT_R (by omega) (TmS_nil hb8)) i1.size
  have i2 := below_then i1a j2 i1a.size
  have i3 := below_then i2 j3 i2.size
  have b3 := blk_new v3 (.cells #[.int .i64 2, .int .i64 0, .string ⟨#[]⟩, .slice none 0 0] 34)
  have i3a := i3.alloc i3.size (.cells #[.int .i64 2, .int .i64 0, .string ⟨#[]⟩, .slice none 0 0] 34)
  obtain ⟨h2, t2, m2⟩ := one_TmS (w0 := w) (u := bdT 0 []) (((m1.has.below j2).below j3).alloc _) b3 (bdT_R (by omega) (TmS_nil h1)) i3.size
  have i4 := below_then i3a j4 i3a.size
  have i5 := below_then i4 j5 i4.size
  obtain ⟨h3, t3, m3⟩ := one_TmS (w0 := w) (u := S10) ((m2.has.below j4).below j5) bl (bdT_R (by omega) t2) (Nat.le_trans i4.size hgl)
  refine (Subst_calls S10 U10 (.inl 4) _ _ v5 h3 m3.has (((bdT_R (by omega) t1).sub m2.sub).sub m3.sub) (lmT_R t3) subst10).mono ?_
  rintro e v6 ⟨j6, cs, h4, rfl, r, m4⟩
  replace r : TmR h4 tm0 cs := r
  have cs4 : codeS (.inl 4 : Sum Int Tm) = 4 := rfl
  rw [cs4]
  obtain ⟨A10, c10, rfl, _⟩ := r.open_
  have i6 := below_then i5 j6 i5.size
  have ss := ((m1.sub.trans m2.sub).trans m3.sub).trans m4.sub
  have mm := ((((mb.then_ m1).then_ m2).then_ m3).trans m4 i5.size)
  replace B1 := B1.sub ss
  replace B2 := B2.sub ss
  replace BP := BP.sub ss
  replace B4 := B4.sub ss
  replace B5 := B5.sub ss
  replace B6 := B6.sub ss
  replace B8 := B8.sub ss
  clear ss m1 m2 m3 m4 t1 t2 t3 r b1 b3 bl i1 i1a i2 i3 i3a i4 i5 j1 j2 j3 j4 j5 j6 hgl cs4 h1 h2 h3 kb mb hb8
  obtain ⟨AY2, cY2, y0', y1', rY⟩ := B2.at_
  have y0 := (mm.has.alloc (.cells #[.int .i64 tm0.k, .int .i64 tm0.n, .string tm0.nm, .slice A10 tm0.ar.length c10] 34)).cell _ _ y0'
  have y1 := (mm.has.alloc (.cells #[.int .i64 tm0.k, .int .i64 tm0.n, .string tm0.nm, .slice A10 tm0.ar.length c10] 34)).cell _ _ y1'
  have y0b := mm.has.cell _ _ y0'
  have y1b := mm.has.cell _ _ y1'
  have ly := mm.has.lt y0'
  go_wp2_with fail
  obtain ⟨c1, c2, cb⟩ := alloc2 v6 (.cells #[.int .i64 tm0.k, .int .i64 tm0.n, .string tm0.nm, .slice A10 tm0.ar.length c10] 34) (.cells #[.string Y.nm, .slice AY2 Y.ar.length cY2] 36)
  obtain ⟨v7, hv7⟩ : ∃ v7, ((v6.alloc (.cells #[.int .i64 tm0.k, .int .i64 tm0.n, .string tm0.nm, .slice A10 tm0.ar.length c10] 34)).alloc (.cells #[.string Y.nm, .slice AY2 Y.ar.length cY2] 36)) = v7 := ⟨_, rfl⟩
  rw [hv7] at c1 c2 cb ⊢
  clear hv7
  have i7 := below_then i6 cb i6.size
  obtain ⟨h5, t5, m5⟩ := one_TyS (w0 := w) (mm.has.below cb) c2 rY (by have := i6.size; omega)
  refine (Arrow_calls ⟨#[110, 97, 116]⟩ [Y] _ v7 h5 m5.has t5).mono ?_
  rintro e v8a ⟨cs, h6, rfl, r6z, j8, m6⟩
  rw [hZ.out] at r6z
  obtain ⟨AZ2, cZ2, rfl, _⟩ := r6z.open_
  have i8 := below_then i7 j8 i7.size
  obtain ⟨X12, hX12'⟩ : ∃ X, T12 = X := ⟨_, rfl⟩
  have hX12 := Lib.hid hX12'
  have heta : Hid (EtaIs (.mk 3 0 ⟨#[]⟩ []) Z (.inr X12)) := Lib.hid (by rw [← hX12', ← hZ.out, ← hY.out]; exact eta12)
  clear hX12' y0 y1 y0b y1b ly
  go_wp2_with fail
  refine (Eta_calls (.mk 3 0 ⟨#[]⟩ []) Z (.inr X12) [.int .i64 3, .int .i64 0, .string ⟨#[]⟩, .slice none 0 0] _ v8a h6 m6.has ⟨none, 0, rfl, by simp, by simp, by omega, by omega, trivial⟩ r6z heta.out).mono ?_
  rintro e v9 ⟨j9, cs, h7, rfl, r, m7⟩
  replace r : TmR h7 X12 cs := r
  have cs4 : codeS (.inr X12 : Sum Int Tm) = 0 := rfl
  rw [cs4]
  obtain ⟨A12, c12, rfl, _⟩ := r.open_
  have i9 := below_then i8 j9 i8.size
  go_wp2_with fail
  have b12 := blk_new v9 (.cells #[.int .i64 X12.k, .int .i64 X12.n, .string X12.nm, .slice A12 X12.ar.length c12] 34)
  have mm7 := ((mm.then_ m5).trans m6 i7.size).trans m7 i8.size
  have kb := i9.alloc i9.size (.cells #[.int .i64 X12.k, .int .i64 X12.n, .string X12.nm, .slice A12 X12.ar.length c12] 34)
  obtain ⟨hb9, B12, mb⟩ := BoxM.mk_ (w0 := w) (mm7.has.alloc _) b12 r i9.size
  obtain ⟨W9s, hW9⟩ : ∃ W9s, v9.alloc (.cells #[.int .i64 X12.k, .int .i64 X12.n, .string X12.nm, .slice A12 X12.ar.length c12] 34) = W9s := ⟨_, rfl⟩
  rw [hW9] at kb mb b12 ⊢
  have ss := ((m5.sub.trans m6.sub).trans m7.sub).trans mb.sub
  replace mb := mm7.then_ mb
  replace B1 := B1.sub ss
  replace B2 := B2.sub ss
  replace BP := BP.sub ss
  replace B4 := B4.sub ss
  replace B5 := B5.sub ss
  replace B6 := B6.sub ss
  replace B8 := B8.sub ss
  obtain ⟨XE, hXE'⟩ : ∃ X, T14 = X := ⟨_, rfl⟩
  have eXE := Lib.hid hXE'
  have hs14 : Hid (PutIs S14 X5 (.inr XE)) := Lib.hid (by rw [← hX5.out, ← hXE']; exact put14)
  have hk5 : Hid (X5.k = 5) := Lib.hid (by rw [← hX5.out]; rfl)
  clear hXE' hW9 ss mm7 mm m5 m6 m7 i6 i7 i8 i9 j8 j9 c1 c2 cb b12 r cs4 r6z t5 rY y0' y1'
  obtain ⟨AX5, cX5, e50, e51, e52, e53, r5⟩ := B5.at_
  have x50 := mb.has.cell _ _ e50
  have x51 := mb.has.cell _ _ e51
  have x52 := mb.has.cell _ _ e52
  have x53 := mb.has.cell _ _ e53
  clear e50 e51 e52 e53
  refine rgs 14 (fun V => Below W9s.heap.size W9s V) [12] rfl ((Below.refl _ _).drew) (fun hS => ?_)
  refine rgt 5 (.agg #[.int .i64 X5.k, .int .i64 X5.n, .string X5.nm, .slice AX5 X5.ar.length cX5]) rfl (by kernel_rfl) (fun _ _ _ h => h) (by kernel_rfl) hS (fun V hV => by have q0 := cell_below x50 hV; have q1 := cell_below x51 hV; have q2 := cell_below x52 hV; have q3 := cell_below x53 hV; go_simp) ?_
  refine join_ (σ := Nat × Nat × Nat × Option Addr × Nat × Snap × Nat × Unit) 2 #[true, true, true, true, true, true, true, true, true, true, true, true, false, false] (fun s => [(82, .agg #[.int .i64 1, .int .i64 0, .string ⟨#[122]⟩, .slice none 0 0]), (83, .slice (some ⟨s.1, 0, none⟩) 1 1), (84, .agg #[.int .i64 4, .int .i64 0, .string ⟨#[]⟩, .slice (some ⟨s.1, 0, none⟩) 1 1]), (85, .slice (some ⟨s.2.1, 0, none⟩) 1 1), (86, .agg #[.int .i64 1, .int .i64 0, .string ⟨#[115]⟩, .slice (some ⟨s.2.1, 0, none⟩) 1 1]), (88, .slice (some ⟨s.2.2.1, 0, none⟩) 1 1), (89, .tuple #[.agg #[.int .i64 XE.k, .int .i64 XE.n, .string XE.nm, .slice s.2.2.2.1 XE.ar.length s.2.2.2.2.1], .int .i64 0]), (81, .tuple #[.agg #[.int .i64 XE.k, .int .i64 XE.n, .string XE.nm, .slice s.2.2.2.1 XE.ar.length s.2.2.2.2.1], .int .i64 0]), (90, .agg #[.int .i64 XE.k, .int .i64 XE.n, .string XE.nm, .slice s.2.2.2.1 XE.ar.length s.2.2.2.2.1]), (91, .int .i64 0), (14, .pointer (some ⟨s.2.2.2.2.2.2.1, 0, none⟩))]) (fun s W => Below W9s.heap.size W9s W ∧ (W.heap[s.1]? = some (.cells #[.int .i64 1, .int .i64 0, .string ⟨#[122]⟩, .slice none 0 0] 34) ∧ W9s.heap.size ≤ s.1) ∧ (W.heap[s.2.1]? = some (.cells #[.int .i64 4, .int .i64 0, .string ⟨#[]⟩, .slice (some ⟨s.1, 0, none⟩) 1 1] 34) ∧ W9s.heap.size ≤ s.2.1) ∧ (W.heap[s.2.2.1]? = some (.cells #[.int .i64 X5.k, .int .i64 X5.n, .string X5.nm, .slice AX5 X5.ar.length cX5] 34) ∧ W9s.heap.size ≤ s.2.2.1) ∧ (TmR s.2.2.2.2.2.1 XE [.int .i64 XE.k, .int .i64 XE.n, .string XE.nm, .slice s.2.2.2.1 XE.ar.length s.2.2.2.2.1] ∧ Mk w hb9 W s.2.2.2.2.2.1) ∧ (W.heap[s.2.2.2.2.2.2.1]? = some (.cells #[.int .i64 0, .int .i64 0, .string ⟨#[]⟩, .slice none 0 0] 34) ∧ W9s.heap.size ≤ s.2.2.2.2.2.2.1) ∧ (Off s.2.2.2.2.2.1 (fun q => q = s.2.2.2.2.2.2.1)) ∧ True) ?_ (fun std_0_1_3_4_6_7_11 => ?_)
  rotate_left
  · refine join_ (σ := Nat × Nat × Nat × Option Addr × Nat × Snap × Unit) 3 #[true, true, true, true, true, true, true, true, true, true, true, false, false, false] (fun s => [(82, .agg #[.int .i64 1, .int .i64 0, .string ⟨#[122]⟩, .slice none 0 0]), (83, .slice (some ⟨s.1, 0, none⟩) 1 1), (84, .agg #[.int .i64 4, .int .i64 0, .string ⟨#[]⟩, .slice (some ⟨s.1, 0, none⟩) 1 1]), (85, .slice (some ⟨s.2.1, 0, none⟩) 1 1), (86, .agg #[.int .i64 1, .int .i64 0, .string ⟨#[115]⟩, .slice (some ⟨s.2.1, 0, none⟩) 1 1]), (88, .slice (some ⟨s.2.2.1, 0, none⟩) 1 1), (89, .tuple #[.agg #[.int .i64 XE.k, .int .i64 XE.n, .string XE.nm, .slice s.2.2.2.1 XE.ar.length s.2.2.2.2.1], .int .i64 0]), (81, .tuple #[.agg #[.int .i64 XE.k, .int .i64 XE.n, .string XE.nm, .slice s.2.2.2.1 XE.ar.length s.2.2.2.2.1], .int .i64 0]), (90, .agg #[.int .i64 XE.k, .int .i64 XE.n, .string XE.nm, .slice s.2.2.2.1 XE.ar.length s.2.2.2.2.1]), (91, .int .i64 0)]) (fun s W => Below W9s.heap.size W9s W ∧ (W.heap[s.1]? = some (.cells #[.int .i64 1, .int .i64 0, .string ⟨#[122]⟩, .slice none 0 0] 34) ∧ W9s.heap.size ≤ s.1) ∧ (W.heap[s.2.1]? = some (.cells #[.int .i64 4, .int .i64 0, .string ⟨#[]⟩, .slice (some ⟨s.1, 0, none⟩) 1 1] 34) ∧ W9s.heap.size ≤ s.2.1) ∧ (W.heap[s.2.2.1]? = some (.cells #[.int .i64 X5.k, .int .i64 X5.n, .string X5.nm, .slice AX5 X5.ar.length cX5] 34) ∧ W9s.heap.size ≤ s.2.2.1) ∧ (TmR s.2.2.2.2.2.1 XE [.int .i64 XE.k, .int .i64 XE.n, .string XE.nm, .slice s.2.2.2.1 XE.ar.length s.2.2.2.2.1] ∧ Mk w hb9 W s.2.2.2.2.2.1) ∧ True) ?_ (fun std_0_1_3_4_6_7 => ?_)
    · rintro ⟨g1, g3, g6, AXE, cXE, hXE, ⟨⟩⟩ W ⟨hS, f1, f3, f6, f7, -⟩
      dsimp only [putAll]
      refine rg1 11 rfl (by kernel_rfl) (by decide) (by kernel_rfl) (fun K hK => ?_)
      have hS0 := hS
      go_simp
      have kx := (alloc1 W (.cells #[.int .i64 0, .int .i64 0, .string ⟨#[]⟩, .slice none 0 0] 34)).2
      have kn := blk_new W (.cells #[.int .i64 0, .int .i64 0, .string ⟨#[]⟩, .slice none 0 0] 34)
      have kz : W9s.heap.size ≤ W.heap.size := hS.size
      refine hK.out _ _ (below_then hS kx hS.size) (fun hS => ?_)
      exact norm_ (by kernel_rfl) (std_0_1_3_4_6_7_11 (g1, g3, g6, AXE, cXE, hXE, W.heap.size, ()) _ ⟨hS, ⟨box_below f1.1 kx, f1.2⟩, ⟨box_below f3.1 kx, f3.2⟩, ⟨box_below f6.1 kx, f6.2⟩, ⟨f7.1, f7.2.world (f7.2.has.below kx)⟩, ⟨kn, kz⟩, f7.2.has.off_new (fun k e => by rw [e]; exact Nat.le_refl _), trivial⟩)
    refine join_ (σ := Nat × Nat × Nat × Nat × Unit) 6 #[true, true, true, true, true, true, true, false, false, false, false, true, false, false] (fun s => [(82, .agg #[.int .i64 1, .int .i64 0, .string ⟨#[122]⟩, .slice none 0 0]), (83, .slice (some ⟨s.1, 0, none⟩) 1 1), (84, .agg #[.int .i64 4, .int .i64 0, .string ⟨#[]⟩, .slice (some ⟨s.1, 0, none⟩) 1 1]), (85, .slice (some ⟨s.2.1, 0, none⟩) 1 1), (86, .agg #[.int .i64 1, .int .i64 0, .string ⟨#[115]⟩, .slice (some ⟨s.2.1, 0, none⟩) 1 1]), (88, .slice (some ⟨s.2.2.1, 0, none⟩) 1 1), (14, .pointer (some ⟨s.2.2.2.1, 0, none⟩))]) (fun s W => Below W9s.heap.size W9s W ∧ (W.heap[s.1]? = some (.cells #[.int .i64 1, .int .i64 0, .string ⟨#[122]⟩, .slice none 0 0] 34) ∧ W9s.heap.size ≤ s.1) ∧ (W.heap[s.2.1]? = some (.cells #[.int .i64 4, .int .i64 0, .string ⟨#[]⟩, .slice (some ⟨s.1, 0, none⟩) 1 1] 34) ∧ W9s.heap.size ≤ s.2.1) ∧ (W.heap[s.2.2.1]? = some (.cells #[.int .i64 X5.k, .int .i64 X5.n, .string X5.nm, .slice AX5 X5.ar.length cX5] 34) ∧ W9s.heap.size ≤ s.2.2.1) ∧ (W.heap[s.2.2.2.1]? = some (.cells #[.int .i64 0, .int .i64 0, .string ⟨#[]⟩, .slice none 0 0] 34) ∧ W9s.heap.size ≤ s.2.2.2.1) ∧ True) ?_ (fun std_0_1_3_4_6_11 => ?_)
    · rintro ⟨g1, g3, g6, g11e, ⟨⟩⟩ W ⟨hS, f1, f3, f6, f11, -⟩
      dsimp only [putAll]
      refine rg1 7 rfl (by kernel_rfl) (by decide) (by kernel_rfl) (fun K hK => ?_)
      have hS0 := hS
      go_simp
      have hS_size := hS.size
      obtain ⟨hz, tz, mz, vz⟩ := one_TmS2 (w0 := w) (u := zT) (mb.has.below hS) f1.1 (cnT_R (TmS_nil _)) (Nat.le_trans kb.size f1.2)
      obtain ⟨hy, ty, my, vy⟩ := one_TmS2 (w0 := w) (u := .mk 4 0 ⟨#[]⟩ [zT]) mz.has f3.1 (vrT_R tz) (Nat.le_trans kb.size f3.2)
      obtain ⟨hx, tx, mx, vx⟩ := one_TmS2 (w0 := w) (u := X5) my.has f6.1 ((r5.sub mz.sub).sub my.sub) (Nat.le_trans kb.size f6.2)
      refine (Put_calls S14 X5 (.inr XE) _ g6 AX5 cX5 W hx mx.has ((cnT_R ty).sub mx.sub) f6.1 (((r5.sub mz.sub).sub my.sub).sub mx.sub) tx hs14.out).mono ?_
      rintro e W7 ⟨k7, cs7, hXE, rfl, r7, m7⟩
      replace r7 : TmR hXE XE cs7 := r7
      obtain ⟨AXE, cXE, rfl, _⟩ := r7.open_
      rw [show codeS (.inr XE : Sum Int Tm) = 0 from rfl]
      simp only []
      have kx := k7
      refine hK.out _ _ (below_then hS kx hS.size) (fun hS => ?_)
      refine rgt 8 (.tuple #[.agg #[.int .i64 XE.k, .int .i64 XE.n, .string XE.nm, .slice AXE XE.ar.length cXE], .int .i64 0]) rfl (by kernel_rfl) (fun _ _ _ h => h) (by kernel_rfl) hS (fun V hV => by go_simp) ?_
      refine rgt 9 (.agg #[.int .i64 XE.k, .int .i64 XE.n, .string XE.nm, .slice AXE XE.ar.length cXE]) rfl (by kernel_rfl) (fun _ _ _ h => h) (by kernel_rfl) hS (fun V hV => by go_simp) ?_
      refine rgp 10 (.int .i64 0) rfl (by kernel_rfl) (fun _ _ _ h => h) (by kernel_rfl) (fun V => by go_simp) ?_
      exact norm_ (by kernel_rfl) (std_0_1_3_4_6_7_11 (g1, g3, g6, AXE, cXE, hXE, g11e, ()) _ ⟨hS, ⟨box_below f1.1 kx, f1.2⟩, ⟨box_below f3.1 kx, f3.2⟩, ⟨box_below f6.1 kx, f6.2⟩, ⟨r7, ((mz.then_ my).then_ mx).trans m7 (Nat.le_trans kb.size hS_size)⟩, ⟨box_below f11.1 kx, f11.2⟩, off_made m7 vx (off_row vy (off_row vz (mb.has.off_new (S := fun q => q = g11e) (fun k e => by rw [e]; exact f11.2)) (blk_ne f1.1 f11.1 (by simp))) (blk_ne f3.1 f11.1 (by simp))) (blk_ne f6.1 f11.1 (fun e => by simp at e; have := hk5.out; omega)) (blk_lt f11.1), trivial⟩)
    refine join_ (σ := Nat × Nat × Nat × Unit) 7 #[true, true, true, true, true, true, true, false, false, false, false, false, false, false] (fun s => [(82, .agg #[.int .i64 1, .int .i64 0, .string ⟨#[122]⟩, .slice none 0 0]), (83, .slice (some ⟨s.1, 0, none⟩) 1 1), (84, .agg #[.int .i64 4, .int .i64 0, .string ⟨#[]⟩, .slice (some ⟨s.1, 0, none⟩) 1 1]), (85, .slice (some ⟨s.2.1, 0, none⟩) 1 1), (86, .agg #[.int .i64 1, .int .i64 0, .string ⟨#[115]⟩, .slice (some ⟨s.2.1, 0, none⟩) 1 1]), (88, .slice (some ⟨s.2.2.1, 0, none⟩) 1 1)]) (fun s W => Below W9s.heap.size W9s W ∧ (W.heap[s.1]? = some (.cells #[.int .i64 1, .int .i64 0, .string ⟨#[122]⟩, .slice none 0 0] 34) ∧ W9s.heap.size ≤ s.1) ∧ (W.heap[s.2.1]? = some (.cells #[.int .i64 4, .int .i64 0, .string ⟨#[]⟩, .slice (some ⟨s.1, 0, none⟩) 1 1] 34) ∧ W9s.heap.size ≤ s.2.1) ∧ (W.heap[s.2.2.1]? = some (.cells #[.int .i64 X5.k, .int .i64 X5.n, .string X5.nm, .slice AX5 X5.ar.length cX5] 34) ∧ W9s.heap.size ≤ s.2.2.1) ∧ True) ?_ (fun std_0_1_3_4_6 => ?_)
    · rintro ⟨g1, g3, g6, ⟨⟩⟩ W ⟨hS, f1, f3, f6, -⟩
      dsimp only [putAll]
      refine rg2 7 11 rfl rfl (by kernel_rfl) (by decide) (by decide) (by kernel_rfl) (by kernel_rfl) (fun K hK => ?_) (fun K hK => ?_)
      · have hS0 := hS
        go_simp
        have hS_size := hS.size
        obtain ⟨hz, tz, mz, vz⟩ := one_TmS2 (w0 := w) (u := zT) (mb.has.below hS) f1.1 (cnT_R (TmS_nil _)) (Nat.le_trans kb.size f1.2)
        obtain ⟨hy, ty, my, vy⟩ := one_TmS2 (w0 := w) (u := .mk 4 0 ⟨#[]⟩ [zT]) mz.has f3.1 (vrT_R tz) (Nat.le_trans kb.size f3.2)
        obtain ⟨hx, tx, mx, vx⟩ := one_TmS2 (w0 := w) (u := X5) my.has f6.1 ((r5.sub mz.sub).sub my.sub) (Nat.le_trans kb.size f6.2)
        refine (Put_calls S14 X5 (.inr XE) _ g6 AX5 cX5 W hx mx.has ((cnT_R ty).sub mx.sub) f6.1 (((r5.sub mz.sub).sub my.sub).sub mx.sub) tx hs14.out).mono ?_
        rintro e W7 ⟨k7, cs7, hXE, rfl, r7, m7⟩
        replace r7 : TmR hXE XE cs7 := r7
        obtain ⟨AXE, cXE, rfl, _⟩ := r7.open_
        rw [show codeS (.inr XE : Sum Int Tm) = 0 from rfl]
        simp only []
        have kx := k7
        refine hK.out _ _ (below_then hS kx hS.size) (fun hS => ?_)
        refine rgt 8 (.tuple #[.agg #[.int .i64 XE.k, .int .i64 XE.n, .string XE.nm, .slice AXE XE.ar.length cXE], .int .i64 0]) rfl (by kernel_rfl) (fun _ _ _ h => h) (by kernel_rfl) hS (fun V hV => by go_simp) ?_
        refine rgt 9 (.agg #[.int .i64 XE.k, .int .i64 XE.n, .string XE.nm, .slice AXE XE.ar.length cXE]) rfl (by kernel_rfl) (fun _ _ _ h => h) (by kernel_rfl) hS (fun V hV => by go_simp) ?_
        refine rgp 10 (.int .i64 0) rfl (by kernel_rfl) (fun _ _ _ h => h) (by kernel_rfl) (fun V => by go_simp) ?_
        exact norm_ (by kernel_rfl) (std_0_1_3_4_6_7 (g1, g3, g6, AXE, cXE, hXE, ()) _ ⟨hS, ⟨box_below f1.1 kx, f1.2⟩, ⟨box_below f3.1 kx, f3.2⟩, ⟨box_below f6.1 kx, f6.2⟩, ⟨r7, ((mz.then_ my).then_ mx).trans m7 (Nat.le_trans kb.size hS_size)⟩, trivial⟩)
      · have hS0 := hS
        go_simp
        have kx := (alloc1 W (.cells #[.int .i64 0, .int .i64 0, .string ⟨#[]⟩, .slice none 0 0] 34)).2
        have kn := blk_new W (.cells #[.int .i64 0, .int .i64 0, .string ⟨#[]⟩, .slice none 0 0] 34)
        have kz : W9s.heap.size ≤ W.heap.size := hS.size
        refine hK.out _ _ (below_then hS kx hS.size) (fun hS => ?_)
        exact norm_ (by kernel_rfl) (std_0_1_3_4_6_11 (g1, g3, g6, W.heap.size, ()) _ ⟨hS, ⟨box_below f1.1 kx, f1.2⟩, ⟨box_below f3.1 kx, f3.2⟩, ⟨box_below f6.1 kx, f6.2⟩, ⟨kn, kz⟩, trivial⟩)
    refine join_ (σ := Nat × Nat × Nat × Unit) 7 #[true, true, true, true, true, true, false, false, false, false, false, true, false, false] (fun s => [(82, .agg #[.int .i64 1, .int .i64 0, .string ⟨#[122]⟩, .slice none 0 0]), (83, .slice (some ⟨s.1, 0, none⟩) 1 1), (84, .agg #[.int .i64 4, .int .i64 0, .string ⟨#[]⟩, .slice (some ⟨s.1, 0, none⟩) 1 1]), (85, .slice (some ⟨s.2.1, 0, none⟩) 1 1), (86, .agg #[.int .i64 1, .int .i64 0, .string ⟨#[115]⟩, .slice (some ⟨s.2.1, 0, none⟩) 1 1]), (14, .pointer (some ⟨s.2.2.1, 0, none⟩))]) (fun s W => Below W9s.heap.size W9s W ∧ (W.heap[s.1]? = some (.cells #[.int .i64 1, .int .i64 0, .string ⟨#[122]⟩, .slice none 0 0] 34) ∧ W9s.heap.size ≤ s.1) ∧ (W.heap[s.2.1]? = some (.cells #[.int .i64 4, .int .i64 0, .string ⟨#[]⟩, .slice (some ⟨s.1, 0, none⟩) 1 1] 34) ∧ W9s.heap.size ≤ s.2.1) ∧ (W.heap[s.2.2.1]? = some (.cells #[.int .i64 0, .int .i64 0, .string ⟨#[]⟩, .slice none 0 0] 34) ∧ W9s.heap.size ≤ s.2.2.1) ∧ True) ?_ (fun std_0_1_3_4_11 => ?_)
    · rintro ⟨g1, g3, g11e, ⟨⟩⟩ W ⟨hS, f1, f3, f11, -⟩
      dsimp only [putAll]
      refine rg1 6 rfl (by kernel_rfl) (by decide) (by kernel_rfl) (fun K hK => ?_)
      have hS0 := hS
      go_simp
      have kx := (alloc1 W (.cells #[.int .i64 X5.k, .int .i64 X5.n, .string X5.nm, .slice AX5 X5.ar.length cX5] 34)).2
      have kn := blk_new W (.cells #[.int .i64 X5.k, .int .i64 X5.n, .string X5.nm, .slice AX5 X5.ar.length cX5] 34)
      have kz : W9s.heap.size ≤ W.heap.size := hS.size
      refine hK.out _ _ (below_then hS kx hS.size) (fun hS => ?_)
      exact norm_ (by kernel_rfl) (std_0_1_3_4_6_11 (g1, g3, W.heap.size, g11e, ()) _ ⟨hS, ⟨box_below f1.1 kx, f1.2⟩, ⟨box_below f3.1 kx, f3.2⟩, ⟨kn, kz⟩, ⟨box_below f11.1 kx, f11.2⟩, trivial⟩)
    refine join_ (σ := Nat × Nat × Nat × Nat × Unit) 7 #[true, true, true, true, false, true, true, false, false, false, false, true, false, false] (fun s => [(82, .agg #[.int .i64 1, .int .i64 0, .string ⟨#[122]⟩, .slice none 0 0]), (83, .slice (some ⟨s.1, 0, none⟩) 1 1), (84, .agg #[.int .i64 4, .int .i64 0, .string ⟨#[]⟩, .slice (some ⟨s.1, 0, none⟩) 1 1]), (85, .slice (some ⟨s.2.1, 0, none⟩) 1 1), (88, .slice (some ⟨s.2.2.1, 0, none⟩) 1 1), (14, .pointer (some ⟨s.2.2.2.1, 0, none⟩))]) (fun s W => Below W9s.heap.size W9s W ∧ (W.heap[s.1]? = some (.cells #[.int .i64 1, .int .i64 0, .string ⟨#[122]⟩, .slice none 0 0] 34) ∧ W9s.heap.size ≤ s.1) ∧ (W.heap[s.2.1]? = some (.cells #[.int .i64 4, .int .i64 0, .string ⟨#[]⟩, .slice (some ⟨s.1, 0, none⟩) 1 1] 34) ∧ W9s.heap.size ≤ s.2.1) ∧ (W.heap[s.2.2.1]? = some (.cells #[.int .i64 X5.k, .int .i64 X5.n, .string X5.nm, .slice AX5 X5.ar.length cX5] 34) ∧ W9s.heap.size ≤ s.2.2.1) ∧ (W.heap[s.2.2.2.1]? = some (.cells #[.int .i64 0, .int .i64 0, .string ⟨#[]⟩, .slice none 0 0] 34) ∧ W9s.heap.size ≤ s.2.2.2.1) ∧ True) ?_ (fun std_0_1_3_6_11 => ?_)
    · rintro ⟨g1, g3, g6, g11e, ⟨⟩⟩ W ⟨hS, f1, f3, f6, f11, -⟩
      dsimp only [putAll]
      refine rg1 4 rfl (by kernel_rfl) (by decide) (by kernel_rfl) (fun K hK => ?_)
      have hS0 := hS
      go_simp
      refine (con_calls ⟨#[115]⟩ _ (some ⟨g3, 0, none⟩) 1 1 rfl _).mono ?_
      rintro e W7 ⟨rfl, k7⟩
      simp only []
      have kx := k7
      refine hK.out _ _ (below_then hS kx hS.size) (fun hS => ?_)
      exact norm_ (by kernel_rfl) (std_0_1_3_4_6_11 (g1, g3, g6, g11e, ()) _ ⟨hS, ⟨box_below f1.1 kx, f1.2⟩, ⟨box_below f3.1 kx, f3.2⟩, ⟨box_below f6.1 kx, f6.2⟩, ⟨box_below f11.1 kx, f11.2⟩, trivial⟩)
    refine join_ (σ := Nat × Nat × Unit) 8 #[true, true, true, true, true, true, false, false, false, false, false, false, false, false] (fun s => [(82, .agg #[.int .i64 1, .int .i64 0, .string ⟨#[122]⟩, .slice none 0 0]), (83, .slice (some ⟨s.1, 0, none⟩) 1 1), (84, .agg #[.int .i64 4, .int .i64 0, .string ⟨#[]⟩, .slice (some ⟨s.1, 0, none⟩) 1 1]), (85, .slice (some ⟨s.2.1, 0, none⟩) 1 1), (86, .agg #[.int .i64 1, .int .i64 0, .string ⟨#[115]⟩, .slice (some ⟨s.2.1, 0, none⟩) 1 1])]) (fun s W => Below W9s.heap.size W9s W ∧ (W.heap[s.1]? = some (.cells #[.int .i64 1, .int .i64 0, .string ⟨#[122]⟩, .slice none 0 0] 34) ∧ W9s.heap.size ≤ s.1) ∧ (W.heap[s.2.1]? = some (.cells #[.int .i64 4, .int .i64 0, .string ⟨#[]⟩, .slice (some ⟨s.1, 0, none⟩) 1 1] 34) ∧ W9s.heap.size ≤ s.2.1) ∧ True) ?_ (fun std_0_1_3_4 => ?_)
    · rintro ⟨g1, g3, ⟨⟩⟩ W ⟨hS, f1, f3, -⟩
      dsimp only [putAll]
      refine rg2 6 11 rfl rfl (by kernel_rfl) (by decide) (by decide) (by kernel_rfl) (by kernel_rfl) (fun K hK => ?_) (fun K hK => ?_)
      · have hS0 := hS
        go_simp
        have kx := (alloc1 W (.cells #[.int .i64 X5.k, .int .i64 X5.n, .string X5.nm, .slice AX5 X5.ar.length cX5] 34)).2
        have kn := blk_new W (.cells #[.int .i64 X5.k, .int .i64 X5.n, .string X5.nm, .slice AX5 X5.ar.length cX5] 34)
        have kz : W9s.heap.size ≤ W.heap.size := hS.size
        refine hK.out _ _ (below_then hS kx hS.size) (fun hS => ?_)
        exact norm_ (by kernel_rfl) (std_0_1_3_4_6 (g1, g3, W.heap.size, ()) _ ⟨hS, ⟨box_below f1.1 kx, f1.2⟩, ⟨box_below f3.1 kx, f3.2⟩, ⟨kn, kz⟩, trivial⟩)
      · have hS0 := hS
        go_simp
        have kx := (alloc1 W (.cells #[.int .i64 0, .int .i64 0, .string ⟨#[]⟩, .slice none 0 0] 34)).2
        have kn := blk_new W (.cells #[.int .i64 0, .int .i64 0, .string ⟨#[]⟩, .slice none 0 0] 34)
        have kz : W9s.heap.size ≤ W.heap.size := hS.size
        refine hK.out _ _ (below_then hS kx hS.size) (fun hS => ?_)
        exact norm_ (by kernel_rfl) (std_0_1_3_4_11 (g1, g3, W.heap.size, ()) _ ⟨hS, ⟨box_below f1.1 kx, f1.2⟩, ⟨box_below f3.1 kx, f3.2⟩, ⟨kn, kz⟩, trivial⟩)
    refine join_ (σ := Nat × Nat × Nat × Unit) 8 #[true, true, true, true, false, true, true, false, false, false, false, false, false, false] (fun s => [(82, .agg #[.int .i64 1, .int .i64 0, .string ⟨#[122]⟩, .slice none 0 0]), (83, .slice (some ⟨s.1, 0, none⟩) 1 1), (84, .agg #[.int .i64 4, .int .i64 0, .string ⟨#[]⟩, .slice (some ⟨s.1, 0, none⟩) 1 1]), (85, .slice (some ⟨s.2.1, 0, none⟩) 1 1), (88, .slice (some ⟨s.2.2.1, 0, none⟩) 1 1)]) (fun s W => Below W9s.heap.size W9s W ∧ (W.heap[s.1]? = some (.cells #[.int .i64 1, .int .i64 0, .string ⟨#[122]⟩, .slice none 0 0] 34) ∧ W9s.heap.size ≤ s.1) ∧ (W.heap[s.2.1]? = some (.cells #[.int .i64 4, .int .i64 0, .string ⟨#[]⟩, .slice (some ⟨s.1, 0, none⟩) 1 1] 34) ∧ W9s.heap.size ≤ s.2.1) ∧ (W.heap[s.2.2.1]? = some (.cells #[.int .i64 X5.k, .int .i64 X5.n, .string X5.nm, .slice AX5 X5.ar.length cX5] 34) ∧ W9s.heap.size ≤ s.2.2.1) ∧ True) ?_ (fun std_0_1_3_6 => ?_)
    · rintro ⟨g1, g3, g6, ⟨⟩⟩ W ⟨hS, f1, f3, f6, -⟩
      dsimp only [putAll]
      refine rg2 4 11 rfl rfl (by kernel_rfl) (by decide) (by decide) (by kernel_rfl) (by kernel_rfl) (fun K hK => ?_) (fun K hK => ?_)
      · have hS0 := hS
        go_simp
        refine (con_calls ⟨#[115]⟩ _ (some ⟨g3, 0, none⟩) 1 1 rfl _).mono ?_
        rintro e W7 ⟨rfl, k7⟩
        simp only []
        have kx := k7
        refine hK.out _ _ (below_then hS kx hS.size) (fun hS => ?_)
        exact norm_ (by kernel_rfl) (std_0_1_3_4_6 (g1, g3, g6, ()) _ ⟨hS, ⟨box_below f1.1 kx, f1.2⟩, ⟨box_below f3.1 kx, f3.2⟩, ⟨box_below f6.1 kx, f6.2⟩, trivial⟩)
      · have hS0 := hS
        go_simp
        have kx := (alloc1 W (.cells #[.int .i64 0, .int .i64 0, .string ⟨#[]⟩, .slice none 0 0] 34)).2
        have kn := blk_new W (.cells #[.int .i64 0, .int .i64 0, .string ⟨#[]⟩, .slice none 0 0] 34)
        have kz : W9s.heap.size ≤ W.heap.size := hS.size
        refine hK.out _ _ (below_then hS kx hS.size) (fun hS => ?_)
        exact norm_ (by kernel_rfl) (std_0_1_3_6_11 (g1, g3, g6, W.heap.size, ()) _ ⟨hS, ⟨box_below f1.1 kx, f1.2⟩, ⟨box_below f3.1 kx, f3.2⟩, ⟨box_below f6.1 kx, f6.2⟩, ⟨kn, kz⟩, trivial⟩)
    refine join_ (σ := Nat × Nat × Nat × Unit) 8 #[true, true, true, true, false, true, false, false, false, false, false, true, false, false] (fun s => [(82, .agg #[.int .i64 1, .int .i64 0, .string ⟨#[122]⟩, .slice none 0 0]), (83, .slice (some ⟨s.1, 0, none⟩) 1 1), (84, .agg #[.int .i64 4, .int .i64 0, .string ⟨#[]⟩, .slice (some ⟨s.1, 0, none⟩) 1 1]), (85, .slice (some ⟨s.2.1, 0, none⟩) 1 1), (14, .pointer (some ⟨s.2.2.1, 0, none⟩))]) (fun s W => Below W9s.heap.size W9s W ∧ (W.heap[s.1]? = some (.cells #[.int .i64 1, .int .i64 0, .string ⟨#[122]⟩, .slice none 0 0] 34) ∧ W9s.heap.size ≤ s.1) ∧ (W.heap[s.2.1]? = some (.cells #[.int .i64 4, .int .i64 0, .string ⟨#[]⟩, .slice (some ⟨s.1, 0, none⟩) 1 1] 34) ∧ W9s.heap.size ≤ s.2.1) ∧ (W.heap[s.2.2.1]? = some (.cells #[.int .i64 0, .int .i64 0, .string ⟨#[]⟩, .slice none 0 0] 34) ∧ W9s.heap.size ≤ s.2.2.1) ∧ True) ?_ (fun std_0_1_3_11 => ?_)
    · rintro ⟨g1, g3, g11e, ⟨⟩⟩ W ⟨hS, f1, f3, f11, -⟩
      dsimp only [putAll]
      refine rg2 4 6 rfl rfl (by kernel_rfl) (by decide) (by decide) (by kernel_rfl) (by kernel_rfl) (fun K hK => ?_) (fun K hK => ?_)
      · have hS0 := hS
        go_simp
        refine (con_calls ⟨#[115]⟩ _ (some ⟨g3, 0, none⟩) 1 1 rfl _).mono ?_
        rintro e W7 ⟨rfl, k7⟩
        simp only []
        have kx := k7
        refine hK.out _ _ (below_then hS kx hS.size) (fun hS => ?_)
        exact norm_ (by kernel_rfl) (std_0_1_3_4_11 (g1, g3, g11e, ()) _ ⟨hS, ⟨box_below f1.1 kx, f1.2⟩, ⟨box_below f3.1 kx, f3.2⟩, ⟨box_below f11.1 kx, f11.2⟩, trivial⟩)
      · have hS0 := hS
        go_simp
        have kx := (alloc1 W (.cells #[.int .i64 X5.k, .int .i64 X5.n, .string X5.nm, .slice AX5 X5.ar.length cX5] 34)).2
        have kn := blk_new W (.cells #[.int .i64 X5.k, .int .i64 X5.n, .string X5.nm, .slice AX5 X5.ar.length cX5] 34)
        have kz : W9s.heap.size ≤ W.heap.size := hS.size
        refine hK.out _ _ (below_then hS kx hS.size) (fun hS => ?_)
        exact norm_ (by kernel_rfl) (std_0_1_3_6_11 (g1, g3, W.heap.size, g11e, ()) _ ⟨hS, ⟨box_below f1.1 kx, f1.2⟩, ⟨box_below f3.1 kx, f3.2⟩, ⟨kn, kz⟩, ⟨box_below f11.1 kx, f11.2⟩, trivial⟩)
    refine join_ (σ := Nat × Nat × Nat × Unit) 8 #[true, true, true, false, false, true, true, false, false, false, false, true, false, false] (fun s => [(82, .agg #[.int .i64 1, .int .i64 0, .string ⟨#[122]⟩, .slice none 0 0]), (83, .slice (some ⟨s.1, 0, none⟩) 1 1), (84, .agg #[.int .i64 4, .int .i64 0, .string ⟨#[]⟩, .slice (some ⟨s.1, 0, none⟩) 1 1]), (88, .slice (some ⟨s.2.1, 0, none⟩) 1 1), (14, .pointer (some ⟨s.2.2.1, 0, none⟩))]) (fun s W => Below W9s.heap.size W9s W ∧ (W.heap[s.1]? = some (.cells #[.int .i64 1, .int .i64 0, .string ⟨#[122]⟩, .slice none 0 0] 34) ∧ W9s.heap.size ≤ s.1) ∧ (W.heap[s.2.1]? = some (.cells #[.int .i64 X5.k, .int .i64 X5.n, .string X5.nm, .slice AX5 X5.ar.length cX5] 34) ∧ W9s.heap.size ≤ s.2.1) ∧ (W.heap[s.2.2.1]? = some (.cells #[.int .i64 0, .int .i64 0, .string ⟨#[]⟩, .slice none 0 0] 34) ∧ W9s.heap.size ≤ s.2.2.1) ∧ True) ?_ (fun std_0_1_6_11 => ?_)
    · rintro ⟨g1, g6, g11e, ⟨⟩⟩ W ⟨hS, f1, f6, f11, -⟩
      dsimp only [putAll]
      refine rg1 3 rfl (by kernel_rfl) (by decide) (by kernel_rfl) (fun K hK => ?_)
      have hS0 := hS
      go_simp
      have kx := (alloc1 W (.cells #[.int .i64 4, .int .i64 0, .string ⟨#[]⟩, .slice (some ⟨g1, 0, none⟩) 1 1] 34)).2
      have kn := blk_new W (.cells #[.int .i64 4, .int .i64 0, .string ⟨#[]⟩, .slice (some ⟨g1, 0, none⟩) 1 1] 34)
      have kz : W9s.heap.size ≤ W.heap.size := hS.size
      refine hK.out _ _ (below_then hS kx hS.size) (fun hS => ?_)
      exact norm_ (by kernel_rfl) (std_0_1_3_6_11 (g1, W.heap.size, g6, g11e, ()) _ ⟨hS, ⟨box_below f1.1 kx, f1.2⟩, ⟨kn, kz⟩, ⟨box_below f6.1 kx, f6.2⟩, ⟨box_below f11.1 kx, f11.2⟩, trivial⟩)
    refine join_ (σ := Nat × Nat × Unit) 9 #[true, true, true, true, false, true, false, false, false, false, false, false, false, false] (fun s => [(82, .agg #[.int .i64 1, .int .i64 0, .string ⟨#[122]⟩, .slice none 0 0]), (83, .slice (some ⟨s.1, 0, none⟩) 1 1), (84, .agg #[.int .i64 4, .int .i64 0, .string ⟨#[]⟩, .slice (some ⟨s.1, 0, none⟩) 1 1]), (85, .slice (some ⟨s.2.1, 0, none⟩) 1 1)]) (fun s W => Below W9s.heap.size W9s W ∧ (W.heap[s.1]? = some (.cells #[.int .i64 1, .int .i64 0, .string ⟨#[122]⟩, .slice none 0 0] 34) ∧ W9s.heap.size ≤ s.1) ∧ (W.heap[s.2.1]? = some (.cells #[.int .i64 4, .int .i64 0, .string ⟨#[]⟩, .slice (some ⟨s.1, 0, none⟩) 1 1] 34) ∧ W9s.heap.size ≤ s.2.1) ∧ True) ?_ (fun std_0_1_3 => ?_)
    · rintro ⟨g1, g3, ⟨⟩⟩ W ⟨hS, f1, f3, -⟩
      dsimp only [putAll]
      refine rg3 4 6 11 rfl rfl rfl (by kernel_rfl) (by decide) (by decide) (by decide) (by kernel_rfl) (by kernel_rfl) (by kernel_rfl) (fun K hK => ?_) (fun K hK => ?_) (fun K hK => ?_)
      · have hS0 := hS
        go_simp
        refine (con_calls ⟨#[115]⟩ _ (some ⟨g3, 0, none⟩) 1 1 rfl _).mono ?_
        rintro e W7 ⟨rfl, k7⟩
        simp only []
        have kx := k7
        refine hK.out _ _ (below_then hS kx hS.size) (fun hS => ?_)
        exact norm_ (by kernel_rfl) (std_0_1_3_4 (g1, g3, ()) _ ⟨hS, ⟨box_below f1.1 kx, f1.2⟩, ⟨box_below f3.1 kx, f3.2⟩, trivial⟩)
      · have hS0 := hS
        go_simp
        have kx := (alloc1 W (.cells #[.int .i64 X5.k, .int .i64 X5.n, .string X5.nm, .slice AX5 X5.ar.length cX5] 34)).2
        have kn := blk_new W (.cells #[.int .i64 X5.k, .int .i64 X5.n, .string X5.nm, .slice AX5 X5.ar.length cX5] 34)
        have kz : W9s.heap.size ≤ W.heap.size := hS.size
        refine hK.out _ _ (below_then hS kx hS.size) (fun hS => ?_)
        exact norm_ (by kernel_rfl) (std_0_1_3_6 (g1, g3, W.heap.size, ()) _ ⟨hS, ⟨box_below f1.1 kx, f1.2⟩, ⟨box_below f3.1 kx, f3.2⟩, ⟨kn, kz⟩, trivial⟩)
      · have hS0 := hS
        go_simp
        have kx := (alloc1 W (.cells #[.int .i64 0, .int .i64 0, .string ⟨#[]⟩, .slice none 0 0] 34)).2
        have kn := blk_new W (.cells #[.int .i64 0, .int .i64 0, .string ⟨#[]⟩, .slice none 0 0] 34)
        have kz : W9s.heap.size ≤ W.heap.size := hS.size
        refine hK.out _ _ (below_then hS kx hS.size) (fun hS => ?_)
        exact norm_ (by kernel_rfl) (std_0_1_3_11 (g1, g3, W.heap.size, ()) _ ⟨hS, ⟨box_below f1.1 kx, f1.2⟩, ⟨box_below f3.1 kx, f3.2⟩, ⟨kn, kz⟩, trivial⟩)
    refine join_ (σ := Nat × Nat × Unit) 9 #[true, true, true, false, false, true, true, false, false, false, false, false, false, false] (fun s => [(82, .agg #[.int .i64 1, .int .i64 0, .string ⟨#[122]⟩, .slice none 0 0]), (83, .slice (some ⟨s.1, 0, none⟩) 1 1), (84, .agg #[.int .i64 4, .int .i64 0, .string ⟨#[]⟩, .slice (some ⟨s.1, 0, none⟩) 1 1]), (88, .slice (some ⟨s.2.1, 0, none⟩) 1 1)]) (fun s W => Below W9s.heap.size W9s W ∧ (W.heap[s.1]? = some (.cells #[.int .i64 1, .int .i64 0, .string ⟨#[122]⟩, .slice none 0 0] 34) ∧ W9s.heap.size ≤ s.1) ∧ (W.heap[s.2.1]? = some (.cells #[.int .i64 X5.k, .int .i64 X5.n, .string X5.nm, .slice AX5 X5.ar.length cX5] 34) ∧ W9s.heap.size ≤ s.2.1) ∧ True) ?_ (fun std_0_1_6 => ?_)
    · rintro ⟨g1, g6, ⟨⟩⟩ W ⟨hS, f1, f6, -⟩
      dsimp only [putAll]
      refine rg2 3 11 rfl rfl (by kernel_rfl) (by decide) (by decide) (by kernel_rfl) (by kernel_rfl) (fun K hK => ?_) (fun K hK => ?_)
      · have hS0 := hS
        go_simp
        have kx := (alloc1 W (.cells #[.int .i64 4, .int .i64 0, .string ⟨#[]⟩, .slice (some ⟨g1, 0, none⟩) 1 1] 34)).2
        have kn := blk_new W (.cells #[.int .i64 4, .int .i64 0, .string ⟨#[]⟩, .slice (some ⟨g1, 0, none⟩) 1 1] 34)
        have kz : W9s.heap.size ≤ W.heap.size := hS.size
        refine hK.out _ _ (below_then hS kx hS.size) (fun hS => ?_)
        exact norm_ (by kernel_rfl) (std_0_1_3_6 (g1, W.heap.size, g6, ()) _ ⟨hS, ⟨box_below f1.1 kx, f1.2⟩, ⟨kn, kz⟩, ⟨box_below f6.1 kx, f6.2⟩, trivial⟩)
      · have hS0 := hS
        go_simp
        have kx := (alloc1 W (.cells #[.int .i64 0, .int .i64 0, .string ⟨#[]⟩, .slice none 0 0] 34)).2
        have kn := blk_new W (.cells #[.int .i64 0, .int .i64 0, .string ⟨#[]⟩, .slice none 0 0] 34)
        have kz : W9s.heap.size ≤ W.heap.size := hS.size
        refine hK.out _ _ (below_then hS kx hS.size) (fun hS => ?_)
        exact norm_ (by kernel_rfl) (std_0_1_6_11 (g1, g6, W.heap.size, ()) _ ⟨hS, ⟨box_below f1.1 kx, f1.2⟩, ⟨box_below f6.1 kx, f6.2⟩, ⟨kn, kz⟩, trivial⟩)
    refine join_ (σ := Nat × Nat × Unit) 9 #[true, true, true, false, false, true, false, false, false, false, false, true, false, false] (fun s => [(82, .agg #[.int .i64 1, .int .i64 0, .string ⟨#[122]⟩, .slice none 0 0]), (83, .slice (some ⟨s.1, 0, none⟩) 1 1), (84, .agg #[.int .i64 4, .int .i64 0, .string ⟨#[]⟩, .slice (some ⟨s.1, 0, none⟩) 1 1]), (14, .pointer (some ⟨s.2.1, 0, none⟩))]) (fun s W => Below W9s.heap.size W9s W ∧ (W.heap[s.1]? = some (.cells #[.int .i64 1, .int .i64 0, .string ⟨#[122]⟩, .slice none 0 0] 34) ∧ W9s.heap.size ≤ s.1) ∧ (W.heap[s.2.1]? = some (.cells #[.int .i64 0, .int .i64 0, .string ⟨#[]⟩, .slice none 0 0] 34) ∧ W9s.heap.size ≤ s.2.1) ∧ True) ?_ (fun std_0_1_11 => ?_)
    · rintro ⟨g1, g11e, ⟨⟩⟩ W ⟨hS, f1, f11, -⟩
      dsimp only [putAll]
      refine rg2 3 6 rfl rfl (by kernel_rfl) (by decide) (by decide) (by kernel_rfl) (by kernel_rfl) (fun K hK => ?_) (fun K hK => ?_)
      · have hS0 := hS
        go_simp
        have kx := (alloc1 W (.cells #[.int .i64 4, .int .i64 0, .string ⟨#[]⟩, .slice (some ⟨g1, 0, none⟩) 1 1] 34)).2
        have kn := blk_new W (.cells #[.int .i64 4, .int .i64 0, .string ⟨#[]⟩, .slice (some ⟨g1, 0, none⟩) 1 1] 34)
        have kz : W9s.heap.size ≤ W.heap.size := hS.size
        refine hK.out _ _ (below_then hS kx hS.size) (fun hS => ?_)
        exact norm_ (by kernel_rfl) (std_0_1_3_11 (g1, W.heap.size, g11e, ()) _ ⟨hS, ⟨box_below f1.1 kx, f1.2⟩, ⟨kn, kz⟩, ⟨box_below f11.1 kx, f11.2⟩, trivial⟩)
      · have hS0 := hS
        go_simp
        have kx := (alloc1 W (.cells #[.int .i64 X5.k, .int .i64 X5.n, .string X5.nm, .slice AX5 X5.ar.length cX5] 34)).2
        have kn := blk_new W (.cells #[.int .i64 X5.k, .int .i64 X5.n, .string X5.nm, .slice AX5 X5.ar.length cX5] 34)
        have kz : W9s.heap.size ≤ W.heap.size := hS.size
        refine hK.out _ _ (below_then hS kx hS.size) (fun hS => ?_)
        exact norm_ (by kernel_rfl) (std_0_1_6_11 (g1, W.heap.size, g11e, ()) _ ⟨hS, ⟨box_below f1.1 kx, f1.2⟩, ⟨kn, kz⟩, ⟨box_below f11.1 kx, f11.2⟩, trivial⟩)
    refine join_ (σ := Nat × Nat × Unit) 10 #[true, false, false, false, false, true, true, false, false, false, false, true, false, false] (fun s => [(82, .agg #[.int .i64 1, .int .i64 0, .string ⟨#[122]⟩, .slice none 0 0]), (88, .slice (some ⟨s.1, 0, none⟩) 1 1), (14, .pointer (some ⟨s.2.1, 0, none⟩))]) (fun s W => Below W9s.heap.size W9s W ∧ (W.heap[s.1]? = some (.cells #[.int .i64 X5.k, .int .i64 X5.n, .string X5.nm, .slice AX5 X5.ar.length cX5] 34) ∧ W9s.heap.size ≤ s.1) ∧ (W.heap[s.2.1]? = some (.cells #[.int .i64 0, .int .i64 0, .string ⟨#[]⟩, .slice none 0 0] 34) ∧ W9s.heap.size ≤ s.2.1) ∧ True) ?_ (fun std_0_6_11 => ?_)
    · rintro ⟨g6, g11e, ⟨⟩⟩ W ⟨hS, f6, f11, -⟩
      dsimp only [putAll]
      refine rg1 1 rfl (by kernel_rfl) (by decide) (by kernel_rfl) (fun K hK => ?_)
      have hS0 := hS
      go_simp
      have kx := (alloc1 W (.cells #[.int .i64 1, .int .i64 0, .string ⟨#[122]⟩, .slice none 0 0] 34)).2
      have kn := blk_new W (.cells #[.int .i64 1, .int .i64 0, .string ⟨#[122]⟩, .slice none 0 0] 34)
      have kz : W9s.heap.size ≤ W.heap.size := hS.size
      refine hK.out _ _ (below_then hS kx hS.size) (fun hS => ?_)
      refine rgt 2 (.agg #[.int .i64 4, .int .i64 0, .string ⟨#[]⟩, .slice (some ⟨W.heap.size, 0, none⟩) 1 1]) rfl (by kernel_rfl) (fun _ _ _ h => h) (by kernel_rfl) hS (fun V hV => by go_simp) ?_
      exact norm_ (by kernel_rfl) (std_0_1_6_11 (W.heap.size, g6, g11e, ()) _ ⟨hS, ⟨kn, kz⟩, ⟨box_below f6.1 kx, f6.2⟩, ⟨box_below f11.1 kx, f11.2⟩, trivial⟩)
    refine join_ (σ := Nat × Unit) 10 #[true, true, true, false, false, true, false, false, false, false, false, false, false, false] (fun s => [(82, .agg #[.int .i64 1, .int .i64 0, .string ⟨#[122]⟩, .slice none 0 0]), (83, .slice (some ⟨s.1, 0, none⟩) 1 1), (84, .agg #[.int .i64 4, .int .i64 0, .string ⟨#[]⟩, .slice (some ⟨s.1, 0, none⟩) 1 1])]) (fun s W => Below W9s.heap.size W9s W ∧ (W.heap[s.1]? = some (.cells #[.int .i64 1, .int .i64 0, .string ⟨#[122]⟩, .slice none 0 0] 34) ∧ W9s.heap.size ≤ s.1) ∧ True) ?_ (fun std_0_1 => ?_)
    · rintro ⟨g1, ⟨⟩⟩ W ⟨hS, f1, -⟩
      dsimp only [putAll]
      refine rg3 3 6 11 rfl rfl rfl (by kernel_rfl) (by decide) (by decide) (by decide) (by kernel_rfl) (by kernel_rfl) (by kernel_rfl) (fun K hK => ?_) (fun K hK => ?_) (fun K hK => ?_)
      · have hS0 := hS
        go_simp
        have kx := (alloc1 W (.cells #[.int .i64 4, .int .i64 0, .string ⟨#[]⟩, .slice (some ⟨g1, 0, none⟩) 1 1] 34)).2
        have kn := blk_new W (.cells #[.int .i64 4, .int .i64 0, .string ⟨#[]⟩, .slice (some ⟨g1, 0, none⟩) 1 1] 34)
        have kz : W9s.heap.size ≤ W.heap.size := hS.size
        refine hK.out _ _ (below_then hS kx hS.size) (fun hS => ?_)
        exact norm_ (by kernel_rfl) (std_0_1_3 (g1, W.heap.size, ()) _ ⟨hS, ⟨box_below f1.1 kx, f1.2⟩, ⟨kn, kz⟩, trivial⟩)
      · have hS0 := hS
        go_simp
        have kx := (alloc1 W (.cells #[.int .i64 X5.k, .int .i64 X5.n, .string X5.nm, .slice AX5 X5.ar.length cX5] 34)).2
        have kn := blk_new W (.cells #[.int .i64 X5.k, .int .i64 X5.n, .string X5.nm, .slice AX5 X5.ar.length cX5] 34)
        have kz : W9s.heap.size ≤ W.heap.size := hS.size
        refine hK.out _ _ (below_then hS kx hS.size) (fun hS => ?_)
        exact norm_ (by kernel_rfl) (std_0_1_6 (g1, W.heap.size, ()) _ ⟨hS, ⟨box_below f1.1 kx, f1.2⟩, ⟨kn, kz⟩, trivial⟩)
      · have hS0 := hS
        go_simp
        have kx := (alloc1 W (.cells #[.int .i64 0, .int .i64 0, .string ⟨#[]⟩, .slice none 0 0] 34)).2
        have kn := blk_new W (.cells #[.int .i64 0, .int .i64 0, .string ⟨#[]⟩, .slice none 0 0] 34)
        have kz : W9s.heap.size ≤ W.heap.size := hS.size
        refine hK.out _ _ (below_then hS kx hS.size) (fun hS => ?_)
        exact norm_ (by kernel_rfl) (std_0_1_11 (g1, W.heap.size, ()) _ ⟨hS, ⟨box_below f1.1 kx, f1.2⟩, ⟨kn, kz⟩, trivial⟩)
    refine join_ (σ := Nat × Unit) 11 #[true, false, false, false, false, true, true, false, false, false, false, false, false, false] (fun s => [(82, .agg #[.int .i64 1, .int .i64 0, .string ⟨#[122]⟩, .slice none 0 0]), (88, .slice (some ⟨s.1, 0, none⟩) 1 1)]) (fun s W => Below W9s.heap.size W9s W ∧ (W.heap[s.1]? = some (.cells #[.int .i64 X5.k, .int .i64 X5.n, .string X5.nm, .slice AX5 X5.ar.length cX5] 34) ∧ W9s.heap.size ≤ s.1) ∧ True) ?_ (fun std_0_6 => ?_)
    · rintro ⟨g6, ⟨⟩⟩ W ⟨hS, f6, -⟩
      dsimp only [putAll]
      refine rg2 1 11 rfl rfl (by kernel_rfl) (by decide) (by decide) (by kernel_rfl) (by kernel_rfl) (fun K hK => ?_) (fun K hK => ?_)
      · have hS0 := hS
        go_simp
        have kx := (alloc1 W (.cells #[.int .i64 1, .int .i64 0, .string ⟨#[122]⟩, .slice none 0 0] 34)).2
        have kn := blk_new W (.cells #[.int .i64 1, .int .i64 0, .string ⟨#[122]⟩, .slice none 0 0] 34)
        have kz : W9s.heap.size ≤ W.heap.size := hS.size
        refine hK.out _ _ (below_then hS kx hS.size) (fun hS => ?_)
        refine rgt 2 (.agg #[.int .i64 4, .int .i64 0, .string ⟨#[]⟩, .slice (some ⟨W.heap.size, 0, none⟩) 1 1]) rfl (by kernel_rfl) (fun _ _ _ h => h) (by kernel_rfl) hS (fun V hV => by go_simp) ?_
        exact norm_ (by kernel_rfl) (std_0_1_6 (W.heap.size, g6, ()) _ ⟨hS, ⟨kn, kz⟩, ⟨box_below f6.1 kx, f6.2⟩, trivial⟩)
      · have hS0 := hS
        go_simp
        have kx := (alloc1 W (.cells #[.int .i64 0, .int .i64 0, .string ⟨#[]⟩, .slice none 0 0] 34)).2
        have kn := blk_new W (.cells #[.int .i64 0, .int .i64 0, .string ⟨#[]⟩, .slice none 0 0] 34)
        have kz : W9s.heap.size ≤ W.heap.size := hS.size
        refine hK.out _ _ (below_then hS kx hS.size) (fun hS => ?_)
        exact norm_ (by kernel_rfl) (std_0_6_11 (g6, W.heap.size, ()) _ ⟨hS, ⟨box_below f6.1 kx, f6.2⟩, ⟨kn, kz⟩, trivial⟩)
    refine join_ (σ := Nat × Unit) 11 #[true, false, false, false, false, true, false, false, false, false, false, true, false, false] (fun s => [(82, .agg #[.int .i64 1, .int .i64 0, .string ⟨#[122]⟩, .slice none 0 0]), (14, .pointer (some ⟨s.1, 0, none⟩))]) (fun s W => Below W9s.heap.size W9s W ∧ (W.heap[s.1]? = some (.cells #[.int .i64 0, .int .i64 0, .string ⟨#[]⟩, .slice none 0 0] 34) ∧ W9s.heap.size ≤ s.1) ∧ True) ?_ (fun std_0_11 => ?_)
    · rintro ⟨g11e, ⟨⟩⟩ W ⟨hS, f11, -⟩
      dsimp only [putAll]
      refine rg2 1 6 rfl rfl (by kernel_rfl) (by decide) (by decide) (by kernel_rfl) (by kernel_rfl) (fun K hK => ?_) (fun K hK => ?_)
      · have hS0 := hS
        go_simp
        have kx := (alloc1 W (.cells #[.int .i64 1, .int .i64 0, .string ⟨#[122]⟩, .slice none 0 0] 34)).2
        have kn := blk_new W (.cells #[.int .i64 1, .int .i64 0, .string ⟨#[122]⟩, .slice none 0 0] 34)
        have kz : W9s.heap.size ≤ W.heap.size := hS.size
        refine hK.out _ _ (below_then hS kx hS.size) (fun hS => ?_)
        refine rgt 2 (.agg #[.int .i64 4, .int .i64 0, .string ⟨#[]⟩, .slice (some ⟨W.heap.size, 0, none⟩) 1 1]) rfl (by kernel_rfl) (fun _ _ _ h => h) (by kernel_rfl) hS (fun V hV => by go_simp) ?_
        exact norm_ (by kernel_rfl) (std_0_1_11 (W.heap.size, g11e, ()) _ ⟨hS, ⟨kn, kz⟩, ⟨box_below f11.1 kx, f11.2⟩, trivial⟩)
      · have hS0 := hS
        go_simp
        have kx := (alloc1 W (.cells #[.int .i64 X5.k, .int .i64 X5.n, .string X5.nm, .slice AX5 X5.ar.length cX5] 34)).2
        have kn := blk_new W (.cells #[.int .i64 X5.k, .int .i64 X5.n, .string X5.nm, .slice AX5 X5.ar.length cX5] 34)
        have kz : W9s.heap.size ≤ W.heap.size := hS.size
        refine hK.out _ _ (below_then hS kx hS.size) (fun hS => ?_)
        exact norm_ (by kernel_rfl) (std_0_6_11 (W.heap.size, g11e, ()) _ ⟨hS, ⟨kn, kz⟩, ⟨box_below f11.1 kx, f11.2⟩, trivial⟩)
    refine join_ (σ := Nat × Nat × Unit) 11 #[false, false, false, false, false, true, true, false, false, false, false, true, false, false] (fun s => [(88, .slice (some ⟨s.1, 0, none⟩) 1 1), (14, .pointer (some ⟨s.2.1, 0, none⟩))]) (fun s W => Below W9s.heap.size W9s W ∧ (W.heap[s.1]? = some (.cells #[.int .i64 X5.k, .int .i64 X5.n, .string X5.nm, .slice AX5 X5.ar.length cX5] 34) ∧ W9s.heap.size ≤ s.1) ∧ (W.heap[s.2.1]? = some (.cells #[.int .i64 0, .int .i64 0, .string ⟨#[]⟩, .slice none 0 0] 34) ∧ W9s.heap.size ≤ s.2.1) ∧ True) ?_ (fun std_6_11 => ?_)
    · rintro ⟨g6, g11e, ⟨⟩⟩ W ⟨hS, f6, f11, -⟩
      dsimp only [putAll]
      refine rg1 0 rfl (by kernel_rfl) (by decide) (by kernel_rfl) (fun K hK => ?_)
      have hS0 := hS
      go_simp
      refine (con_calls ⟨#[122]⟩ _ none 0 0 rfl _).mono ?_
      rintro e W7 ⟨rfl, k7⟩
      simp only []
      have kx := k7
      refine hK.out _ _ (below_then hS kx hS.size) (fun hS => ?_)
      exact norm_ (by kernel_rfl) (std_0_6_11 (g6, g11e, ()) _ ⟨hS, ⟨box_below f6.1 kx, f6.2⟩, ⟨box_below f11.1 kx, f11.2⟩, trivial⟩)
    refine join_ (σ := Unit) 12 #[true, false, false, false, false, true, false, false, false, false, false, false, false, false] (fun s => [(82, .agg #[.int .i64 1, .int .i64 0, .string ⟨#[122]⟩, .slice none 0 0])]) (fun s W => Below W9s.heap.size W9s W ∧ True) ?_ (fun std_0 => ?_)
    · rintro ⟨⟩ W ⟨hS, -⟩
      dsimp only [putAll]
      refine rg3 1 6 11 rfl rfl rfl (by kernel_rfl) (by decide) (by decide) (by decide) (by kernel_rfl) (by kernel_rfl) (by kernel_rfl) (fun K hK => ?_) (fun K hK => ?_) (fun K hK => ?_)
      · have hS0 := hS
        go_simp
        have kx := (alloc1 W (.cells #[.int .i64 1, .int .i64 0, .string ⟨#[122]⟩, .slice none 0 0] 34)).2
        have kn := blk_new W (.cells #[.int .i64 1, .int .i64 0, .string ⟨#[122]⟩, .slice none 0 0] 34)
        have kz : W9s.heap.size ≤ W.heap.size := hS.size
        refine hK.out _ _ (below_then hS kx hS.size) (fun hS => ?_)
        refine rgt 2 (.agg #[.int .i64 4, .int .i64 0, .string ⟨#[]⟩, .slice (some ⟨W.heap.size, 0, none⟩) 1 1]) rfl (by kernel_rfl) (fun _ _ _ h => h) (by kernel_rfl) hS (fun V hV => by go_simp) ?_
        exact norm_ (by kernel_rfl) (std_0_1 (W.heap.size, ()) _ ⟨hS, ⟨kn, kz⟩, trivial⟩)
      · have hS0 := hS
        go_simp
        have kx := (alloc1 W (.cells #[.int .i64 X5.k, .int .i64 X5.n, .string X5.nm, .slice AX5 X5.ar.length cX5] 34)).2
        have kn := blk_new W (.cells #[.int .i64 X5.k, .int .i64 X5.n, .string X5.nm, .slice AX5 X5.ar.length cX5] 34)
        have kz : W9s.heap.size ≤ W.heap.size := hS.size
        refine hK.out _ _ (below_then hS kx hS.size) (fun hS => ?_)
        exact norm_ (by kernel_rfl) (std_0_6 (W.heap.size, ()) _ ⟨hS, ⟨kn, kz⟩, trivial⟩)
      · have hS0 := hS
        go_simp
        have kx := (alloc1 W (.cells #[.int .i64 0, .int .i64 0, .string ⟨#[]⟩, .slice none 0 0] 34)).2
        have kn := blk_new W (.cells #[.int .i64 0, .int .i64 0, .string ⟨#[]⟩, .slice none 0 0] 34)
        have kz : W9s.heap.size ≤ W.heap.size := hS.size
        refine hK.out _ _ (below_then hS kx hS.size) (fun hS => ?_)
        exact norm_ (by kernel_rfl) (std_0_11 (W.heap.size, ()) _ ⟨hS, ⟨kn, kz⟩, trivial⟩)
    refine join_ (σ := Nat × Unit) 12 #[false, false, false, false, false, true, true, false, false, false, false, false, false, false] (fun s => [(88, .slice (some ⟨s.1, 0, none⟩) 1 1)]) (fun s W => Below W9s.heap.size W9s W ∧ (W.heap[s.1]? = some (.cells #[.int .i64 X5.k, .int .i64 X5.n, .string X5.nm, .slice AX5 X5.ar.length cX5] 34) ∧ W9s.heap.size ≤ s.1) ∧ True) ?_ (fun std_6 => ?_)
    · rintro ⟨g6, ⟨⟩⟩ W ⟨hS, f6, -⟩
      dsimp only [putAll]
      refine rg2 0 11 rfl rfl (by kernel_rfl) (by decide) (by decide) (by kernel_rfl) (by kernel_rfl) (fun K hK => ?_) (fun K hK => ?_)
      · have hS0 := hS
        go_simp
        refine (con_calls ⟨#[122]⟩ _ none 0 0 rfl _).mono ?_
        rintro e W7 ⟨rfl, k7⟩
        simp only []
        have kx := k7
        refine hK.out _ _ (below_then hS kx hS.size) (fun hS => ?_)
        exact norm_ (by kernel_rfl) (std_0_6 (g6, ()) _ ⟨hS, ⟨box_below f6.1 kx, f6.2⟩, trivial⟩)
      · have hS0 := hS
        go_simp
        have kx := (alloc1 W (.cells #[.int .i64 0, .int .i64 0, .string ⟨#[]⟩, .slice none 0 0] 34)).2
        have kn := blk_new W (.cells #[.int .i64 0, .int .i64 0, .string ⟨#[]⟩, .slice none 0 0] 34)
        have kz : W9s.heap.size ≤ W.heap.size := hS.size
        refine hK.out _ _ (below_then hS kx hS.size) (fun hS => ?_)
        exact norm_ (by kernel_rfl) (std_6_11 (g6, W.heap.size, ()) _ ⟨hS, ⟨box_below f6.1 kx, f6.2⟩, ⟨kn, kz⟩, trivial⟩)
    refine join_ (σ := Nat × Unit) 12 #[false, false, false, false, false, true, false, false, false, false, false, true, false, false] (fun s => [(14, .pointer (some ⟨s.1, 0, none⟩))]) (fun s W => Below W9s.heap.size W9s W ∧ (W.heap[s.1]? = some (.cells #[.int .i64 0, .int .i64 0, .string ⟨#[]⟩, .slice none 0 0] 34) ∧ W9s.heap.size ≤ s.1) ∧ True) ?_ (fun std_11 => ?_)
    · rintro ⟨g11e, ⟨⟩⟩ W ⟨hS, f11, -⟩
      dsimp only [putAll]
      refine rg2 0 6 rfl rfl (by kernel_rfl) (by decide) (by decide) (by kernel_rfl) (by kernel_rfl) (fun K hK => ?_) (fun K hK => ?_)
      · have hS0 := hS
        go_simp
        refine (con_calls ⟨#[122]⟩ _ none 0 0 rfl _).mono ?_
        rintro e W7 ⟨rfl, k7⟩
        simp only []
        have kx := k7
        refine hK.out _ _ (below_then hS kx hS.size) (fun hS => ?_)
        exact norm_ (by kernel_rfl) (std_0_11 (g11e, ()) _ ⟨hS, ⟨box_below f11.1 kx, f11.2⟩, trivial⟩)
      · have hS0 := hS
        go_simp
        have kx := (alloc1 W (.cells #[.int .i64 X5.k, .int .i64 X5.n, .string X5.nm, .slice AX5 X5.ar.length cX5] 34)).2
        have kn := blk_new W (.cells #[.int .i64 X5.k, .int .i64 X5.n, .string X5.nm, .slice AX5 X5.ar.length cX5] 34)
        have kz : W9s.heap.size ≤ W.heap.size := hS.size
        refine hK.out _ _ (below_then hS kx hS.size) (fun hS => ?_)
        exact norm_ (by kernel_rfl) (std_6_11 (W.heap.size, g11e, ()) _ ⟨hS, ⟨kn, kz⟩, ⟨box_below f11.1 kx, f11.2⟩, trivial⟩)
    refine rg3 0 6 11 rfl rfl rfl (by kernel_rfl) (by decide) (by decide) (by decide) (by kernel_rfl) (by kernel_rfl) (by kernel_rfl) (fun K hK => ?_) (fun K hK => ?_) (fun K hK => ?_)
    · have hS0 := hS
      go_simp
      refine (con_calls ⟨#[122]⟩ _ none 0 0 rfl _).mono ?_
      rintro e W7 ⟨rfl, k7⟩
      simp only []
      have kx := k7
      refine hK.out _ _ (below_then hS kx hS.size) (fun hS => ?_)
      exact norm_ (by kernel_rfl) (std_0 () _ ⟨hS, trivial⟩)
    · have hS0 := hS
      go_simp
      have kx := (alloc1 W9s.drew (.cells #[.int .i64 X5.k, .int .i64 X5.n, .string X5.nm, .slice AX5 X5.ar.length cX5] 34)).2
      have kn := blk_new W9s.drew (.cells #[.int .i64 X5.k, .int .i64 X5.n, .string X5.nm, .slice AX5 X5.ar.length cX5] 34)
      have kz : W9s.heap.size ≤ W9s.drew.heap.size := hS.size
      refine hK.out _ _ (below_then hS kx hS.size) (fun hS => ?_)
      exact norm_ (by kernel_rfl) (std_6 (W9s.drew.heap.size, ()) _ ⟨hS, ⟨kn, kz⟩, trivial⟩)
    · have hS0 := hS
      go_simp
      have kx := (alloc1 W9s.drew (.cells #[.int .i64 0, .int .i64 0, .string ⟨#[]⟩, .slice none 0 0] 34)).2
      have kn := blk_new W9s.drew (.cells #[.int .i64 0, .int .i64 0, .string ⟨#[]⟩, .slice none 0 0] 34)
      have kz : W9s.heap.size ≤ W9s.drew.heap.size := hS.size
      refine hK.out _ _ (below_then hS kx hS.size) (fun hS => ?_)
      exact norm_ (by kernel_rfl) (std_11 (W9s.drew.heap.size, ()) _ ⟨hS, ⟨kn, kz⟩, trivial⟩)
  rintro ⟨g1, g3, g6, AXE, cXE, hXE, g11e, ⟨⟩⟩ WE ⟨hS, f1, f3, f6, f7, f11, p7_11, -⟩
  dsimp only [putAll]
  try dsimp only at f1
  try dsimp only at f3
  try dsimp only at f6
  try dsimp only at f7
  try dsimp only at f11
  try dsimp only at p7_11
  have xg := box4 f11.1
  have zg := blk_frozen f11.1
  have lg := blk_lt f11.1
  refine rgl 12 rfl (by kernel_rfl) (by decide) (by kernel_rfl) (fun K hK => ?_)
  go_simp
  refine hK.out _ _ ?_
  refine rgp 13 (.int .i64 0) rfl (by kernel_rfl) (fun _ _ _ h => h) (by kernel_rfl) (fun V => by go_simp) ?_
  refine rgd (by kernel_rfl) ?_
  obtain ⟨W11s, hWF, bF, kpF⟩ : ∃ W11s, ((((WE.setCell ⟨g11e, 0, none⟩ (.int .i64 XE.k)).setCell ⟨g11e, 1, none⟩ (.int .i64 XE.n)).setCell ⟨g11e, 2, none⟩ (.string XE.nm)).setCell ⟨g11e, 3, none⟩ (.slice AXE XE.ar.length cXE)) = W11s ∧
      W11s.heap[g11e]? = some (.cells #[.int .i64 XE.k, .int .i64 XE.n, .string XE.nm, .slice AXE XE.ar.length cXE] 34) ∧ Kp (fun q => q = g11e) WE W11s := ⟨_, rfl, (set4 f11.1 _ _ _ _).1, (set4 f11.1 _ _ _ _).2⟩
  rw [hWF]
  have HF := f7.2.has.kp kpF p7_11
  have kE := below_then kb hS kb.size
  have kF : Below w.heap.size w W11s := ((Kp.of_below (fun q => q = g11e) kE).trans kpF (fun i hi e => e)).below (fun i hi (e : i = g11e) => by have h1 := f11.2; have h2 := kb.size; omega)
  obtain ⟨hb11, B14, mc⟩ := BoxM.mk_ (w0 := w) HF bF f7.1 (Nat.le_trans kb.size f11.2)
  have ss := f7.2.sub.trans mc.sub
  replace mc := (mb.then_ (f7.2.world HF)).then_ mc
  replace B1 := B1.sub ss
  replace B2 := B2.sub ss
  replace BP := BP.sub ss
  replace B4 := B4.sub ss
  replace B5 := B5.sub ss
  replace B6 := B6.sub ss
  replace B8 := B8.sub ss
  replace B12 := B12.sub ss
  clear hWF xg zg lg HF kE kpF bF ss hS x50 x51 x52 x53 r5 kb mb f1 f3 f6 f7 f11 p7_11
  have kb := kF
  have mb := mc
  clear kF mc
  go_wp2_with fail
  obtain ⟨pv0, pv1, pv2, pv3, pv4, pe0, pe1, pe2, pe3, pe4, rP⟩ := BP.at_
  obtain ⟨AX4, cX4, fe0, fe1, fe2, fe3, r4⟩ := B4.at_
  obtain ⟨AN3, cN3, ne0, ne1, rN⟩ := B1.at_
  have hty4 : Hid (typedP P ⟨[], [], []⟩ X4 N = 0) := Lib.hid (by rw [← hP.out, ← hX4.out, ← hN.out]; exact typed4)
  have hty5 : Hid (typedP P ⟨[], [], []⟩ (cnT ⟨#[108, 97, 109]⟩ [cnT ⟨#[115]⟩ []]) N = 41) := Lib.hid (by rw [← hP.out, ← hN.out]; exact typed5)
  have pg0 := mb.has.cell _ _ pe0
  have pg1 := mb.has.cell _ _ pe1
  have pg2 := mb.has.cell _ _ pe2
  have pg3 := mb.has.cell _ _ pe3
  have pg4 := mb.has.cell _ _ pe4
  have fg0 := mb.has.cell _ _ fe0
  have fg1 := mb.has.cell _ _ fe1
  have fg2 := mb.has.cell _ _ fe2
  have fg3 := mb.has.cell _ _ fe3
  have ng0 := mb.has.cell _ _ ne0
  have ng1 := mb.has.cell _ _ ne1
  clear pe0 pe1 pe2 pe3 pe4 fe0 fe1 fe2 fe3 ne0 ne1
  refine rgs 15 (fun V => Below W11s.heap.size W11s V) [] rfl ((Below.refl _ _).drew) (fun hS => ?_)
  refine rgt 0 (.agg #[pv0, pv1, pv2, pv3, pv4]) rfl (by kernel_rfl) (fun _ _ _ h => h) (by kernel_rfl) hS (fun V hV => by have q0 := cell_below pg0 hV; have q1 := cell_below pg1 hV; have q2 := cell_below pg2 hV; have q3 := cell_below pg3 hV; have q4 := cell_below pg4 hV; go_simp) ?_
  refine rgt 1 (.agg #[.int .i64 X4.k, .int .i64 X4.n, .string X4.nm, .slice AX4 X4.ar.length cX4]) rfl (by kernel_rfl) (fun _ _ _ h => h) (by kernel_rfl) hS (fun V hV => by have q0 := cell_below fg0 hV; have q1 := cell_below fg1 hV; have q2 := cell_below fg2 hV; have q3 := cell_below fg3 hV; go_simp) ?_
  refine rgt 2 (.agg #[.string N.nm, .slice AN3 N.ar.length cN3]) rfl (by kernel_rfl) (fun _ _ _ h => h) (by kernel_rfl) hS (fun V hV => by have q0 := cell_below ng0 hV; have q1 := cell_below ng1 hV; go_simp) ?_
  refine rg1 3 rfl (by kernel_rfl) (by decide) (by kernel_rfl) (fun K hK => ?_)
  have hS0 := hS
  go_simp
  refine (Check_calls P [] [] X4 N _ _ _ _ _ W11s.drew _ (mb.has.below hS) rP (TyS_nil _) (TyS_nil _) r4 rN (by simp)).mono ?_
  rintro e W7 ⟨rfl, k7⟩
  rw [hty4.out]
  simp only []
  refine hK.out _ _ (below_then hS0 k7 hS0.size) (fun hS => ?_)
  refine rgt 4 (.bool true) rfl (by kernel_rfl) (fun _ _ _ h => h) (by kernel_rfl) hS (fun V hV => by go_simp) ?_
  refine rgt 5 (.bool true) rfl (by kernel_rfl) (fun _ _ _ h => h) (by kernel_rfl) hS (fun V hV => by go_simp) ?_
  refine rgt 6 (.agg #[pv0, pv1, pv2, pv3, pv4]) rfl (by kernel_rfl) (fun _ _ _ h => h) (by kernel_rfl) hS (fun V hV => by have q0 := cell_below pg0 hV; have q1 := cell_below pg1 hV; have q2 := cell_below pg2 hV; have q3 := cell_below pg3 hV; have q4 := cell_below pg4 hV; go_simp) ?_
  refine rgt 10 (.agg #[.string N.nm, .slice AN3 N.ar.length cN3]) rfl (by kernel_rfl) (fun _ _ _ h => h) (by kernel_rfl) hS (fun V hV => by have q0 := cell_below ng0 hV; have q1 := cell_below ng1 hV; go_simp) ?_
  refine rg1 7 rfl (by kernel_rfl) (by decide) (by kernel_rfl) (fun K hK => ?_)
  have hS0 := hS
  go_simp
  refine (con_calls ⟨#[115]⟩ _ none 0 0 rfl _).mono ?_
  rintro e W8 ⟨rfl, k8⟩
  simp only []
  refine hK.out _ _ (below_then hS0 k8 hS0.size) (fun hS => ?_)
  refine rg1 8 rfl (by kernel_rfl) (by decide) (by kernel_rfl) (fun K hK => ?_)
  have hS0 := hS
  go_simp
  have bn := blk_new W8 (.cells #[.int .i64 1, .int .i64 0, .string ⟨#[115]⟩, .slice none 0 0] 34)
  have kn := (alloc1 W8 (.cells #[.int .i64 1, .int .i64 0, .string ⟨#[115]⟩, .slice none 0 0] 34)).2
  obtain ⟨hz, tz, mz⟩ := one_TmS (w0 := w) (u := cnT ⟨#[115]⟩ []) (mb.has.below (below_then hS0 kn hS0.size)) bn (cnT_R (TmS_nil _)) (Nat.le_trans kb.size hS0.size)
  refine hK.out _ _ (below_then hS0 kn hS0.size) (fun hS => ?_)
  refine rg1 9 rfl (by kernel_rfl) (by decide) (by kernel_rfl) (fun K hK => ?_)
  have hS0 := hS
  go_simp
  refine (con_calls ⟨#[108, 97, 109]⟩ _ (some ⟨W8.heap.size, 0, none⟩) 1 1 rfl _).mono ?_
  rintro e W9 ⟨rfl, k9⟩
  simp only []
  refine hK.out _ _ (below_then hS0 k9 hS0.size) (fun hS => ?_)
  refine rg1 11 rfl (by kernel_rfl) (by decide) (by kernel_rfl) (fun K hK => ?_)
  have hS0 := hS
  go_simp
  refine (Check_calls P [] [] (cnT ⟨#[108, 97, 109]⟩ [cnT ⟨#[115]⟩ []]) N _ [.int .i64 1, .int .i64 0, .string ⟨#[108, 97, 109]⟩, .slice (some ⟨W8.heap.size, 0, none⟩) 1 1] _ _ _ W9 hz (mz.has.below k9) (rP.sub mz.sub) (TyS_nil _) (TyS_nil _) (cnT_R tz) (rN.sub mz.sub) (by simp)).mono ?_
  rintro e W10 ⟨rfl, k10⟩
  rw [hty5.out]
  simp only []
  refine hK.out _ _ (below_then hS0 k10 hS0.size) (fun hS => ?_)
  refine rgt 12 (.bool true) rfl (by kernel_rfl) (fun _ _ _ h => h) (by kernel_rfl) hS (fun V hV => by go_simp) ?_
  refine rgt 13 (.bool true) rfl (by kernel_rfl) (fun _ _ _ h => h) (by kernel_rfl) hS (fun V hV => by go_simp) ?_
  refine rgt 14 (.bool true) rfl (by kernel_rfl) (fun _ _ _ h => h) (by kernel_rfl) hS (fun V hV => by go_simp) ?_
  refine rgd (by kernel_rfl) ?_
  have kA := below_then kb hS kb.size
  have HA := mb.has.below hS
  clear pg0 pg1 pg2 pg3 pg4 ng0 ng1 rN rP hS0 k7 k8 k9 k10 kn bn tz mz hz hty4 hty5
  have fg0 := cell_below fg0 hS
  have fg1 := cell_below fg1 hS
  have fg2 := cell_below fg2 hS
  have fg3 := cell_below fg3 hS
  go_wp2_with fail
  have tq4 : Hid (TxIs X4 ⟨#[108, 97, 109, 32, 40, 32, 92, 32, 46, 32, 115, 32, 66, 48, 32, 41]⟩) := Lib.hid (by rw [← hX4.out]; exact tx4)
  refine (TextS_calls tq4.out _ _ _ HA r4).mono ?_
  rintro e y1 ⟨rfl, ky⟩
  have kB := below_then kA ky kA.size
  have HB := HA.below ky
  obtain ⟨AX6', cX6', ge0, ge1, ge2, ge3, r6⟩ := B6.at_
  have gg0 := HB.cell _ _ ge0
  have gg1 := HB.cell _ _ ge1
  have gg2 := HB.cell _ _ ge2
  have gg3 := HB.cell _ _ ge3
  go_wp2_with fail
  have tq6 : Hid (TxIs X6 ⟨#[115, 32, 122]⟩) := Lib.hid (by rw [← eX6.out]; exact tx6)
  refine (TextS_calls tq6.out _ _ _ HB r6).mono ?_
  rintro e y2 ⟨rfl, ky2⟩
  have kC0 := below_then kB ky2 kB.size
  have HC0 := HB.below ky2
  obtain ⟨At8, ct8, t8e0, t8e1, t8e2, t8e3, rt8⟩ := B8.at_
  have t8g0 := HC0.cell _ _ t8e0
  have t8g1 := HC0.cell _ _ t8e1
  have t8g2 := HC0.cell _ _ t8e2
  have t8g3 := HC0.cell _ _ t8e3
  have t8l := HC0.lt t8e0
  go_wp2_with fail
  have tq8 : Hid (TxIs X8 ⟨#[92, 32, 46, 32, 115, 32, 66, 48]⟩) := Lib.hid (by rw [← eX8.out]; exact tx8)
  refine (TextS_calls tq8.out _ _ _ HC0 rt8).mono ?_
  rintro e y3 ⟨rfl, ky3⟩
  have kC1 := below_then kC0 ky3 kC0.size
  have HC1 := HC0.below ky3
  obtain ⟨At12, ct12, t12e0, t12e1, t12e2, t12e3, rt12⟩ := B12.at_
  have t12g0 := HC1.cell _ _ t12e0
  have t12g1 := HC1.cell _ _ t12e1
  have t12g2 := HC1.cell _ _ t12e2
  have t12g3 := HC1.cell _ _ t12e3
  have t12l := HC1.lt t12e0
  go_wp2_with fail
  have tq12 : Hid (TxIs X12 ⟨#[92, 32, 46, 32, 80, 48, 32, 40, 32, 92, 32, 46, 32, 66, 49, 32, 66, 48, 32, 41]⟩) := Lib.hid (by rw [← hX12.out]; exact tx12)
  refine (TextS_calls tq12.out _ _ _ HC1 rt12).mono ?_
  rintro e y4 ⟨rfl, ky4⟩
  have kC2 := below_then kC1 ky4 kC1.size
  have HC2 := HC1.below ky4
  obtain ⟨At14, ct14, t14e0, t14e1, t14e2, t14e3, rt14⟩ := B14.at_
  have t14g0 := HC2.cell _ _ t14e0
  have t14g1 := HC2.cell _ _ t14e1
  have t14g2 := HC2.cell _ _ t14e2
  have t14g3 := HC2.cell _ _ t14e3
  have t14l := HC2.lt t14e0
  go_wp2_with fail
  have tq14 : Hid (TxIs XE ⟨#[115, 32, 40, 32, 115, 32, 122, 32, 41]⟩) := Lib.hid (by rw [← eXE.out]; exact tx14)
  refine (TextS_calls tq14.out _ _ _ HC2 rt14).mono ?_
  rintro e y5 ⟨rfl, ky5⟩
  have kC3 := below_then kC2 ky5 kC2.size
  have HC3 := HC2.below ky5
  go_wp2_with fail
  refine (bound_calls 1 _ none 0 0 rfl _).mono ?_
  rintro e u1 ⟨rfl, j1⟩
  go_wp2_with fail
  refine (bound_calls 0 _ (some ⟨u1.heap.size, 0, none⟩) 1 1 rfl _).mono ?_
  rintro e u2 ⟨rfl, j2⟩
  go_wp2_with fail
  refine (lam_calls _ _ _ _ _ _ _).mono ?_
  rintro e u3 ⟨gq, rfl, j3, bl, hgl⟩
  go_wp2_with fail
  have i1 := below_then kC3 j1 kC3.size
  have b1 := blk_new u1 (.cells #[.int .i64 2, .int .i64 1, .string ⟨#[]⟩, .slice none 0 0] 34)
  have i1a := i1.alloc i1.size (.cells #[.int .i64 2, .int .i64 1, .string ⟨#[]⟩, .slice none 0 0] 34)
  obtain ⟨h1, t1, m1⟩ := one_TmS (w0 := w) (u := bdT 1 []) ((HC3.below j1).alloc _) b1 (bdT_R (by omega) (TmS_nil _)) i1.size
  have i2 := below_then i1a j2 i1a.size
  have i3 := below_then i2 j3 i2.size
  obtain ⟨h2, t2, m2⟩ := one_TmS (w0 := w) (u := bdT 0 [bdT 1 []]) ((m1.has.below j2).below j3) bl (bdT_R (by omega) t1) (Nat.le_trans i2.size hgl)
  obtain ⟨X18, hX18'⟩ : ∃ X, T18 = X := ⟨_, rfl⟩
  have hX18 := Lib.hid hX18'
  have hsh : Hid (shiftS S18 2 0 = .inr X18) := Lib.hid (by rw [← hX18']; exact shift18)
  clear hX18'
  refine (Shift_calls S18 2 0 _ u3 h2 m2.has (lmT_R t2) (fun _ => Nat.le_of_ble_eq_true (by kernel_rfl))).mono ?_
  rintro e u4 ⟨j4, cs, h3, rfl, r, m3⟩
  rw [hsh.out] at r ⊢
  replace r : TmR h3 X18 cs := r
  have cs4 : codeS (.inr X18 : Sum Int Tm) = 0 := rfl
  rw [cs4]
  obtain ⟨A18, c18, rfl, _⟩ := r.open_
  have i4 := below_then i3 j4 i3.size
  have ss := (m1.sub.trans m2.sub).trans m3.sub
  have b18 := blk_new u4 (.cells #[.int .i64 X18.k, .int .i64 X18.n, .string X18.nm, .slice A18 X18.ar.length c18] 34)
  have i5 := i4.alloc i4.size (.cells #[.int .i64 X18.k, .int .i64 X18.n, .string X18.nm, .slice A18 X18.ar.length c18] 34)
  obtain ⟨h4, B18, m4⟩ := BoxM.mk_ (w0 := w) (m3.has.alloc _) b18 r i4.size
  replace B2 := (B2.sub ss).sub m4.sub
  replace B4 := (B4.sub ss).sub m4.sub
  go_wp2_with fail
  have tq18 : Hid (TxIs X18 ⟨#[92, 32, 46, 32, 66, 48, 32, 66, 51]⟩) := Lib.hid (by rw [← hX18.out]; exact tx18)
  refine (TextS_calls tq18.out _ _ _ (m3.has.alloc _) r).mono ?_
  rintro e u6 ⟨rfl, j6⟩
  have i6 := below_then i5 j6 i5.size
  have M6 := m4.has.below j6
  obtain ⟨AQ, cQ, qe0, qe1, rQ⟩ := B2.at_
  have qg0 := M6.cell _ _ qe0
  have qg1 := M6.cell _ _ qe1
  have ql := M6.lt qe0
  go_wp2_with fail
  refine (Arity_calls Y _ _ _ M6 rQ (fun _ => by rw [← hY.out]; exact Nat.le_of_ble_eq_true (by kernel_rfl))).mono ?_
  rintro e u7 ⟨rfl, j7⟩
  have hAr : (PPartsL Y).length = 1 := by rw [← hY.out]; exact arity1
  rw [hAr]
  clear hAr
  have i7 := below_then i6 j7 i6.size
  have M7 := M6.below j7
  obtain ⟨Aw4, cw4, w4e0, w4e1, w4e2, w4e3, rw4⟩ := B4.at_
  have w4g0 := M7.cell _ _ w4e0
  have w4g1 := M7.cell _ _ w4e1
  have w4g2 := M7.cell _ _ w4e2
  have w4g3 := M7.cell _ _ w4e3
  have w4l := M7.lt w4e0
  go_wp2_with fail
  refine (Size_calls X4 _ _ _ M7 rw4).mono ?_
  rintro e u8 ⟨rfl, j8⟩
  have hSz : (measM X4).1 = 4 := by rw [← hX4.out]; exact size4
  rw [hSz]
  clear hSz
  have i8 := below_then i7 j8 i7.size
  have M8 := M7.below j8
  have w4g0 := M8.cell _ _ w4e0
  have w4g1 := M8.cell _ _ w4e1
  have w4g2 := M8.cell _ _ w4e2
  have w4g3 := M8.cell _ _ w4e3
  have w4l := M8.lt w4e0
  go_wp2_with fail
  refine (Depth_calls X4 _ _ _ M8 rw4).mono ?_
  rintro e u9 ⟨rfl, j9⟩
  have hDp : (measM X4).2 = 4 := by rw [← hX4.out]; exact depth4
  rw [hDp]
  clear hDp
  have i9 := below_then i8 j9 i8.size
  go_wp2_with fail
  go_ret
  exact ⟨rfl, i9⟩
end Go.Proofs.YtpgbeapojjinmaaGreatDoor
