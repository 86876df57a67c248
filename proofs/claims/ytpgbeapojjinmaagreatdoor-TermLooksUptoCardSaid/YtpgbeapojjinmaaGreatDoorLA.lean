/- term.Eta's inner function. No law is proved here. -/
import Derived.Test.YtpgbeapojjinmaaGreatDoorKC
set_option linter.unusedVariables false
set_option linter.unusedSimpArgs false
namespace Go.Proofs.YtpgbeapojjinmaaGreatDoor
open Go.RowKit Go.Shelf Go.Proofs.YtpgbeapojjinmaaGreatDoorW.PrintLast
/-- A term under some binders. -/
def lamsT : Nat → Tm → Tm
  | 0, t => t
  | i + 1, t => .mk 5 0 ⟨#[]⟩ [lamsT i t]
/-- The arguments' eta-long forms, from left to right. -/
def etaL (r : Int → Tm → Ty → WRes) : Int → Int → List Ty → Option (Sum Int (List Tm × Int))
  | _, c, [] => some (.inr ([], c))
  | m, c, a :: l => match r c (.mk 2 m ⟨#[]⟩ []) a with
    | none => none
    | some (.inl e) => some (.inl e)
    | some (.inr (u, c')) => match etaL r (m - 1) c' l with
      | some (.inr (us, c'')) => some (.inr (u :: us, c''))
      | x => x
def etaF : Nat → Int → Tm → Ty → WRes
  | 0, _, _, _ => none
  | f + 1, c, .mk k n nm _, ty => if c < 0 ∨ 4000 < c then none else if (partsL ty).length ≤ 8 then
      if c + (1 + (partsL ty).length) ≤ 4000 then match etaL (etaF f) ((partsL ty).length - 1) (c + (1 + (partsL ty).length)) (partsL ty) with
        | none => none
        | some (.inl e) => some (.inl e)
        | some (.inr (us, c')) => some (.inr (lamsT (partsL ty).length (.mk k (if k = 2 then n + (partsL ty).length else n) nm us), c'))
      else some (.inl 2)
    else some (.inl 2)
theorem etaL_cons (r : Int → Tm → Ty → WRes) (m c : Int) (a : Ty) (l : List Ty) (us : List Tm) : catW us (etaL r m c (a :: l)) = match r c (.mk 2 m ⟨#[]⟩ []) a with
    | none => none
    | some (.inl e) => some (.inl e)
    | some (.inr (u, c')) => catW (us ++ [u]) (etaL r (m - 1) c' l) := by
  rw [etaL]
  rcases r c (.mk 2 m ⟨#[]⟩ []) a with _ | e | ⟨u, c'⟩
  · rfl
  · rfl
  · show catW us (match etaL r (m - 1) c' l with | some (.inr (us, c'')) => some (.inr (u :: us, c'')) | x => x) = catW (us ++ [u]) (etaL r (m - 1) c' l)
    generalize etaL r (m - 1) c' l = q
    rcases q with _ | e | ⟨vs, c''⟩ <;> simp [catW]
theorem eta_run {f : Nat} {c k n : Int} {nm : ByteArray} {ar : List Tm} {ty : Ty} {o : Sum Int (Tm × Int)} (he : etaF (f + 1) c (.mk k n nm ar) ty = some o) :
    (0 ≤ c ∧ c ≤ 4000) ∧ ((8 < (partsL ty).length ∧ o = .inl 2) ∨ ((partsL ty).length ≤ 8 ∧ ((4000 < c + (1 + (partsL ty).length) ∧ o = .inl 2) ∨ (c + (1 + (partsL ty).length) ≤ 4000 ∧
      ((∃ e, etaL (etaF f) ((partsL ty).length - 1) (c + (1 + (partsL ty).length)) (partsL ty) = some (.inl e) ∧ o = .inl e) ∨ ∃ us c', etaL (etaF f) ((partsL ty).length - 1) (c + (1 + (partsL ty).length)) (partsL ty) = some (.inr (us, c')) ∧ o = .inr (lamsT (partsL ty).length (.mk k (if k = 2 then n + (partsL ty).length else n) nm us), c')))))) := by
  rw [etaF] at he
  by_cases q : c < 0 ∨ 4000 < c
  · rw [if_pos q] at he; cases he
  rw [if_neg q] at he
  refine ⟨by omega, ?_⟩
  by_cases q1 : (partsL ty).length ≤ 8
  · rw [if_pos q1] at he
    refine .inr ⟨q1, ?_⟩
    by_cases q2 : c + (1 + (partsL ty).length) ≤ 4000
    · rw [if_pos q2] at he
      refine .inr ⟨q2, ?_⟩
      cases hx : etaL (etaF f) ((partsL ty).length - 1) (c + (1 + (partsL ty).length)) (partsL ty) with
      | none => rw [hx] at he; cases he
      | some o1 =>
        rw [hx] at he
        rcases o1 with e | ⟨us, c'⟩
        · simp at he; exact .inl ⟨e, rfl, he.symm⟩
        · simp only [Option.some.injEq] at he; exact .inr ⟨us, c', rfl, he.symm⟩
    · rw [if_neg q2] at he; cases he; exact .inl ⟨by omega, rfl⟩
  · rw [if_neg q1] at he; cases he; exact .inl ⟨by omega, rfl⟩
/-- How Eta's inner function ends. -/
def EPost (bc : Nat) (w : World) (h : Snap) (o : Sum Int (Tm × Int)) (e : Ending) (w' : World) : Prop := Kp (fun q => q = bc) w w' ∧ match o with
  | .inl x => e = .panicked (faultC x)
  | .inr (u, c') => ∃ cs' h', e = .returned (.agg cs'.toArray) ∧ TmR h' u cs' ∧ Mk w h w' h' ∧ w'.heap[bc]? = some (.cells #[.int .i64 c'] 3)
def EtaOK (f : Nat) : Prop := ∀ (bc bf : Nat) (c k n : Int) (nm : ByteArray) (ty : Ty) (o : Sum Int (Tm × Int)) (ct : List Value) (w : World) (h : Snap)
    (H : Has w h) (rt : TyR h ty ct) (ho : Off h (fun q => q = bc)) (hk : -9223372036854775808 ≤ k ∧ k ≤ 9223372036854775807) (hn : -9223372036854775808 ≤ n ∧ n ≤ 4000000000) (hz : ty.sz ≤ 1000000000) (hc : w.heap[bc]? = some (.cells #[.int .i64 c] 3)) (hf : w.heap[bf]? = some (.cells #[.func (.func 91) #[] #[.pointer (some ⟨bc, 0, none⟩), .pointer (some ⟨bf, 0, none⟩)]] 120)) (he : etaF f c (.mk k n nm []) ty = some o),
    Calls Tryz.prog 91 #[.agg #[.int .i64 k, .int .i64 n, .string nm, .slice none 0 0], .agg ct.toArray, .pointer (some ⟨bc, 0, none⟩), .pointer (some ⟨bf, 0, none⟩)] w (EPost bc w h o)
/-- The state of the first loop. -/
structure EtS (w : World) (h : Snap) (bc : Nat) (kk n : Int) (nm : ByteArray) (us : List Tm) (cj : Int) (sv : Value) (xs : List Value) (wr : World) (h' : Snap) : Prop where
  b1 : wr.heap[w.heap.size]? = some (.cells #[.int .i64 kk, .int .i64 n, .string nm, sv] 34)
  b2 : wr.heap[w.heap.size + 2]? = some (.cells #[.int .i64 0, .int .i64 0, .string ⟨#[]⟩, .slice none 0 0] 34)
  bcn : wr.heap[bc]? = some (.cells #[.int .i64 cj] 3)
  own : wr.ownsRow (w.heap.size + 3) 34 4 sv us.length xs
  ch : Chunks (TmR h') 4 us xs
  made : Mk w h wr h'
  kp : Kp (fun q => q = bc) w wr
  off : Off h' (fun q => q = bc ∨ (w.heap.size ≤ q ∧ q < w.heap.size + 3) ∨ sv.ownBlock = some q)
/-- The state of the second loop. -/
structure EtT (w : World) (h : Snap) (bc : Nat) (T : Tm) (cj : Int) (j : Nat) (wr : World) (h' : Snap) : Prop where
  b1 : ∃ cu : List Value, wr.heap[w.heap.size]? = some (.cells cu.toArray 34) ∧ TmR h' (lamsT j T) cu
  b2 : wr.heap[w.heap.size + 2]? = some (.cells #[.int .i64 0, .int .i64 0, .string ⟨#[]⟩, .slice none 0 0] 34)
  bcn : wr.heap[bc]? = some (.cells #[.int .i64 cj] 3)
  made : Mk w h wr h'
  kp : Kp (fun q => q = bc) w wr
  off : Off h' (fun q => q = bc ∨ (w.heap.size ≤ q ∧ q < w.heap.size + 3))
theorem parts_le : ∀ t : Ty, (partsL t).length ≤ t.sz ∧ ∀ u ∈ partsL t, u.sz ≤ t.sz
  | .mk nm [a, b] => by
    have ih := parts_le b
    rw [parts_two.1]
    simp only [Ty.sz, Ty.szL, List.length_cons, List.mem_cons]
    refine ⟨by omega, ?_⟩
    rintro u (rfl | hu)
    · omega
    · have := ih.2 u hu; omega
  | .mk nm [] => by simp [partsL]
  | .mk nm [a] => by simp [partsL]
  | .mk nm (a :: b :: c :: d) => by simp [partsL]
set_option maxRecDepth 100000 in
set_option maxHeartbeats 8000000 in
theorem eta_step (f : Nat) (IH : Hid (EtaOK f)) : EtaOK (f + 1) := by
  intro bc bf c kk n nm ty o ct w h H rt ho hk hn hz hc hf he
  have rt0 := rt
  obtain ⟨At, capt, rfl, _⟩ := rt.open_
  obtain ⟨hcr, hcase⟩ := eta_run he
  have hu34 := Tryz.underlying34
  have hu36 := Tryz.underlying36
  obtain ⟨a1, a2, a3, ab⟩ := alloc3 w (.cells #[.int .i64 kk, .int .i64 n, .string nm, .slice none 0 0] 34) (.cells #[.string ty.nm, .slice At ty.ar.length capt] 36) (.cells #[.int .i64 0, .int .i64 0, .string ⟨#[]⟩, .slice none 0 0] 34)
  have hcase' := Lib.hid hcase
  clear he hcase
  have lc := blk_lt hc
  have lf := blk_lt hf
  have hbf : bf ≠ bc := fun e => by rw [e, hc] at hf; cases hf
  have hpl := parts_le ty
  go_enter Tryz.func91, Tryz.ntmps91
  go_wp2_with fail
  refine (parts_calls ty _ _ h (H.below ab) rt0 (by unfold lim; omega)).mono ?_
  rintro e w1 ⟨sv, xs, rfl, hown, hch, k1⟩
  have kk1 := below_then ab k1 ab.size
  have s0 : (((w.alloc (.cells #[.int .i64 kk, .int .i64 n, .string nm, .slice none 0 0] 34)).alloc (.cells #[.string ty.nm, .slice At ty.ar.length capt] 36)).alloc (.cells #[.int .i64 0, .int .i64 0, .string ⟨#[]⟩, .slice none 0 0] 34)).heap.size = w.heap.size + 3 := by simp
  have sz1 := k1.size
  rw [s0] at sz1
  have b1 := box_below a1 k1
  have b3 := box_below a3 k1
  have bc1 := box_below hc kk1
  have bf1 := box_below hf kk1
  obtain ⟨h1, rs1, m1, n1⟩ := own_TyS (w0 := w) (H.below kk1) (by rw [s0]; omega) hown hch (by unfold lim; omega)
  have ho1 : Off h1 (fun q => q = bc ∨ (w.heap.size ≤ q ∧ q < w.heap.size + 3)) := ⟨fun x v e hq => by
    rcases n1 x v e with g | g
    · have := H.lt g
      rcases hq with hq | hq
      · exact ho.at_ x v g hq
      · omega
    · exact own_ge hown (b := x.block) (by rw [s0]; omega) g⟩
  obtain ⟨As, caps, e, hcl, hll, hts⟩ := id rs1
  subst e
  have hS : Hid (∀ u ∈ partsL ty, u.sz ≤ 1000000000) := Lib.hid (fun u hu => by have := hpl.2 u hu; omega)
  clear hown hch n1 a1 a2 a3 hpl rt rt0
  generalize partsL ty = L at *
  generalize partsR ty = R at *
  by_cases q8 : (L.length : Int) ≤ 8
  · go_wp2_with fail
    refine (must_ok _ _).mono ?_
    rintro e w2 ⟨rfl, rfl⟩
    have y1 := box1 bc1
    have f1 := blk_frozen bc1
    have hw1 : IntKind.i64.wrap (1 + (L.length : Int)) = 1 + L.length := IntWalk.i64_in _ (by omega)
    have hw2 : IntKind.i64.wrap (c + (1 + (L.length : Int))) = c + (1 + L.length) := IntWalk.i64_in _ (by omega)
    have lw1 := blk_lt bc1
    have kc : Kp (fun q => q = bc) w2 (w2.setCell ⟨bc, 0, none⟩ (.int .i64 (c + (1 + (L.length : Int))))) := (Kp.refl (fun q => q = bc) w2).set (p := ⟨bc, 0, none⟩) (.inl rfl) _
    have c2 : (w2.setCell ⟨bc, 0, none⟩ (.int .i64 (c + (1 + (L.length : Int))))).heap[bc]? = some (.cells #[.int .i64 (c + (1 + (L.length : Int)))] 3) := by simpa using blk_set bc1 0 (.int .i64 (c + (1 + (L.length : Int))))
    have d1 := blk_kp b1 kc (by omega)
    have d3 := blk_kp b3 kc (by omega)
    have df := blk_kp bf1 kc hbf
    have m2 : Mk w h (w2.setCell ⟨bc, 0, none⟩ (.int .i64 (c + (1 + (L.length : Int))))) h1 := m1.world (m1.has.kp kc ⟨fun x v e hx => ho1.at_ x v e (.inl hx)⟩)
    have kw2 : Kp (fun q => q = bc) w (w2.setCell ⟨bc, 0, none⟩ (.int .i64 (c + (1 + (L.length : Int))))) := (Kp.of_below (fun q => q = bc) kk1).trans kc (fun q hq e => e)
    have sz2 := kc.size
    by_cases q9 : c + (1 + (L.length : Int)) ≤ 4000
    · have hcs := Lib.hid (((hcase'.out.resolve_left (fun h => by omega)).2).resolve_left (fun h => by omega)).2
      clear hcase'
      go_wp2_with fail
      refine (must_ok _ _).mono ?_
      rintro e w3 ⟨rfl, hw3⟩
      rw [← hw3] at kc c2 d1 d3 df m2 kw2 sz2
      clear hw3 y1 f1 b1 b3 bc1 bf1
      generalize hC1 : c + (1 + (L.length : Int)) = C at *
      have z1 := box4 d1
      have fz1 := blk_frozen d1
      have lz1 := blk_lt d1
      have hN : ∃ N, (if kk = 2 then n + (L.length : Int) else n) = N := ⟨_, rfl⟩
      obtain ⟨N, hN⟩ := hN
      rw [hN] at hcs
      have hwN : IntKind.i64.wrap (n + (L.length : Int)) = n + L.length := IntWalk.i64_in _ (by omega)
      obtain ⟨W4, hW4, d4, kp4⟩ : ∃ W4, (w3.setCell ⟨w.heap.size, 1, none⟩ (.int .i64 (n + (L.length : Int)))) = W4 ∧ W4.heap[w.heap.size]? = some (.cells #[.int .i64 kk, .int .i64 (n + L.length), .string nm, .slice none 0 0] 34) ∧ Kp (fun q => q = w.heap.size) w3 W4 := ⟨_, rfl, by simpa using blk_set d1 1 (.int .i64 (n + (L.length : Int))), (Kp.refl (fun q => q = w.heap.size) w3).set (p := ⟨w.heap.size, 1, none⟩) (.inl rfl) _⟩
      have e3 := blk_kp d3 kp4 (by omega)
      have ec := blk_kp c2 kp4 (by omega)
      have ef := blk_kp df kp4 (by omega)
      have m4 := m2.world (m2.has.kp kp4 ⟨fun x v e hx => ho1.at_ x v e (.inr (by omega))⟩)
      have kw4 : Kp (fun q => q = bc) w W4 := kw2.trans kp4 (fun q hq e => by omega)
      have hq : ((kk == 2) = true ∧ n + (L.length : Int) = N) ∨ ((kk == 2) = false ∧ N = n) := by
        by_cases q : kk = 2
        · rw [if_pos q] at hN; exact .inl ⟨by simp [q], hN⟩
        · rw [if_neg q] at hN; exact .inr ⟨by simp [q], hN.symm⟩
      clear hN
      have hN5 : N ≤ 9223372036854775807 ∧ -9223372036854775808 ≤ N := by omega
      obtain ⟨f1, hf0, hf1, hf2⟩ : ∃ f1 : List Tm → Int → List Ty → Option (Sum Int (List Tm × Int)), Hid (∀ us cj, f1 us cj [] = some (.inr (us, cj))) ∧ Hid (∀ us cj t ts, f1 us cj (t :: ts) = match etaF f cj (.mk 2 ((L.length : Int) - 1 - us.length) ⟨#[]⟩ []) t with
          | none => none
          | some (.inl e) => some (.inl e)
          | some (.inr (u, c')) => f1 (us ++ [u]) c' ts) ∧ Hid (f1 [] C L = etaL (etaF f) (L.length - 1) C L) :=
        ⟨fun us cj ts => catW us (etaL (etaF f) ((L.length : Int) - 1 - us.length) cj ts), by show ∀ _ _, _; intro us cj; simp [etaL, catW], by
          show ∀ _ _ _ _, _
          intro us cj t ts
          simp only []
          rw [etaL_cons]
          rcases etaF f cj (.mk 2 ((L.length : Int) - 1 - us.length) ⟨#[]⟩ []) t with _ | e | ⟨u, c'⟩
          · rfl
          · rfl
          · simp only []
            rw [show ((L.length : Int) - 1 - (us ++ [u]).length) = (L.length : Int) - 1 - us.length - 1 by simp; omega], by
          show catW [] (etaL (etaF f) ((L.length : Int) - 1 - ([] : List Tm).length) C L) = etaL (etaF f) (L.length - 1) C L
          simp only [List.length_nil, Int.ofNat_zero, Int.sub_zero]
          generalize etaL (etaF f) ((L.length : Int) - 1) C L = q
          rcases q with _ | e | ⟨vs, c'⟩ <;> rfl⟩
      have hlenI : (0 : Int) ≤ L.length := by omega
      rcases hq with ⟨q5, hB1⟩ | ⟨q5, hB1⟩
      all_goals (first | (rw [hB1] at d4; replace hW4 := Lib.hid hW4; have D1 := d4; have D3 := e3; have Dc := ec; have Df := ef; have Dm := m4; have Dk := kw4; have Ds := kp4.size) | (subst hB1; have D1 := d1; have D3 := d3; have Dc := c2; have Df := df; have Dm := m2; have Dk := kw2; have Ds := Nat.le_refl w3.heap.size))
      all_goals clear d4 e3 ec ef m4 kw4 kp4 d3 c2 df m2 kw2 kc
      all_goals (try clear hB1)
      all_goals go_wp2_with fail
      all_goals (try rw [hW4.out])
      all_goals clear z1 fz1 lz1
      all_goals
        go_loopw [39] (fun i wr => ∃ us cj sv xs h', us.length ≤ L.length ∧ i = .int .i64 us.length ∧ EtS w h bc kk N nm us cj sv xs wr h' ∧ Hid (Sub h1 h') ∧ Hid (f1 us cj (L.drop us.length) = f1 [] C L)) (fun i _ => L.length - (intOf i).toNat)
        case atStart => exact ⟨[], C, .slice none 0 0, [], h1, by simp, rfl, ⟨D1, D3, Dc, World.ownsRow_nil .., .nil, Dm, Dk, ⟨fun x v e hq => by
          rcases hq with hq | hq | hq
          · exact ho1.at_ x v e (.inl hq)
          · exact ho1.at_ x v e (.inr hq)
          · simp [Value.ownBlock] at hq⟩⟩, Lib.hid (Sub.refl h1), by show _ = _; simp⟩
        case round =>
          obtain ⟨us, cj, sv, xs, h', hj, rfl, hC, hs1, hI⟩ := hrel
          have ls := blk_lt hC.b1
          have ls2 := blk_lt hC.b2
          have lsc := blk_lt hC.bcn
          obtain ⟨Aw, kw, rfl⟩ := own_form hC.own
          by_cases hlt : us.length < L.length
          · obtain ⟨b', o', A', c', rfl, e0, e1, rt⟩ := hts.get us.length hlt
            have hw := hC.made.has.sub hs1.out
            have hc0 := hw.cell _ _ e0
            have hc1 := hw.cell _ _ e1
            have hcell3 := blk_cell hC.b1 3
            have hfn := blk_kp hf hC.kp hbf
            have hcf := box1 hfn
            have lff := blk_lt hfn
            have hLm := Lib.hid (hS.out L[us.length] (List.getElem_mem hlt))
            have rt' := Lib.hid (rt.sub hs1.out)
            have hw3 : IntKind.i64.wrap ((L.length : Int) - 1) = L.length - 1 := IntWalk.i64_in _ (by omega)
            have hw4 : IntKind.i64.wrap ((L.length : Int) - 1 - us.length) = L.length - 1 - us.length := IntWalk.i64_in _ (by omega)
            have hI' := hI.out
            rw [List.drop_eq_getElem_cons hlt, hf1.out] at hI'
            replace hI' := Lib.hid hI'
            go_wp2_with fail
            obtain ⟨X, hX⟩ : ∃ X, L[us.length] = X := ⟨_, rfl⟩
            rw [hX] at hc0 hc1 rt' hLm hI' ⊢
            clear hX e0 e1 rt
            have hasW := hC.made.has.alloc (.cells #[.string X.nm, .slice A' X.ar.length c'] 36)
            refine rgs 15 (fun V => V.cell? ⟨w.heap.size, 3, none⟩ = some (.slice Aw us.length kw) ∧ V.cell? ⟨bf, 0, none⟩ = some (.func (.func 91) #[] #[.pointer (some ⟨bc, 0, none⟩), .pointer (some ⟨bf, 0, none⟩)]) ∧ V.cell? ⟨wr.heap.size, 0, none⟩ = some (.string X.nm) ∧ V.cell? ⟨wr.heap.size, 1, none⟩ = some (.slice A' X.ar.length c')) [12, 14] rfl ?_ (fun hS => ?_)
            · go_simp
            refine rgt 0 (.pointer (some ⟨w.heap.size, 3, none⟩)) rfl (by kernel_rfl) (fun _ _ _ h => h) rfl hS (fun W hW => by go_simp) ?_
            refine rgt 1 (.slice Aw us.length kw) rfl (by kernel_rfl) (fun _ _ _ h => h) rfl hS (fun W hW => by obtain ⟨q1, q2, q3, q4⟩ := hW; go_simp) ?_
            refine rgt 2 (.func (.func 91) #[] #[.pointer (some ⟨bc, 0, none⟩), .pointer (some ⟨bf, 0, none⟩)]) rfl (by kernel_rfl) (fun _ _ _ h => h) rfl hS (fun W hW => by obtain ⟨q1, q2, q3, q4⟩ := hW; go_simp) ?_
            refine rgt 3 (.slice (some ⟨b', o', none⟩) L.length caps) rfl (by kernel_rfl) (fun _ _ _ h => h) rfl hS (fun W hW => by go_simp) ?_
            refine rgt 4 (.int .i64 L.length) rfl (by kernel_rfl) (fun _ _ _ h => h) rfl hS (fun W hW => by go_simp) ?_
            refine rgt 5 (.int .i64 ((L.length : Int) - 1)) rfl (by kernel_rfl) (fun _ _ _ h => h) rfl hS (fun W hW => by go_simp) ?_
            refine rgt 6 (.int .i64 us.length) rfl (by kernel_rfl) (fun _ _ _ h => h) rfl hS (fun W hW => by go_simp) ?_
            refine rgt 7 (.int .i64 ((L.length : Int) - 1 - us.length)) rfl (by kernel_rfl) (fun _ _ _ h => h) rfl hS (fun W hW => by go_simp) ?_
            refine rgt 8 (.agg #[.int .i64 2, .int .i64 ((L.length : Int) - 1 - us.length), .string ⟨#[]⟩, .slice none 0 0]) rfl (by kernel_rfl) (fun _ _ _ h => h) rfl hS (fun W hW => by go_simp) ?_
            refine rgt 9 (.agg #[.string X.nm, .slice A' X.ar.length c']) rfl (by kernel_rfl) (fun _ _ _ h => h) rfl hS (fun W hW => by obtain ⟨q1, q2, q3, q4⟩ := hW; go_simp) ?_
            refine rg1 10 rfl (by kernel_rfl) (by decide) rfl (fun K hK => ?_)
            go_simp
            cases hx : etaF f cj (.mk 2 ((L.length : Int) - 1 - us.length) ⟨#[]⟩ []) X with
            | none =>
              exfalso
              rcases hcs.out with ⟨e, g1, g2⟩ | ⟨vs, c2, g1, g2⟩ <;> rw [← hf2.out, ← hI'.out, hx] at g1 <;> simp at g1
            | some o1 =>
            refine (IH.out bc bf cj 2 ((L.length : Int) - 1 - us.length) ⟨#[]⟩ X o1 _ (wr.alloc (.cells #[.string X.nm, .slice A' X.ar.length c'] 36)).drew h' hasW.drew rt'.out ⟨fun x v e hq => hC.off.at_ x v e (.inl hq)⟩ (by omega) (by omega) hLm.out (blk_alloc hC.bcn _) (blk_alloc hfn _) hx).mono ?_
            rintro e w1 ⟨k1, hm⟩
            have kq1 : Kp (fun q => q = bc) wr w1 := (((Kp.refl (fun q => q = bc) wr).alloc (.cells #[.string X.nm, .slice A' X.ar.length c'] 36)).drew).trans k1 (fun i hi e => e)
            have sw1 := k1.size
            simp only [World.size_drew, World.size_alloc] at sw1
            rcases o1 with e | ⟨u, c2⟩
            · subst hm
              simp only []
              refine ⟨rfl, hC.kp.trans kq1 (fun i hi e => e), ?_⟩
              rcases hcs.out with ⟨e', g1, rfl⟩ | ⟨vs, c2, g1, g2⟩ <;> rw [← hf2.out, ← hI'.out, hx] at g1 <;> simp at g1
              subst g1
              rfl
            · obtain ⟨cs', h2, rfl, r2, m2, hcn2⟩ := hm
              obtain ⟨A1, c1, rfl, hl1, hl2, hk2, hn2, _⟩ := r2.open_
              simp only []
              refine hK.out _ _ ?_ (fun hS => ?_)
              · obtain ⟨q1, q2, q3, q4⟩ := hS
                exact ⟨cell_kp q1 k1 (by simp; omega), cell_kp q2 k1 (by simp; exact hbf), cell_kp q3 k1 (by simp; omega), cell_kp q4 k1 (by simp; omega)⟩
              refine rg1 11 rfl (by kernel_rfl) (by decide) rfl (fun K hK => ?_)
              go_simp
              refine hK.out _ _ ?_ (fun hS => ?_)
              · obtain ⟨q1, q2, q3, q4⟩ := hS
                exact ⟨cell_alloc q1 _, cell_alloc q2 _, cell_alloc q3 _, cell_alloc q4 _⟩
              refine rgl 12 rfl (by kernel_rfl) (by decide) rfl (fun K hK => ?_)
              have hown1 := own_kp hC.own kq1 (fun q e => own_ge hC.own (by omega))
              have kp1 : Kp (fun q => q = bc) wr (w1.alloc (.cells #[.int .i64 u.k, .int .i64 u.n, .string u.nm, .slice A1 u.ar.length c1] 34)) := kq1.alloc _
              refine app34 _ _ rfl rfl (own_kp hown1 ((Kp.refl (fun _ => False) w1).alloc _) (fun _ hf => hf.elim)) rfl (blk_new _ _) (by unfold lim; omega) (by simp; omega) ?_
              intro sv2 w2 hown2 hg2 hat
              obtain ⟨A2, c2', rfl⟩ := own_form hown2
              have kp2 : Kp (fun q => q = bc ∨ (Value.slice Aw us.length kw).ownBlock = some q) wr w2 := (kp1.mono (T := fun q => q = bc ∨ (Value.slice Aw us.length kw).ownBlock = some q) (fun _ hf => .inl hf)).grown hg2 (fun _ e => .inl (.inr e))
              have kg : Kp (fun q => (Value.slice Aw us.length kw).ownBlock = some q) w1 w2 := ((Kp.refl _ w1).alloc (.cells #[.int .i64 u.k, .int .i64 u.n, .string u.nm, .slice A1 u.ar.length c1] 34)).grown hg2 (fun q e => .inl e)
              have hnb : ∀ q, w.heap.size ≤ q → q < w.heap.size + 3 → ¬ (q = bc ∨ (Value.slice Aw us.length kw).ownBlock = some q) := fun q h1 h2 hq => by
                rcases hq with hq | hq
                · omega
                · exact own_ge hC.own h2 hq
              have g1 := blk_kp hC.b1 kp2 (hnb _ (by omega) (by omega))
              have g2 := blk_kp hC.b2 kp2 (hnb _ (by omega) (by omega))
              have gz := blk_frozen g1 3
              have gl := blk_lt g1
              have gx := blk_cell g1 3
              refine hK.out _ _ ?_
              refine rgp 13 (.pointer (some ⟨w.heap.size, 3, none⟩)) rfl (by kernel_rfl) (fun _ _ _ h => h) rfl (fun W => by go_simp) ?_
              refine rgl 14 rfl (by kernel_rfl) (by decide) rfl (fun K hK => ?_)
              go_simp
              refine hK.out _ _ ?_
              refine rgd (by kernel_rfl) ?_
              go_wp2_with fail
              have s0a : (wr.alloc (.cells #[.string X.nm, .slice A' X.ar.length c'] 36)).drew.heap.size = wr.heap.size + 1 := by simp
              have off1 : Off h2 (fun q => q = bc ∨ (w.heap.size ≤ q ∧ q < w.heap.size + 3) ∨ (Value.slice Aw us.length kw).ownBlock = some q) := m2.off hC.off (fun q hq => by
                rw [s0a]
                rcases hq with hq | hq | hq
                · omega
                · omega
                · have := hC.own.lt _ hq; omega)
              have has2 : Has w2 h2 := m2.has.kp kg ⟨fun x v e hq => off1.at_ x v e (.inr (.inr hq))⟩
              have has3 : Has (w2.setCell ⟨w.heap.size, 3, none⟩ (.slice A2 (us.length + 1) c2')) h2 := has2.set (fun x v e hx => off1.at_ x v e (.inr (.inl (by simp at hx; omega)))) _
              have sw2 := kg.size
              have hcn3 := blk_kp hcn2 kg (own_ge hC.own (by omega))
              refine ⟨⟨us ++ [u], c2, .slice A2 (us.length + 1) c2', _, h2, by simp; omega, by simp, ⟨by simpa using blk_set g1 3 (.slice A2 (us.length + 1) c2'), blk_far g2 (by simp) _, blk_far hcn3 (by simp; omega) _, by rw [List.length_append]; exact own_far hown2 (by simp) _,
                .snoc (hC.ch.imp (fun _ _ q => q.sub m2.sub)) r2 rfl, (hC.made.trans (m2.from_ (by omega)) (by omega)).world has3, (hC.kp.trans kp2 (fun q hq e => ?_)).set (.inr (by simp)) _, ⟨fun x v e hq => ?_⟩⟩, Lib.hid (hs1.out.trans m2.sub), ?_⟩, by simp [intOf]; omega⟩
              · rcases e with e | e
                · exact e
                · exact absurd e (own_ge hC.own (by omega))
              · rcases hq with hq | hq | hq
                · exact off1.at_ x v e (.inl hq)
                · exact off1.at_ x v e (.inr (.inl hq))
                · rcases hat _ hq with hq | hq
                  · exact off1.at_ x v e (.inr (.inr hq))
                  · have := m2.has.lt e
                    simp at hq
                    omega
              · have := hI'.out
                rw [hx] at this
                show _ = _
                simpa using this
          · have hje : us.length = L.length := by omega
            have hje' := Lib.hid hje
            clear hje
            have hfin : Hid (etaL (etaF f) (L.length - 1) C L = some (.inr (us, cj))) := by
              have := hI.out
              rw [hje'.out, List.drop_length, hf0.out, hf2.out] at this
              exact this.symm
            have ho2 : Hid (o = .inr (lamsT L.length (.mk kk N nm us), cj)) := by
              rcases hcs.out with ⟨e, g1, g2⟩ | ⟨vs, c2, g1, g2⟩ <;> rw [hfin.out] at g1 <;> simp at g1
              obtain ⟨rfl, rfl⟩ := g1
              exact Lib.hid g2
            obtain ⟨h2, A2, c2, e2, hn3, hc2', hr3, m3, hn4⟩ := own_Tm (w0 := w) hC.made.has (by omega) hC.own hC.ch
            cases e2
            have rT : TmR h2 (.mk kk N nm us) [.int .i64 kk, .int .i64 N, .string nm, .slice Aw us.length kw] := ⟨Aw, kw, rfl, hc2', by unfold lim; omega, hk, by omega, hr3⟩
            have off2 : Off h2 (fun q => q = bc ∨ (w.heap.size ≤ q ∧ q < w.heap.size + 3)) := ⟨fun x v e hx => by
              rcases hn4 x v e with q | q
              · exact hC.off.at_ x v q (by rcases hx with hx | hx; exact .inl hx; exact .inr (.inl hx))
              · rcases hx with hx | hx
                · exact own_ge hC.own (b := x.block) (by omega) q
                · exact own_ge hC.own (b := x.block) (by omega) q⟩
            have mm2 := hC.made.then_ m3
            clear hn3 hc2' hr3 hn4 m3 hf0 hf1 hfin hcs hI
            go_wp2_with fail
            go_loopw [61] (fun i wr => ∃ j h', j ≤ L.length ∧ i = .int .i64 (j : Nat) ∧ EtT w h bc (.mk kk N nm us) cj j wr h') (fun i _ => L.length - (intOf i).toNat)
            case atStart => exact ⟨0, h2, by omega, rfl, ⟨⟨_, hC.b1, rT⟩, hC.b2, hC.bcn, mm2, hC.kp, off2⟩⟩
            case round =>
              rename_i wr2 _
              obtain ⟨j, h3, hj2, rfl, hE⟩ := hrel
              obtain ⟨cu, hcu, ru⟩ := hE.b1
              have ls1 := blk_lt hE.b2
              have ls3 := blk_lt hE.bcn
              by_cases hlt2 : j < L.length
              · have hlam : lamsT (j + 1) (.mk kk N nm us) = .mk 5 0 ⟨#[]⟩ [lamsT j (.mk kk N nm us)] := rfl
                replace hlam := Lib.hid hlam
                generalize hV : lamsT j (.mk kk N nm us) = V at *
                clear hV
                obtain ⟨A3, c3, rfl, _⟩ := ru.open_
                have x1 := box4 hcu
                have f3 := blk_frozen hcu
                have l3 := blk_lt hcu
                go_wp2_with fail
                obtain ⟨W5, hW5, b5, kp5⟩ : ∃ W5, ((((wr.setCell ⟨w.heap.size, 0, none⟩ (.int .i64 5)).setCell ⟨w.heap.size, 1, none⟩ (.int .i64 0)).setCell ⟨w.heap.size, 2, none⟩ (.string ⟨#[]⟩)).setCell ⟨w.heap.size, 3, none⟩ (.slice (some ⟨wr.heap.size, 0, none⟩) 1 1)) = W5 ∧
                    W5.heap[w.heap.size]? = some (.cells #[.int .i64 5, .int .i64 0, .string ⟨#[]⟩, .slice (some ⟨wr.heap.size, 0, none⟩) 1 1] 34) ∧ Kp (fun q => q = w.heap.size) wr W5 := ⟨_, rfl, (set4 hcu _ _ _ _).1, (set4 hcu _ _ _ _).2⟩
                have s5 : W5.heap.size = wr.heap.size := by rw [← hW5]; simp [World.setCell]
                rw [hW5]
                clear hW5
                have has5 := hE.made.has.kp kp5 ⟨fun x v e hx => hE.off.at_ x v e (.inr (by omega))⟩
                obtain ⟨W6, hW6⟩ : ∃ W6, W5.alloc (.cells #[.int .i64 V.k, .int .i64 V.n, .string V.nm, .slice A3 V.ar.length c3] 34) = W6 := ⟨_, rfl⟩
                have kp6 : Kp (fun q => q = w.heap.size) wr W6 := by rw [← hW6]; exact kp5.alloc _
                have g6 : W6.heap[wr.heap.size]? = some (.cells #[.int .i64 V.k, .int .i64 V.n, .string V.nm, .slice A3 V.ar.length c3] 34) := by rw [← hW6, ← s5]; exact blk_new _ _
                have b6 : W6.heap[w.heap.size]? = some (.cells #[.int .i64 5, .int .i64 0, .string ⟨#[]⟩, .slice (some ⟨wr.heap.size, 0, none⟩) 1 1] 34) := by rw [← hW6]; exact blk_alloc b5 _
                have has6 : Has W6 h3 := by rw [← hW6]; exact has5.alloc _
                rw [hW6]
                clear hW6
                obtain ⟨h4, t4, m5, n5⟩ := one_Tm (w0 := w) has6 g6 ru (by omega)
                refine ⟨⟨j + 1, h4, by omega, by simp, ⟨⟨_, b6, by rw [hlam.out]; exact ⟨_, 1, rfl, by simp, by simp [lim], by omega, by omega, t4⟩⟩, blk_kp hE.b2 kp6 (by omega), blk_kp hE.bcn kp6 (by omega), hE.made.then_ m5, hE.kp.trans kp6 (fun q hq e => by omega), ⟨fun x v e hq => ?_⟩⟩⟩, by simp [intOf]; omega⟩
                rcases n5 x v e with g | g
                · exact hE.off.at_ x v g hq
                · omega
              · have hje2 := Lib.hid (show j = L.length by omega)
                have hV := Lib.hid (show lamsT j (.mk kk N nm us) = lamsT L.length (.mk kk N nm us) by rw [hje2.out])
                generalize hV2 : lamsT j (.mk kk N nm us) = V at *
                clear hV2
                obtain ⟨A3, c3, rfl, _⟩ := ru.open_
                have x1 := box4 hcu
                have x2 := box4 hE.b2
                have f3 := blk_frozen hE.b2
                have l3 := blk_lt hcu
                go_wp2_with fail
                obtain ⟨W5, hW5, b5, kp5⟩ : ∃ W5, ((((wr.setCell ⟨w.heap.size + 1 + 1, 0, none⟩ (.int .i64 V.k)).setCell ⟨w.heap.size + 1 + 1, 1, none⟩ (.int .i64 V.n)).setCell ⟨w.heap.size + 1 + 1, 2, none⟩ (.string V.nm)).setCell ⟨w.heap.size + 1 + 1, 3, none⟩ (.slice A3 V.ar.length c3)) = W5 ∧
                    W5.heap[w.heap.size + 1 + 1]? = some (.cells #[.int .i64 V.k, .int .i64 V.n, .string V.nm, .slice A3 V.ar.length c3] 34) ∧ Kp (fun q => q = w.heap.size + 1 + 1) wr W5 := ⟨_, rfl, (set4 hE.b2 _ _ _ _).1, (set4 hE.b2 _ _ _ _).2⟩
                rw [hW5]
                have x5 := box4 b5
                refine bodyPost_ret (v := .agg #[.int .i64 V.k, .int .i64 V.n, .string V.nm, .slice A3 V.ar.length c3]) (by simp [results, Tryz.results91, go_sem, x5]) rfl ?_
                rw [ho2.out, ← hV.out]
                exact ⟨hE.kp.trans kp5 (fun q hq e => by omega), _, h3, rfl, ru, hE.made.world (hE.made.has.kp kp5 ⟨fun x v e hx => hE.off.at_ x v e (.inr (by omega))⟩), blk_kp hE.bcn kp5 (by omega)⟩
    · have ho2 : o = .inl 2 := by
        rcases hcase'.out with ⟨g, e⟩ | ⟨_, ⟨_, e⟩ | ⟨g, _⟩⟩
        · omega
        · exact e
        · exact absurd g q9
      go_wp2_with fail
      rw [decide_eq_false (p := c + (1 + (L.length : Int)) ≤ 4000) (by omega)]
      refine (must_no _ _).mono ?_
      rintro e w3 ⟨rfl, rfl⟩
      subst ho2
      exact ⟨rfl, kw2, rfl⟩
  · have ho2 : o = .inl 2 := by
      rcases hcase'.out with ⟨_, e⟩ | ⟨g, _⟩
      · exact e
      · omega
    go_wp2_with fail
    rw [decide_eq_false (p := (L.length : Int) ≤ 8) (by omega)]
    refine (must_no _ _).mono ?_
    rintro e w3 ⟨rfl, rfl⟩
    subst ho2
    exact ⟨rfl, Kp.of_below _ kk1, rfl⟩
end Go.Proofs.YtpgbeapojjinmaaGreatDoor
