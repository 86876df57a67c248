/- Readings of the arguments: from the reading of a datum to types, terms and programs as they lie in memory. · What the claims of this seat share: the argument reads behind the call as it did; a world for the witness. · Readings of the structs of the statements: scopes and cases. No law is proved here. -/
import Derived.Test.YtpgbeapojjinmaaGreatDoorMB
import Derived.Test.YtpgbeapojjinmaaGreatDoorRows
import Derived.Deep.Slices
import Derived.WalkKit
import Derived.ProofKit
import Derived.OpenShut
import Derived.Deep.DeepHandedRow
import Derived.Deep.Modes
import Derived.Lib.LaidTab
import Derived.ChangeStays
import Derived.ChangeSame
import Derived.ReadAgain
set_option linter.unusedVariables false
set_option linter.unusedSimpArgs false
namespace Go.Proofs.YtpgbeapojjinmaaGreatDoor
open Go.RowKit Go.Shelf Go.ChangeShapes Go.WideShapes
/-- All that lies in memory. -/
def snapW (w : World) : Snap := fun a => w.cell? a
theorem snapW_has (w : World) : Has w (snapW w) := ⟨fun _ _ e => e⟩
theorem cell_spot {w : World} {a : Addr} {v : Value} (h : w.cell? a = some v) : a = ⟨a.block, a.off, none⟩ := by
  unfold World.cell? at h
  split at h
  · split at h
    · cases h
    · rename_i hs
      obtain ⟨b, o, s⟩ := a
      cases s with
      | none => rfl
      | some x => exact absurd rfl hs
  · cases h
theorem add_off (a : Addr) (i : Nat) (h : a.spot = none) : a.add i = ⟨a.block, a.off + i, none⟩ := by
  obtain ⟨b, o, s⟩ := a
  simp only at h
  subst h
  unfold Addr.add
  split
  · simp_all
  · rfl
/-- The cells of element i of a slice. -/
theorem cells_elem {w : World} {a : Addr} {i n : Nat} {cs : List Value} (h : w.cells? 0 (a.add (i * n)) n = some cs) (hn : 0 < n) (ha : a.spot = none) :
    cs.length = n ∧ ∀ q, q < n → snapW w ⟨a.block, a.off + i * n + q, none⟩ = cs[q]? := by
  obtain ⟨_, hl, hc⟩ := World.cells?_some h
  refine ⟨hl, fun q hq => ?_⟩
  rw [← hc q hq, add_off a _ ha, add_off _ _ rfl]
  rfl
theorem cells_spot {w : World} {a : Addr} {n : Nat} {cs : List Value} (h : w.cells? 0 (a.add (0 * n)) n = some cs) (hn : 0 < n) : a.spot = none := by
  obtain ⟨_, hl, hc⟩ := World.cells?_some h
  have h0 := hc 0 hn
  rw [List.getElem?_eq_getElem (by omega)] at h0
  have := cell_spot h0
  simp [Addr.add] at this
  exact (congrArg Addr.spot this)
theorem choose_list {α β : Type} {P : Nat → α → Prop} {sz : α → Nat} {szL : List α → Nat} {bk : β → Nat} {bkL : List β → Nat} (h0 : szL [] = 0) (hs : ∀ t ts, szL (t :: ts) = sz t + szL ts) (hb : ∀ x l, bkL (x :: l) = bk x + bkL l) :
    ∀ (l : List β) (i : Nat), (∀ j (hj : j < l.length), ∃ t, P (i + j) t ∧ sz t ≤ bk l[j]) → ∃ ts, ts.length = l.length ∧ (∀ j (hj : j < ts.length), P (i + j) ts[j]) ∧ szL ts ≤ bkL l
  | [], i, _ => ⟨[], rfl, fun j hj => by simp at hj, by rw [h0]; omega⟩
  | x :: l, i, H => by
    obtain ⟨t, h1, h2⟩ := H 0 (by simp)
    obtain ⟨ts, g1, g2, g3⟩ := choose_list h0 hs hb l (i + 1) (fun j hj => by
      obtain ⟨t, q1, q2⟩ := H (j + 1) (by simpa using hj)
      exact ⟨t, by rw [show i + 1 + j = i + (j + 1) by omega]; exact q1, by simpa using q2⟩)
    refine ⟨t :: ts, by simp [g1], fun j hj => ?_, by rw [hs, hb]; simp at h2; omega⟩
    match j, hj with
    | 0, _ => exact h1
    | j + 1, hj => rw [show i + (j + 1) = i + 1 + j by omega]; exact g2 j (by simpa using hj)
variable {H : Type} {enc : TypeId × Value → H} {w : World} {sp : Nat → Bool} {hd : Bool}
theorem bulk_pos (d : DataW H) : 1 ≤ Rows.uptoBulk d := by
  cases d with
  | lit l => cases l <;> simp [Rows.uptoBulk]
  | nil => simp [Rows.uptoBulk]
  | ptr d => simp [Rows.uptoBulk]
  | slice elems spare => simp [Rows.uptoBulk]
  | agg parts => simp [Rows.uptoBulk]
  | iface t d => simp [Rows.uptoBulk]
  | map entries => simp [Rows.uptoBulk]
  | held h => simp [Rows.uptoBulk]
theorem bulk_len : ∀ (l : List (DataW H)), l.length ≤ Rows.uptoBulkAll l
  | [] => by simp [Rows.uptoBulkAll]
  | x :: r => by have h1 := bulk_pos x; have h2 := bulk_len r; simp only [Rows.uptoBulkAll, List.length_cons]; omega
theorem read_string {fuel : Nat} {cs : List Value} {x : DataW H × List MemPlace} {t : TypeId} (ht : Tryz.prog.underlying t = some .string) (h : DataW.trod enc Tryz.prog w 0 sp hd fuel t cs = some x) :
    ∃ s : ByteArray, cs = [.string s] ∧ x.1 = .lit (.string s.data.toList) := by
  cases fuel with
  | zero => simp [DataW.trod] at h
  | succ n =>
    unfold DataW.trod at h
    rw [ht] at h
    split at h <;> simp_all
    obtain ⟨_, rfl⟩ := h
    rfl
theorem read_int {fuel : Nat} {cs : List Value} {x : DataW H × List MemPlace} {t : TypeId} {k : IntKind} (ht : Tryz.prog.underlying t = some (.int k)) (h : DataW.trod enc Tryz.prog w 0 sp hd fuel t cs = some x) :
    ∃ n : Int, cs = [.int k n] ∧ (Lit.int k n).wf = true ∧ x.1 = .lit (.int k n) := by
  cases fuel with
  | zero => simp [DataW.trod] at h
  | succ n =>
    unfold DataW.trod at h
    rw [ht] at h
    split at h <;> simp_all
    obtain ⟨_, rfl⟩ := h
    rfl
/-- A slice whose elements are read, by a relation that holds of each. -/
theorem read_slice {α : Type} {R : Snap → α → List Value → Prop} {sz : α → Nat} {szL : List α → Nat} {n fuel : Nat} {t e : TypeId} {cs : List Value} {x : DataW H × List MemPlace} (h0 : szL [] = 0) (hs : ∀ t ts, szL (t :: ts) = sz t + szL ts) (ht : Tryz.prog.underlying t = some (.slice e)) (hc : Tryz.prog.cellsOf e = n) (hn : 0 < n)
    (ih : ∀ m, fuel = m + 1 → ∀ (cs : List Value) (x : DataW H × List MemPlace), DataW.trod enc Tryz.prog w 0 sp hd m e cs = some x → Rows.uptoBulk x.1 ≤ 1048576 → ∃ t, R (snapW w) t cs ∧ sz t ≤ Rows.uptoBulk x.1)
    (h : DataW.trod enc Tryz.prog w 0 sp hd fuel t cs = some x) (hbk : Rows.uptoBulk x.1 ≤ 1048576) :
    ∃ (A : Option Addr) (ts : List α) (cap : Nat), cs = [.slice A ts.length cap] ∧ ts.length ≤ cap ∧ ts.length ≤ 1048576 ∧ szL ts + 1 ≤ Rows.uptoBulk x.1 ∧ (ts ≠ [] → ∃ b o, A = some ⟨b, o, none⟩) ∧
      ∀ j (hj : j < ts.length), ∃ b o cs', A = some ⟨b, o, none⟩ ∧ cs'.length = n ∧ (∀ q, q < n → snapW w ⟨b, o + j * n + q, none⟩ = cs'[q]?) ∧ R (snapW w) ts[j] cs' := by
  rcases DataW.trod_slice ht h with ⟨rfl, rfl⟩ | ⟨a, len, cap, elems, rest, m, hfu, rfl, rfl, hb, hl, hm, hlen, hel, hsp, hns⟩
  · exact ⟨none, [], 0, rfl, by simp, by simp, by rw [h0]; simp [Rows.uptoBulk], fun h => absurd rfl h, fun j hj => by simp at hj⟩
  · simp only [Rows.uptoBulk] at hbk ⊢
    have hlm : elems.length ≤ Rows.uptoBulkAll (elems.map (·.1)) := by simpa using bulk_len (elems.map (·.1))
    have hpt : ∀ j (hj : j < elems.length), ∃ cs', w.cells? 0 (a.add (j * n)) n = some cs' ∧ DataW.trod enc Tryz.prog w 0 sp hd m e cs' = some elems[j] := fun j hj => by
      have := hel j (by omega)
      rw [hc, List.getElem?_eq_getElem hj] at this
      exact Option.bind_eq_some_iff.1 this
    have hbj : ∀ j (hj : j < elems.length), Rows.uptoBulk elems[j].1 ≤ Rows.uptoBulkAll (elems.map (·.1)) := fun j hj => by
      have hmem : elems[j].1 ∈ elems.map (·.1) := List.mem_map_of_mem (List.getElem_mem hj)
      generalize elems.map (·.1) = l at hmem
      induction l with
      | nil => cases hmem
      | cons y r ih =>
        simp only [Rows.uptoBulkAll]
        cases List.mem_cons.1 hmem with
        | inl e => rw [← e]; omega
        | inr e => have := ih e; omega
    obtain ⟨ts, g1, g2, g3⟩ := choose_list (P := fun j t => ∃ cs', w.cells? 0 (a.add (j * n)) n = some cs' ∧ R (snapW w) t cs') (sz := sz) (szL := szL) (bk := fun (y : DataW H × List MemPlace) => Rows.uptoBulk y.1) (bkL := fun l => Rows.uptoBulkAll (l.map (·.1))) h0 hs (fun y l => by simp [Rows.uptoBulkAll]) elems 0 (fun j hj => by
      obtain ⟨cs', q1, q2⟩ := hpt j hj
      obtain ⟨t, r1, r2⟩ := ih m hfu cs' _ q2 (by have := hbj j hj; omega)
      exact ⟨t, ⟨cs', by simpa using q1, r1⟩, r2⟩)
    have hsp0 : 0 < elems.length → a.spot = none := fun h => by
      obtain ⟨cs', q1, _⟩ := hpt 0 h
      exact cells_spot q1 hn
    refine ⟨some a, ts, cap, by rw [g1, hlen], by omega, by omega, by have h9 : szL ts ≤ Rows.uptoBulkAll (elems.map (·.1)) := g3; omega, fun h => ?_, fun j hj => ?_⟩
    · have := hsp0 (by cases ts with | nil => exact absurd rfl h | cons => simp at g1; omega)
      obtain ⟨b, o, s⟩ := a
      simp only at this
      subst this
      exact ⟨b, o, rfl⟩
    · obtain ⟨cs', q1, q2⟩ := g2 j hj
      have hs := hsp0 (by omega)
      rw [Nat.zero_add] at q1
      obtain ⟨r1, r2⟩ := cells_elem q1 hn hs
      obtain ⟨b, o, s⟩ := a
      simp only at hs
      subst hs
      exact ⟨b, o, cs', rfl, r1, r2, q2⟩
theorem cells36 : Tryz.prog.cellsOf 36 = 2 := by kernel_rfl
theorem cells34 : Tryz.prog.cellsOf 34 = 4 := by kernel_rfl
theorem cells9 : Tryz.prog.cellsOf 9 = 1 := by kernel_rfl
theorem cells29 : Tryz.prog.cellsOf 29 = 1 := by kernel_rfl
theorem cells32 : Tryz.prog.cellsOf 32 = 1 := by kernel_rfl
theorem cells3 : Tryz.prog.cellsOf 3 = 1 := by kernel_rfl
set_option maxRecDepth 100000 in
/-- A type is read. -/
theorem read_Ty : ∀ (fuel : Nat) (cs : List Value) (x : DataW H × List MemPlace), DataW.trod enc Tryz.prog w 0 sp hd fuel 36 cs = some x → Rows.uptoBulk x.1 ≤ 1048576 → ∃ t, TyR (snapW w) t cs ∧ t.sz ≤ Rows.uptoBulk x.1 := by
  intro fuel
  induction fuel using Nat.strongRecOn with
  | ind fuel ih =>
  intro cs x h hbk
  obtain ⟨xs, m, rfl, rfl, hl, hlen, hf⟩ := DataW.trod_struct Tryz.underlying36 h
  rw [cells36] at hl
  match cs, hl, xs, hlen with
  | [c0, c1], _, [y0, y1], _ =>
    have f0 := hf 0 _ rfl
    have f1 := hf 1 _ rfl
    simp [cells9, cells29] at f0 f1
    obtain ⟨s, e0, e1⟩ := read_string Tryz.underlying9 f0
    simp only [List.cons.injEq, and_true] at e0
    subst e0
    simp [Rows.uptoBulk, Rows.uptoBulkAll] at hbk
    obtain ⟨A, ts, cap, e2, h1, h2, h3, _, h5⟩ := read_slice (R := TyR) (sz := Ty.sz) (szL := Ty.szL) rfl (fun _ _ => by rw [Ty.szL]) Tryz.underlying29 cells36 (by omega) (fun k hk => ih k (by omega)) f1 (by omega)
    simp only [List.cons.injEq, and_true] at e2
    subst e2
    refine ⟨.mk s ts, ⟨A, cap, rfl, h1, by unfold lim; omega, TyL.mk (fun j hj => ?_)⟩, by simp [Rows.uptoBulk, Rows.uptoBulkAll, Ty.sz]; omega⟩
    obtain ⟨b, o, cs', q1, q2, q3, q4⟩ := h5 j hj
    match cs', q2 with
    | [v0, v1], _ => exact ⟨b, o, v0, v1, q1, by simpa using q3 0 (by omega), by simpa using q3 1 (by omega), q4⟩
set_option maxRecDepth 100000 in
theorem read_TyS {fuel : Nat} {cs : List Value} {x : DataW H × List MemPlace} (h : DataW.trod enc Tryz.prog w 0 sp hd fuel 29 cs = some x) (hbk : Rows.uptoBulk x.1 ≤ 1048576) : ∃ ts v, cs = [v] ∧ TyS (snapW w) ts v ∧ Ty.szL ts + 1 ≤ Rows.uptoBulk x.1 := by
  obtain ⟨A, ts, cap, e2, h1, h2, h3, _, h5⟩ := read_slice (R := TyR) (sz := Ty.sz) (szL := Ty.szL) rfl (fun _ _ => by rw [Ty.szL]) Tryz.underlying29 cells36 (by omega) (fun k hk => read_Ty k) h hbk
  refine ⟨ts, _, e2, ⟨A, cap, rfl, h1, by unfold lim; omega, TyL.mk (fun j hj => ?_)⟩, h3⟩
  obtain ⟨b, o, cs', q1, q2, q3, q4⟩ := h5 j hj
  match cs', q2 with
  | [v0, v1], _ => exact ⟨b, o, v0, v1, q1, by simpa using q3 0 (by omega), by simpa using q3 1 (by omega), q4⟩
set_option maxRecDepth 100000 in
/-- A term is read. -/
theorem read_Tm : ∀ (fuel : Nat) (cs : List Value) (x : DataW H × List MemPlace), DataW.trod enc Tryz.prog w 0 sp hd fuel 34 cs = some x → Rows.uptoBulk x.1 ≤ 1048576 → ∃ t, TmR (snapW w) t cs ∧ t.sz ≤ Rows.uptoBulk x.1 := by
  intro fuel
  induction fuel using Nat.strongRecOn with
  | ind fuel ih =>
  intro cs x h hbk
  obtain ⟨xs, m, rfl, rfl, hl, hlen, hf⟩ := DataW.trod_struct Tryz.underlying34 h
  rw [cells34] at hl
  match cs, hl, xs, hlen with
  | [c0, c1, c2, c3], _, [y0, y1, y2, y3], _ =>
    have f0 := hf 0 _ rfl
    have f1 := hf 1 _ rfl
    have f2 := hf 2 _ rfl
    have f3 := hf 3 _ rfl
    simp [cells9, cells32, cells3] at f0 f1 f2 f3
    obtain ⟨k, e0, w0, _⟩ := read_int Tryz.underlying3 f0
    obtain ⟨n, e1, w1, _⟩ := read_int Tryz.underlying3 f1
    obtain ⟨s, e2, _⟩ := read_string Tryz.underlying9 f2
    simp only [List.cons.injEq, and_true] at e0 e1 e2
    subst e0 e1 e2
    simp [Rows.uptoBulk, Rows.uptoBulkAll] at hbk
    obtain ⟨A, ts, cap, e3, h1, h2, h3, _, h5⟩ := read_slice (R := TmR) (sz := Tm.sz) (szL := Tm.szL) rfl (fun _ _ => by rw [Tm.szL]) Tryz.underlying32 cells34 (by omega) (fun k hk => ih k (by omega)) f3 (by omega)
    simp only [List.cons.injEq, and_true] at e3
    subst e3
    simp [Lit.wf, IntKind.min, IntKind.max, IntKind.bits, IntKind.signed] at w0 w1
    refine ⟨.mk k n s ts, ⟨A, cap, rfl, h1, by unfold lim; omega, by omega, by omega, TmL.mk (fun j hj => ?_)⟩, by simp [Rows.uptoBulk, Rows.uptoBulkAll, Tm.sz]; omega⟩
    obtain ⟨b, o, cs', q1, q2, q3, q4⟩ := h5 j hj
    match cs', q2 with
    | [v0, v1, v2, v3], _ => exact ⟨b, o, v0, v1, v2, v3, q1, by simpa using q3 0 (by omega), by simpa using q3 1 (by omega), by simpa using q3 2 (by omega), by simpa using q3 3 (by omega), q4⟩
set_option maxRecDepth 100000 in
theorem read_TmS {fuel : Nat} {cs : List Value} {x : DataW H × List MemPlace} (h : DataW.trod enc Tryz.prog w 0 sp hd fuel 32 cs = some x) (hbk : Rows.uptoBulk x.1 ≤ 1048576) : ∃ ts v, cs = [v] ∧ TmS (snapW w) ts v ∧ Tm.szL ts + 1 ≤ Rows.uptoBulk x.1 := by
  obtain ⟨A, ts, cap, e2, h1, h2, h3, _, h5⟩ := read_slice (R := TmR) (sz := Tm.sz) (szL := Tm.szL) rfl (fun _ _ => by rw [Tm.szL]) Tryz.underlying32 cells34 (by omega) (fun k hk => read_Tm k) h hbk
  refine ⟨ts, _, e2, ⟨A, cap, rfl, h1, by unfold lim; omega, TmL.mk (fun j hj => ?_)⟩, h3⟩
  obtain ⟨b, o, cs', q1, q2, q3, q4⟩ := h5 j hj
  match cs', q2 with
  | [v0, v1, v2, v3], _ => exact ⟨b, o, v0, v1, v2, v3, q1, by simpa using q3 0 (by omega), by simpa using q3 1 (by omega), by simpa using q3 2 (by omega), by simpa using q3 3 (by omega), q4⟩
/-- A slice of strings is read. -/
theorem read_StS {fuel : Nat} {cs : List Value} {x : DataW H × List MemPlace} (h : DataW.trod enc Tryz.prog w 0 sp hd fuel 22 cs = some x) (hbk : Rows.uptoBulk x.1 ≤ 1048576) : ∃ ss v, cs = [v] ∧ StS (snapW w) ss v := by
  obtain ⟨A, ts, cap, e2, h1, h2, h3, _, h5⟩ := read_slice (R := fun _ (s : ByteArray) cs => cs = [.string s]) (sz := fun _ => 0) (szL := fun _ => 0) rfl (fun _ _ => rfl) Tryz.underlying22 cells9 (by omega) (fun k hk cs x hx hb => by
    obtain ⟨s, e, _⟩ := read_string Tryz.underlying9 hx
    exact ⟨s, e, Nat.zero_le _⟩) h hbk
  refine ⟨ts, _, e2, A, cap, rfl, h1, by unfold lim; omega, fun j hj => ?_⟩
  obtain ⟨b, o, cs', q1, q2, q3, q4⟩ := h5 j hj
  refine ⟨b, o, q1, ?_⟩
  have := q3 0 (by omega)
  rw [q4] at this
  simpa using this
theorem cells105 : Tryz.prog.cellsOf 105 = 3 := by kernel_rfl
theorem cells22 : Tryz.prog.cellsOf 22 = 1 := by kernel_rfl
theorem cells23 : Tryz.prog.cellsOf 23 = 1 := by kernel_rfl
theorem cells28 : Tryz.prog.cellsOf 28 = 5 := by kernel_rfl
theorem cells31 : Tryz.prog.cellsOf 31 = 3 := by kernel_rfl
set_option maxRecDepth 100000 in
/-- A constant is read. -/
theorem read_Co {fuel : Nat} {cs : List Value} {x : DataW H × List MemPlace} (h : DataW.trod enc Tryz.prog w 0 sp hd fuel 105 cs = some x) (hbk : Rows.uptoBulk x.1 ≤ 1048576) :
    ∃ c : ByteArray × Ty, (∃ A k, cs = [.string c.1, .string c.2.nm, .slice A c.2.ar.length k] ∧ TyR (snapW w) c.2 [.string c.2.nm, .slice A c.2.ar.length k]) ∧ c.2.sz ≤ Rows.uptoBulk x.1 := by
  obtain ⟨xs, m, rfl, rfl, hl, hlen, hf⟩ := DataW.trod_struct Tryz.underlying105 h
  rw [cells105] at hl
  match cs, hl, xs, hlen with
  | [c0, c1, c2], _, [y0, y1], _ =>
    have f0 := hf 0 _ rfl
    have f1 := hf 1 _ rfl
    simp [cells9, cells36] at f0 f1
    obtain ⟨s, e0, _⟩ := read_string Tryz.underlying9 f0
    simp only [List.cons.injEq, and_true] at e0
    subst e0
    simp [Rows.uptoBulk, Rows.uptoBulkAll] at hbk
    obtain ⟨t, r, hz⟩ := read_Ty _ _ _ f1 (by omega)
    obtain ⟨A, k, e, _⟩ := r.open_
    simp only [List.cons.injEq, and_true] at e
    obtain ⟨rfl, rfl⟩ := e
    exact ⟨(s, t), ⟨A, k, rfl, r⟩, by simp [Rows.uptoBulk, Rows.uptoBulkAll]; omega⟩
theorem read_CoS {fuel : Nat} {cs : List Value} {x : DataW H × List MemPlace} (h : DataW.trod enc Tryz.prog w 0 sp hd fuel 23 cs = some x) (hbk : Rows.uptoBulk x.1 ≤ 1048576) : ∃ l v, cs = [v] ∧ CoS (snapW w) l v := by
  obtain ⟨A, ts, cap, e2, h1, h2, h3, _, h5⟩ := read_slice (R := fun h (c : ByteArray × Ty) cs => ∃ A k, cs = [.string c.1, .string c.2.nm, .slice A c.2.ar.length k] ∧ TyR h c.2 [.string c.2.nm, .slice A c.2.ar.length k]) (sz := fun _ => 0) (szL := fun _ => 0) rfl (fun _ _ => rfl) Tryz.underlying23 cells105 (by omega) (fun k hk cs x hx hb => by
    obtain ⟨c, r, _⟩ := read_Co hx hb
    exact ⟨c, r, Nat.zero_le _⟩) h hbk
  refine ⟨ts, _, e2, A, cap, rfl, h1, by unfold lim; omega, fun j hj => ?_⟩
  obtain ⟨b, o, cs', q1, q2, q3, A', k, q4, q5⟩ := h5 j hj
  have g0 := q3 0 (by omega)
  have g1 := q3 1 (by omega)
  have g2 := q3 2 (by omega)
  rw [q4] at g0 g1 g2
  exact ⟨b, o, A', k, q1, by simpa using g0, by simpa using g1, by simpa using g2, q5⟩
/-- A slice of whatever is read as a slice. -/
theorem read_any {fuel : Nat} {t e : TypeId} {cs : List Value} {x : DataW H × List MemPlace} (ht : Tryz.prog.underlying t = some (.slice e)) (h : DataW.trod enc Tryz.prog w 0 sp hd fuel t cs = some x) : ∃ A n c, cs = [.slice A n c] := by
  rcases DataW.trod_slice ht h with ⟨rfl, _⟩ | ⟨a, len, cap, elems, rest, m, _, rfl, _⟩
  · exact ⟨_, _, _, rfl⟩
  · exact ⟨_, _, _, rfl⟩
set_option maxRecDepth 100000 in
/-- A program is read. -/
theorem read_Pg {fuel : Nat} {cs : List Value} {x : DataW H × List MemPlace} (h : DataW.trod enc Tryz.prog w 0 sp hd fuel 28 cs = some x) (hbk : Rows.uptoBulk x.1 ≤ 1048576) : ∃ p, PgR (snapW w) p cs := by
  obtain ⟨xs, m, rfl, rfl, hl, hlen, hf⟩ := DataW.trod_struct Tryz.underlying28 h
  rw [cells28] at hl
  match cs, hl, xs, hlen with
  | [c0, c1, c2, c3, c4], _, [y0, y1, y2, y3, y4], _ =>
    have f0 := hf 0 _ rfl
    have f1 := hf 1 _ rfl
    have f2 := hf 2 _ rfl
    have f3 := hf 3 _ rfl
    have f4 := hf 4 _ rfl
    have k24 : Tryz.prog.cellsOf 24 = 1 := by kernel_rfl
    have k25 : Tryz.prog.cellsOf 25 = 1 := by kernel_rfl
    have k26 : Tryz.prog.cellsOf 26 = 1 := by kernel_rfl
    simp [cells22, cells23, k24, k25, k26] at f0 f1 f2 f3 f4
    simp [Rows.uptoBulk, Rows.uptoBulkAll] at hbk
    obtain ⟨ss, v0, e0, r0⟩ := read_StS f0 (by omega)
    obtain ⟨l, v1, e1, r1⟩ := read_CoS f1 (by omega)
    obtain ⟨A2, n2, z2, e2⟩ := read_any Tryz.underlying24 f2
    obtain ⟨A3, n3, z3, e3⟩ := read_any Tryz.underlying25 f3
    obtain ⟨A4, n4, z4, e4⟩ := read_any Tryz.underlying26 f4
    simp only [List.cons.injEq, and_true] at e0 e1 e2 e3 e4
    subst e0 e1 e2 e3 e4
    exact ⟨⟨ss, l⟩, _, _, A2, n2, z2, A3, n3, z3, A4, n4, z4, rfl, r0, r1⟩
end Go.Proofs.YtpgbeapojjinmaaGreatDoor
namespace Go.Proofs.YtpgbeapojjinmaaGreatDoor
open Go.ChangeShapes Go.WideShapes Go.ChangeAt Go.RowKit Go.Deep
theorem ownT : ownKnob Tryz.prog.godebug = none := by kernel_rfl
theorem kidsT : Kids Tryz.prog (· < Tryz.prog.types.size) := kids_rows (by kernel_rfl) (by kernel_rfl)
theorem fullT : ∀ t e, t < Tryz.prog.types.size → Tryz.prog.underlying t = some (.slice e) → 0 < Tryz.prog.cellsOf e := slices_full_of Tryz.prog (by kernel_rfl)
section
variable {H : Type} {enc : TypeId × Value → H}
theorem same_below {W W' : World} (k : Below W.heap.size W W') {p : MemPlace} (hp : p.block < W.heap.size) : W.sameAt W' p := by
  cases p with
  | cell b off => exact k.cell (p := ⟨b, off, none⟩) hp
  | map b => exact k.block b hp
/-- What was read reads behind the call as it did. -/
theorem stays_all {W W' : World} (k : Below W.heap.size W W') {sp : Nat → Bool} : ∀ {ts : List TypeId} {vs : List Value} {ds : List (DataW H)} {ps : List MemPlace}, (∀ t ∈ ts, t < Tryz.prog.types.size) → DataW.TrodAll enc Tryz.prog W 0 (fun _ => true) true ts vs ds ps → (∀ p ∈ ps, p.block < W.heap.size) → (∀ p ∈ ps, sp p.block = true) → DataW.TrodAll enc Tryz.prog W' 0 sp true ts vs ds ps
  | [], [], [], _, _, h, _, _ => h
  | t :: ts, v :: vs, d :: ds, ps, hT, ⟨p, q, ⟨n, h1⟩, h2, e⟩, hlt, hs =>
    ⟨p, q, ⟨n, DataW.trod_stays kidsT (fun hT he => fullT _ _ hT he) (fun h => by cases h) (hT t (by simp)) h1 (fun x hx => same_below k (hlt x (by rw [e]; exact List.mem_append_left _ hx))) (fun x hx => hs x (by rw [e]; exact List.mem_append_left _ hx))⟩,
      stays_all k (fun u hu => hT u (by simp [hu])) h2 (fun x hx => hlt x (by rw [e]; exact List.mem_append_right _ hx)) (fun x hx => hs x (by rw [e]; exact List.mem_append_right _ hx)), e⟩
set_option maxRecDepth 100000 in
/-- A law that returns true, and leaves what was there as it was. -/
theorem post_true {f : Func} {s : ChangeSpec} {W W' : World} {args : Array Value} {ds gs : List (DataW H)} {before : List MemPlace} (hW : DataW.Whole enc Tryz.prog f.params.toList s.vars false W args.toList ds gs before) (hvars : s.vars = []) (hres : f.resultTypes = #[4])
    (hfn : s.fn H (ds ++ gs) = { results := [.lit (.bool true)], args := ds, vars := [] }) (hT : ∀ t ∈ f.params.toList, t < Tryz.prog.types.size) (hb : Below W.heap.size W W') : s.post enc Tryz.prog f false true false false W args (.bool true) W' := by
  have hlt := hW.lt
  have hW' := hW
  obtain ⟨p, q, hA, hV, rfl, hfz, hnd⟩ := hW
  rw [hvars] at hV
  obtain ⟨rfl, rfl⟩ := trodVars_none hV
  have hold : ∀ x ∈ p ++ [], (fun b => decide (b < W.heap.size)) x.block = true := fun x hx => by simpa using hlt x hx
  have rr : ∀ (b : Nat) (sp : Nat → Bool) (hd : Bool), DataW.TrodAll enc Tryz.prog W' b sp hd f.resultTypes.toList ((Value.bool true).resultList f.resultTypes.size) (s.fn H (ds ++ [])).results [] := fun b sp hd => by
    rw [hfn, hres]
    exact trodAll_mk1 (shut_bool Tryz.underlying4 _)
  have ra : ∀ sp : Nat → Bool, (∀ x ∈ p ++ [], sp x.block = true) → DataW.TrodAll enc Tryz.prog W' 0 sp true f.params.toList args.toList (s.fn H (ds ++ [])).args p := fun sp hsp => by
    rw [hfn]
    exact stays_all hb hT hA (fun x hx => hlt x (by simpa using hx)) (fun x hx => hsp x (by simpa using hx))
  have rv : ∀ sp : Nat → Bool, DataW.TrodVars enc Tryz.prog W' sp s.vars (s.fn H (ds ++ [])).vars [] := fun sp => by
    rw [hfn, hvars]; rfl
  refine ⟨ds, [], p ++ [], [], p, [], hW', rr _ _ _, ra _ hold, rv _, World.keptBut_mono (fun x hx => ⟨hx, .inr (by simpa using hx)⟩) (hb.frame (· ∈ p ++ [])), fun _ => ?_⟩
  refine ⟨ok_one hres rfl (okWide_bool_mk Tryz.underlying4 _), _, _, ([] ++ p) ++ [], ⟨[] ++ p, [], trodAll_append (ra _ (fun _ _ => rfl)) (rr _ _ _), rv _, rfl, ?_, ?_⟩, ?_⟩
  · intro b off hp
    have hin : MemPlace.cell b off ∈ p ++ [] := by simpa using hp
    rw [hb.frozen (hlt _ hin)]
    exact hfz b off hin
  · intro ha
    cases ha
  · intro x hx _
    simpa using hx
end
/-- A block with other cells. -/
def layObj (c : Array Value) : Obj → Obj
  | .cells _ t frozen => .cells c t frozen
  | o => o
def tab32 : Array Value := #[.int .u8 0, .int .u8 1, .int .u8 28, .int .u8 2, .int .u8 29, .int .u8 14, .int .u8 24, .int .u8 3, .int .u8 30, .int .u8 22, .int .u8 20, .int .u8 15, .int .u8 25, .int .u8 17, .int .u8 4, .int .u8 8, .int .u8 31, .int .u8 27, .int .u8 13, .int .u8 23, .int .u8 21, .int .u8 19, .int .u8 16, .int .u8 7, .int .u8 26, .int .u8 12, .int .u8 18, .int .u8 6, .int .u8 11, .int .u8 5, .int .u8 10, .int .u8 9]
def tab64 : Array Value := #[.int .u8 0, .int .u8 1, .int .u8 56, .int .u8 2, .int .u8 57, .int .u8 49, .int .u8 28, .int .u8 3, .int .u8 61, .int .u8 58, .int .u8 42, .int .u8 50, .int .u8 38, .int .u8 29, .int .u8 17, .int .u8 4, .int .u8 62, .int .u8 47, .int .u8 59, .int .u8 36, .int .u8 45, .int .u8 43, .int .u8 51, .int .u8 22, .int .u8 53, .int .u8 39, .int .u8 33, .int .u8 30, .int .u8 24, .int .u8 18, .int .u8 12, .int .u8 5, .int .u8 63, .int .u8 55, .int .u8 48, .int .u8 27, .int .u8 60, .int .u8 41, .int .u8 37, .int .u8 16, .int .u8 46, .int .u8 35, .int .u8 44, .int .u8 21, .int .u8 52, .int .u8 32, .int .u8 23, .int .u8 11, .int .u8 54, .int .u8 26, .int .u8 40, .int .u8 15, .int .u8 34, .int .u8 20, .int .u8 31, .int .u8 10, .int .u8 25, .int .u8 14, .int .u8 19, .int .u8 9, .int .u8 13, .int .u8 8, .int .u8 7, .int .u8 6]
def tab10 : Array Value := #[.int .u64 1, .int .u64 10, .int .u64 100, .int .u64 1000, .int .u64 10000, .int .u64 100000, .int .u64 1000000, .int .u64 10000000, .int .u64 100000000, .int .u64 1000000000, .int .u64 10000000000, .int .u64 100000000000, .int .u64 1000000000000, .int .u64 10000000000000, .int .u64 100000000000000, .int .u64 1000000000000000, .int .u64 10000000000000000, .int .u64 100000000000000000, .int .u64 1000000000000000000, .int .u64 10000000000000000000]
/-- The settled world, with the three tables as their initialisers lay them. -/
noncomputable def laidW (os : Os) : World :=
  { World.holding Tryz.prog os ⟨#[], #[], []⟩ with heap := (((World.holding Tryz.prog os ⟨#[], #[], []⟩).heap.modify 4 (layObj tab32)).modify 5 (layObj tab64)).modify 1 (layObj tab10) }
end Go.Proofs.YtpgbeapojjinmaaGreatDoor
namespace Go.Proofs.YtpgbeapojjinmaaGreatDoor
open Go.RowKit Go.Shelf Go.ChangeShapes Go.WideShapes
variable {H : Type} {enc : TypeId × Value → H} {w : World} {sp : Nat → Bool} {hd : Bool}
theorem read_TyS1 {fuel : Nat} {c : Value} {x : DataW H × List MemPlace} (h : DataW.trod enc Tryz.prog w 0 sp hd fuel 29 [c] = some x) (hbk : Rows.uptoBulk x.1 ≤ 1048576) : ∃ ts, TyS (snapW w) ts c := by
  obtain ⟨ts, v, e, r, _⟩ := read_TyS h hbk
  simp only [List.cons.injEq, and_true] at e
  subst e
  exact ⟨ts, r⟩
set_option maxRecDepth 100000 in
/-- A scope is read. -/
theorem read_Sc {fuel : Nat} {cs : List Value} {x : DataW H × List MemPlace} (h : DataW.trod enc Tryz.prog w 0 sp hd fuel 31 cs = some x) (hbk : Rows.uptoBulk x.1 ≤ 1048576) : ∃ s, ScR (snapW w) s cs := by
  obtain ⟨xs, m, rfl, rfl, hl, hlen, hf⟩ := DataW.trod_struct Tryz.underlying31 h
  rw [cells31] at hl
  match cs, hl, xs, hlen with
  | [c0, c1, c2], _, [y0, y1, y2], _ =>
    have f0 := hf 0 _ rfl
    have f1 := hf 1 _ rfl
    have f2 := hf 2 _ rfl
    simp [cells29] at f0 f1 f2
    simp [Rows.uptoBulk, Rows.uptoBulkAll] at hbk
    obtain ⟨t0, r0⟩ := read_TyS1 f0 (by omega)
    obtain ⟨t1, r1⟩ := read_TyS1 f1 (by omega)
    obtain ⟨t2, r2⟩ := read_TyS1 f2 (by omega)
    exact ⟨⟨t0, t1, t2⟩, _, _, _, rfl, r0, r1, r2⟩
theorem cells38 : Tryz.prog.cellsOf 38 = 14 := by kernel_rfl
set_option maxRecDepth 100000 in
/-- A case is read. -/
theorem read_Case {fuel : Nat} {cs : List Value} {x : DataW H × List MemPlace} (h : DataW.trod enc Tryz.prog w 0 sp hd fuel 38 cs = some x) (hbk : Rows.uptoBulk x.1 ≤ 1048576) :
    ∃ p s t ty ps ss ct cy, cs = ps ++ ss ++ ct ++ cy ∧ cs.length = 14 ∧ PgR (snapW w) p ps ∧ ScR (snapW w) s ss ∧ TmR (snapW w) t ct ∧ TyR (snapW w) ty cy := by
  obtain ⟨xs, m, rfl, rfl, hl, hlen, hf⟩ := DataW.trod_struct Tryz.underlying38 h
  rw [cells38] at hl
  match cs, hl, xs, hlen with
  | [c0, c1, c2, c3, c4, c5, c6, c7, c8, c9, c10, c11, c12, c13], _, [y0, y1, y2, y3], _ =>
    have f0 := hf 0 _ rfl
    have f1 := hf 1 _ rfl
    have f2 := hf 2 _ rfl
    have f3 := hf 3 _ rfl
    simp [cells28, cells31, cells34, cells36] at f0 f1 f2 f3
    simp [Rows.uptoBulk, Rows.uptoBulkAll] at hbk
    obtain ⟨p, r0⟩ := read_Pg f0 (by omega)
    obtain ⟨s, r1⟩ := read_Sc f1 (by omega)
    obtain ⟨t, r2, _⟩ := read_Tm _ _ _ f2 (by omega)
    obtain ⟨ty, r3, _⟩ := read_Ty _ _ _ f3 (by omega)
    exact ⟨p, s, t, ty, _, _, _, _, rfl, rfl, r0, r1, r2, r3⟩
end Go.Proofs.YtpgbeapojjinmaaGreatDoor
