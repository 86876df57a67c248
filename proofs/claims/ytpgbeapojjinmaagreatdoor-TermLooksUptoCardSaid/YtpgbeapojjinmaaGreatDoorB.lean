/- Own library of the seat: a region that draws its order, step by step (over the print's word 'Last'). No law is proved here. -/
import Derived.Test.YtpgbeapojjinmaaGreatDoorA
import Derived.Test.YtpgbeapojjinmaaGreatDoorWLast
set_option linter.unusedVariables false
set_option linter.unusedSimpArgs false
namespace Go.Proofs.YtpgbeapojjinmaaGreatDoor
open Go.RowKit Go.Proofs.YtpgbeapojjinmaaGreatDoorW.PrintLast
section
variable {ops : Array Oper} {Q : Exit → Act → World → Prop} {S : World → Prop} {ds : List Nat} {a : Act} {w : World} {l : Array Bool} {fuel : Nat}
theorem rgs {id : Nat} (n : Nat) (S : World → Prop) (ds : List Nat) (hn : ops.size = n) (hS : S w.drew)
    (h : S w.drew → wpAnyLast Tryz.prog .any ops Q S ds n (Array.replicate n false) a w.drew) : (Code.region id ops true).wp Tryz.prog Q a w :=
  start_ (Array.replicate n false) (by kernel_rfl) hn rfl hS h
/-- A read (or what yields whatever the world): number i is taken first. -/
theorem rgt (i : Nat) (v : Value) {oi : Oper} (hi : ops[i]? = some oi) (hc : takeB .any ops ds l (l.setIfInBounds i true) i = true) (hQ : ∀ c a w, Q (.panic c) (a.put oi.dst v) w → Q (.panic c) a w)
    (hw : Region.wanted oi (yielded ops a.tmps) = true) (hS : S w) (hr : ∀ w, S w → (execOp a.eval oi).run Tryz.prog w = .ok (.value v) w)
    (h : wpAnyLast Tryz.prog .any ops Q S ds fuel (l.setIfInBounds i true) (a.put oi.dst v) w) : wpAnyLast Tryz.prog .any ops Q S ds (fuel + 1) l a w :=
  take_ (l.setIfInBounds i true) hi rfl hc hQ (.inl ⟨hw, hr⟩) hS rfl h
/-- The same behind operations of ds: it yields in every world. -/
theorem rgp (i : Nat) (v : Value) {oi : Oper} (hi : ops[i]? = some oi) (hc : anyB .any ops l (l.setIfInBounds i true) i = true) (hQ : ∀ c a w, Q (.panic c) (a.put oi.dst v) w → Q (.panic c) a w)
    (hw : Region.wanted oi (yielded ops a.tmps) = true) (hr : ∀ w, (execOp a.eval oi).run Tryz.prog w = .ok (.value v) w)
    (h : wpAnyLast Tryz.prog .any ops Q S ds fuel (l.setIfInBounds i true) (a.put oi.dst v) w) : wpAnyLast Tryz.prog .any ops Q S ds (fuel + 1) l a w :=
  pure_ (l.setIfInBounds i true) hi rfl hc hQ (.inl ⟨hw, hr⟩) rfl h
/-- One operation alone may come up. -/
theorem rg1 (i : Nat) {oi : Oper} (hi : ops[i]? = some oi) (hc : readyB .any ops l (l.setIfInBounds i true) i = true) (hd : i ∉ ds) (hw : Region.wanted oi (yielded ops a.tmps) = true)
    (h : ∀ K : Act → World → Prop, Shut (∀ a' w', S w' → (S w' → wpAnyLast Tryz.prog .any ops Q S ds fuel (l.setIfInBounds i true) a' w') → K a' w') → Oper.wp Tryz.prog oi a w K Q) :
    wpAnyLast Tryz.prog .any ops Q S ds (fuel + 1) l a w :=
  one_ (l.setIfInBounds i true) hi rfl hc hd (fun K hK => by rw [if_pos hw]; exact h K hK)
/-- The same, nothing being shown behind it. -/
theorem rgl (i : Nat) {oi : Oper} (hi : ops[i]? = some oi) (hc : readyB .any ops l (l.setIfInBounds i true) i = true) (hd : i ∈ ds) (hw : Region.wanted oi (yielded ops a.tmps) = true)
    (h : ∀ K : Act → World → Prop, Shut (∀ a' w', wpAnyLast Tryz.prog .any ops Q S ds fuel (l.setIfInBounds i true) a' w' → K a' w') → Oper.wp Tryz.prog oi a w K Q) :
    wpAnyLast Tryz.prog .any ops Q S ds (fuel + 1) l a w :=
  last_ (l.setIfInBounds i true) hi rfl hc hd (fun K hK => by rw [if_pos hw]; exact h K hK)
theorem rgd (hr : (Region.ready .any ops l == []) = true) (h : Q .normal a w) {n : Nat} : wpAnyLast Tryz.prog .any ops Q S ds n l a w := done_ hr h
end
/-! ### Appending one element to a row of the call's own -/
theorem app36 {o : Oper} {a : Act} {w : World} {K : Act → World → Prop} {Q : Exit → Act → World → Prop} (s x : Operand) (ho : o.op = .call { callee := .builtin .append, args := #[s, x], argTypes := #[29, 29] })
    {B n g : Nat} {sv : Value} {xs : List Value} {nm : ByteArray} {A : Option Addr} {l c : Nat} (hs : a.eval s = sv) (hown : w.ownsRow B 36 2 sv n xs) (hx : a.eval x = .slice (some ⟨g, 0, none⟩) 1 1)
    (hg : w.heap[g]? = some (.cells #[.string nm, .slice A l c] 36)) (hn : n < lim) (hB : B ≤ w.heap.size)
    (h : ∀ sv' w', w'.ownsRow B 36 2 sv' (n + 1) (xs ++ [.string nm, .slice A l c]) → w.grownBy w' sv.ownBlock → (∀ q, sv'.ownBlock = some q → sv.ownBlock = some q ∨ w.heap.size ≤ q) → K (a.put o.dst sv') w') : Oper.wp Tryz.prog o a w K Q := by
  obtain ⟨i0, hi0, hz0, hz1, hz2⟩ := info_parts info36
  unfold lim at hn
  exact wp_append_lies w s x 29 ho B 36 i0 _ 2 40 Tryz.underlying29 hi0 hz0 hz1 hz2 rfl (by omega) sv n xs hs hown ⟨g, 0, none⟩ 1 1 [.string nm, .slice A l c] hx rfl (World.news_of_block hg) (by simp [Value.oneCell']) (by omega) (by simp [maxLen]; omega) (by omega) hB _ rfl
    (fun g' cap w' h1 h2 h3 _ => h _ w' h1 h2 (fun q e => by
      simp only [Value.ownBlock, Option.some.injEq] at e
      subst e
      exact h3.imp id (fun e => by omega)))
theorem app34 {o : Oper} {a : Act} {w : World} {K : Act → World → Prop} {Q : Exit → Act → World → Prop} (s x : Operand) (ho : o.op = .call { callee := .builtin .append, args := #[s, x], argTypes := #[32, 32] })
    {B n g : Nat} {sv : Value} {xs : List Value} {k j : Int} {nm : ByteArray} {A : Option Addr} {l c : Nat} (hs : a.eval s = sv) (hown : w.ownsRow B 34 4 sv n xs) (hx : a.eval x = .slice (some ⟨g, 0, none⟩) 1 1)
    (hg : w.heap[g]? = some (.cells #[.int .i64 k, .int .i64 j, .string nm, .slice A l c] 34)) (hn : n < lim) (hB : B ≤ w.heap.size)
    (h : ∀ sv' w', w'.ownsRow B 34 4 sv' (n + 1) (xs ++ [.int .i64 k, .int .i64 j, .string nm, .slice A l c]) → w.grownBy w' sv.ownBlock → (∀ q, sv'.ownBlock = some q → sv.ownBlock = some q ∨ w.heap.size ≤ q) → K (a.put o.dst sv') w') : Oper.wp Tryz.prog o a w K Q := by
  obtain ⟨i0, hi0, hz0, hz1, hz2⟩ := info_parts info34
  unfold lim at hn
  exact wp_append_lies w s x 32 ho B 34 i0 _ 4 56 Tryz.underlying32 hi0 hz0 hz1 hz2 rfl (by omega) sv n xs hs hown ⟨g, 0, none⟩ 1 1 [.int .i64 k, .int .i64 j, .string nm, .slice A l c] hx rfl (World.news_of_block hg) (by simp [Value.oneCell']) (by omega) (by simp [maxLen]; omega) (by omega) hB _ rfl
    (fun g' cap w' h1 h2 h3 _ => h _ w' h1 h2 (fun q e => by
      simp only [Value.ownBlock, Option.some.injEq] at e
      subst e
      exact h3.imp id (fun e => by omega)))
theorem app36L {ops : Array Oper} {rest : List Oper} {o : Oper} {a : Act} {w : World} {Q : Exit → Act → World → Prop} (hgd : o.guard = none) (s x : Operand) (ho : o.op = .call { callee := .builtin .append, args := #[s, x], argTypes := #[29, 29] })
    {B n g : Nat} {sv : Value} {xs : List Value} {nm : ByteArray} {A : Option Addr} {l c : Nat} (hs : a.eval s = sv) (hown : w.ownsRow B 36 2 sv n xs) (hx : a.eval x = .slice (some ⟨g, 0, none⟩) 1 1)
    (hg : w.heap[g]? = some (.cells #[.string nm, .slice A l c] 36)) (hn : n < lim) (hB : B ≤ w.heap.size)
    (h : ∀ sv' w', w'.ownsRow B 36 2 sv' (n + 1) (xs ++ [.string nm, .slice A l c]) → w.grownBy w' sv.ownBlock → (∀ q, sv'.ownBlock = some q → sv.ownBlock = some q ∨ w.heap.size ≤ q) → wpList Tryz.prog ops Q rest (a.put o.dst sv') w') : wpList Tryz.prog ops Q (o :: rest) a w :=
  wpList_plain hgd (fun K hK => app36 s x ho hs hown hx hg hn hB (fun sv' w' h1 h2 h3 => hK _ _ (h sv' w' h1 h2 h3)))
theorem app34L {ops : Array Oper} {rest : List Oper} {o : Oper} {a : Act} {w : World} {Q : Exit → Act → World → Prop} (hgd : o.guard = none) (s x : Operand) (ho : o.op = .call { callee := .builtin .append, args := #[s, x], argTypes := #[32, 32] })
    {B n g : Nat} {sv : Value} {xs : List Value} {k j : Int} {nm : ByteArray} {A : Option Addr} {l c : Nat} (hs : a.eval s = sv) (hown : w.ownsRow B 34 4 sv n xs) (hx : a.eval x = .slice (some ⟨g, 0, none⟩) 1 1)
    (hg : w.heap[g]? = some (.cells #[.int .i64 k, .int .i64 j, .string nm, .slice A l c] 34)) (hn : n < lim) (hB : B ≤ w.heap.size)
    (h : ∀ sv' w', w'.ownsRow B 34 4 sv' (n + 1) (xs ++ [.int .i64 k, .int .i64 j, .string nm, .slice A l c]) → w.grownBy w' sv.ownBlock → (∀ q, sv'.ownBlock = some q → sv.ownBlock = some q ∨ w.heap.size ≤ q) → wpList Tryz.prog ops Q rest (a.put o.dst sv') w') : wpList Tryz.prog ops Q (o :: rest) a w :=
  wpList_plain hgd (fun K hK => app34 s x ho hs hown hx hg hn hB (fun sv' w' h1 h2 h3 => hK _ _ (h sv' w' h1 h2 h3)))
/-! ### Blocks -/
theorem blk_set {w : World} {b : Nat} {cs : Array Value} {T : TypeId} (hb : w.heap[b]? = some (.cells cs T)) (i : Nat) (v : Value) : (w.setCell ⟨b, i, none⟩ v).heap[b]? = some (.cells (cs.setIfInBounds i v) T) := by
  simp [World.setCell, Array.getElem?_modify, hb]
theorem blk_cell {w : World} {b : Nat} {cs : Array Value} {T : TypeId} (hb : w.heap[b]? = some (.cells cs T)) (i : Nat) : w.cell? ⟨b, i, none⟩ = cs[i]? := cell_of_row w b i cs T (0, 0) hb
theorem blk_frozen {w : World} {b : Nat} {cs : Array Value} {T : TypeId} (hb : w.heap[b]? = some (.cells cs T)) (i : Nat) : w.frozen? ⟨b, i, none⟩ = false := by simp [World.frozen?, hb]
theorem blk_lt {w : World} {b : Nat} {o : Obj} (hb : w.heap[b]? = some o) : b < w.heap.size := (Array.getElem?_eq_some_iff.1 hb).1
theorem blk_new (w : World) (o : Obj) : (w.alloc o).heap[w.heap.size]? = some o := heap_alloc_new w o
theorem blk_kp {S : Nat → Prop} {w w' : World} {b : Nat} {o : Obj} (hb : w.heap[b]? = some o) (k : Kp S w w') (hn : ¬ S b) : w'.heap[b]? = some o := (k.block b (blk_lt hb) hn).trans hb
theorem blk_alloc {w : World} {b : Nat} {o : Obj} (hb : w.heap[b]? = some o) (o' : Obj) : (w.alloc o').heap[b]? = some o := blk_kp hb ((Kp.refl (fun _ => False) w).alloc o') (fun h => h)
theorem blk_far {w : World} {b : Nat} {o : Obj} (hb : w.heap[b]? = some o) {p : Addr} (hp : b ≠ p.block) (v : Value) : (w.setCell p v).heap[b]? = some o := (Below.heap_setCell w p v b hp).trans hb
theorem own_kp {S : Nat → Prop} {w w' : World} {B : Nat} {e : TypeId} {sz n : Nat} {v : Value} {xs : List Value} (h : w.ownsRow B e sz v n xs) (k : Kp S w w') (hS : ∀ b, S b → v.ownBlock ≠ some b) : w'.ownsRow B e sz v n xs := by
  obtain ⟨h1, h2⟩ := h
  refine ⟨h1, ?_⟩
  rcases h2 with h2 | ⟨g, cap, cur, rfl, hg, hh, r⟩
  · exact .inl h2
  · exact .inr ⟨g, cap, cur, rfl, hg, blk_kp hh k (fun hs => hS g hs rfl), r⟩
theorem own_ge {w : World} {B : Nat} {e : TypeId} {sz n : Nat} {v : Value} {xs : List Value} (h : w.ownsRow B e sz v n xs) {b : Nat} (hb : b < B) : v.ownBlock ≠ some b := fun e => by have := h.lt _ e; omega
theorem own_new {w : World} {B : Nat} {e : TypeId} {sz n : Nat} {v : Value} {xs : List Value} (h : w.ownsRow B e sz v n xs) {b : Nat} (hb : w.heap.size ≤ b) : v.ownBlock ≠ some b := fun e => by have := h.lt _ e; omega
theorem own_form {w : World} {B : Nat} {e : TypeId} {sz n : Nat} {v : Value} {xs : List Value} (h : w.ownsRow B e sz v n xs) : ∃ A c, v = .slice A n c := by
  rcases h.2 with ⟨rfl, rfl⟩ | ⟨g, cap, cur, rfl, _⟩
  · exact ⟨none, 0, rfl⟩
  · exact ⟨_, cap, rfl⟩
theorem cell_alloc {w : World} {a : Addr} {v : Value} (h : w.cell? a = some v) (o : Obj) : (w.alloc o).cell? a = some v := (World.cell?_alloc_some w a o (by rw [h]; rfl)).trans h
theorem cell_below {w w' : World} {a : Addr} {v : Value} (h : w.cell? a = some v) (b : Below w.heap.size w w') : w'.cell? a = some v := (b.cell (World.block_lt_of_cell? w a h)).trans h
theorem cell_kp {S : Nat → Prop} {w w' : World} {a : Addr} {v : Value} (h : w.cell? a = some v) (k : Kp S w w') (hn : ¬ S a.block) : w'.cell? a = some v := (k.cell (World.block_lt_of_cell? w a h) hn).trans h
theorem take_snoc {α : Type} (l : List α) (k : Nat) (h : k < l.length) : l.take (k + 1) = l.take k ++ [l[k]] := List.take_succ_eq_append_getElem h
theorem own_far {w : World} {B : Nat} {e : TypeId} {sz n : Nat} {v : Value} {xs : List Value} (h : w.ownsRow B e sz v n xs) {p : Addr} (hp : p.block < B) (u : Value) : (w.setCell p u).ownsRow B e sz v n xs :=
  own_kp h (S := fun q => q = p.block) ((Kp.refl (fun q => q = p.block) w).set (.inl rfl) u) (fun q e => by subst e; exact own_ge h hp)
theorem TyL.two {h : Snap} {A : Option Addr} {a b : Ty} (r : TyL h A 0 [a, b]) : ∃ g o A0 c0 A1 c1, A = some ⟨g, o, none⟩ ∧ h ⟨g, o, none⟩ = some (.string a.nm) ∧ h ⟨g, o + 1, none⟩ = some (.slice A0 a.ar.length c0) ∧
    h ⟨g, o + 2, none⟩ = some (.string b.nm) ∧ h ⟨g, o + 2 + 1, none⟩ = some (.slice A1 b.ar.length c1) ∧ TyR h a [.string a.nm, .slice A0 a.ar.length c0] ∧ TyR h b [.string b.nm, .slice A1 b.ar.length c1] := by
  obtain ⟨g, o, A0, c0, rfl, e0, e1, r0⟩ := r.get 0 (by simp)
  obtain ⟨g', o', A1, c1, eA, e2, e3, r1⟩ := r.get 1 (by simp)
  cases eA
  simp only [Nat.zero_mul, Nat.add_zero, Nat.one_mul] at e0 e1 e2 e3
  exact ⟨g, o, A0, c0, A1, c1, rfl, e0, e1, e2, e3, r0, r1⟩
theorem bcell {W w1 : World} (hb : Below W.heap.size W w1) : (∀ b o, b < W.heap.size → w1.cell? ⟨b, o, none⟩ = W.cell? ⟨b, o, none⟩) ∧ (∀ b o, b < W.heap.size → w1.frozen? ⟨b, o, none⟩ = W.frozen? ⟨b, o, none⟩) :=
  ⟨fun b o h => hb.cell (p := ⟨b, o, none⟩) h, fun b o h => hb.frozen (p := ⟨b, o, none⟩) h⟩
theorem below_then {B : Nat} {a b c : World} (h : Below B a b) (k : Below b.heap.size b c) (hB : B ≤ b.heap.size) : Below B a c := h.trans (k.mono hB)
theorem ret_int {k : IntKind} {a b : Int} (h : a = b) : Ending.returned (.int k a) = .returned (.int k b) := by rw [h]
theorem ret_bool {a b : Bool} (h : a = b) : Ending.returned (.bool a) = .returned (.bool b) := by rw [h]
theorem val_int {k : IntKind} {a b : Int} (h : a = b) : Value.int k a = .int k b := by rw [h]
theorem max_ite (q z : Int) : (if q < z then z else q) = max q z := by split <;> omega
theorem box_below {w w' : World} {b : Nat} {o : Obj} (hb : w.heap[b]? = some o) (k : Below w.heap.size w w') : w'.heap[b]? = some o := (k.block b (blk_lt hb)).trans hb
theorem box2 {w : World} {b : Nat} {x y : Value} {T : TypeId} (hb : w.heap[b]? = some (.cells #[x, y] T)) : w.cell? ⟨b, 0, none⟩ = some x ∧ w.cell? ⟨b, 1, none⟩ = some y := ⟨(blk_cell hb 0).trans rfl, (blk_cell hb 1).trans rfl⟩
theorem box1 {w : World} {b : Nat} {x : Value} {T : TypeId} (hb : w.heap[b]? = some (.cells #[x] T)) : w.cell? ⟨b, 0, none⟩ = some x := (blk_cell hb 0).trans rfl
theorem box4 {w : World} {b : Nat} {x y z u : Value} {T : TypeId} (hb : w.heap[b]? = some (.cells #[x, y, z, u] T)) : w.cell? ⟨b, 0, none⟩ = some x ∧ w.cell? ⟨b, 1, none⟩ = some y ∧ w.cell? ⟨b, 2, none⟩ = some z ∧ w.cell? ⟨b, 3, none⟩ = some u :=
  ⟨(blk_cell hb 0).trans rfl, (blk_cell hb 1).trans rfl, (blk_cell hb 2).trans rfl, (blk_cell hb 3).trans rfl⟩
theorem undrew {w w1 : World} (h : Below w.drew.heap.size w.drew w1) : Below w.heap.size w w1 := below_then ((Below.refl _ w).drew) h (Nat.le_refl _)
/-- A slice of strings, a slice of types, as they are read. -/
def StS (h : Snap) (ss : List ByteArray) (v : Value) : Prop := ∃ A cap, v = .slice A ss.length cap ∧ ss.length ≤ cap ∧ ss.length ≤ lim ∧ ∀ j (hj : j < ss.length), ∃ b o, A = some ⟨b, o, none⟩ ∧ h ⟨b, o + j, none⟩ = some (.string ss[j])
def TyS (h : Snap) (ts : List Ty) (v : Value) : Prop := ∃ A cap, v = .slice A ts.length cap ∧ ts.length ≤ cap ∧ ts.length ≤ lim ∧ TyL h A 0 ts
def TmS (h : Snap) (ts : List Tm) (v : Value) : Prop := ∃ A cap, v = .slice A ts.length cap ∧ ts.length ≤ cap ∧ ts.length ≤ lim ∧ TmL h A 0 ts
theorem StS.sub {h h' : Snap} {ss : List ByteArray} {v : Value} (r : StS h ss v) (s : Sub h h') : StS h' ss v := by
  obtain ⟨A, c, e, l, m, k⟩ := r
  exact ⟨A, c, e, l, m, fun j hj => by obtain ⟨b, o, e, q⟩ := k j hj; exact ⟨b, o, e, s.at_ _ _ q⟩⟩
theorem TyS.sub {h h' : Snap} {ss : List Ty} {v : Value} (r : TyS h ss v) (s : Sub h h') : TyS h' ss v := by
  obtain ⟨A, c, e, l, m, k⟩ := r
  exact ⟨A, c, e, l, m, k.sub s⟩
theorem TmS.sub {h h' : Snap} {ss : List Tm} {v : Value} (r : TmS h ss v) (s : Sub h h') : TmS h' ss v := by
  obtain ⟨A, c, e, l, m, k⟩ := r
  exact ⟨A, c, e, l, m, k.sub s⟩
theorem own_base {w : World} {B B' : Nat} {e : TypeId} {sz n : Nat} {v : Value} {xs : List Value} (h : w.ownsRow B e sz v n xs) (hB : B' ≤ B) : w.ownsRow B' e sz v n xs := by
  obtain ⟨h1, h2⟩ := h
  refine ⟨h1, ?_⟩
  rcases h2 with h2 | ⟨g, cap, cur, rfl, hg, r⟩
  · exact .inl h2
  · exact .inr ⟨g, cap, cur, rfl, by omega, r⟩
theorem own_drewN {w : World} {B : Nat} {e : TypeId} {sz n : Nat} {v : Value} {xs : List Value} (h : w.ownsRow B e sz v n xs) (m : Nat) : (w.drewN m).ownsRow B e sz v n xs := h
theorem below_drewN {B : Nat} {a w : World} (h : Below B a w) (m : Nat) : Below B a (w.drewN m) := ⟨h.os, h.tape, h.output, h.size, h.block⟩
theorem alloc1 (w : World) (o1 : Obj) : (w.alloc o1).heap[w.heap.size]? = some o1 ∧ Below w.heap.size w (w.alloc o1) := ⟨blk_new _ _, (Below.refl _ w).alloc (Nat.le_refl _) _⟩
theorem alloc2 (w : World) (o1 o2 : Obj) : ((w.alloc o1).alloc o2).heap[w.heap.size]? = some o1 ∧ ((w.alloc o1).alloc o2).heap[w.heap.size + 1]? = some o2 ∧ Below w.heap.size w ((w.alloc o1).alloc o2) :=
  ⟨blk_alloc (blk_new _ _) _, by simpa using blk_new (w.alloc o1) o2, (alloc1 w o1).2.alloc (by simp) _⟩
theorem alloc3 (w : World) (o1 o2 o3 : Obj) : (((w.alloc o1).alloc o2).alloc o3).heap[w.heap.size]? = some o1 ∧ (((w.alloc o1).alloc o2).alloc o3).heap[w.heap.size + 1]? = some o2 ∧ (((w.alloc o1).alloc o2).alloc o3).heap[w.heap.size + 1 + 1]? = some o3 ∧
    Below w.heap.size w (((w.alloc o1).alloc o2).alloc o3) :=
  ⟨blk_alloc (alloc2 w o1 o2).1 _, blk_alloc (alloc2 w o1 o2).2.1 _, by simpa using blk_new ((w.alloc o1).alloc o2) o3, (alloc2 w o1 o2).2.2.alloc (by simp <;> omega) _⟩
theorem alloc4 (w : World) (o1 o2 o3 o4 : Obj) : ((((w.alloc o1).alloc o2).alloc o3).alloc o4).heap[w.heap.size]? = some o1 ∧ ((((w.alloc o1).alloc o2).alloc o3).alloc o4).heap[w.heap.size + 1]? = some o2 ∧ ((((w.alloc o1).alloc o2).alloc o3).alloc o4).heap[w.heap.size + 1 + 1]? = some o3 ∧
    ((((w.alloc o1).alloc o2).alloc o3).alloc o4).heap[w.heap.size + 1 + 1 + 1]? = some o4 ∧ Below w.heap.size w ((((w.alloc o1).alloc o2).alloc o3).alloc o4) :=
  ⟨blk_alloc (alloc3 w o1 o2 o3).1 _, blk_alloc (alloc3 w o1 o2 o3).2.1 _, blk_alloc (alloc3 w o1 o2 o3).2.2.1 _, by simpa using blk_new (((w.alloc o1).alloc o2).alloc o3) o4, (alloc3 w o1 o2 o3).2.2.2.alloc (by simp <;> omega) _⟩
/-! ### Rows that are written in place -/
theorem Chunks.of_at {α : Type} {R : α → List Value → Prop} {sz : Nat} : ∀ (n : Nat) (ts : List α) (xs : List Value), ts.length = n → xs.length = n * sz → (∀ j (hj : j < ts.length), ∃ cs, R ts[j] cs ∧ cs.length = sz ∧ ∀ q, q < sz → xs[j * sz + q]? = cs[q]?) → Chunks R sz ts xs
  | 0, ts, xs, h1, h2, _ => by
    have e1 : ts = [] := List.eq_nil_of_length_eq_zero h1
    have e2 : xs = [] := List.eq_nil_of_length_eq_zero (by rw [h2]; simp)
    subst e1; subst e2; exact .nil
  | n + 1, ts, xs, h1, h2, H => by
    have hn : n < ts.length := by omega
    obtain ⟨cs, r, e, hq⟩ := H n hn
    have h3 : xs.length = n * sz + sz := by rw [h2, Nat.add_mul]; omega
    have e1 : ts = ts.take n ++ [ts[n]] := by
      have := take_snoc ts n hn
      rw [← this, List.take_of_length_le (by omega)]
    have e2 : xs = xs.take (n * sz) ++ cs := by
      refine List.ext_getElem? (fun q => ?_)
      by_cases c : q < n * sz
      · rw [List.getElem?_append_left (by simp; omega), List.getElem?_take, if_pos c]
      · rw [List.getElem?_append_right (by simp; omega)]
        have hl : (xs.take (n * sz)).length = n * sz := by simp; omega
        rw [hl]
        by_cases c2 : q < n * sz + sz
        · have := hq (q - n * sz) (by omega)
          rw [← this]; congr 1; omega
        · rw [List.getElem?_eq_none (by omega), List.getElem?_eq_none (by omega)]
    have hrec : Chunks R sz (ts.take n) (xs.take (n * sz)) := Chunks.of_at n _ _ (by simp; omega) (by simp; omega) (fun j hj => by
      have hj' : j < n := by simp at hj; omega
      obtain ⟨c, r', e', hq'⟩ := H j (by omega)
      refine ⟨c, by simpa using r', e', fun q hqs => ?_⟩
      have hlt : j * sz + q < n * sz := by
        calc j * sz + q < j * sz + sz := by omega
          _ = (j + 1) * sz := by rw [Nat.add_mul]; omega
          _ ≤ n * sz := Nat.mul_le_mul_right _ (by omega)
      rw [List.getElem?_take, if_pos hlt]
      exact hq' q hqs)
    rw [e1, e2]
    exact .snoc hrec r e
theorem Chunks.set2 {α : Type} {R : α → List Value → Prop} {ts : List α} {xs : List Value} (h : Chunks R 2 ts xs) {j : Nat} (hj : j < ts.length) {c0 c1 : Value} (r : R ts[j] [c0, c1]) : Chunks R 2 ts ((xs.set (j * 2) c0).set (j * 2 + 1) c1) := by
  have hl := h.len
  refine Chunks.of_at ts.length ts _ rfl (by simp; omega) (fun i hi => ?_)
  by_cases e : i = j
  · subst e
    refine ⟨[c0, c1], r, rfl, fun q hq => ?_⟩
    match q, hq with
    | 0, _ => rw [List.getElem?_set_ne (by omega), Nat.add_zero, List.getElem?_set_self (by omega)]; rfl
    | 1, _ => rw [List.getElem?_set_self (by simp; omega)]; rfl
  · obtain ⟨cs, r', e', hq⟩ := h.at_ i hi
    exact ⟨cs, r', e', fun q hqs => by rw [List.getElem?_set_ne (by omega), List.getElem?_set_ne (by omega)]; exact hq q hqs⟩
theorem own_set {w : World} {B : Nat} {e : TypeId} {sz n c g : Nat} {xs : List Value} (h : w.ownsRow B e sz (.slice (some ⟨g, 0, none⟩) n c) n xs) (i : Nat) (hi : i < n * sz) (v : Value) :
    (w.setCell ⟨g, i, none⟩ v).ownsRow B e sz (.slice (some ⟨g, 0, none⟩) n c) n (xs.set i v) := by
  obtain ⟨h1, h2⟩ := h
  refine ⟨by simp [h1], .inr ?_⟩
  rcases h2 with ⟨h2, _⟩ | ⟨g', cap, cur, e1, hg, hh, h3, h4, h5, h6⟩
  · cases h2
  · simp only [Value.slice.injEq, Option.some.injEq, Addr.mk.injEq, and_true, true_and] at e1
    obtain ⟨rfl, rfl⟩ := e1
    refine ⟨g, c, cur.setIfInBounds i v, rfl, hg, by simp [World.setCell, Array.getElem?_modify, hh], h3, h4, by simp [h5], ?_⟩
    rw [Array.toList_setIfInBounds, ← h6, List.take_set]
theorem own_blk {w : World} {B : Nat} {e : TypeId} {sz n c g : Nat} {xs : List Value} (h : w.ownsRow B e sz (.slice (some ⟨g, 0, none⟩) n c) n xs) : ∃ cur, w.heap[g]? = some (.cells cur e) := by
  rcases h.2 with ⟨h2, _⟩ | ⟨g', cap, cur, e1, hg, hh, h3, h4, h5, h6⟩
  · cases h2
  · simp only [Value.slice.injEq, Option.some.injEq, Addr.mk.injEq, and_true, true_and] at e1
    obtain ⟨rfl, rfl⟩ := e1
    exact ⟨cur, hh⟩
theorem own_head {w : World} {B : Nat} {e : TypeId} {sz n : Nat} {v : Value} {xs : List Value} (h : w.ownsRow B e sz v n xs) (hn : 0 < n) : ∃ g c, v = .slice (some ⟨g, 0, none⟩) n c ∧ B ≤ g := by
  rcases h.2 with ⟨rfl, rfl⟩ | ⟨g, cap, cur, rfl, hg, _⟩
  · omega
  · exact ⟨g, cap, rfl, hg⟩
end Go.Proofs.YtpgbeapojjinmaaGreatDoor
