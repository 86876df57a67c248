/- Own library of the seat: data that lie in memory (types and terms), snapshots of memory, what a call keeps. No law is proved here. -/
import Derived.Test.YtpgbeapojjinmaaGreatDoorProg
import Derived.WalkKit
import Derived.WalkSpells
import Derived.OwnWalk
import Derived.Below
import Derived.Recover
import Derived.Deep.RegionHeld3
import Derived.Deep.AppendLies
import Derived.Deep.QuietTactic
import Derived.BigQuiet
import Derived.Laws.Slices
import Derived.Laws.Rows
import Derived.RowKit
import Derived.RowKit3
import Derived.KernelRfl
import Derived.Lib.Hide
import Derived.Laws.EntriesVeiled
set_option linter.unusedVariables false
set_option linter.unusedSimpArgs false
namespace Go.Proofs.YtpgbeapojjinmaaGreatDoor
open Go.RowKit

/-! ### 1. Snapshots -/
abbrev Snap := Addr → Option Value
/-- The world holds what the snapshot says. -/
structure Has (w : World) (h : Snap) : Prop where cell : ∀ a v, h a = some v → w.cell? a = some v
structure Sub (h h' : Snap) : Prop where at_ : ∀ a v, h a = some v → h' a = some v
/-- No cell of the snapshot lies in a block of S. -/
structure Off (h : Snap) (S : Nat → Prop) : Prop where at_ : ∀ a v, h a = some v → ¬ S a.block
theorem Sub.refl (h : Snap) : Sub h h := ⟨fun _ _ e => e⟩
theorem Sub.trans {a b c : Snap} (h : Sub a b) (k : Sub b c) : Sub a c := ⟨fun x v e => k.at_ x v (h.at_ x v e)⟩
theorem Has.lt {w : World} {h : Snap} (H : Has w h) {a : Addr} {v : Value} (e : h a = some v) : a.block < w.heap.size := World.block_lt_of_cell? w a (H.cell a v e)
/-- All but the blocks of S is as it was. -/
structure Kp (S : Nat → Prop) (w w' : World) : Prop where
  os : w'.os = w.os
  tape : w'.tape = w.tape
  output : w'.output = w.output
  size : w.heap.size ≤ w'.heap.size
  block : ∀ k, k < w.heap.size → ¬ S k → w'.heap[k]? = w.heap[k]?
theorem Kp.refl (S : Nat → Prop) (w : World) : Kp S w w := ⟨rfl, rfl, rfl, Nat.le_refl _, fun _ _ _ => rfl⟩
theorem Kp.trans {S T : Nat → Prop} {a b c : World} (h : Kp S a b) (k : Kp T b c) (hT : ∀ i, i < a.heap.size → T i → S i) : Kp S a c :=
  ⟨k.os.trans h.os, k.tape.trans h.tape, k.output.trans h.output, Nat.le_trans h.size k.size, fun i hi hn =>
    (k.block i (Nat.lt_of_lt_of_le hi h.size) (fun ht => hn (hT i hi ht))).trans (h.block i hi hn)⟩
theorem Kp.mono {S T : Nat → Prop} {a b : World} (h : Kp S a b) (hS : ∀ i, S i → T i) : Kp T a b := ⟨h.os, h.tape, h.output, h.size, fun i hi hn => h.block i hi (fun hs => hn (hS i hs))⟩
theorem Kp.of_below {w w' : World} (S : Nat → Prop) (h : Below w.heap.size w w') : Kp S w w' := ⟨h.os, h.tape, h.output, h.size, fun i hi _ => h.block i hi⟩
theorem Kp.below {w w' : World} {S : Nat → Prop} (h : Kp S w w') (hS : ∀ i, i < w.heap.size → ¬ S i) : Below w.heap.size w w' := ⟨h.os, h.tape, h.output, h.size, fun i hi => h.block i hi (hS i hi)⟩
theorem Kp.alloc {S : Nat → Prop} {a w : World} (h : Kp S a w) (o : Obj) : Kp S a (w.alloc o) :=
  h.trans (T := fun _ => False) ⟨rfl, rfl, rfl, by simp, fun k hk _ => Below.heap_alloc _ _ _ (by omega)⟩ (fun _ _ hf => hf.elim)
theorem Kp.drew {S : Nat → Prop} {a w : World} (h : Kp S a w) : Kp S a w.drew := ⟨h.os, h.tape, h.output, h.size, h.block⟩
theorem Kp.drewN {S : Nat → Prop} {a w : World} (h : Kp S a w) (n : Nat) : Kp S a (w.drewN n) := ⟨h.os, h.tape, h.output, h.size, h.block⟩
theorem Kp.set {S : Nat → Prop} {a w : World} (h : Kp S a w) {p : Addr} (hp : S p.block ∨ a.heap.size ≤ p.block) (u : Value) : Kp S a (w.setCell p u) :=
  h.trans (T := fun k => k = p.block) ⟨rfl, rfl, rfl, by simp [World.setCell], fun k _ hn => Below.heap_setCell _ _ _ _ hn⟩ (fun i hi e => by
    subst e; rcases hp with hp | hp
    · exact hp
    · omega)
theorem Kp.below_step {S : Nat → Prop} {a w w' : World} (h : Kp S a w) (hb : Below w.heap.size w w') : Kp S a w' := h.trans (Kp.of_below (fun _ => False) hb) (fun _ _ hf => hf.elim)
theorem Kp.grown {S : Nat → Prop} {a w w' : World} {row : Option Nat} (h : Kp S a w) (hg : w.grownBy w' row) (hr : ∀ k, row = some k → S k ∨ a.heap.size ≤ k) : Kp S a w' :=
  h.trans (T := fun k => row = some k) ⟨hg.os, hg.tape, hg.output, hg.size, fun k hk hn => hg.block k hk (fun e => hn e.symm)⟩ (fun i hi e => by
    rcases hr i e with h1 | h1
    · exact h1
    · omega)
theorem Kp.cell {S : Nat → Prop} {w w' : World} (h : Kp S w w') {p : Addr} (hp : p.block < w.heap.size) (hn : ¬ S p.block) : w'.cell? p = w.cell? p := World.cell?_of_block (w := w) (h.block p.block hp hn)
theorem Kp.frozen {S : Nat → Prop} {w w' : World} (h : Kp S w w') {p : Addr} (hp : p.block < w.heap.size) (hn : ¬ S p.block) : w'.frozen? p = w.frozen? p := World.frozen?_of_block (w := w) (h.block p.block hp hn)
theorem Kp.set1 (w : World) (p : Addr) (u : Value) : Kp (fun q => q = p.block) w (w.setCell p u) := (Kp.refl (fun q => q = p.block) w).set (.inl rfl) u
theorem Has.kp {S : Nat → Prop} {w w' : World} {h : Snap} (H : Has w h) (k : Kp S w w') (ho : Off h S) : Has w' h :=
  ⟨fun a v e => (k.cell (H.lt e) (ho.at_ a v e)).trans (H.cell a v e)⟩
theorem Off.none (h : Snap) : Off h (fun _ => False) := ⟨fun _ _ _ hf => hf⟩
theorem Has.below {w w' : World} {h : Snap} (H : Has w h) (k : Below w.heap.size w w') : Has w' h := H.kp (Kp.of_below _ k) (Off.none h)
theorem Has.alloc {w : World} {h : Snap} (H : Has w h) (o : Obj) : Has (w.alloc o) h := H.kp ((Kp.refl (fun _ => False) w).alloc o) (Off.none h)
theorem Has.drew {w : World} {h : Snap} (H : Has w h) : Has w.drew h := ⟨H.cell⟩
theorem Has.drewN {w : World} {h : Snap} (H : Has w h) (n : Nat) : Has (w.drewN n) h := ⟨H.cell⟩
theorem Has.set {w : World} {h : Snap} (H : Has w h) {p : Addr} (hp : ∀ a v, h a = some v → a.block ≠ p.block) (u : Value) : Has (w.setCell p u) h :=
  H.kp (S := fun k => k = p.block) ((Kp.refl (fun k => k = p.block) w).set (.inl rfl) u) ⟨hp⟩
theorem Has.sub {w : World} {h h' : Snap} (H : Has w h') (s : Sub h h') : Has w h := ⟨fun a v e => H.cell a v (s.at_ a v e)⟩
theorem Has.off_new {w : World} {h : Snap} (H : Has w h) {S : Nat → Prop} (hS : ∀ k, S k → w.heap.size ≤ k) : Off h S := ⟨fun a v e hs => by have := hS _ hs; have := H.lt e; omega⟩

/-- What a call makes: the snapshot grows by cells of new blocks alone. -/
structure Mk (w : World) (h : Snap) (w' : World) (h' : Snap) : Prop where
  sub : Sub h h'
  has : Has w' h'
  new : ∀ a v, h' a = some v → h a = some v ∨ w.heap.size ≤ a.block
theorem Mk.refl {w w' : World} {h : Snap} (H : Has w' h) : Mk w h w' h := ⟨Sub.refl h, H, fun _ _ e => .inl e⟩
theorem Mk.trans {w w1 w2 : World} {h h1 h2 : Snap} (a : Mk w h w1 h1) (b : Mk w1 h1 w2 h2) (hs : w.heap.size ≤ w1.heap.size) : Mk w h w2 h2 :=
  ⟨a.sub.trans b.sub, b.has, fun x v e => by
    rcases b.new x v e with e | e
    · exact a.new x v e
    · exact .inr (by omega)⟩
theorem Mk.then_ {w w1 w2 : World} {h h1 h2 : Snap} (a : Mk w h w1 h1) (b : Mk w h1 w2 h2) : Mk w h w2 h2 :=
  ⟨a.sub.trans b.sub, b.has, fun x v e => by
    rcases b.new x v e with e | e
    · exact a.new x v e
    · exact .inr e⟩
theorem Mk.world {w w1 w2 : World} {h h1 : Snap} (a : Mk w h w1 h1) (H : Has w2 h1) : Mk w h w2 h1 := ⟨a.sub, H, a.new⟩
theorem Mk.from_ {w0 w w1 : World} {h h1 : Snap} (a : Mk w h w1 h1) (hs : w0.heap.size ≤ w.heap.size) : Mk w0 h w1 h1 := ⟨a.sub, a.has, fun x v e => (a.new x v e).imp_right (fun k => by omega)⟩
theorem Mk.off {w w1 : World} {h h1 : Snap} (a : Mk w h w1 h1) {S : Nat → Prop} (ho : Off h S) (hS : ∀ k, S k → k < w.heap.size) : Off h1 S :=
  ⟨fun x v e hs => by
    rcases a.new x v e with e | e
    · exact ho.at_ x v e hs
    · have := hS _ hs; omega⟩

/-! ### 2. Types and terms as they lie in memory -/
inductive Ty where | mk (nm : ByteArray) (ar : List Ty)
inductive Tm where | mk (k n : Int) (nm : ByteArray) (ar : List Tm)
def Ty.nm : Ty → ByteArray | .mk a _ => a
def Ty.ar : Ty → List Ty | .mk _ a => a
def Tm.k : Tm → Int | .mk a _ _ _ => a
def Tm.n : Tm → Int | .mk _ a _ _ => a
def Tm.nm : Tm → ByteArray | .mk _ _ a _ => a
def Tm.ar : Tm → List Tm | .mk _ _ _ a => a
mutual
def Ty.sz : Ty → Nat | .mk _ l => 1 + Ty.szL l
def Ty.szL : List Ty → Nat | [] => 0 | t :: ts => Ty.sz t + Ty.szL ts
end
mutual
def Tm.sz : Tm → Nat | .mk _ _ _ l => 1 + Tm.szL l
def Tm.szL : List Tm → Nat | [] => 0 | t :: ts => Tm.sz t + Tm.szL ts
end
theorem Ty.sz_pos (t : Ty) : 0 < t.sz := by cases t; simp [Ty.sz]; omega
theorem Tm.sz_pos (t : Tm) : 0 < t.sz := by cases t; simp [Tm.sz]; omega
theorem Ty.sz_at : ∀ (l : List Ty) (j : Nat) (hj : j < l.length), l[j].sz ≤ Ty.szL l
  | t :: ts, 0, _ => by simp [Ty.szL]
  | t :: ts, j + 1, hj => by have := Ty.sz_at ts j (by simpa using hj); simp [Ty.szL]; omega
theorem Tm.sz_at : ∀ (l : List Tm) (j : Nat) (hj : j < l.length), l[j].sz ≤ Tm.szL l
  | t :: ts, 0, _ => by simp [Tm.szL]
  | t :: ts, j + 1, hj => by have := Tm.sz_at ts j (by simpa using hj); simp [Tm.szL]; omega
/-- No slice is longer than this. -/
def lim : Nat := 1073741824
mutual
def TyR (h : Snap) : Ty → List Value → Prop
  | .mk nm ar, cs => ∃ A cap, cs = [.string nm, .slice A ar.length cap] ∧ ar.length ≤ cap ∧ ar.length ≤ lim ∧ TyL h A 0 ar
def TyL (h : Snap) (A : Option Addr) : Nat → List Ty → Prop
  | _, [] => True
  | i, t :: ts => (∃ b o v0 v1, A = some ⟨b, o, none⟩ ∧ h ⟨b, o + i * 2, none⟩ = some v0 ∧ h ⟨b, o + i * 2 + 1, none⟩ = some v1 ∧ TyR h t [v0, v1]) ∧ TyL h A (i + 1) ts
end
mutual
def TmR (h : Snap) : Tm → List Value → Prop
  | .mk k n nm ar, cs => ∃ A cap, cs = [.int .i64 k, .int .i64 n, .string nm, .slice A ar.length cap] ∧ ar.length ≤ cap ∧ ar.length ≤ lim ∧
      (-9223372036854775808 ≤ k ∧ k ≤ 9223372036854775807) ∧ (-9223372036854775808 ≤ n ∧ n ≤ 9223372036854775807) ∧ TmL h A 0 ar
def TmL (h : Snap) (A : Option Addr) : Nat → List Tm → Prop
  | _, [] => True
  | i, t :: ts => (∃ b o v0 v1 v2 v3, A = some ⟨b, o, none⟩ ∧ h ⟨b, o + i * 4, none⟩ = some v0 ∧ h ⟨b, o + i * 4 + 1, none⟩ = some v1 ∧ h ⟨b, o + i * 4 + 2, none⟩ = some v2 ∧ h ⟨b, o + i * 4 + 3, none⟩ = some v3 ∧ TmR h t [v0, v1, v2, v3]) ∧ TmL h A (i + 1) ts
end
mutual
theorem TyR.sub {h h' : Snap} (s : Sub h h') : ∀ {t : Ty} {cs : List Value}, TyR h t cs → TyR h' t cs
  | .mk nm ar, cs, ⟨A, cap, e, l, m, r⟩ => ⟨A, cap, e, l, m, TyL.sub s r⟩
theorem TyL.sub {h h' : Snap} (s : Sub h h') : ∀ {A : Option Addr} {i : Nat} {ts : List Ty}, TyL h A i ts → TyL h' A i ts
  | _, _, [], _ => trivial
  | _, _, _ :: _, ⟨⟨b, o, v0, v1, e, h0, h1, r⟩, rs⟩ => ⟨⟨b, o, v0, v1, e, s.at_ _ _ h0, s.at_ _ _ h1, TyR.sub s r⟩, TyL.sub s rs⟩
end
mutual
theorem TmR.sub {h h' : Snap} (s : Sub h h') : ∀ {t : Tm} {cs : List Value}, TmR h t cs → TmR h' t cs
  | .mk _ _ _ _, _, ⟨A, cap, e, l, m, hk, hn, r⟩ => ⟨A, cap, e, l, m, hk, hn, TmL.sub s r⟩
theorem TmL.sub {h h' : Snap} (s : Sub h h') : ∀ {A : Option Addr} {i : Nat} {ts : List Tm}, TmL h A i ts → TmL h' A i ts
  | _, _, [], _ => trivial
  | _, _, _ :: _, ⟨⟨b, o, v0, v1, v2, v3, e, h0, h1, h2, h3, r⟩, rs⟩ => ⟨⟨b, o, v0, v1, v2, v3, e, s.at_ _ _ h0, s.at_ _ _ h1, s.at_ _ _ h2, s.at_ _ _ h3, TmR.sub s r⟩, TmL.sub s rs⟩
end
theorem TyL.at_ {h : Snap} {A : Option Addr} : ∀ {ts : List Ty} {i : Nat}, TyL h A i ts → ∀ j (hj : j < ts.length), ∃ b o v0 v1, A = some ⟨b, o, none⟩ ∧ h ⟨b, o + (i + j) * 2, none⟩ = some v0 ∧ h ⟨b, o + (i + j) * 2 + 1, none⟩ = some v1 ∧ TyR h ts[j] [v0, v1]
  | t :: ts, i, ⟨h0, hs⟩, j, hj => by
    cases j with
    | zero => exact h0
    | succ j =>
      obtain ⟨b, o, v0, v1, e, h1, h2, r⟩ := TyL.at_ hs j (by simpa using hj)
      exact ⟨b, o, v0, v1, e, by rw [← h1]; congr 3; omega, by rw [← h2]; congr 3; omega, r⟩
theorem TyL.mk {h : Snap} {A : Option Addr} : ∀ {ts : List Ty} {i : Nat}, (∀ j (hj : j < ts.length), ∃ b o v0 v1, A = some ⟨b, o, none⟩ ∧ h ⟨b, o + (i + j) * 2, none⟩ = some v0 ∧ h ⟨b, o + (i + j) * 2 + 1, none⟩ = some v1 ∧ TyR h ts[j] [v0, v1]) → TyL h A i ts
  | [], _, _ => trivial
  | t :: ts, i, H => ⟨H 0 (by simp), TyL.mk (fun j hj => by
      obtain ⟨b, o, v0, v1, e, h1, h2, r⟩ := H (j + 1) (by simpa using hj)
      exact ⟨b, o, v0, v1, e, by rw [← h1]; congr 3; omega, by rw [← h2]; congr 3; omega, r⟩)⟩
theorem TmL.at_ {h : Snap} {A : Option Addr} : ∀ {ts : List Tm} {i : Nat}, TmL h A i ts → ∀ j (hj : j < ts.length), ∃ b o v0 v1 v2 v3, A = some ⟨b, o, none⟩ ∧ h ⟨b, o + (i + j) * 4, none⟩ = some v0 ∧ h ⟨b, o + (i + j) * 4 + 1, none⟩ = some v1 ∧ h ⟨b, o + (i + j) * 4 + 2, none⟩ = some v2 ∧ h ⟨b, o + (i + j) * 4 + 3, none⟩ = some v3 ∧ TmR h ts[j] [v0, v1, v2, v3]
  | t :: ts, i, ⟨h0, hs⟩, j, hj => by
    cases j with
    | zero => exact h0
    | succ j =>
      obtain ⟨b, o, v0, v1, v2, v3, e, h1, h2, h3, h4, r⟩ := TmL.at_ hs j (by simpa using hj)
      exact ⟨b, o, v0, v1, v2, v3, e, by rw [← h1]; congr 3; omega, by rw [← h2]; congr 3; omega, by rw [← h3]; congr 3; omega, by rw [← h4]; congr 3; omega, r⟩
theorem TmL.mk {h : Snap} {A : Option Addr} : ∀ {ts : List Tm} {i : Nat}, (∀ j (hj : j < ts.length), ∃ b o v0 v1 v2 v3, A = some ⟨b, o, none⟩ ∧ h ⟨b, o + (i + j) * 4, none⟩ = some v0 ∧ h ⟨b, o + (i + j) * 4 + 1, none⟩ = some v1 ∧ h ⟨b, o + (i + j) * 4 + 2, none⟩ = some v2 ∧ h ⟨b, o + (i + j) * 4 + 3, none⟩ = some v3 ∧ TmR h ts[j] [v0, v1, v2, v3]) → TmL h A i ts
  | [], _, _ => trivial
  | t :: ts, i, H => ⟨H 0 (by simp), TmL.mk (fun j hj => by
      obtain ⟨b, o, v0, v1, v2, v3, e, h1, h2, h3, h4, r⟩ := H (j + 1) (by simpa using hj)
      exact ⟨b, o, v0, v1, v2, v3, e, by rw [← h1]; congr 3; omega, by rw [← h2]; congr 3; omega, by rw [← h3]; congr 3; omega, by rw [← h4]; congr 3; omega, r⟩)⟩
theorem TyR.open_ {h : Snap} {t : Ty} {cs : List Value} (r : TyR h t cs) : ∃ A cap, cs = [.string t.nm, .slice A t.ar.length cap] ∧ t.ar.length ≤ cap ∧ t.ar.length ≤ lim ∧ TyL h A 0 t.ar := by
  cases t; exact r
theorem TmR.open_ {h : Snap} {t : Tm} {cs : List Value} (r : TmR h t cs) : ∃ A cap, cs = [.int .i64 t.k, .int .i64 t.n, .string t.nm, .slice A t.ar.length cap] ∧ t.ar.length ≤ cap ∧ t.ar.length ≤ lim ∧
    (-9223372036854775808 ≤ t.k ∧ t.k ≤ 9223372036854775807) ∧ (-9223372036854775808 ≤ t.n ∧ t.n ≤ 9223372036854775807) ∧ TmL h A 0 t.ar := by
  cases t; exact r
theorem TyL.get {h : Snap} {A : Option Addr} {ts : List Ty} (r : TyL h A 0 ts) (j : Nat) (hj : j < ts.length) : ∃ b o A' cap', A = some ⟨b, o, none⟩ ∧ h ⟨b, o + j * 2, none⟩ = some (.string ts[j].nm) ∧ h ⟨b, o + j * 2 + 1, none⟩ = some (.slice A' ts[j].ar.length cap') ∧
    TyR h ts[j] [.string ts[j].nm, .slice A' ts[j].ar.length cap'] := by
  obtain ⟨b, o, v0, v1, e, h0, h1, q⟩ := r.at_ j hj
  obtain ⟨A', c', ec, _⟩ := q.open_
  simp only [List.cons.injEq, and_true] at ec
  obtain ⟨rfl, rfl⟩ := ec
  rw [Nat.zero_add] at h0 h1
  exact ⟨b, o, A', c', e, h0, h1, q⟩
theorem TmL.get {h : Snap} {A : Option Addr} {ts : List Tm} (r : TmL h A 0 ts) (j : Nat) (hj : j < ts.length) : ∃ b o A' cap', A = some ⟨b, o, none⟩ ∧ h ⟨b, o + j * 4, none⟩ = some (.int .i64 ts[j].k) ∧ h ⟨b, o + j * 4 + 1, none⟩ = some (.int .i64 ts[j].n) ∧
    h ⟨b, o + j * 4 + 2, none⟩ = some (.string ts[j].nm) ∧ h ⟨b, o + j * 4 + 3, none⟩ = some (.slice A' ts[j].ar.length cap') ∧ TmR h ts[j] [.int .i64 ts[j].k, .int .i64 ts[j].n, .string ts[j].nm, .slice A' ts[j].ar.length cap'] := by
  obtain ⟨b, o, v0, v1, v2, v3, e, h0, h1, h2, h3, q⟩ := r.at_ j hj
  obtain ⟨A', c', ec, _⟩ := q.open_
  simp only [List.cons.injEq, and_true] at ec
  obtain ⟨rfl, rfl, rfl, rfl⟩ := ec
  rw [Nat.zero_add] at h0 h1 h2 h3
  exact ⟨b, o, A', c', e, h0, h1, h2, h3, q⟩
theorem info36 : (Tryz.prog.info? 36).map (fun i => (i.zero, i.size, i.bytes)) = some (some (.agg #[(.string ⟨#[]⟩), (.slice none 0 0)]), 2, 40) := by kernel_rfl
theorem info34 : (Tryz.prog.info? 34).map (fun i => (i.zero, i.size, i.bytes)) = some (some (.agg #[(.int .i64 0), (.int .i64 0), (.string ⟨#[]⟩), (.slice none 0 0)]), 4, 56) := by kernel_rfl

/-! ### 3. Rows of the call's own: what they hold, out of one snapshot -/
/-- The cells xs are those of ts, one behind the other. -/
inductive Chunks {α : Type} (R : α → List Value → Prop) (sz : Nat) : List α → List Value → Prop
  | nil : Chunks R sz [] []
  | snoc {ts : List α} {xs : List Value} {t : α} {cs : List Value} : Chunks R sz ts xs → R t cs → cs.length = sz → Chunks R sz (ts ++ [t]) (xs ++ cs)
theorem Chunks.len {α : Type} {R : α → List Value → Prop} {sz : Nat} {ts : List α} {xs : List Value} (h : Chunks R sz ts xs) : xs.length = ts.length * sz := by
  induction h with
  | nil => simp
  | snoc _ _ e ih => simp [ih, e, Nat.add_mul]
theorem Chunks.imp {α : Type} {R R' : α → List Value → Prop} {sz : Nat} {ts : List α} {xs : List Value} (h : Chunks R sz ts xs) (hi : ∀ t cs, R t cs → R' t cs) : Chunks R' sz ts xs := by
  induction h with
  | nil => exact .nil
  | snoc _ r e ih => exact .snoc ih (hi _ _ r) e
theorem Chunks.at_ {α : Type} {R : α → List Value → Prop} {sz : Nat} {ts : List α} {xs : List Value} (h : Chunks R sz ts xs) : ∀ j (hj : j < ts.length), ∃ cs, R ts[j] cs ∧ cs.length = sz ∧ ∀ q, q < sz → xs[j * sz + q]? = cs[q]? := by
  induction h with
  | nil => intro j hj; simp at hj
  | @snoc ts xs t cs hc r e ih =>
    intro j hj
    have hl := hc.len
    by_cases hlt : j < ts.length
    · obtain ⟨c, r', e', hq⟩ := ih j hlt
      refine ⟨c, by rw [List.getElem_append_left hlt]; exact r', e', fun q hqs => ?_⟩
      rw [List.getElem?_append_left, hq q hqs]
      rw [hl]
      calc j * sz + q < j * sz + sz := by omega
        _ = (j + 1) * sz := by rw [Nat.add_mul]; omega
        _ ≤ ts.length * sz := Nat.mul_le_mul_right _ (by omega)
    · have hj' : j = ts.length := by simp at hj; omega
      subst hj'
      refine ⟨cs, by simpa using r, e, fun q hqs => ?_⟩
      rw [List.getElem?_append_right (by rw [hl]; omega), hl]
      congr 1
      omega
/-- The snapshot with a row's cells. -/
def withRow (h : Snap) (w : World) (g n : Nat) : Snap := fun a => match h a with
  | some v => some v
  | none => if a.block = g ∧ a.spot = none ∧ a.off < n then w.cell? a else none
theorem withRow.sub (h : Snap) (w : World) (g n : Nat) : Sub h (withRow h w g n) := ⟨fun a v e => by simp [withRow, e]⟩
theorem withRow.has {h : Snap} {w : World} (H : Has w h) (g n : Nat) : Has w (withRow h w g n) := ⟨fun a v e => by
  unfold withRow at e
  split at e
  · rename_i u hu; cases e; exact H.cell _ _ hu
  · split at e
    · exact e
    · cases e⟩
theorem withRow.new {h : Snap} {w : World} {g n : Nat} {a : Addr} {v : Value} (e : withRow h w g n a = some v) : h a = some v ∨ a.block = g := by
  unfold withRow at e
  split at e
  · rename_i u hu; cases e; exact .inl hu
  · split at e
    · rename_i hc; exact .inr hc.1
    · cases e
theorem withRow.at_ {h : Snap} {w : World} (H : Has w h) {g n o : Nat} {v : Value} (ho : o < n) (hc : w.cell? ⟨g, o, none⟩ = some v) : withRow h w g n ⟨g, o, none⟩ = some v := by
  unfold withRow
  split
  · rename_i u hu; rw [← H.cell _ _ hu]; exact hc
  · simp [ho, hc]
/-- A row of types that the call made is, from now on, read. -/
theorem own_Ty {w0 w : World} {B : Nat} {h : Snap} {v : Value} {n : Nat} {xs : List Value} {ts : List Ty} (H : Has w h) (hB : w0.heap.size ≤ B) (ho : w.ownsRow B 36 2 v n xs) (hc : Chunks (TyR h) 2 ts xs) :
    ∃ h' A cap, v = .slice A n cap ∧ n = ts.length ∧ n ≤ cap ∧ TyL h' A 0 ts ∧ Mk w0 h w h' ∧ (∀ a u, h' a = some u → h a = some u ∨ v.ownBlock = some a.block) := by
  have hl := hc.len
  have hn : n = ts.length := by have := ho.1; omega
  rcases ho.2 with ⟨rfl, h0⟩ | ⟨g, cap, cur, rfl, hb, hh, hnc, hcm, hsz, htk⟩
  · have : ts = [] := List.eq_nil_of_length_eq_zero (by omega)
    subst this
    exact ⟨h, none, 0, by rw [h0], hn, by omega, trivial, Mk.refl H, fun _ _ e => .inl e⟩
  · have hcell : ∀ j, j < n * 2 → ∀ u, xs[j]? = some u → w.cell? ⟨g, j, none⟩ = some u := fun j hj u hu => by
      rw [cell_of_row w g j cur 36 (0, 0) hh]
      rw [← htk, List.getElem?_take, if_pos hj] at hu
      simpa using hu
    refine ⟨withRow h w g (n * 2), some ⟨g, 0, none⟩, cap, rfl, hn, hnc, ?_, ⟨withRow.sub .., withRow.has H .., fun a u e => (withRow.new e).imp_right (fun k => by omega)⟩, fun a u e => (withRow.new e).imp_right (fun k => by rw [k]; rfl)⟩
    refine TyL.mk (fun j hj => ?_)
    obtain ⟨cs, r, e, hq⟩ := hc.at_ j hj
    match cs, e with
    | [c0, c1], _ =>
      refine ⟨g, 0, c0, c1, rfl, withRow.at_ H (by omega) (hcell _ (by omega) _ ?_), withRow.at_ H (by omega) (hcell _ (by omega) _ ?_), r.sub (withRow.sub ..)⟩
      · have := hq 0 (by omega); simp at this; rw [← this]; congr 1; omega
      · have := hq 1 (by omega); simp at this; rw [← this]; congr 1; omega
theorem own_Tm {w0 w : World} {B : Nat} {h : Snap} {v : Value} {n : Nat} {xs : List Value} {ts : List Tm} (H : Has w h) (hB : w0.heap.size ≤ B) (ho : w.ownsRow B 34 4 v n xs) (hc : Chunks (TmR h) 4 ts xs) :
    ∃ h' A cap, v = .slice A n cap ∧ n = ts.length ∧ n ≤ cap ∧ TmL h' A 0 ts ∧ Mk w0 h w h' ∧ (∀ a u, h' a = some u → h a = some u ∨ v.ownBlock = some a.block) := by
  have hl := hc.len
  have hn : n = ts.length := by have := ho.1; omega
  rcases ho.2 with ⟨rfl, h0⟩ | ⟨g, cap, cur, rfl, hb, hh, hnc, hcm, hsz, htk⟩
  · have : ts = [] := List.eq_nil_of_length_eq_zero (by omega)
    subst this
    exact ⟨h, none, 0, by rw [h0], hn, by omega, trivial, Mk.refl H, fun _ _ e => .inl e⟩
  · have hcell : ∀ j, j < n * 4 → ∀ u, xs[j]? = some u → w.cell? ⟨g, j, none⟩ = some u := fun j hj u hu => by
      rw [cell_of_row w g j cur 34 (0, 0) hh]
      rw [← htk, List.getElem?_take, if_pos hj] at hu
      simpa using hu
    refine ⟨withRow h w g (n * 4), some ⟨g, 0, none⟩, cap, rfl, hn, hnc, ?_, ⟨withRow.sub .., withRow.has H .., fun a u e => (withRow.new e).imp_right (fun k => by omega)⟩, fun a u e => (withRow.new e).imp_right (fun k => by rw [k]; rfl)⟩
    refine TmL.mk (fun j hj => ?_)
    obtain ⟨cs, r, e, hq⟩ := hc.at_ j hj
    match cs, e with
    | [c0, c1, c2, c3], _ =>
      refine ⟨g, 0, c0, c1, c2, c3, rfl, withRow.at_ H (by omega) (hcell _ (by omega) _ ?_), withRow.at_ H (by omega) (hcell _ (by omega) _ ?_), withRow.at_ H (by omega) (hcell _ (by omega) _ ?_), withRow.at_ H (by omega) (hcell _ (by omega) _ ?_), r.sub (withRow.sub ..)⟩
      · have := hq 0 (by omega); simp at this; rw [← this]; congr 1; omega
      · have := hq 1 (by omega); simp at this; rw [← this]; congr 1; omega
      · have := hq 2 (by omega); simp at this; rw [← this]; congr 1; omega
      · have := hq 3 (by omega); simp at this; rw [← this]; congr 1; omega

/-! ### 4. A fault: panic and recover -/
def faultV (c : Int) : Value := .iface 184 (.agg #[.int .i64 c])
def faultC (c : Int) : List PanicEntry := [{ v := faultV c, recovered := false }]
theorem run_mf (fn : Fn) (first cap : Array Value) (w : World) : (Instr.makeFunc fn first cap).run Tryz.prog w = .ok (.func fn first cap) w := rfl
theorem run_panic (t : TypeId) (v : Value) (w : World) : (Instr.panic (.iface t v)).run Tryz.prog w = .halt (.panic (.iface t v)) w := rfl
theorem run_ta (v : Value) (w : World) : (Instr.typeAssert (.iface 184 v) 20 184 true).run Tryz.prog w = .ok (.tuple #[v, .bool true]) w := by kernel_rfl
theorem must_ok (c : Int) (w : World) : Calls Tryz.prog 81 #[.bool true, .int .i64 c] w fun e w' => e = .returned (.tuple #[]) ∧ w' = w := by
  go_enter Tryz.func81, Tryz.ntmps81
  go_wp2
  go_end0
  exact ⟨rfl, rfl⟩
theorem must_no (c : Int) (w : World) : Calls Tryz.prog 81 #[.bool false, .int .i64 c] w fun e w' => e = .panicked (faultC c) ∧ w' = w := by
  have hp := run_panic
  go_enter Tryz.func81, Tryz.ntmps81
  go_wp2
  exact ⟨rfl, rfl, rfl⟩
theorem catch_idle (p : Addr) (w : World) :
    CallsD Tryz.prog 157 #[.pointer (some p)] .returning w fun e u' w' => e = .returned (.tuple #[]) ∧ u' = .returning ∧ w' = w := by
  refine callsD_of_wpS Tryz.func157 rfl fun c₀ cs hu => ?_
  apply wpS_seq
  apply wpS_region
  simp [wpOpsS, go_sem, recoverD, hu, Tryz.ntmps157, Exit.thenS]
  apply wpS_seq
  apply wpS_region
  simp [wpOpsS, go_sem, Exit.thenS]
  refine wpS_cond (t := false) (by simp [Act.eval, Array.replicate]) ?_
  simp only [Bool.false_eq_true, if_false]
  refine wpS_of_wp (wp_skip ?_)
  cases c₀
  simp_all [bodyPostS, results, Tryz.results157]
set_option maxRecDepth 20000 in
theorem catch_panicking (p : Addr) (x : Value) (c : Int) (w : World) (hc : w.cell? p = some x) (hz : w.frozen? p = false) (hp : p.block < w.heap.size) :
    CallsD Tryz.prog 157 #[.pointer (some p)] (.panicking (faultC c)) w fun e u' w' => e = .returned (.tuple #[]) ∧ u' = .panicking [{ v := faultV c, recovered := true }] ∧
      w' = (w.alloc (.cells #[.int .i64 c] 184)).setCell p (.int .i64 c) := by
  have hta := run_ta
  have hu184 := Tryz.underlying184
  have hne : ¬ p.block = w.heap.size := by omega
  have hc' : ∀ o, (w.alloc o).cell? p = some x := fun o => (((Below.refl w.heap.size w).alloc (Nat.le_refl _) o).cell hp).trans hc
  have hz' : ∀ o, (w.alloc o).frozen? p = false := fun o => (((Below.refl w.heap.size w).alloc (Nat.le_refl _) o).frozen hp).trans hz
  refine callsD_of_wpS Tryz.func157 rfl fun c₀ cs hu => ?_
  simp only [Tryz.ntmps157, List.size_toArray, List.length_cons, List.length_nil, Nat.reduceAdd, Nat.reduceSub, Array.replicate_succ,
     Array.replicate_zero, List.push_toArray, List.append_toArray, List.nil_append, List.cons_append]
  apply wpS_seq
  apply wpS_region
  simp [wpOpsS, go_sem, recoverD, hu, Exit.thenS, faultC, faultV]
  apply wpS_seq
  apply wpS_region
  simp [wpOpsS, go_sem, Exit.thenS]
  refine wpS_cond (t := true) (by simp [Act.eval]) ?_
  simp only [if_true]
  refine wpS_of_wp ?_
  go_wp2
  simp [bodyPostS, results, Tryz.results157]
end Go.Proofs.YtpgbeapojjinmaaGreatDoor
