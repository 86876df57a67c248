/- The closed values of the chapter's examples. · The law's helpers: base, bound, con, lam. No law is proved here. -/
import Derived.Test.YtpgbeapojjinmaaGreatDoorNA
import Derived.Test.YtpgbeapojjinmaaGreatDoorTC
import Derived.Test.YtpgbeapojjinmaaGreatDoorLB
import Derived.KernelRfl
set_option linter.unusedVariables false
set_option linter.unusedSimpArgs false
namespace Go.Proofs.YtpgbeapojjinmaaGreatDoor
open Go.RowKit
/-- The examples' types and terms. -/
def natT : Ty := .mk ⟨#[110, 97, 116]⟩ []
def oneT : Ty := arrowT ⟨#[110, 97, 116]⟩ [natT]
def lamTy : Ty := arrowT ⟨#[110, 97, 116]⟩ [oneT]
def progP : Pg := ⟨[⟨#[110, 97, 116]⟩], [(⟨#[122]⟩, natT), (⟨#[115]⟩, oneT), (⟨#[108, 97, 109]⟩, lamTy)]⟩
def bdT (n : Int) (l : List Tm) : Tm := .mk 2 n ⟨#[]⟩ l
def cnT (s : ByteArray) (l : List Tm) : Tm := .mk 1 0 s l
def lmT (t : Tm) : Tm := .mk 5 0 ⟨#[]⟩ [t]
def zT : Tm := cnT ⟨#[122]⟩ []
/-- s B0 -/
def sB : Tm := cnT ⟨#[115]⟩ [bdT 0 []]
def T4 : Tm := cnT ⟨#[108, 97, 109]⟩ [lmT sB]
def T5 : Tm := lmT sB
theorem raw4 : rawP T4 = 0 := by kernel_rfl
theorem raw5 : rawP T5 = 0 := by kernel_rfl
theorem typed4 : typedP progP ⟨[], [], []⟩ T4 natT = 0 := by kernel_rfl
theorem typed5 : typedP progP ⟨[], [], []⟩ (cnT ⟨#[108, 97, 109]⟩ [cnT ⟨#[115]⟩ []]) natT = 41 := by kernel_rfl
theorem text4 : textP T4 = ⟨#[108, 97, 109, 32, 40, 32, 92, 32, 46, 32, 115, 32, 66, 48, 32, 41]⟩ := by kernel_rfl
def T6 : Tm := cnT ⟨#[115]⟩ [zT]
theorem run6 : runW 20 (.sub 0 (bdT 0 [zT]) T5) = some (.inr (T6, 1)) := by kernel_rfl
theorem fin6 : finS (.inr (T6, 1)) = .inr T6 := by kernel_rfl
theorem text6 : textP T6 = ⟨#[115, 32, 122]⟩ := by kernel_rfl
theorem size4 : (measM T4).1 = 4 := by kernel_rfl
theorem depth4 : (measM T4).2 = 4 := by kernel_rfl
theorem sz_in {o1 : Sum Int (Tm × Int)} (h : (match o1 with | .inl _ => true | .inr (u, _) => Nat.ble u.sz 1000000000) = true) : ∀ u c, o1 = .inr (u, c) → u.ld ≤ 1000000000 := by
  rintro u c rfl
  exact Nat.le_trans u.ld_sz (Nat.le_of_ble_eq_true h)
def S6 : Tm := bdT 0 [zT]
theorem subst6 : SubstIs S6 T5 (.inr T6) := .inr ⟨by kernel_rfl, 20, .inr (T6, 1), by kernel_rfl, sz_in (by kernel_rfl), by kernel_rfl⟩
def S8 : Tm := lmT (bdT 1 [bdT 0 []])
def T8 : Tm := lmT sB
theorem subst8 : SubstIs S8 T5 (.inr T8) := .inr ⟨by kernel_rfl, 20, .inr (T8, 1), by kernel_rfl, sz_in (by kernel_rfl), by kernel_rfl⟩
def S10 : Tm := bdT 0 [bdT 0 []]
def U10 : Tm := lmT S10
theorem lp_step (f : Nat) (c : Int) (h0 : 0 ≤ c) (h1 : c + 1 ≤ 2000) (h : runW f (.sub (c + 1) S10 U10) = some (.inl 4)) : runW (f + 3) (.sub c S10 U10) = some (.inl 4) := by
  cases f with
  | zero => simp [runW] at h
  | succ f =>
    have hok : (okS S10 && okS U10) = true := by kernel_rfl
    have e1 : subHd U10 (bdT 0 []) 0 = (some U10, 0) := by kernel_rfl
    have e2 : subHd U10 S10 0 = (some U10, 0) := by kernel_rfl
    have i1 : runW (f + 1) (.app c U10 []) = some (.inr (U10, c)) := by rw [runW]
    have i2 : runW (f + 1 + 1) (.rep (subHd U10) c (bdT 0 []) 0) = some (.inr (U10, c)) := by
      unfold bdT
      rw [runW, if_neg (by decide)]
      simp only [listW]
      have := e1
      unfold bdT at this
      rw [this]
      exact i1
    have i3 : runW (f + 1 + 1) (.app c U10 [U10]) = some (.inl 4) := by
      show runW (f + 1 + 1) (.app c (.mk 5 0 ⟨#[]⟩ [S10]) [U10]) = _
      rw [runW, if_pos rfl, if_neg (by omega), if_pos h1, h]
    rw [show f + 1 + 3 = (f + 1 + 1 + 1) + 1 from rfl, runW, if_pos hok]
    have e3 := e2
    unfold S10 bdT at e3 ⊢
    rw [runW, if_neg (by decide)]
    simp only [listW]
    unfold bdT at i2
    rw [i2]
    simp only []
    rw [e3]
    exact i3
theorem lp_all : ∀ n : Nat, n ≤ 2000 → runW (3 * n + 4) (.sub (2000 - n) S10 U10) = some (.inl 4)
  | 0, _ => by kernel_rfl
  | n + 1, h => by
    have ih := lp_all n (by omega)
    have := lp_step (3 * n + 4) (2000 - (n + 1 : Nat)) (by omega) (by omega) (by rw [show (2000 : Int) - (n + 1 : Nat) + 1 = 2000 - n by omega]; exact ih)
    rw [show 3 * (n + 1) + 4 = 3 * n + 4 + 3 by omega]
    exact this
theorem subst10 : SubstIs S10 U10 (.inl 4) := .inr ⟨by kernel_rfl, 3 * 2000 + 4, .inl 4, by have := lp_all 2000 (by omega); simpa using this, (fun u c h => (by cases h)), rfl⟩
theorem eta12 : EtaIs (.mk 3 0 ⟨#[]⟩ []) lamTy (.inr (lmT (.mk 3 0 ⟨#[]⟩ [lmT (bdT 1 [bdT 0 []])]))) :=
  .inr ⟨by kernel_rfl, .inr ⟨by decide, rfl, .inr ⟨.inr (by kernel_rfl), by decide, Nat.le_of_ble_eq_true (by kernel_rfl), 20, _, (by kernel_rfl : etaF 20 0 (.mk 3 0 ⟨#[]⟩ []) lamTy = some (.inr (lmT (.mk 3 0 ⟨#[]⟩ [lmT (bdT 1 [bdT 0 []])]), 5))), sz_in (by kernel_rfl), by kernel_rfl⟩⟩⟩
def T12 : Tm := lmT (.mk 3 0 ⟨#[]⟩ [lmT (bdT 1 [bdT 0 []])])
theorem text12 : textP T12 = ⟨#[92, 32, 46, 32, 80, 48, 32, 40, 32, 92, 32, 46, 32, 66, 49, 32, 66, 48, 32, 41]⟩ := by kernel_rfl
def S14 : Tm := cnT ⟨#[115]⟩ [.mk 4 0 ⟨#[]⟩ [zT]]
def T14 : Tm := cnT ⟨#[115]⟩ [cnT ⟨#[115]⟩ [zT]]
theorem put14 : PutIs S14 T5 (.inr T14) := ⟨by kernel_rfl, ⟨20, .inr (T14, 1), by kernel_rfl, sz_in (by kernel_rfl), by kernel_rfl⟩, by kernel_rfl, Nat.le_of_ble_eq_true (by kernel_rfl)⟩
theorem text14 : textP T14 = ⟨#[115, 32, 40, 32, 115, 32, 122, 32, 41]⟩ := by kernel_rfl
def S18 : Tm := lmT (bdT 0 [bdT 1 []])
def T18 : Tm := lmT (bdT 0 [bdT 3 []])
theorem shift18 : shiftS S18 2 0 = .inr T18 := by kernel_rfl
theorem text18 : textP T18 = ⟨#[92, 32, 46, 32, 66, 48, 32, 66, 51]⟩ := by kernel_rfl
theorem text8 : textP T8 = ⟨#[92, 32, 46, 32, 115, 32, 66, 48]⟩ := by kernel_rfl
theorem arity1 : (PPartsL oneT).length = 1 := by kernel_rfl
end Go.Proofs.YtpgbeapojjinmaaGreatDoor
namespace Go.Proofs.YtpgbeapojjinmaaGreatDoor
open Go.RowKit Go.Shelf Go.Proofs.YtpgbeapojjinmaaGreatDoorW.PrintLast
set_option maxRecDepth 100000 in
set_option maxHeartbeats 4000000 in
theorem base_calls (s : ByteArray) (w : World) : Calls Tryz.prog 73 #[.string s] w fun e w' => e = .returned (.agg #[.string s, .slice none 0 0]) ∧ Below w.heap.size w w' := by
  have hu36 := Tryz.underlying36
  obtain ⟨a1, ab⟩ := alloc1 w (.cells #[.string ⟨#[]⟩, .slice none 0 0] 36)
  go_enter Tryz.func73, Tryz.ntmps73
  go_wp2_with fail
  obtain ⟨b1, bb⟩ := alloc1 w (.cells #[.string s, .slice none 0 0] 36)
  have x := box2 b1
  refine bodyPost_ret (v := .agg #[.string s, .slice none 0 0]) (by simp [results, Tryz.results73, go_sem, x]) rfl ?_
  exact ⟨rfl, bb⟩
set_option maxRecDepth 100000 in
set_option maxHeartbeats 4000000 in
theorem bound_calls (n : Int) (sv : Value) (A : Option Addr) (l c : Nat) (hs : sv = .slice A l c) (w : World) : Calls Tryz.prog 53 #[.int .i64 n, sv] w fun e w' => e = .returned (.agg #[.int .i64 2, .int .i64 n, .string ⟨#[]⟩, sv]) ∧ Below w.heap.size w w' := by
  subst hs
  have hu34 := Tryz.underlying34
  go_enter Tryz.func53, Tryz.ntmps53
  go_wp2_with fail
  obtain ⟨b1, bb⟩ := alloc1 w (.cells #[.int .i64 2, .int .i64 n, .string ⟨#[]⟩, .slice A l c] 34)
  have x := box4 b1
  refine bodyPost_ret (v := .agg #[.int .i64 2, .int .i64 n, .string ⟨#[]⟩, .slice A l c]) (by simp [results, Tryz.results53, go_sem, x]) rfl ?_
  exact ⟨rfl, bb⟩
set_option maxRecDepth 100000 in
set_option maxHeartbeats 4000000 in
theorem con_calls (s : ByteArray) (sv : Value) (A : Option Addr) (l c : Nat) (hs : sv = .slice A l c) (w : World) : Calls Tryz.prog 74 #[.string s, sv] w fun e w' => e = .returned (.agg #[.int .i64 1, .int .i64 0, .string s, sv]) ∧ Below w.heap.size w w' := by
  subst hs
  have hu34 := Tryz.underlying34
  go_enter Tryz.func74, Tryz.ntmps74
  go_wp2_with fail
  obtain ⟨b1, bb⟩ := alloc1 w (.cells #[.int .i64 1, .int .i64 0, .string s, .slice A l c] 34)
  have x := box4 b1
  refine bodyPost_ret (v := .agg #[.int .i64 1, .int .i64 0, .string s, .slice A l c]) (by simp [results, Tryz.results74, go_sem, x]) rfl ?_
  exact ⟨rfl, bb⟩
set_option maxRecDepth 100000 in
set_option maxHeartbeats 4000000 in
theorem lam_calls (k n : Int) (s : ByteArray) (A : Option Addr) (l c : Nat) (w : World) : Calls Tryz.prog 51 #[.agg #[.int .i64 k, .int .i64 n, .string s, .slice A l c]] w fun e w' =>
    ∃ g, e = .returned (.agg #[.int .i64 5, .int .i64 0, .string ⟨#[]⟩, .slice (some ⟨g, 0, none⟩) 1 1]) ∧ Below w.heap.size w w' ∧ w'.heap[g]? = some (.cells #[.int .i64 k, .int .i64 n, .string s, .slice A l c] 34) ∧ w.heap.size ≤ g := by
  have hu34 := Tryz.underlying34
  go_enter Tryz.func51, Tryz.ntmps51
  go_wp2_with fail
  obtain ⟨a1, a2, a3, ab⟩ := alloc3 w (.cells #[.int .i64 k, .int .i64 n, .string s, .slice A l c] 34) (.cells #[.int .i64 5, .int .i64 0, .string ⟨#[]⟩, .slice (some ⟨w.heap.size + 1 + 1, 0, none⟩) 1 1] 34) (.cells #[.int .i64 k, .int .i64 n, .string s, .slice A l c] 34)
  have x := box4 a2
  refine bodyPost_ret (v := .agg #[.int .i64 5, .int .i64 0, .string ⟨#[]⟩, .slice (some ⟨w.heap.size + 1 + 1, 0, none⟩) 1 1]) (by simp [results, Tryz.results51, go_sem, x]) rfl ?_
  exact ⟨_, rfl, ab, a3, by omega⟩
theorem one_TmS {w0 W : World} {h : Snap} {u : Tm} {A : Option Addr} {c g : Nat} (H : Has W h) (hb : W.heap[g]? = some (.cells #[.int .i64 u.k, .int .i64 u.n, .string u.nm, .slice A u.ar.length c] 34)) (r : TmR h u [.int .i64 u.k, .int .i64 u.n, .string u.nm, .slice A u.ar.length c]) (hg : w0.heap.size ≤ g) :
    ∃ h2, TmS h2 [u] (.slice (some ⟨g, 0, none⟩) 1 1) ∧ Mk w0 h W h2 := by
  have hx : ∀ i, W.cell? ⟨g, i, none⟩ = _ := fun i => blk_cell hb i
  exact ⟨withRow h W g 4, ⟨_, 1, rfl, by simp, by simp [lim], ⟨⟨g, 0, _, _, _, _, rfl, withRow.at_ H (by omega) (hx 0), withRow.at_ H (by omega) (hx 1), withRow.at_ H (by omega) (hx 2), withRow.at_ H (by omega) (hx 3), r.sub (withRow.sub ..)⟩, trivial⟩⟩, ⟨withRow.sub .., withRow.has H .., fun a v e => (withRow.new e).imp_right (fun k => by omega)⟩⟩
theorem one_TyS {w0 W : World} {h : Snap} {u : Ty} {A : Option Addr} {c g : Nat} (H : Has W h) (hb : W.heap[g]? = some (.cells #[.string u.nm, .slice A u.ar.length c] 36)) (r : TyR h u [.string u.nm, .slice A u.ar.length c]) (hg : w0.heap.size ≤ g) :
    ∃ h2, TyS h2 [u] (.slice (some ⟨g, 0, none⟩) 1 1) ∧ Mk w0 h W h2 := by
  obtain ⟨h2, t2, m2⟩ := one_TyL (w0 := w0) H hb r hg
  exact ⟨h2, ⟨_, 1, rfl, by simp, by simp [lim], t2⟩, m2⟩
theorem cnT_R {h : Snap} {s : ByteArray} {l : List Tm} {A : Option Addr} {c : Nat} (r : TmS h l (.slice A l.length c)) : TmR h (cnT s l) [.int .i64 1, .int .i64 0, .string s, .slice A l.length c] := by
  obtain ⟨A', c', e, h1, h2, h3⟩ := r
  cases e
  exact ⟨A, c, rfl, h1, h2, by omega, by omega, h3⟩
theorem bdT_R {h : Snap} {n : Int} {l : List Tm} {A : Option Addr} {c : Nat} (hn : 0 ≤ n ∧ n ≤ 1000) (r : TmS h l (.slice A l.length c)) : TmR h (bdT n l) [.int .i64 2, .int .i64 n, .string ⟨#[]⟩, .slice A l.length c] := by
  obtain ⟨A', c', e, h1, h2, h3⟩ := r
  cases e
  exact ⟨A, c, rfl, h1, h2, by omega, by omega, h3⟩
theorem lmT_R {h : Snap} {t : Tm} {A : Option Addr} {c : Nat} (r : TmS h [t] (.slice A 1 c)) : TmR h (lmT t) [.int .i64 5, .int .i64 0, .string ⟨#[]⟩, .slice A 1 c] := by
  obtain ⟨A', c', e, h1, h2, h3⟩ := r
  cases e
  exact ⟨A, c, rfl, h1, h2, by omega, by omega, h3⟩
theorem TmS_nil (h : Snap) : TmS h [] (.slice none 0 0) := ⟨none, 0, rfl, by simp, by simp, trivial⟩
end Go.Proofs.YtpgbeapojjinmaaGreatDoor
