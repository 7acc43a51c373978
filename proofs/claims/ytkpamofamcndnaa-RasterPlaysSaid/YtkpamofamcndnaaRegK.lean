/- package region: single, Rects, Has by contract. -/
import Derived.Test.YtkpamofamcndnaaRegJ
import Derived.Test.YtkpamofamcndnaaRectP
namespace Go.Proofs.Ytkpamofamcndnaa
open Go.RowKit Go.Shelf
set_option linter.unusedSimpArgs false
set_option linter.unusedVariables false
-- below_from_drew
attribute [local go_sem] ov_cell_same ov_cell_other ov_frozen_same ov_frozen_other ov_size ov_setCell_same ov_setCell_other cell_alloc_old frozen_alloc_old setCell_alloc_old old_alloc old_ov old_drew old_drewN old_setCell
attribute [local go_sem ↓] run_max2 run_min2 eql_rect

def orK (a b : Bool) : Bool := a || b
def andK (a b : Bool) : Bool := a && b
def minusK (a b : Bool) : Bool := a && !b
theorem intsAt_ov {w : World} {q : Nat} {x : Option Addr} {y z : Nat} {T T' : TypeId} {cs' : Array Value} {a : Option Addr} {xs : List Int} (h : IntsAt w a xs) (hq : Has w q #[.slice x y z] T) : IntsAt (ov w q cs' T') a xs := fun h0 => by
  obtain ⟨b, off, rfl, hb, hc⟩ := h h0
  have hne : b ≠ q := fun e => by
    have k := hc 0 h0
    rw [e, hq.cells] at k
    rcases ho : off + 0 with _ | o
    · rw [ho] at k; simp at k
    · rw [ho] at k; simp at k
  exact ⟨b, off, rfl, by rw [ov_size]; exact hb, fun i hi => (World.cell?_of_block (a := ⟨b, off + i, none⟩) (Array.getElem?_setIfInBounds_ne (Ne.symm hne))).trans (hc i hi)⟩
theorem bandsAt_ov {w : World} {q : Nat} {x : Option Addr} {y z : Nat} {T T' : TypeId} {cs' : Array Value} {a : Option Addr} {B : List BandZ} (h : BandsAt w a B) (hq : Has w q #[.slice x y z] T) : BandsAt (ov w q cs' T') a B := fun h0 => by
  obtain ⟨b, off, rfl, hb, hc⟩ := h h0
  have hne : b ≠ q := fun e => by
    have k := (hc 0 h0).1
    rw [e, hq.cells] at k
    rcases ho : off + 0 * 3 with _ | o
    · rw [ho] at k; simp at k
    · rw [ho] at k; simp at k
  have hcell : ∀ o, (ov w q cs' T').cell? ⟨b, o, none⟩ = w.cell? ⟨b, o, none⟩ := fun o => World.cell?_of_block (a := ⟨b, o, none⟩) (Array.getElem?_setIfInBounds_ne (Ne.symm hne))
  refine ⟨b, off, rfl, by rw [ov_size]; exact hb, fun i hi => ?_⟩
  obtain ⟨k0, k1, ea, ec, k2, k3, k4⟩ := hc i hi
  exact ⟨(hcell _).trans k0, (hcell _).trans k1, ea, ec, (hcell _).trans k2, k3, intsAt_ov k4 hq⟩
set_option maxRecDepth 100000 in
set_option maxHeartbeats 4000000 in
theorem rgor_any (a b : Option Addr) (n c m d : Nat) (A B : List BandZ) (w : World) (hA : RegOk A) (hB : RegOk B) (hn : A.length = n) (hm : B.length = m) (h1 : BandsAt w a A) (h2 : BandsAt w b B) (R : List BandZ) (hR : combZ orK A B = R) :
    Calls Try.prog 17 #[.agg #[.slice a n c], .agg #[.slice b m d]] w fun e w' => ∃ al ca, e = .returned (.agg #[.slice al R.length ca]) ∧ BandsAt w' al R ∧ Below w.heap.size w w' := by
  have HC := Lib.hid (fun u (hb : Below w.heap.size w u) => combine_any _ _ keeps_or a b n c m d A B u hA hB hn hm (h1.below hb) (h2.below hb) R hR)
  clear hA hB hn hm h1 h2 hR
  go_enter Try.func17, Try.ntmps17
  go_wp2_with (go_at_call 49; (with_reducible refine (HC.out _ (by (repeat' (first | (with_reducible exact Below.refl _ _) | (with_reducible assumption) | (with_reducible refine below_from_drew ?_) | (with_reducible refine Below.alloc ?_ ?_ _) | (with_reducible refine Below.drew ?_) | (with_reducible refine below_drewN ?_ _) | (with_reducible refine Below.setCell ?_ ?_ _) | (with_reducible refine below_via ?_ (by assumption) ?_) | (with_reducible refine below_ov ?_ ?_ _ _) | go_size)))).mono ?_); rintro e w1 ⟨al, ca, rfl, hI, hb⟩; refine Exists.elim (after3 (w := w) (b0 := w.heap.size) (cs0 := ?_) (T0 := ?_) (b1 := w.heap.size + 1) (cs1 := ?_) (T1 := ?_) (b2 := w.heap.size + 1 + 1) (cs2 := ?_) (T2 := ?_) hb ?_ ?_ ?_ ?_) ?_; rotate_left 6; (focus ((repeat' (first | (with_reducible exact Below.refl _ _) | (with_reducible assumption) | (with_reducible refine below_from_drew ?_) | (with_reducible refine Below.alloc ?_ ?_ _) | (with_reducible refine Below.drew ?_) | (with_reducible refine below_drewN ?_ _) | (with_reducible refine Below.setCell ?_ ?_ _) | (with_reducible refine below_via ?_ (by assumption) ?_) | (with_reducible refine below_ov ?_ ?_ _ _) | go_size)); done)); (focus ((repeat' (first | (with_reducible refine has_drew ?_) | (with_reducible refine has_drewN ?_) | (with_reducible refine has_new ?_; (first | (with_reducible rfl) | omega | (simp; done) | (simp; omega))) | (with_reducible refine has_ov_same ?_; (first | (with_reducible rfl) | omega | (simp; done) | (simp; omega))) | (with_reducible refine has_alloc ?_) | (with_reducible refine has_ov_other ?_ ?_; (focus (first | (with_reducible rfl) | omega | (simp; done) | (simp; omega)))) | (with_reducible assumption) | (with_reducible exact has_below hB (by assumption)))); done)); (focus ((repeat' (first | (with_reducible refine has_drew ?_) | (with_reducible refine has_drewN ?_) | (with_reducible refine has_new ?_; (first | (with_reducible rfl) | omega | (simp; done) | (simp; omega))) | (with_reducible refine has_ov_same ?_; (first | (with_reducible rfl) | omega | (simp; done) | (simp; omega))) | (with_reducible refine has_alloc ?_) | (with_reducible refine has_ov_other ?_ ?_; (focus (first | (with_reducible rfl) | omega | (simp; done) | (simp; omega)))) | (with_reducible assumption) | (with_reducible exact has_below hB (by assumption)))); done)); (focus ((repeat' (first | (with_reducible refine has_drew ?_) | (with_reducible refine has_drewN ?_) | (with_reducible refine has_new ?_; (first | (with_reducible rfl) | omega | (simp; done) | (simp; omega))) | (with_reducible refine has_ov_same ?_; (first | (with_reducible rfl) | omega | (simp; done) | (simp; omega))) | (with_reducible refine has_alloc ?_) | (with_reducible refine has_ov_other ?_ ?_; (focus (first | (with_reducible rfl) | omega | (simp; done) | (simp; omega)))) | (with_reducible assumption) | (with_reducible exact has_below hB (by assumption)))); done)); rintro u1 ⟨rfl, hB, hz, z0, o0, z1, o1, z2, o2⟩; (try simp only [World.size_alloc, World.size_setCell, World.size_drew, ov_size] at hz))
  have HI := Lib.hid hI
  clear hI
  refine bodyPost_ret (by simp [results, Try.results17, go_sem, z2]; try rfl) rfl ?_
  refine ⟨al, ca, rfl, ?_, by (repeat' (first | (with_reducible exact Below.refl _ _) | (with_reducible assumption) | (with_reducible refine below_from_drew ?_) | (with_reducible refine Below.alloc ?_ ?_ _) | (with_reducible refine Below.drew ?_) | (with_reducible refine below_drewN ?_ _) | (with_reducible refine Below.setCell ?_ ?_ _) | (with_reducible refine below_via ?_ (by assumption) ?_) | (with_reducible refine below_ov ?_ ?_ _ _) | go_size))⟩
  have q := bandsAt_ov (cs' := #[.slice al R.length ca]) (T' := 26) HI.out (has_ov_same (by simpa using z2))
  rw [ov_ov_same] at q
  exact q
set_option maxRecDepth 100000 in
set_option maxHeartbeats 4000000 in
theorem rgand_any (a b : Option Addr) (n c m d : Nat) (A B : List BandZ) (w : World) (hA : RegOk A) (hB : RegOk B) (hn : A.length = n) (hm : B.length = m) (h1 : BandsAt w a A) (h2 : BandsAt w b B) (R : List BandZ) (hR : combZ andK A B = R) :
    Calls Try.prog 14 #[.agg #[.slice a n c], .agg #[.slice b m d]] w fun e w' => ∃ al ca, e = .returned (.agg #[.slice al R.length ca]) ∧ BandsAt w' al R ∧ Below w.heap.size w w' := by
  have HC := Lib.hid (fun u (hb : Below w.heap.size w u) => combine_any _ _ keeps_and a b n c m d A B u hA hB hn hm (h1.below hb) (h2.below hb) R hR)
  clear hA hB hn hm h1 h2 hR
  go_enter Try.func14, Try.ntmps14
  go_wp2_with (go_at_call 49; (with_reducible refine (HC.out _ (by (repeat' (first | (with_reducible exact Below.refl _ _) | (with_reducible assumption) | (with_reducible refine below_from_drew ?_) | (with_reducible refine Below.alloc ?_ ?_ _) | (with_reducible refine Below.drew ?_) | (with_reducible refine below_drewN ?_ _) | (with_reducible refine Below.setCell ?_ ?_ _) | (with_reducible refine below_via ?_ (by assumption) ?_) | (with_reducible refine below_ov ?_ ?_ _ _) | go_size)))).mono ?_); rintro e w1 ⟨al, ca, rfl, hI, hb⟩; refine Exists.elim (after3 (w := w) (b0 := w.heap.size) (cs0 := ?_) (T0 := ?_) (b1 := w.heap.size + 1) (cs1 := ?_) (T1 := ?_) (b2 := w.heap.size + 1 + 1) (cs2 := ?_) (T2 := ?_) hb ?_ ?_ ?_ ?_) ?_; rotate_left 6; (focus ((repeat' (first | (with_reducible exact Below.refl _ _) | (with_reducible assumption) | (with_reducible refine below_from_drew ?_) | (with_reducible refine Below.alloc ?_ ?_ _) | (with_reducible refine Below.drew ?_) | (with_reducible refine below_drewN ?_ _) | (with_reducible refine Below.setCell ?_ ?_ _) | (with_reducible refine below_via ?_ (by assumption) ?_) | (with_reducible refine below_ov ?_ ?_ _ _) | go_size)); done)); (focus ((repeat' (first | (with_reducible refine has_drew ?_) | (with_reducible refine has_drewN ?_) | (with_reducible refine has_new ?_; (first | (with_reducible rfl) | omega | (simp; done) | (simp; omega))) | (with_reducible refine has_ov_same ?_; (first | (with_reducible rfl) | omega | (simp; done) | (simp; omega))) | (with_reducible refine has_alloc ?_) | (with_reducible refine has_ov_other ?_ ?_; (focus (first | (with_reducible rfl) | omega | (simp; done) | (simp; omega)))) | (with_reducible assumption) | (with_reducible exact has_below hB (by assumption)))); done)); (focus ((repeat' (first | (with_reducible refine has_drew ?_) | (with_reducible refine has_drewN ?_) | (with_reducible refine has_new ?_; (first | (with_reducible rfl) | omega | (simp; done) | (simp; omega))) | (with_reducible refine has_ov_same ?_; (first | (with_reducible rfl) | omega | (simp; done) | (simp; omega))) | (with_reducible refine has_alloc ?_) | (with_reducible refine has_ov_other ?_ ?_; (focus (first | (with_reducible rfl) | omega | (simp; done) | (simp; omega)))) | (with_reducible assumption) | (with_reducible exact has_below hB (by assumption)))); done)); (focus ((repeat' (first | (with_reducible refine has_drew ?_) | (with_reducible refine has_drewN ?_) | (with_reducible refine has_new ?_; (first | (with_reducible rfl) | omega | (simp; done) | (simp; omega))) | (with_reducible refine has_ov_same ?_; (first | (with_reducible rfl) | omega | (simp; done) | (simp; omega))) | (with_reducible refine has_alloc ?_) | (with_reducible refine has_ov_other ?_ ?_; (focus (first | (with_reducible rfl) | omega | (simp; done) | (simp; omega)))) | (with_reducible assumption) | (with_reducible exact has_below hB (by assumption)))); done)); rintro u1 ⟨rfl, hB, hz, z0, o0, z1, o1, z2, o2⟩; (try simp only [World.size_alloc, World.size_setCell, World.size_drew, ov_size] at hz))
  have HI := Lib.hid hI
  clear hI
  refine bodyPost_ret (by simp [results, Try.results14, go_sem, z2]; try rfl) rfl ?_
  refine ⟨al, ca, rfl, ?_, by (repeat' (first | (with_reducible exact Below.refl _ _) | (with_reducible assumption) | (with_reducible refine below_from_drew ?_) | (with_reducible refine Below.alloc ?_ ?_ _) | (with_reducible refine Below.drew ?_) | (with_reducible refine below_drewN ?_ _) | (with_reducible refine Below.setCell ?_ ?_ _) | (with_reducible refine below_via ?_ (by assumption) ?_) | (with_reducible refine below_ov ?_ ?_ _ _) | go_size))⟩
  have q := bandsAt_ov (cs' := #[.slice al R.length ca]) (T' := 26) HI.out (has_ov_same (by simpa using z2))
  rw [ov_ov_same] at q
  exact q
set_option maxRecDepth 100000 in
set_option maxHeartbeats 4000000 in
theorem rgminus_any (a b : Option Addr) (n c m d : Nat) (A B : List BandZ) (w : World) (hA : RegOk A) (hB : RegOk B) (hn : A.length = n) (hm : B.length = m) (h1 : BandsAt w a A) (h2 : BandsAt w b B) (R : List BandZ) (hR : combZ minusK A B = R) :
    Calls Try.prog 10 #[.agg #[.slice a n c], .agg #[.slice b m d]] w fun e w' => ∃ al ca, e = .returned (.agg #[.slice al R.length ca]) ∧ BandsAt w' al R ∧ Below w.heap.size w w' := by
  have HC := Lib.hid (fun u (hb : Below w.heap.size w u) => combine_any _ _ keeps_minus a b n c m d A B u hA hB hn hm (h1.below hb) (h2.below hb) R hR)
  clear hA hB hn hm h1 h2 hR
  go_enter Try.func10, Try.ntmps10
  go_wp2_with (go_at_call 49; (with_reducible refine (HC.out _ (by (repeat' (first | (with_reducible exact Below.refl _ _) | (with_reducible assumption) | (with_reducible refine below_from_drew ?_) | (with_reducible refine Below.alloc ?_ ?_ _) | (with_reducible refine Below.drew ?_) | (with_reducible refine below_drewN ?_ _) | (with_reducible refine Below.setCell ?_ ?_ _) | (with_reducible refine below_via ?_ (by assumption) ?_) | (with_reducible refine below_ov ?_ ?_ _ _) | go_size)))).mono ?_); rintro e w1 ⟨al, ca, rfl, hI, hb⟩; refine Exists.elim (after3 (w := w) (b0 := w.heap.size) (cs0 := ?_) (T0 := ?_) (b1 := w.heap.size + 1) (cs1 := ?_) (T1 := ?_) (b2 := w.heap.size + 1 + 1) (cs2 := ?_) (T2 := ?_) hb ?_ ?_ ?_ ?_) ?_; rotate_left 6; (focus ((repeat' (first | (with_reducible exact Below.refl _ _) | (with_reducible assumption) | (with_reducible refine below_from_drew ?_) | (with_reducible refine Below.alloc ?_ ?_ _) | (with_reducible refine Below.drew ?_) | (with_reducible refine below_drewN ?_ _) | (with_reducible refine Below.setCell ?_ ?_ _) | (with_reducible refine below_via ?_ (by assumption) ?_) | (with_reducible refine below_ov ?_ ?_ _ _) | go_size)); done)); (focus ((repeat' (first | (with_reducible refine has_drew ?_) | (with_reducible refine has_drewN ?_) | (with_reducible refine has_new ?_; (first | (with_reducible rfl) | omega | (simp; done) | (simp; omega))) | (with_reducible refine has_ov_same ?_; (first | (with_reducible rfl) | omega | (simp; done) | (simp; omega))) | (with_reducible refine has_alloc ?_) | (with_reducible refine has_ov_other ?_ ?_; (focus (first | (with_reducible rfl) | omega | (simp; done) | (simp; omega)))) | (with_reducible assumption) | (with_reducible exact has_below hB (by assumption)))); done)); (focus ((repeat' (first | (with_reducible refine has_drew ?_) | (with_reducible refine has_drewN ?_) | (with_reducible refine has_new ?_; (first | (with_reducible rfl) | omega | (simp; done) | (simp; omega))) | (with_reducible refine has_ov_same ?_; (first | (with_reducible rfl) | omega | (simp; done) | (simp; omega))) | (with_reducible refine has_alloc ?_) | (with_reducible refine has_ov_other ?_ ?_; (focus (first | (with_reducible rfl) | omega | (simp; done) | (simp; omega)))) | (with_reducible assumption) | (with_reducible exact has_below hB (by assumption)))); done)); (focus ((repeat' (first | (with_reducible refine has_drew ?_) | (with_reducible refine has_drewN ?_) | (with_reducible refine has_new ?_; (first | (with_reducible rfl) | omega | (simp; done) | (simp; omega))) | (with_reducible refine has_ov_same ?_; (first | (with_reducible rfl) | omega | (simp; done) | (simp; omega))) | (with_reducible refine has_alloc ?_) | (with_reducible refine has_ov_other ?_ ?_; (focus (first | (with_reducible rfl) | omega | (simp; done) | (simp; omega)))) | (with_reducible assumption) | (with_reducible exact has_below hB (by assumption)))); done)); rintro u1 ⟨rfl, hB, hz, z0, o0, z1, o1, z2, o2⟩; (try simp only [World.size_alloc, World.size_setCell, World.size_drew, ov_size] at hz))
  have HI := Lib.hid hI
  clear hI
  refine bodyPost_ret (by simp [results, Try.results10, go_sem, z2]; try rfl) rfl ?_
  refine ⟨al, ca, rfl, ?_, by (repeat' (first | (with_reducible exact Below.refl _ _) | (with_reducible assumption) | (with_reducible refine below_from_drew ?_) | (with_reducible refine Below.alloc ?_ ?_ _) | (with_reducible refine Below.drew ?_) | (with_reducible refine below_drewN ?_ _) | (with_reducible refine Below.setCell ?_ ?_ _) | (with_reducible refine below_via ?_ (by assumption) ?_) | (with_reducible refine below_ov ?_ ?_ _ _) | go_size))⟩
  have q := bandsAt_ov (cs' := #[.slice al R.length ca]) (T' := 26) HI.out (has_ov_same (by simpa using z2))
  rw [ov_ov_same] at q
  exact q
theorem bandsAt_one {w : World} {g e : Nat} {y0 y1 x0 x1 : Int} {T T' : TypeId} (hb : Has w g #[.int .i64 y0, .int .i64 y1, .slice (some ⟨e, 0, none⟩) 2 2] T) (he : Has w e #[.int .i64 x0, .int .i64 x1] T') : BandsAt w (some ⟨g, 0, none⟩) [⟨y0, y1, [x0, x1]⟩] := fun _ => by
  refine ⟨g, 0, rfl, hb.lt, fun i hi => ?_⟩
  obtain rfl : i = 0 := by simp at hi; omega
  refine ⟨has_cell hb rfl, has_cell hb rfl, some ⟨e, 0, none⟩, 2, has_cell hb rfl, Nat.le_refl _, fun _ => ⟨e, 0, rfl, he.lt, fun j hj => ?_⟩⟩
  have : j = 0 ∨ j = 1 := by simp at hj; omega
  rcases this with rfl | rfl
  · exact has_cell he rfl
  · exact has_cell he rfl
/-- Four numbers of a rectangle. -/
def q0Z : RectQ := (0, 0, 0, 0)
def rectV (q : RectQ) : List Value := [.int .i64 q.1, .int .i64 q.2.1, .int .i64 q.2.2.1, .int .i64 q.2.2.2]
def oneQ (q : RectQ) : List BandZ := oneZ (r0 q.1 q.2.1 q.2.2.1 q.2.2.2) (r1 q.1 q.2.1 q.2.2.1 q.2.2.2) (r2 q.1 q.2.1 q.2.2.1 q.2.2.2) (r3 q.1 q.2.1 q.2.2.1 q.2.2.2)
theorem oneQ_ok (q : RectQ) : RegOk (oneQ q) := by
  have b := r_bounds q.1 q.2.1 q.2.2.1 q.2.2.2
  exact RegOk.one b.1.1 b.2.1.1 b.2.2.1.2 b.2.2.2.1.2
theorem oneQ_has (q : RectQ) (x y : Int) : hasB (oneQ q) x y = hasR q.1 q.2.1 q.2.2.1 q.2.2.2 x y := by
  have b := r_bounds q.1 q.2.1 q.2.2.1 q.2.2.2
  obtain ⟨k1, k2, k3⟩ := oneZ_ok (lo := -1073741825) (m := -1073741824) (x0 := r0 q.1 q.2.1 q.2.2.1 q.2.2.2) (y0 := r1 q.1 q.2.1 q.2.2.1 q.2.2.2) (x1 := r2 q.1 q.2.1 q.2.2.1 q.2.2.2) (y1 := r3 q.1 q.2.1 q.2.2.1 q.2.2.2) (by omega) (by omega)
  unfold oneQ
  rw [k3]
  rfl
set_option maxRecDepth 100000 in
set_option maxHeartbeats 4000000 in
theorem single_any (a b c d : Int) (w : World) (R : List BandZ) (hR : oneQ (a, b, c, d) = R) :
    Calls Try.prog 51 #[(.agg #[.int .i64 (a), .int .i64 (b), .int .i64 (c), .int .i64 (d)])] w fun e w' => ∃ al ca, e = .returned (.agg #[.slice al R.length ca]) ∧ BandsAt w' al R ∧ Below w.heap.size w w' := by
  have HRR := Lib.hid hR
  have he := empty_any (r0 a b c d) (r1 a b c d) (r2 a b c d) (r3 a b c d)
  have hs := r_same (nf_r a b c d)
  have hok := ok_iff (r0 a b c d) (r1 a b c d) (r2 a b c d) (r3 a b c d)
  rw [hs.1, hs.2.2.1] at hok
  have HE := Lib.hid he; have HO := Lib.hid hok
  clear he hs hok hR
  go_enter Try.func51, Try.ntmps51
  go_wp2_with (first | (go_at_call 59; (with_reducible refine (right_any _ _ _ _ _).mono ?_); rintro e w1 ⟨rfl, hb⟩; refine Exists.elim (after2 (w := w) (b0 := w.heap.size) (cs0 := ?_) (T0 := ?_) (b1 := w.heap.size + 1) (cs1 := ?_) (T1 := ?_) hb ?_ ?_ ?_) ?_; rotate_left 4; (focus ((repeat' (first | (with_reducible exact Below.refl _ _) | (with_reducible assumption) | (with_reducible refine below_from_drew ?_) | (with_reducible refine Below.alloc ?_ ?_ _) | (with_reducible refine Below.drew ?_) | (with_reducible refine below_drewN ?_ _) | (with_reducible refine Below.setCell ?_ ?_ _) | (with_reducible refine below_via ?_ (by assumption) ?_) | (with_reducible refine below_ov ?_ ?_ _ _) | go_size)); done)); (focus ((repeat' (first | (with_reducible refine has_drew ?_) | (with_reducible refine has_drewN ?_) | (with_reducible refine has_new ?_; (first | (with_reducible rfl) | omega | (simp; done) | (simp; omega))) | (with_reducible refine has_ov_same ?_; (first | (with_reducible rfl) | omega | (simp; done) | (simp; omega))) | (with_reducible refine has_alloc ?_) | (with_reducible refine has_ov_other ?_ ?_; (focus (first | (with_reducible rfl) | omega | (simp; done) | (simp; omega)))) | (with_reducible assumption) | (with_reducible exact has_below hB (by assumption)))); done)); (focus ((repeat' (first | (with_reducible refine has_drew ?_) | (with_reducible refine has_drewN ?_) | (with_reducible refine has_new ?_; (first | (with_reducible rfl) | omega | (simp; done) | (simp; omega))) | (with_reducible refine has_ov_same ?_; (first | (with_reducible rfl) | omega | (simp; done) | (simp; omega))) | (with_reducible refine has_alloc ?_) | (with_reducible refine has_ov_other ?_ ?_; (focus (first | (with_reducible rfl) | omega | (simp; done) | (simp; omega)))) | (with_reducible assumption) | (with_reducible exact has_below hB (by assumption)))); done)); rintro u1 ⟨rfl, hB, hz, z0, o0, z1, o1⟩; (try simp only [World.size_alloc, World.size_setCell, World.size_drew, ov_size] at hz)) | (go_at_call 68; (with_reducible refine (HE.out _).mono ?_); rintro e w1 ⟨rfl, hb⟩; refine Exists.elim (after2 (w := w) (b0 := w.heap.size) (cs0 := ?_) (T0 := ?_) (b1 := w.heap.size + 1) (cs1 := ?_) (T1 := ?_) hb ?_ ?_ ?_) ?_; rotate_left 4; (focus ((repeat' (first | (with_reducible exact Below.refl _ _) | (with_reducible assumption) | (with_reducible refine below_from_drew ?_) | (with_reducible refine Below.alloc ?_ ?_ _) | (with_reducible refine Below.drew ?_) | (with_reducible refine below_drewN ?_ _) | (with_reducible refine Below.setCell ?_ ?_ _) | (with_reducible refine below_via ?_ (by assumption) ?_) | (with_reducible refine below_ov ?_ ?_ _ _) | go_size)); done)); (focus ((repeat' (first | (with_reducible refine has_drew ?_) | (with_reducible refine has_drewN ?_) | (with_reducible refine has_new ?_; (first | (with_reducible rfl) | omega | (simp; done) | (simp; omega))) | (with_reducible refine has_ov_same ?_; (first | (with_reducible rfl) | omega | (simp; done) | (simp; omega))) | (with_reducible refine has_alloc ?_) | (with_reducible refine has_ov_other ?_ ?_; (focus (first | (with_reducible rfl) | omega | (simp; done) | (simp; omega)))) | (with_reducible assumption) | (with_reducible exact has_below hB (by assumption)))); done)); (focus ((repeat' (first | (with_reducible refine has_drew ?_) | (with_reducible refine has_drewN ?_) | (with_reducible refine has_new ?_; (first | (with_reducible rfl) | omega | (simp; done) | (simp; omega))) | (with_reducible refine has_ov_same ?_; (first | (with_reducible rfl) | omega | (simp; done) | (simp; omega))) | (with_reducible refine has_alloc ?_) | (with_reducible refine has_ov_other ?_ ?_; (focus (first | (with_reducible rfl) | omega | (simp; done) | (simp; omega)))) | (with_reducible assumption) | (with_reducible exact has_below hB (by assumption)))); done)); rintro u2 ⟨rfl, hB, hz, z0, o0, z1, o1⟩; (try simp only [World.size_alloc, World.size_setCell, World.size_drew, ov_size] at hz)))
  · rename_i hf
    have h0 : R = [] := by
      rw [← HRR.out]
      unfold oneQ oneZ
      rw [if_neg]
      intro hh
      have := HO.out.2 hh.1
      rw [this] at hf
      cases hf
    subst h0
    refine bodyPost_ret (by simp [results, Try.results51, go_sem, z1]; try rfl) rfl ?_
    exact ⟨none, 0, rfl, bandsAt_nil _ _, by (repeat' (first | (with_reducible exact Below.refl _ _) | (with_reducible assumption) | (with_reducible refine below_from_drew ?_) | (with_reducible refine Below.alloc ?_ ?_ _) | (with_reducible refine Below.drew ?_) | (with_reducible refine below_drewN ?_ _) | (with_reducible refine Below.setCell ?_ ?_ _) | (with_reducible refine below_via ?_ (by assumption) ?_) | (with_reducible refine below_ov ?_ ?_ _ _) | go_size))⟩
  · rename_i hf
    have hf2 : okR (r0 a b c d) (r1 a b c d) (r2 a b c d) (r3 a b c d) = true := by simpa using hf
    have hlt := HO.out.1 hf2
    have hnf := nf_r a b c d
    unfold NF at hnf
    have h0 : R = [⟨r1 a b c d, r3 a b c d, [r0 a b c d, r2 a b c d]⟩] := by
      rw [← HRR.out]
      unfold oneQ oneZ
      exact if_pos (show r0 a b c d < r2 a b c d ∧ r1 a b c d < r3 a b c d from ⟨hlt, by omega⟩)
    subst h0
    refine bodyPost_row (cs := ?_) (T := ?_) (n := 1) Try.results51 (b := w.heap.size + 1) (by rfl) ?_ Try.underlying26 rfl (by kernel_rfl) ?_ rfl ?_; rotate_left 2; (focus ((repeat' (first | (with_reducible refine has_drew ?_) | (with_reducible refine has_drewN ?_) | (with_reducible refine has_new ?_; (first | (with_reducible rfl) | omega | (simp; done) | (simp; omega))) | (with_reducible refine has_ov_same ?_; (first | (with_reducible rfl) | omega | (simp; done) | (simp; omega))) | (with_reducible refine has_alloc ?_) | (with_reducible refine has_ov_other ?_ ?_; (focus (first | (with_reducible rfl) | omega | (simp; done) | (simp; omega)))) | (with_reducible assumption) | (with_reducible exact has_below hB (by assumption)))); done)); (focus (rfl))
    exact ⟨_, _, rfl, bandsAt_one (e := u2.heap.size) (T := 115) (T' := 3) (by (repeat' (first | (with_reducible refine has_drew ?_) | (with_reducible refine has_drewN ?_) | (with_reducible refine has_new ?_; (first | (with_reducible rfl) | omega | (simp; done) | (simp; omega))) | (with_reducible refine has_ov_same ?_; (first | (with_reducible rfl) | omega | (simp; done) | (simp; omega))) | (with_reducible refine has_alloc ?_) | (with_reducible refine has_ov_other ?_ ?_; (focus (first | (with_reducible rfl) | omega | (simp; done) | (simp; omega)))) | (with_reducible assumption) | (with_reducible exact has_below hB (by assumption))))) (by (repeat' (first | (with_reducible refine has_drew ?_) | (with_reducible refine has_drewN ?_) | (with_reducible refine has_new ?_; (first | (with_reducible rfl) | omega | (simp; done) | (simp; omega))) | (with_reducible refine has_ov_same ?_; (first | (with_reducible rfl) | omega | (simp; done) | (simp; omega))) | (with_reducible refine has_alloc ?_) | (with_reducible refine has_ov_other ?_ ?_; (focus (first | (with_reducible rfl) | omega | (simp; done) | (simp; omega)))) | (with_reducible assumption) | (with_reducible exact has_below hB (by assumption))))), by (repeat' (first | (with_reducible exact Below.refl _ _) | (with_reducible assumption) | (with_reducible refine below_from_drew ?_) | (with_reducible refine Below.alloc ?_ ?_ _) | (with_reducible refine Below.drew ?_) | (with_reducible refine below_drewN ?_ _) | (with_reducible refine Below.setCell ?_ ?_ _) | (with_reducible refine below_via ?_ (by assumption) ?_) | (with_reducible refine below_ov ?_ ?_ _ _) | go_size))⟩
theorem has_any' (a : Option Addr) (n c : Nat) (x y : Int) (B : List BandZ) (w : World) (hB : RegOk B) (hn : B.length = n) (h : BandsAt w a B) :
    Calls Try.prog 19 #[.agg #[.slice a n c], .int .i64 x, .int .i64 y] w fun e w' => e = .returned (.bool (hasB B x y)) ∧ Below w.heap.size w w' := by
  have hl := hB.len; rw [hn] at hl
  have HRA := Lib.hid (fun u (hb : Below w.heap.size w u) => row_any a n c y B u hn (by omega) (h.below hb))
  have HW := Lib.hid (fun a1 c1 u (i1 : IntsAt u a1 (rowB B y)) => within_any a1 _ c1 x (-1073741825) (rowB B y) u rfl (by have := hB.rows y; omega) (rowB_up hB.ok y) i1)
  clear hB hn h
  go_enter Try.func19, Try.ntmps19
  go_wp2_with (first | (go_at_call 58; (with_reducible refine (HRA.out _ (by (repeat' (first | (with_reducible exact Below.refl _ _) | (with_reducible assumption) | (with_reducible refine below_from_drew ?_) | (with_reducible refine Below.alloc ?_ ?_ _) | (with_reducible refine Below.drew ?_) | (with_reducible refine below_drewN ?_ _) | (with_reducible refine Below.setCell ?_ ?_ _) | (with_reducible refine below_via ?_ (by assumption) ?_) | (with_reducible refine below_ov ?_ ?_ _ _) | go_size)))).mono ?_); rintro e w1 ⟨ra, rca, rfl, hla, hia, hb⟩; refine Exists.elim (after1 (w := w) (b0 := w.heap.size) (cs0 := ?_) (T0 := ?_) hb ?_ ?_) ?_; rotate_left 2; (focus ((repeat' (first | (with_reducible exact Below.refl _ _) | (with_reducible assumption) | (with_reducible refine below_from_drew ?_) | (with_reducible refine Below.alloc ?_ ?_ _) | (with_reducible refine Below.drew ?_) | (with_reducible refine below_drewN ?_ _) | (with_reducible refine Below.setCell ?_ ?_ _) | (with_reducible refine below_via ?_ (by assumption) ?_) | (with_reducible refine below_ov ?_ ?_ _ _) | go_size)); done)); (focus ((repeat' (first | (with_reducible refine has_drew ?_) | (with_reducible refine has_drewN ?_) | (with_reducible refine has_new ?_; (first | (with_reducible rfl) | omega | (simp; done) | (simp; omega))) | (with_reducible refine has_ov_same ?_; (first | (with_reducible rfl) | omega | (simp; done) | (simp; omega))) | (with_reducible refine has_alloc ?_) | (with_reducible refine has_ov_other ?_ ?_; (focus (first | (with_reducible rfl) | omega | (simp; done) | (simp; omega)))) | (with_reducible assumption) | (with_reducible exact has_below hB (by assumption)))); done)); rintro u1 ⟨rfl, hB, hz, z0, o0⟩; (try simp only [World.size_alloc, World.size_setCell, World.size_drew, ov_size] at hz)) | (go_at_call 57; (with_reducible refine (HW.out _ _ _ hia).mono ?_); rintro e w1 ⟨rfl, hb⟩; refine Exists.elim (after1 (w := w) (b0 := w.heap.size) (cs0 := ?_) (T0 := ?_) hb ?_ ?_) ?_; rotate_left 2; (focus ((repeat' (first | (with_reducible exact Below.refl _ _) | (with_reducible assumption) | (with_reducible refine below_from_drew ?_) | (with_reducible refine Below.alloc ?_ ?_ _) | (with_reducible refine Below.drew ?_) | (with_reducible refine below_drewN ?_ _) | (with_reducible refine Below.setCell ?_ ?_ _) | (with_reducible refine below_via ?_ (by assumption) ?_) | (with_reducible refine below_ov ?_ ?_ _ _) | go_size)); done)); (focus ((repeat' (first | (with_reducible refine has_drew ?_) | (with_reducible refine has_drewN ?_) | (with_reducible refine has_new ?_; (first | (with_reducible rfl) | omega | (simp; done) | (simp; omega))) | (with_reducible refine has_ov_same ?_; (first | (with_reducible rfl) | omega | (simp; done) | (simp; omega))) | (with_reducible refine has_alloc ?_) | (with_reducible refine has_ov_other ?_ ?_; (focus (first | (with_reducible rfl) | omega | (simp; done) | (simp; omega)))) | (with_reducible assumption) | (with_reducible exact has_below hB (by assumption)))); done)); rintro u2 ⟨rfl, hB, hz, z0, o0⟩; (try simp only [World.size_alloc, World.size_setCell, World.size_drew, ov_size] at hz)))
  go_ret
  exact ⟨rfl, by (repeat' (first | (with_reducible exact Below.refl _ _) | (with_reducible assumption) | (with_reducible refine below_from_drew ?_) | (with_reducible refine Below.alloc ?_ ?_ _) | (with_reducible refine Below.drew ?_) | (with_reducible refine below_drewN ?_ _) | (with_reducible refine Below.setCell ?_ ?_ _) | (with_reducible refine below_via ?_ (by assumption) ?_) | (with_reducible refine below_ov ?_ ?_ _ _) | go_size))⟩
end Go.Proofs.Ytkpamofamcndnaa
