/- law24 (offset): a layer that begins at a place (offset.Place.layer). law24 (offset): the walk through the tree (offset.walker.walk). -/
import Derived.Test.YtjcbphhemmdnjaaOffOP
import Derived.Test.YtjcbphhemmdnjaaRnd
import Derived.Test.YtjcbphhemmdnjaaWide
import Derived.Test.YtjcbphhemmdnjaaRel
namespace Go.Proofs.Ytjcbphhemmdnjaa
open Go Go.RowKit
set_option linter.unusedSimpArgs false
set_option linter.unusedVariables false
-- below_from_drew
attribute [local go_sem] ov_cell_same ov_cell_other ov_frozen_same ov_frozen_other ov_size ov_setCell_same ov_setCell_other cell_alloc_old frozen_alloc_old setCell_alloc_old old_alloc old_ov old_drew old_drewN old_setCell
attribute [local go_sem ↓] run_max2 run_min2
def plL (p : Pl24) : List Value := [.int .i64 p.X, .int .i64 p.Y, .int .i64 p.L, .int .i64 p.o0, .int .i64 p.o1, .int .i64 p.r0, .int .i64 p.r1]
/-- The layer of node n, which begins at a place. -/
def layP (p : Pl24) (n x y : Int) : Pl24 := ⟨p.X, p.Y, n, (x + 32) / 64, (y + 32) / 64, x - 64 * ((x + 32) / 64), y - 64 * ((y + 32) / 64)⟩
set_option maxRecDepth 100000 in
set_option maxHeartbeats 2000000 in
theorem layer_any (X Y L o0 o1 r0 r1 n x y : Int) (hx : -1000000000000 ≤ x ∧ x ≤ 1000000000000) (hy : -1000000000000 ≤ y ∧ y ≤ 1000000000000) (w : World) :
    Calls Try.prog 67 #[.agg #[.int .i64 X, .int .i64 Y, .int .i64 L, .int .i64 o0, .int .i64 o1, .int .i64 r0, .int .i64 r1], .int .i64 n, .int .i64 x, .int .i64 y] w fun e w' =>
      e = .returned (.agg #[.int .i64 X, .int .i64 Y, .int .i64 n, .int .i64 ((x + 32) / 64), .int .i64 ((y + 32) / 64), .int .i64 (x - 64 * ((x + 32) / 64)), .int .i64 (y - 64 * ((y + 32) / 64))]) ∧ Below w.heap.size w w' := by
  have R := Lib.hid (fun (z : Int) (hz : -1000000000000 ≤ z ∧ z ≤ 1000000000000) w => round_any z ⟨by omega, by omega⟩ w)
  have P := Lib.hid (fun (z : Int) (hz : -1000000000000 ≤ z ∧ z ≤ 1000000000000) w => px_any ((z + 32) / 64) (by omega) w)
  have hP : ∀ z : Int, -1000000000000 ≤ z ∧ z ≤ 1000000000000 → ofF ((z + 32) / 64 * 64) = some (64 * ((z + 32) / 64)) := fun z hz => by rw [ofF_small (by omega) (by omega), Int.mul_comm]
  have hS : ∀ z : Int, -1000000000000 ≤ z ∧ z ≤ 1000000000000 → subF z (64 * ((z + 32) / 64)) = some (z - 64 * ((z + 32) / 64)) := fun z hz => subF_small (by omega) (by omega) (by omega) (by omega) (by omega) (by omega)
  have PX : ∀ w, Calls Try.prog 81 #[.int .i64 ((x + 32) / 64)] w fun e w' => e = .returned (.int .i64 (64 * ((x + 32) / 64))) ∧ Below w.heap.size w w' := fun w => (P.out x hx w).mono fun e w' h => by
    rcases h with ⟨⟨r, h1, h2⟩ | ⟨h1, _⟩, h3⟩
    · rw [hP x hx] at h1; cases h1; exact ⟨h2, h3⟩
    · rw [hP x hx] at h1; cases h1
  have PY : ∀ w, Calls Try.prog 81 #[.int .i64 ((y + 32) / 64)] w fun e w' => e = .returned (.int .i64 (64 * ((y + 32) / 64))) ∧ Below w.heap.size w w' := fun w => (P.out y hy w).mono fun e w' h => by
    rcases h with ⟨⟨r, h1, h2⟩ | ⟨h1, _⟩, h3⟩
    · rw [hP y hy] at h1; cases h1; exact ⟨h2, h3⟩
    · rw [hP y hy] at h1; cases h1
  have SX : ∀ w, Calls Try.prog 54 #[.int .i64 x, .int .i64 (64 * ((x + 32) / 64))] w fun e w' => e = .returned (.int .i64 (x - 64 * ((x + 32) / 64))) ∧ w = w' := fun w => subF_ok (hS x hx) w
  have SY : ∀ w, Calls Try.prog 54 #[.int .i64 y, .int .i64 (64 * ((y + 32) / 64))] w fun e w' => e = .returned (.int .i64 (y - 64 * ((y + 32) / 64))) ∧ w = w' := fun w => subF_ok (hS y hy) w
  have RX := fun w => R.out x hx w
  have RY := fun w => R.out y hy w
  obtain ⟨px, hpx⟩ : ∃ q, (x + 32) / 64 = q := ⟨_, rfl⟩
  obtain ⟨py, hpy⟩ : ∃ q, (y + 32) / 64 = q := ⟨_, rfl⟩
  rw [hpx] at PX SX RX ⊢
  rw [hpy] at PY SY RY ⊢
  obtain ⟨qx, hqx⟩ : ∃ q, x - 64 * px = q := ⟨_, rfl⟩
  obtain ⟨qy, hqy⟩ : ∃ q, y - 64 * py = q := ⟨_, rfl⟩
  obtain ⟨mx, hmx⟩ : ∃ q, 64 * px = q := ⟨_, rfl⟩
  obtain ⟨my, hmy⟩ : ∃ q, 64 * py = q := ⟨_, rfl⟩
  rw [hqx] at SX ⊢
  rw [hqy] at SY ⊢
  rw [hmx] at PX SX
  rw [hmy] at PY SY
  have HPX := Lib.hid PX; have HPY := Lib.hid PY; have HSX := Lib.hid SX; have HSY := Lib.hid SY; have HRX := Lib.hid RX; have HRY := Lib.hid RY
  clear PX PY SX SY RX RY R P hP hS hpx hpy hqx hqy hmx hmy hx hy
  have x0 : ∀ w : World, (Instr.index 39 (.agg #[.int .i64 x, .int .i64 y]) (.int .i64 0)).run Try.prog w = .ok (.int .i64 x) w := fun _ => by kernel_rfl
  have x1 : ∀ w : World, (Instr.index 39 (.agg #[.int .i64 x, .int .i64 y]) (.int .i64 1)).run Try.prog w = .ok (.int .i64 y) w := fun _ => by kernel_rfl
  go_enter Try.func67, Try.ntmps67
  go_wp2_with fail
  go_loopw [16] (fun v wr => ((v = .int .i64 0 ∧ Has wr w.heap.size #[.int .i64 X, .int .i64 Y, .int .i64 n, .int .i64 o0, .int .i64 o1, .int .i64 r0, .int .i64 r1] 89) ∨ (v = .int .i64 1 ∧ Has wr w.heap.size #[.int .i64 X, .int .i64 Y, .int .i64 n, .int .i64 px, .int .i64 o1, .int .i64 qx, .int .i64 r1] 89) ∨ (v = .int .i64 2 ∧ Has wr w.heap.size #[.int .i64 X, .int .i64 Y, .int .i64 n, .int .i64 px, .int .i64 py, .int .i64 qx, .int .i64 qy] 89)) ∧ Has wr (w.heap.size + 1) #[.int .i64 0, .int .i64 0, .int .i64 0, .int .i64 0, .int .i64 0, .int .i64 0, .int .i64 0] 89 ∧ Below w.heap.size w wr) (fun v _ => 2 - (intOf v).toNat)
  case atStart => exact ⟨.inl ⟨rfl, by (repeat' (first | (with_reducible refine has_drew ?_) | (with_reducible refine has_drewN ?_) | (with_reducible refine has_new ?_; (first | (with_reducible rfl) | omega | (simp; done) | (simp; omega))) | (with_reducible refine has_ov_same ?_; (first | (with_reducible rfl) | omega | (simp; done) | (simp; omega))) | (with_reducible refine has_alloc ?_) | (with_reducible refine has_ov_other ?_ ?_; (focus (first | (with_reducible rfl) | omega | (simp; done) | (simp; omega)))) | (with_reducible assumption) | (with_reducible exact has_below hB (by assumption))))⟩, by (repeat' (first | (with_reducible refine has_drew ?_) | (with_reducible refine has_drewN ?_) | (with_reducible refine has_new ?_; (first | (with_reducible rfl) | omega | (simp; done) | (simp; omega))) | (with_reducible refine has_ov_same ?_; (first | (with_reducible rfl) | omega | (simp; done) | (simp; omega))) | (with_reducible refine has_alloc ?_) | (with_reducible refine has_ov_other ?_ ?_; (focus (first | (with_reducible rfl) | omega | (simp; done) | (simp; omega)))) | (with_reducible assumption) | (with_reducible exact has_below hB (by assumption)))), by (repeat' (first | (with_reducible exact Below.refl _ _) | (with_reducible assumption) | (with_reducible refine below_from_drew ?_) | (with_reducible refine Below.alloc ?_ ?_ _) | (with_reducible refine Below.drew ?_) | (with_reducible refine below_drewN ?_ _) | (with_reducible refine Below.setCell ?_ ?_ _) | (with_reducible refine below_via ?_ (by assumption) ?_) | (with_reducible refine below_ov ?_ ?_ _ _) | go_size))⟩
  case round =>
    obtain ⟨hc, hp2, hb⟩ := hrel
    have z1 := hp2.lt
    have l1 := hb.size
    rcases hc with ⟨rfl, hp⟩ | ⟨rfl, hp⟩ | ⟨rfl, hp⟩
    · have z0 := hp.lt
      rw [← ov_self hp2]
      have hz := z1
      rw [← ov_self hp]
      clear hp hp2
      go_wp2_with (first | (go_at_call 80; (with_reducible refine (HRX.out _).mono ?_); rintro e w1 ⟨rfl, rfl⟩) | (go_at_call 81; (with_reducible refine (HPX.out _).mono ?_); rintro e w1 ⟨rfl, hb⟩; refine Exists.elim (after2 (w := w) (b0 := w.heap.size) (cs0 := ?_) (T0 := ?_) (b1 := w.heap.size + 1) (cs1 := ?_) (T1 := ?_) hb ?_ ?_ ?_) ?_; rotate_left 4; (focus ((repeat' (first | (with_reducible exact Below.refl _ _) | (with_reducible assumption) | (with_reducible refine below_from_drew ?_) | (with_reducible refine Below.alloc ?_ ?_ _) | (with_reducible refine Below.drew ?_) | (with_reducible refine below_drewN ?_ _) | (with_reducible refine Below.setCell ?_ ?_ _) | (with_reducible refine below_via ?_ (by assumption) ?_) | (with_reducible refine below_ov ?_ ?_ _ _) | go_size)); done)); (focus ((repeat' (first | (with_reducible refine has_drew ?_) | (with_reducible refine has_drewN ?_) | (with_reducible refine has_new ?_; (first | (with_reducible rfl) | omega | (simp; done) | (simp; omega))) | (with_reducible refine has_ov_same ?_; (first | (with_reducible rfl) | omega | (simp; done) | (simp; omega))) | (with_reducible refine has_alloc ?_) | (with_reducible refine has_ov_other ?_ ?_; (focus (first | (with_reducible rfl) | omega | (simp; done) | (simp; omega)))) | (with_reducible assumption) | (with_reducible exact has_below hB (by assumption)))); done)); (focus ((repeat' (first | (with_reducible refine has_drew ?_) | (with_reducible refine has_drewN ?_) | (with_reducible refine has_new ?_; (first | (with_reducible rfl) | omega | (simp; done) | (simp; omega))) | (with_reducible refine has_ov_same ?_; (first | (with_reducible rfl) | omega | (simp; done) | (simp; omega))) | (with_reducible refine has_alloc ?_) | (with_reducible refine has_ov_other ?_ ?_; (focus (first | (with_reducible rfl) | omega | (simp; done) | (simp; omega)))) | (with_reducible assumption) | (with_reducible exact has_below hB (by assumption)))); done)); rintro u ⟨rfl, hB, hz, z0, o0, z1, o1⟩; (try simp only [World.size_alloc, World.size_setCell, World.size_drew, ov_size] at hz)) | (go_at_call 54; (with_reducible refine (HSX.out _).mono ?_); rintro e w1 ⟨rfl, rfl⟩))
      refine ⟨⟨.inr (.inl ⟨rfl, by (repeat' (first | (with_reducible refine has_drew ?_) | (with_reducible refine has_drewN ?_) | (with_reducible refine has_new ?_; (first | (with_reducible rfl) | omega | (simp; done) | (simp; omega))) | (with_reducible refine has_ov_same ?_; (first | (with_reducible rfl) | omega | (simp; done) | (simp; omega))) | (with_reducible refine has_alloc ?_) | (with_reducible refine has_ov_other ?_ ?_; (focus (first | (with_reducible rfl) | omega | (simp; done) | (simp; omega)))) | (with_reducible assumption) | (with_reducible exact has_below hB (by assumption))))⟩), by (repeat' (first | (with_reducible refine has_drew ?_) | (with_reducible refine has_drewN ?_) | (with_reducible refine has_new ?_; (first | (with_reducible rfl) | omega | (simp; done) | (simp; omega))) | (with_reducible refine has_ov_same ?_; (first | (with_reducible rfl) | omega | (simp; done) | (simp; omega))) | (with_reducible refine has_alloc ?_) | (with_reducible refine has_ov_other ?_ ?_; (focus (first | (with_reducible rfl) | omega | (simp; done) | (simp; omega)))) | (with_reducible assumption) | (with_reducible exact has_below hB (by assumption)))), by (repeat' (first | (with_reducible exact Below.refl _ _) | (with_reducible assumption) | (with_reducible refine below_from_drew ?_) | (with_reducible refine Below.alloc ?_ ?_ _) | (with_reducible refine Below.drew ?_) | (with_reducible refine below_drewN ?_ _) | (with_reducible refine Below.setCell ?_ ?_ _) | (with_reducible refine below_via ?_ (by assumption) ?_) | (with_reducible refine below_ov ?_ ?_ _ _) | go_size))⟩, by simp [intOf]⟩
    · have z0 := hp.lt
      rw [← ov_self hp2]
      have hz := z1
      rw [← ov_self hp]
      clear hp hp2
      go_wp2_with (first | (go_at_call 80; (with_reducible refine (HRY.out _).mono ?_); rintro e w1 ⟨rfl, rfl⟩) | (go_at_call 81; (with_reducible refine (HPY.out _).mono ?_); rintro e w1 ⟨rfl, hb⟩; refine Exists.elim (after2 (w := w) (b0 := w.heap.size) (cs0 := ?_) (T0 := ?_) (b1 := w.heap.size + 1) (cs1 := ?_) (T1 := ?_) hb ?_ ?_ ?_) ?_; rotate_left 4; (focus ((repeat' (first | (with_reducible exact Below.refl _ _) | (with_reducible assumption) | (with_reducible refine below_from_drew ?_) | (with_reducible refine Below.alloc ?_ ?_ _) | (with_reducible refine Below.drew ?_) | (with_reducible refine below_drewN ?_ _) | (with_reducible refine Below.setCell ?_ ?_ _) | (with_reducible refine below_via ?_ (by assumption) ?_) | (with_reducible refine below_ov ?_ ?_ _ _) | go_size)); done)); (focus ((repeat' (first | (with_reducible refine has_drew ?_) | (with_reducible refine has_drewN ?_) | (with_reducible refine has_new ?_; (first | (with_reducible rfl) | omega | (simp; done) | (simp; omega))) | (with_reducible refine has_ov_same ?_; (first | (with_reducible rfl) | omega | (simp; done) | (simp; omega))) | (with_reducible refine has_alloc ?_) | (with_reducible refine has_ov_other ?_ ?_; (focus (first | (with_reducible rfl) | omega | (simp; done) | (simp; omega)))) | (with_reducible assumption) | (with_reducible exact has_below hB (by assumption)))); done)); (focus ((repeat' (first | (with_reducible refine has_drew ?_) | (with_reducible refine has_drewN ?_) | (with_reducible refine has_new ?_; (first | (with_reducible rfl) | omega | (simp; done) | (simp; omega))) | (with_reducible refine has_ov_same ?_; (first | (with_reducible rfl) | omega | (simp; done) | (simp; omega))) | (with_reducible refine has_alloc ?_) | (with_reducible refine has_ov_other ?_ ?_; (focus (first | (with_reducible rfl) | omega | (simp; done) | (simp; omega)))) | (with_reducible assumption) | (with_reducible exact has_below hB (by assumption)))); done)); rintro u ⟨rfl, hB, hz, z0, o0, z1, o1⟩; (try simp only [World.size_alloc, World.size_setCell, World.size_drew, ov_size] at hz)) | (go_at_call 54; (with_reducible refine (HSY.out _).mono ?_); rintro e w1 ⟨rfl, rfl⟩))
      refine ⟨⟨.inr (.inr ⟨rfl, by (repeat' (first | (with_reducible refine has_drew ?_) | (with_reducible refine has_drewN ?_) | (with_reducible refine has_new ?_; (first | (with_reducible rfl) | omega | (simp; done) | (simp; omega))) | (with_reducible refine has_ov_same ?_; (first | (with_reducible rfl) | omega | (simp; done) | (simp; omega))) | (with_reducible refine has_alloc ?_) | (with_reducible refine has_ov_other ?_ ?_; (focus (first | (with_reducible rfl) | omega | (simp; done) | (simp; omega)))) | (with_reducible assumption) | (with_reducible exact has_below hB (by assumption))))⟩), by (repeat' (first | (with_reducible refine has_drew ?_) | (with_reducible refine has_drewN ?_) | (with_reducible refine has_new ?_; (first | (with_reducible rfl) | omega | (simp; done) | (simp; omega))) | (with_reducible refine has_ov_same ?_; (first | (with_reducible rfl) | omega | (simp; done) | (simp; omega))) | (with_reducible refine has_alloc ?_) | (with_reducible refine has_ov_other ?_ ?_; (focus (first | (with_reducible rfl) | omega | (simp; done) | (simp; omega)))) | (with_reducible assumption) | (with_reducible exact has_below hB (by assumption)))), by (repeat' (first | (with_reducible exact Below.refl _ _) | (with_reducible assumption) | (with_reducible refine below_from_drew ?_) | (with_reducible refine Below.alloc ?_ ?_ _) | (with_reducible refine Below.drew ?_) | (with_reducible refine below_drewN ?_ _) | (with_reducible refine Below.setCell ?_ ?_ _) | (with_reducible refine below_via ?_ (by assumption) ?_) | (with_reducible refine below_ov ?_ ?_ _ _) | go_size))⟩, by simp [intOf]⟩
    · have z0 := hp.lt
      rw [← ov_self hp2]
      have cp := hp.cells
      go_wp2_with fail
      refine bodyPost_ret (by simp [results, Try.results67, go_sem, z0, z1]; try rfl) rfl ?_
      exact ⟨rfl, by (repeat' (first | (with_reducible exact Below.refl _ _) | (with_reducible assumption) | (with_reducible refine below_from_drew ?_) | (with_reducible refine Below.alloc ?_ ?_ _) | (with_reducible refine Below.drew ?_) | (with_reducible refine below_drewN ?_ _) | (with_reducible refine Below.setCell ?_ ?_ _) | (with_reducible refine below_via ?_ (by assumption) ?_) | (with_reducible refine below_ov ?_ ?_ _ _) | go_size))⟩
end Go.Proofs.Ytjcbphhemmdnjaa
namespace Go.Proofs.Ytjcbphhemmdnjaa
open Go Go.RowKit
set_option linter.unusedSimpArgs false
set_option linter.unusedVariables false
-- below_from_drew
attribute [local go_sem] ov_cell_same ov_cell_other ov_frozen_same ov_frozen_other ov_size ov_setCell_same ov_setCell_other cell_alloc_old frozen_alloc_old setCell_alloc_old old_alloc old_ov old_drew old_drewN old_setCell
attribute [local go_sem ↓] run_max2 run_min2
/-- Numbers that have room (a scrolled box's, too, when it is scrolled on). -/
structure OkW (q : N24) : Prop where
  x : In32 q.x
  y : In32 q.y
  bd : 0 ≤ q.bd ∧ q.bd ≤ 255
  b0 : -4294967296 ≤ q.b0 ∧ q.b0 ≤ 4294967296
  b1 : -4294967296 ≤ q.b1 ∧ q.b1 ≤ 4294967296
theorem Ok24.wide {q : N24} (h : Ok24 q) : OkW q := ⟨h.x, h.y, h.bd, by have := h.b0; unfold In32 at this; omega, by have := h.b1; unfold In32 at this; omega⟩
/-- What is handed to a node. -/
def fromP (l : List N24) (n : Nat) : Pl24 := if n = 0 then plZ else downP (nd24 l (pa24 l n)) (pa24 l n) (place24 l (pa24 l n))
theorem place24_from (l : List N24) (n : Nat) : place24 l n = stepP (nd24 l n) (fromP l n) := by
  unfold fromP
  rcases Nat.eq_zero_or_pos n with c | c
  · subst c; rw [if_pos rfl]; rfl
  · rw [if_neg (by omega), place24_kid l c]
theorem fromP_kid (l : List N24) {n k : Nat} (h : 0 < k) (hp : pa24 l k = n) : fromP l k = downP (nd24 l n) n (place24 l n) := by
  unfold fromP
  rw [if_neg (by omega), hp]
theorem downP_X (q : N24) (n : Nat) (p : Pl24) : (downP q n p).X = p.X - (if q.sc then q.b0 else 0) ∧ (downP q n p).Y = p.Y - (if q.sc then q.b1 else 0) := by
  unfold downP
  split <;> simp_all
theorem place24_nearW {l : List N24} (h : ∀ i, OkW (nd24 l i)) : ∀ n : Nat, -(8589934592 * ((n : Int) + 1)) ≤ (place24 l n).X ∧ (place24 l n).X ≤ 8589934592 * ((n : Int) + 1) ∧ -(8589934592 * ((n : Int) + 1)) ≤ (place24 l n).Y ∧ (place24 l n).Y ≤ 8589934592 * ((n : Int) + 1) := by
  intro n
  induction n using Nat.strongRecOn with
  | _ n ih =>
    have hn := h n
    have hx := hn.x; have hy := hn.y
    unfold In32 at hx hy
    rcases Nat.eq_zero_or_pos n with c | c
    · subst c
      rw [place24_root]
      simp only [stepP, plZ]
      omega
    · have hlt := pa24_lt l c
      have hi := ih (pa24 l n) hlt
      have hq := h (pa24 l n)
      have hb0 := hq.b0; have hb1 := hq.b1
      rw [place24_kid l c]
      have hd := downP_X (nd24 l (pa24 l n)) (pa24 l n) (place24 l (pa24 l n))
      simp only [stepP]
      rw [hd.1, hd.2]
      have h1 : ((pa24 l n : Nat) : Int) + 1 ≤ n := by omega
      split <;> omega
/-- What is above a node that was laid was laid. -/
theorem there24_up {l : List N24} (n : Nat) : ∀ k, inSub (pa24 l) n k = true → there24 l k = true → there24 l n = true := by
  intro k
  induction k using Nat.strongRecOn with
  | _ k ih =>
    intro hs ht
    by_cases c : k = n
    · rw [← c]; exact ht
    · rcases Nat.eq_zero_or_pos k with c0 | c0
      · subst c0; rw [inSub_zero _ (by omega)] at hs; cases hs
      · have hp : ∀ i, 0 < i → pa24 l i < i := fun i hi => pa24_lt l hi
        rw [inSub_up hp c0 c] at hs
        rw [there24_kid l c0] at ht
        exact ih (pa24 l k) (pa24_lt l c0) hs (by simp at ht; exact ht.2)
def plV (p : Pl24) : Value := .agg (plL p).toArray
/-- What the map of places holds when all below n has been walked. -/
def walkG (l : List N24) (N n : Nat) (g : Int → Option Value) : Int → Option Value := fun k => if 0 ≤ k ∧ k < N ∧ inSub (pa24 l) n k.toNat = true ∧ there24 l k.toNat = true then some (plV (place24 l k.toNat)) else g k
/-- .. when the first j of n's kids have been walked. -/
def walkK (l : List N24) (N n : Nat) (K : List Int) (j : Nat) (g : Int → Option Value) : Int → Option Value := fun k => if k = n ∨ (0 ≤ k ∧ k < N ∧ (∃ c ∈ K.take j, inSub (pa24 l) c.toNat k.toNat = true) ∧ there24 l k.toNat = true) then some (plV (place24 l k.toNat)) else g k
theorem walkK_zero (l : List N24) (N n : Nat) (hn : n < N) (ht : there24 l n = true) (K : List Int) (g : Int → Option Value) (k : Int) : (if k = n then some (plV (place24 l n)) else g k) = walkK l N n K 0 g k := by
  unfold walkK
  by_cases c : k = n
  · rw [if_pos c, if_pos (.inl c), c, Int.toNat_natCast]
  · rw [if_neg c, if_neg (fun q => by rcases q with q | ⟨_, _, ⟨x, q, _⟩, _⟩; exact c q; simp at q)]
theorem walkK_next (l : List N24) (N n c : Nat) (K : List Int) (j : Nat) (hj : j < K.length) (hc : K.getD j 0 = c) (g : Int → Option Value) (k : Int) : walkG l N c (walkK l N n K j g) k = walkK l N n K (j + 1) g k := by
  have e : K.take (j + 1) = K.take j ++ [(c : Int)] := by
    rw [List.take_add_one, List.getElem?_eq_getElem hj]
    rw [List.getD_eq_getElem?_getD, List.getElem?_eq_getElem hj] at hc
    simp at hc
    simp [hc]
  unfold walkG walkK
  rw [e]
  by_cases q : 0 ≤ k ∧ k < N ∧ inSub (pa24 l) c k.toNat = true ∧ there24 l k.toNat = true
  · rw [if_pos q, if_pos (.inr ⟨q.1, q.2.1, ⟨c, by simp, by simpa using q.2.2.1⟩, q.2.2.2⟩)]
  · rw [if_neg q]
    by_cases r : k = n ∨ (0 ≤ k ∧ k < N ∧ (∃ x ∈ K.take j, inSub (pa24 l) x.toNat k.toNat = true) ∧ there24 l k.toNat = true)
    · rw [if_pos r]
      rw [if_pos]
      rcases r with r | ⟨r1, r2, ⟨x, r3, r4⟩, r5⟩
      · exact .inl r
      · exact .inr ⟨r1, r2, ⟨x, List.mem_append_left _ r3, r4⟩, r5⟩
    · rw [if_neg r, if_neg]
      rintro (r1 | ⟨r1, r2, ⟨x, r3, r4⟩, r5⟩)
      · exact r (.inl r1)
      · rcases List.mem_append.1 r3 with r3 | r3
        · exact r (.inr ⟨r1, r2, ⟨x, r3, r4⟩, r5⟩)
        · simp at r3
          subst r3
          exact q ⟨r1, r2, by simpa using r4, r5⟩
theorem walkK_all (l : List N24) (N n : Nat) (hn : n < N) (ht : there24 l n = true) (g : Int → Option Value) (k : Int) : walkK l N n (kidsZ (pa24 l) N n) (kidsZ (pa24 l) N n).length g k = walkG l N n g k := by
  have hp : ∀ i, 0 < i → pa24 l i < i := fun i hi => pa24_lt l hi
  unfold walkK walkG
  rw [List.take_length]
  by_cases c : k = n
  · subst c
    rw [if_pos (.inl rfl), if_pos ⟨by omega, by omega, by rw [Int.toNat_natCast]; exact inSub_self _ _, by rw [Int.toNat_natCast]; exact ht⟩]
  · by_cases q : 0 ≤ k ∧ k < N ∧ inSub (pa24 l) n k.toNat = true ∧ there24 l k.toNat = true
    · rw [if_pos q, if_pos]
      obtain ⟨q1, q2, q3, q4⟩ := q
      obtain ⟨x, x1, x2, x3, x4⟩ := (inSub_kids hp n k.toNat (by omega)).1 q3
      exact .inr ⟨q1, q2, ⟨x, kidsZ_mem.2 ⟨x, x1, by omega, by omega, rfl⟩, by simpa using x4⟩, q4⟩
    · rw [if_neg q, if_neg]
      rintro (r | ⟨r1, r2, ⟨x, r3, r4⟩, r5⟩)
      · exact c r
      · obtain ⟨y, y1, y2, y3, rfl⟩ := kidsZ_mem.1 r3
        rw [Int.toNat_natCast] at r4
        exact q ⟨r1, r2, (inSub_kids hp n k.toNat (by omega)).2 ⟨y, y1, inSub_le hp y _ r4, by omega, r4⟩, r5⟩
structure W24 (w : World) (l : List N24) (N wk pt bm bx sc bo : Nat) (base : Nat → Prop) (R : Rows) (g : Int → Option Value) : Prop where
  hw : Has w wk #[.pointer (some ⟨pt, 0, none⟩), .map (some bx), .map (some sc), .map (some bo)] 136
  tree : TreeAt w pt bm base R N
  told : Pt (pa24 l) N R
  okx : MapOk w bx
  lx : ∀ x, mlook (mapOf w bx) x = m24a l N x
  oks : MapOk w sc
  ls : ∀ x, mlook (mapOf w sc) x = m24b l N x
  oko : MapOk w bo
  lo : ∀ x, mlook (mapOf w bo) x = g x
  nx : bx ≠ bo
  ns : sc ≠ bo
  nb : ¬ base bo
  np : pt ≠ bo
  nm : bm ≠ bo
  free : ∀ b, w.heap.size ≤ b → base b
theorem W24.nw {w : World} {l : List N24} {N wk pt bm bx sc bo : Nat} {base : Nat → Prop} {R : Rows} {g : Int → Option Value} (h : W24 w l N wk pt bm bx sc bo base R g) : wk ≠ bo := fun e => by
  subst e; exact has_notMap h.hw h.oko
/-- Only the map of places has turned. -/
theorem W24.to {w w' : World} {l : List N24} {N wk pt bm bx sc bo : Nat} {base : Nat → Prop} {R : Rows} {g g' : Int → Option Value} (h : W24 w l N wk pt bm bx sc bo base R g) (hb : ButS (fun b => b = bo) w.heap.size w w') (ho : MapOk w' bo) (hl : ∀ x, mlook (mapOf w' bo) x = g' x) : W24 w' l N wk pt bm bx sc bo base R g' := by
  have q : ∀ b, b < w.heap.size → b ≠ bo → w'.heap[b]? = w.heap[b]? := fun b h1 h2 => hb.block b h1 h2
  refine ⟨(q _ h.hw.lt h.nw).trans h.hw, h.tree.re hb.size (fun b h1 h2 => q b h1 ?_) (fun b h1 h2 => h2) (fun b h1 => h.free b (Nat.le_trans hb.size h1)), h.told, mapOk_eq (q _ h.okx.lt h.nx) h.okx, fun x => by rw [mapOf_eq (q _ h.okx.lt h.nx)]; exact h.lx x, mapOk_eq (q _ h.oks.lt h.ns) h.oks, fun x => by rw [mapOf_eq (q _ h.oks.lt h.ns)]; exact h.ls x, ho, hl, h.nx, h.ns, h.nb, h.np, h.nm, fun b h1 => h.free b (Nat.le_trans hb.size h1)⟩
  rcases h2 with h2 | h2 | h2
  · exact fun e => h.nb (e ▸ h2)
  · exact fun e => h.np (h2 ▸ e)
  · exact fun e => h.nm (h2 ▸ e)
theorem W24.below {w w' : World} {l : List N24} {N wk pt bm bx sc bo : Nat} {base : Nat → Prop} {R : Rows} {g : Int → Option Value} (h : W24 w l N wk pt bm bx sc bo base R g) (hb : Below w.heap.size w w') : W24 w' l N wk pt bm bx sc bo base R g :=
  h.to (.of hb) (mapOk_eq (hb.block _ h.oko.lt) h.oko) (fun x => by rw [mapOf_eq (hb.block _ h.oko.lt)]; exact h.lo x)
/-- A world cut off at n blocks. -/
theorem cut_world (Y : World) (n : Nat) (h : n ≤ Y.heap.size) : ∃ V : World, V.heap.size = n ∧ Below V.heap.size V Y := by
  have e : (Y.heap.extract 0 n).size = n := by simp; omega
  refine ⟨{ Y with heap := Y.heap.extract 0 n }, e, ⟨rfl, rfl, rfl, by show (Y.heap.extract 0 n).size ≤ _; omega, fun k hk => ?_⟩⟩
  have hk' : k < n := by rw [← e]; exact hk
  show Y.heap[k]? = (Y.heap.extract 0 n)[k]?
  rw [Array.getElem?_extract]
  simp [show k < min n Y.heap.size by omega]
theorem cell_notMap {w : World} {b g o : Nat} {v : Value} (h : MapOk w b) (hc : w.cell? ⟨g, o, none⟩ = some v) : g ≠ b := fun e => by
  subst e
  obtain ⟨es, c, k, _⟩ := h
  simp [World.cell?, k] at hc
theorem W24.eqg {w : World} {l : List N24} {N wk pt bm bx sc bo : Nat} {base : Nat → Prop} {R : Rows} {g g' : Int → Option Value} (h : W24 w l N wk pt bm bx sc bo base R g) (he : ∀ k, g k = g' k) : W24 w l N wk pt bm bx sc bo base R g' :=
  { h with lo := fun x => (h.lo x).trans (he x) }
def boxZ24 : Value := .agg (boxP 0 0 0).toArray
theorem zero_two (w : World) : (zeroValue 39).run Try.prog w = .ok (.agg #[.int .i64 0, .int .i64 0]) w := by kernel_rfl
def boxZL : List Value := [.int .i64 0, .int .i64 0, .int .i64 0, .int .i64 0, .int .i64 0, .int .i64 0, .int .i64 0, .int .i64 0, .int .i64 0, .int .i64 0, .int .i64 0, .int .i64 0, .int .i64 0, .int .i64 0, .int .i64 0, .int .i64 0, .slice none 0 0]
def boxZero : Value := .agg boxZL.toArray
theorem zero_box (w : World) : (zeroValue 108).run Try.prog w = .ok boxZero w := by kernel_rfl
theorem look_box_ok {w : World} {b : Nat} {k : Int} (h : MapOk w b) : (Instr.lookup 26 (.map (some b)) (.int .i64 k) true).run Try.prog w = .ok (.tuple #[mgetD (mapOf w b) k boxZero, .bool (mhas (mapOf w b) k)]) w := run_lookMok Try.underlying26 Try.underlying3 zero_box k h
theorem look_two_ok {w : World} {b : Nat} {k : Int} (h : MapOk w b) : (Instr.lookup 35 (.map (some b)) (.int .i64 k) true).run Try.prog w = .ok (.tuple #[mgetD (mapOf w b) k (.agg #[.int .i64 0, .int .i64 0]), .bool (mhas (mapOf w b) k)]) w := run_lookMok Try.underlying35 Try.underlying3 zero_two k h
theorem put_place {w : World} {b : Nat} {k : Int} {v : Value} (h : MapOk w b) : (Instr.mapUpdate 85 (.map (some b)) (.int .i64 k) v).run Try.prog w = .ok () (putM w b k v) := run_putM Try.underlying85 Try.underlying3 k v h
attribute [local go_sem] look_box_ok look_two_ok put_place mapOk_alloc mapOf_alloc mapOk_drew mapOf_drew mapOk_drewN mapOf_drewN mapOk_ov mapOf_ov
theorem bigx_xl {ρ : Operand → Value} {d : Option Tmp} {t : TypeId} {x : Operand} {po : String} {af : Array Edge} {g : Option (Nat × Bool)} (w : World) : (execOp ρ ⟨d, .load 108 x, t, po, af, g⟩).run Try.prog w = runLoad Try.prog 108 (ρ x) w := exec_load w
theorem bigx_xs {ρ : Operand → Value} {d : Option Tmp} {t : TypeId} {x y : Operand} {po : String} {af : Array Edge} {g : Option (Nat × Bool)} (w : World) : (execOp ρ ⟨d, .store 108 x y, t, po, af, g⟩).run Try.prog w = runStore Try.prog 108 (ρ x) (ρ y) w := exec_store w
theorem bigx_l (w : World) (b : Nat) (h : (blkCells w b).size = 17) : runLoad Try.prog 108 (.pointer (some ⟨b, 0, none⟩)) w = .ok (.value (.agg (blkCells w b))) w := runLoad_blk Try.underlying108 rfl (by kernel_rfl) (by omega) w b h
theorem bigx_s (w : World) (b : Nat) (l : List Value) (h : (blkCells w b).size = 17) (hl : l.length = 17) (h1 : allOne l = true) : runStore Try.prog 108 (.pointer (some ⟨b, 0, none⟩)) (.agg l.toArray) w = .ok .skip (putBlk w b l.toArray) := runStore_blk (by kernel_rfl) (by omega) w b l h hl h1
attribute [local go_sem ↓] bigx_xl bigx_xs
attribute [local go_sem] bigx_l bigx_s blkCells_ov_same blkCells_ov_other blkCells_new blkCells_old blkCells_drew blkCells_drewN putBlk_ov_same putBlk_ov_other putBlk_new putBlk_old putBlk_drew putBlk_drewN putBlk_size allOne_nil allOne_int allOne_bool allOne_slice allOne_pointer allOne_map allOne_string
theorem boxP_len (x y b : Int) : (boxP x y b).length = 17 := rfl
theorem boxP_one (x y b : Int) : allOne (boxP x y b) = true := rfl
theorem boxP_size (x y b : Int) : (boxP x y b).toArray.size = 17 := rfl
theorem boxP_0 (x y b : Int) : (boxP x y b).toArray[0]? = some (.int .i64 x) := rfl
theorem boxP_1 (x y b : Int) : (boxP x y b).toArray[1]? = some (.int .i64 y) := rfl
theorem boxP_4 (x y b : Int) : (boxP x y b).toArray[4]? = some (.int .i64 b) := rfl
theorem boxP_7 (x y b : Int) : (boxP x y b).toArray[7]? = some (.int .i64 (b + 3)) := rfl
attribute [local go_sem] boxP_len boxP_one boxP_size boxP_0 boxP_1 boxP_4 boxP_7
theorem add2_any (g : Nat) (x y : Int) {T : TypeId} (hx : -4398046511104 ≤ x ∧ x ≤ 4398046511104) (hy : -4398046511104 ≤ y ∧ y ≤ 4398046511104) (w : World) (h : Has w g #[.int .i64 x, .int .i64 y] T) :
    Calls Try.prog 55 #[.slice (some ⟨g, 0, none⟩) 2 2] w fun e w' => e = .returned (.int .i64 (x + y)) ∧ Below w.heap.size w w' := by
  refine (add_any g 2 2 [x, y] w rfl (fun i hi => ?_) (by omega)).mono ?_
  · rw [h.cells]
    rcases i with _ | _ | i
    · rfl
    · rfl
    · omega
  · rintro e w' ⟨hr, rfl⟩
    have e1 : addF 0 [x, y] = some (x + y) := by
      rw [addF_cons (by omega) (by omega) (by omega) (by omega), Int.zero_add, addF_cons (by omega) (by omega) (by omega) (by omega)]
      rfl
    rcases hr with ⟨r, h1, h2⟩ | ⟨h1, _⟩
    · rw [e1] at h1; cases h1; exact ⟨h2, Below.refl _ _⟩
    · rw [e1] at h1; cases h1
theorem sub2_any (x y : Int) (hx : -4398046511104 ≤ x ∧ x ≤ 4398046511104) (hy : -4398046511104 ≤ y ∧ y ≤ 4398046511104) (w : World) :
    Calls Try.prog 54 #[.int .i64 x, .int .i64 y] w fun e w' => e = .returned (.int .i64 (x - y)) ∧ w = w' := subF_ok (subF_small (by omega) (by omega) (by omega) (by omega) (by omega) (by omega)) w
set_option maxRecDepth 100000 in
set_option maxHeartbeats 4000000 in
theorem walk24_any (l : List N24) (hok : ∀ i, OkW (nd24 l i)) (N wk pt bm bx sc bo : Nat) (base : Nat → Prop) (R : Rows) (hN : N ≤ 16) : ∀ (f n : Nat) (g : Int → Option Value) (w : World), N < n + f → n < N → (n = 0 ∨ there24 l (pa24 l n) = true) → W24 w l N wk pt bm bx sc bo base R g →
    Calls Try.prog 47 #[.pointer (some ⟨wk, 0, none⟩), .int .i64 n, plV (fromP l n)] w fun e w' => e = .returned (.tuple #[]) ∧ ButS (fun b => b = bo) w.heap.size w w' ∧ W24 w' l N wk pt bm bx sc bo base R (walkG l N n g) := by
  intro f
  induction f with
  | zero => intro n g w h1 h2; omega
  | succ f ih =>
    intro n g w hf hn hup hW
    have HW := Lib.hid hW
    have IH := Lib.hid ih
    have h0 := hW.hw
    have c0 := h0.cells; have l0 := h0.lt; have o0 : Old w wk := l0
    have okx := hW.okx; have oks := hW.oks; have oko := hW.oko
    have olx : Old w bx := okx.lt; have ols : Old w sc := oks.lt; have olo : Old w bo := oko.lt
    have hlx := hW.lx n
    have hls := hW.ls n
    have hnear := place24_nearW hok n
    have hpf := place24_from l n
    obtain ⟨p, hp⟩ : ∃ p, fromP l n = p := ⟨_, rfl⟩
    rw [hp] at hpf
    have HP := Lib.hid hp
    have HPF := Lib.hid hpf
    rw [hp]
    clear hp hW ih h0
    have okn := hok n
    have hx := okn.x; have hy := okn.y; have hbd := okn.bd; have hb0 := okn.b0; have hb1 := okn.b1
    unfold In32 at hx hy
    have hqx : -4398046511104 ≤ (nd24 l n).x ∧ (nd24 l n).x ≤ 4398046511104 := by omega
    have hqy : -4398046511104 ≤ (nd24 l n).y ∧ (nd24 l n).y ≤ 4398046511104 := by omega
    have hpX : -4398046511104 ≤ p.X ∧ p.X ≤ 4398046511104 := by rw [hpf] at hnear; simp only [stepP] at hnear; omega
    have hpY : -4398046511104 ≤ p.Y ∧ p.Y ≤ 4398046511104 := by rw [hpf] at hnear; simp only [stepP] at hnear; omega
    have hsX : -137438953472 ≤ p.X + (nd24 l n).x ∧ p.X + (nd24 l n).x ≤ 137438953472 := by rw [hpf] at hnear; simp only [stepP] at hnear; omega
    have hsY : -137438953472 ≤ p.Y + (nd24 l n).y ∧ p.Y + (nd24 l n).y ≤ 137438953472 := by rw [hpf] at hnear; simp only [stepP] at hnear; omega
    clear hnear hpf okn hx hy
    obtain ⟨pX, pY, pL, po0, po1, pr0, pr1⟩ := p
    simp only at hpX hpY hsX hsY
    rcases hh : (nd24 l n).hid with _ | _
    · have hth : there24 l n = true := by
        rcases hup with q | q
        · subst q; rw [there24_root, hh]; rfl
        · rcases Nat.eq_zero_or_pos n with c | c
          · subst c; rw [there24_root, hh]; rfl
          · rw [there24_kid l c, hh, q]; rfl
      unfold m24a at hlx
      rw [if_pos ⟨by omega, by omega, by simpa using hh⟩, Int.toNat_natCast] at hlx
      have g1 := mgetD_some (z := boxZero) hlx
      have g2 := mhas_some hlx
      clear hlx
      show Calls Try.prog 47 #[_, _, .agg #[.int .i64 pX, .int .i64 pY, .int .i64 pL, .int .i64 po0, .int .i64 po1, .int .i64 pr0, .int .i64 pr1]] w _
      go_enter Try.func47, Try.ntmps47
      go_upto_region 3 with fail
      have hq : ∀ (X : World) (b : Nat), (blkCells X b).size = 17 → runStore Try.prog 108 (.pointer (some ⟨b, 0, none⟩)) (.agg (boxP (nd24 l n).x (nd24 l n).y (nd24 l n).bd).toArray) X = .ok .skip (putBlk X b (boxP (nd24 l n).x (nd24 l n).y (nd24 l n).bd).toArray) := fun X b h => bigx_s X b _ h rfl rfl
      go_upto_region 3 with fail
      have hz : ∀ (X : World) (c : Array Value) (T : TypeId), c.size = 17 → X.heap.size = w.heap.size + 1 → (blkCells (X.alloc (.cells c T)) (w.heap.size + 1)).size = 17 := fun X c T h1 h2 => by
        go_simp
      rw [hq _ _ (hz _ _ _ rfl (by go_simp))]
      go_upto_region 3 with fail
      clear hz hq
      refine region_rel [(0, some 23, []), (1, some 24, [(0, some 23)]), (2, some 25, []), (3, some 26, [(2, some 25)]), (4, some 27, [(0, some 23), (1, some 24), (2, some 25), (3, some 26)]), (5, some 28, [(0, some 23), (1, some 24), (2, some 25), (3, some 26), (4, some 27)]), (6, some 29, []), (7, some 30, [(6, some 29)]), (8, some 31, []), (9, some 32, [(8, some 31)]), (10, some 33, [(6, some 29), (7, some 30), (8, some 31), (9, some 32)]), (11, some 34, [(0, some 23), (1, some 24), (2, some 25), (3, some 26), (4, some 27), (5, some 28), (6, some 29), (7, some 30), (8, some 31), (9, some 32), (10, some 33)]), (12, some 35, [(0, some 23), (1, some 24), (2, some 25), (3, some 26), (4, some 27), (5, some 28), (6, some 29), (7, some 30)])] [13, 14, 15] (by kernel_rfl) (by kernel_rfl) (fun _ _ d _ _ h => by cases d <;> exact h) (relR [relEq ?r0_1, relEq ?r1_1, relEq ?r2_1, relEq ?r3_1, relSl 2 ?cs4_1 ?ct4_1, relEq ?r5_1, relEq ?r6_1, relEq ?r7_1, relEq ?r8_1, relEq ?r9_1, relSl 2 ?cs10_1 ?ct10_1, relEq ?r11_1, relEq ?r12_1]) (fun i => i == 4 || i == 10) (relS ⟨relEq_s _, relEq_s _, relEq_s _, relEq_s _, relSl_s _ _ _, relEq_s _, relEq_s _, relEq_s _, relEq_s _, relEq_s _, relSl_s _ _ _, relEq_s _, relEq_s _, trivial⟩) ⟨fun β wq hbq hd K hK => ?_, fun β wq hbq hd K hK => ?_, fun β wq hbq hd K hK => ?_, fun β wq hbq hd K hK => ?_, fun β wq hbq hd K hK => ?_, fun β wq hbq hd K hK => ?_, fun β wq hbq hd K hK => ?_, fun β wq hbq hd K hK => ?_, fun β wq hbq hd K hK => ?_, fun β wq hbq hd K hK => ?_, fun β wq hbq hd K hK => ?_, fun β wq hbq hd K hK => ?_, fun β wq hbq hd K hK => ?_, trivial⟩ (fun β wq hI hd => ?_)
      rotate_left 15
      focus (obtain ⟨cx0, fx0, zx0⟩ := bk hbq (w.heap.size) (by first | omega | (simp; done) | (simp; omega)); obtain ⟨cx1, fx1, zx1⟩ := bk hbq (w.heap.size + 1) (by first | omega | (simp; done) | (simp; omega)); simp only [putD, List.foldl_cons, List.foldl_nil, Act.put, List.setIfInBounds_toArray, List.set_cons_zero, List.set_cons_succ] at hK ⊢; refine wpOp_go rfl ?_; go_simp; (try go_bits); refine hK _ _ (Below.refl _ _) (relEq_e (w := wq) ?_) (fun h => absurd h (by decide)); (with_reducible rfl))
      focus (obtain ⟨cx0, fx0, zx0⟩ := bk hbq (w.heap.size) (by first | omega | (simp; done) | (simp; omega)); obtain ⟨cx1, fx1, zx1⟩ := bk hbq (w.heap.size + 1) (by first | omega | (simp; done) | (simp; omega)); simp only [putD, List.foldl_cons, List.foldl_nil, Act.put, List.setIfInBounds_toArray, List.set_cons_zero, List.set_cons_succ] at hK ⊢; have hd : (relEq ?r0_1 (β 0) wq) ∧ True := hd; generalize β 0 = v0 at *; obtain ⟨rfl, -⟩ := hd; refine wpOp_go rfl ?_; go_simp; (try go_bits); refine hK _ _ (Below.refl _ _) (relEq_e (w := wq) ?_) (fun h => absurd h (by decide)); (with_reducible rfl))
      focus (obtain ⟨cx0, fx0, zx0⟩ := bk hbq (w.heap.size) (by first | omega | (simp; done) | (simp; omega)); obtain ⟨cx1, fx1, zx1⟩ := bk hbq (w.heap.size + 1) (by first | omega | (simp; done) | (simp; omega)); simp only [putD, List.foldl_cons, List.foldl_nil, Act.put, List.setIfInBounds_toArray, List.set_cons_zero, List.set_cons_succ] at hK ⊢; refine wpOp_go rfl ?_; go_simp; (try go_bits); refine hK _ _ (Below.refl _ _) (relEq_e (w := wq) ?_) (fun h => absurd h (by decide)); (with_reducible rfl))
      focus (obtain ⟨cx0, fx0, zx0⟩ := bk hbq (w.heap.size) (by first | omega | (simp; done) | (simp; omega)); obtain ⟨cx1, fx1, zx1⟩ := bk hbq (w.heap.size + 1) (by first | omega | (simp; done) | (simp; omega)); simp only [putD, List.foldl_cons, List.foldl_nil, Act.put, List.setIfInBounds_toArray, List.set_cons_zero, List.set_cons_succ] at hK ⊢; have hd : (relEq ?r2_1 (β 2) wq) ∧ True := hd; generalize β 2 = v2 at *; obtain ⟨rfl, -⟩ := hd; refine wpOp_go rfl ?_; go_simp; (try go_bits); refine hK _ _ (Below.refl _ _) (relEq_e (w := wq) ?_) (fun h => absurd h (by decide)); (with_reducible rfl))
      focus (obtain ⟨cx0, fx0, zx0⟩ := bk hbq (w.heap.size) (by first | omega | (simp; done) | (simp; omega)); obtain ⟨cx1, fx1, zx1⟩ := bk hbq (w.heap.size + 1) (by first | omega | (simp; done) | (simp; omega)); simp only [putD, List.foldl_cons, List.foldl_nil, Act.put, List.setIfInBounds_toArray, List.set_cons_zero, List.set_cons_succ] at hK ⊢; have hd : (relEq ?r0_1 (β 0) wq) ∧ (relEq ?r1_1 (β 1) wq) ∧ (relEq ?r2_1 (β 2) wq) ∧ (relEq ?r3_1 (β 3) wq) ∧ True := hd; generalize β 0 = v0 at *; generalize β 1 = v1 at *; generalize β 2 = v2 at *; generalize β 3 = v3 at *; obtain ⟨rfl, rfl, rfl, rfl, -⟩ := hd; refine wpOp_go rfl ?_; go_simp; refine hK _ _ ((Below.refl _ _).alloc (Nat.le_refl _) _) (relSl_e (w := wq) ?_ ?_) (fun _ => ⟨_, rfl, Nat.le_refl _, by simp⟩) <;> (with_reducible rfl))
      focus (obtain ⟨cx0, fx0, zx0⟩ := bk hbq (w.heap.size) (by first | omega | (simp; done) | (simp; omega)); obtain ⟨cx1, fx1, zx1⟩ := bk hbq (w.heap.size + 1) (by first | omega | (simp; done) | (simp; omega)); simp only [putD, List.foldl_cons, List.foldl_nil, Act.put, List.setIfInBounds_toArray, List.set_cons_zero, List.set_cons_succ] at hK ⊢; have hd : (relEq ?r0_1 (β 0) wq) ∧ (relEq ?r1_1 (β 1) wq) ∧ (relEq ?r2_1 (β 2) wq) ∧ (relEq ?r3_1 (β 3) wq) ∧ (relSl 2 ?cs4_1 ?ct4_1 (β 4) wq) ∧ True := hd; generalize β 0 = v0 at *; generalize β 1 = v1 at *; generalize β 2 = v2 at *; generalize β 3 = v3 at *; generalize β 4 = v4 at *; obtain ⟨rfl, rfl, rfl, rfl, ⟨g4, rfl, hs4⟩, -⟩ := hd; refine wpOp_go rfl ?_; go_simp; go_at_call 55; (with_reducible refine (add2_any _ _ _ hpX hqx _ hs4).mono ?_); rintro e wm ⟨rfl, hbm⟩; refine hK _ _ hbm (relEq_e (w := wm) ?_) (fun h => absurd h (by decide)); (with_reducible rfl))
      focus (obtain ⟨cx0, fx0, zx0⟩ := bk hbq (w.heap.size) (by first | omega | (simp; done) | (simp; omega)); obtain ⟨cx1, fx1, zx1⟩ := bk hbq (w.heap.size + 1) (by first | omega | (simp; done) | (simp; omega)); simp only [putD, List.foldl_cons, List.foldl_nil, Act.put, List.setIfInBounds_toArray, List.set_cons_zero, List.set_cons_succ] at hK ⊢; refine wpOp_go rfl ?_; go_simp; (try go_bits); refine hK _ _ (Below.refl _ _) (relEq_e (w := wq) ?_) (fun h => absurd h (by decide)); (with_reducible rfl))
      focus (obtain ⟨cx0, fx0, zx0⟩ := bk hbq (w.heap.size) (by first | omega | (simp; done) | (simp; omega)); obtain ⟨cx1, fx1, zx1⟩ := bk hbq (w.heap.size + 1) (by first | omega | (simp; done) | (simp; omega)); simp only [putD, List.foldl_cons, List.foldl_nil, Act.put, List.setIfInBounds_toArray, List.set_cons_zero, List.set_cons_succ] at hK ⊢; have hd : (relEq ?r6_1 (β 6) wq) ∧ True := hd; generalize β 6 = v6 at *; obtain ⟨rfl, -⟩ := hd; refine wpOp_go rfl ?_; go_simp; (try go_bits); refine hK _ _ (Below.refl _ _) (relEq_e (w := wq) ?_) (fun h => absurd h (by decide)); (with_reducible rfl))
      focus (obtain ⟨cx0, fx0, zx0⟩ := bk hbq (w.heap.size) (by first | omega | (simp; done) | (simp; omega)); obtain ⟨cx1, fx1, zx1⟩ := bk hbq (w.heap.size + 1) (by first | omega | (simp; done) | (simp; omega)); simp only [putD, List.foldl_cons, List.foldl_nil, Act.put, List.setIfInBounds_toArray, List.set_cons_zero, List.set_cons_succ] at hK ⊢; refine wpOp_go rfl ?_; go_simp; (try go_bits); refine hK _ _ (Below.refl _ _) (relEq_e (w := wq) ?_) (fun h => absurd h (by decide)); (with_reducible rfl))
      focus (obtain ⟨cx0, fx0, zx0⟩ := bk hbq (w.heap.size) (by first | omega | (simp; done) | (simp; omega)); obtain ⟨cx1, fx1, zx1⟩ := bk hbq (w.heap.size + 1) (by first | omega | (simp; done) | (simp; omega)); simp only [putD, List.foldl_cons, List.foldl_nil, Act.put, List.setIfInBounds_toArray, List.set_cons_zero, List.set_cons_succ] at hK ⊢; have hd : (relEq ?r8_1 (β 8) wq) ∧ True := hd; generalize β 8 = v8 at *; obtain ⟨rfl, -⟩ := hd; refine wpOp_go rfl ?_; go_simp; (try go_bits); refine hK _ _ (Below.refl _ _) (relEq_e (w := wq) ?_) (fun h => absurd h (by decide)); (with_reducible rfl))
      focus (obtain ⟨cx0, fx0, zx0⟩ := bk hbq (w.heap.size) (by first | omega | (simp; done) | (simp; omega)); obtain ⟨cx1, fx1, zx1⟩ := bk hbq (w.heap.size + 1) (by first | omega | (simp; done) | (simp; omega)); simp only [putD, List.foldl_cons, List.foldl_nil, Act.put, List.setIfInBounds_toArray, List.set_cons_zero, List.set_cons_succ] at hK ⊢; have hd : (relEq ?r6_1 (β 6) wq) ∧ (relEq ?r7_1 (β 7) wq) ∧ (relEq ?r8_1 (β 8) wq) ∧ (relEq ?r9_1 (β 9) wq) ∧ True := hd; generalize β 6 = v6 at *; generalize β 7 = v7 at *; generalize β 8 = v8 at *; generalize β 9 = v9 at *; obtain ⟨rfl, rfl, rfl, rfl, -⟩ := hd; refine wpOp_go rfl ?_; go_simp; refine hK _ _ ((Below.refl _ _).alloc (Nat.le_refl _) _) (relSl_e (w := wq) ?_ ?_) (fun _ => ⟨_, rfl, Nat.le_refl _, by simp⟩) <;> (with_reducible rfl))
      focus (obtain ⟨cx0, fx0, zx0⟩ := bk hbq (w.heap.size) (by first | omega | (simp; done) | (simp; omega)); obtain ⟨cx1, fx1, zx1⟩ := bk hbq (w.heap.size + 1) (by first | omega | (simp; done) | (simp; omega)); simp only [putD, List.foldl_cons, List.foldl_nil, Act.put, List.setIfInBounds_toArray, List.set_cons_zero, List.set_cons_succ] at hK ⊢; have hd : (relEq ?r0_1 (β 0) wq) ∧ (relEq ?r1_1 (β 1) wq) ∧ (relEq ?r2_1 (β 2) wq) ∧ (relEq ?r3_1 (β 3) wq) ∧ (relSl 2 ?cs4_1 ?ct4_1 (β 4) wq) ∧ (relEq ?r5_1 (β 5) wq) ∧ (relEq ?r6_1 (β 6) wq) ∧ (relEq ?r7_1 (β 7) wq) ∧ (relEq ?r8_1 (β 8) wq) ∧ (relEq ?r9_1 (β 9) wq) ∧ (relSl 2 ?cs10_1 ?ct10_1 (β 10) wq) ∧ True := hd; generalize β 0 = v0 at *; generalize β 1 = v1 at *; generalize β 2 = v2 at *; generalize β 3 = v3 at *; generalize β 4 = v4 at *; generalize β 5 = v5 at *; generalize β 6 = v6 at *; generalize β 7 = v7 at *; generalize β 8 = v8 at *; generalize β 9 = v9 at *; generalize β 10 = v10 at *; obtain ⟨rfl, rfl, rfl, rfl, ⟨g4, rfl, hs4⟩, rfl, rfl, rfl, rfl, rfl, ⟨g10, rfl, hs10⟩, -⟩ := hd; refine wpOp_go rfl ?_; go_simp; go_at_call 55; (with_reducible refine (add2_any _ _ _ hpY hqy _ hs10).mono ?_); rintro e wm ⟨rfl, hbm⟩; refine hK _ _ hbm (relEq_e (w := wm) ?_) (fun h => absurd h (by decide)); (with_reducible rfl))
      focus (obtain ⟨cx0, fx0, zx0⟩ := bk hbq (w.heap.size) (by first | omega | (simp; done) | (simp; omega)); obtain ⟨cx1, fx1, zx1⟩ := bk hbq (w.heap.size + 1) (by first | omega | (simp; done) | (simp; omega)); simp only [putD, List.foldl_cons, List.foldl_nil, Act.put, List.setIfInBounds_toArray, List.set_cons_zero, List.set_cons_succ] at hK ⊢; have hd : (relEq ?r0_1 (β 0) wq) ∧ (relEq ?r1_1 (β 1) wq) ∧ (relEq ?r2_1 (β 2) wq) ∧ (relEq ?r3_1 (β 3) wq) ∧ (relSl 2 ?cs4_1 ?ct4_1 (β 4) wq) ∧ (relEq ?r5_1 (β 5) wq) ∧ (relEq ?r6_1 (β 6) wq) ∧ (relEq ?r7_1 (β 7) wq) ∧ True := hd; generalize β 0 = v0 at *; generalize β 1 = v1 at *; generalize β 2 = v2 at *; generalize β 3 = v3 at *; generalize β 4 = v4 at *; generalize β 5 = v5 at *; generalize β 6 = v6 at *; generalize β 7 = v7 at *; obtain ⟨rfl, rfl, rfl, rfl, ⟨g4, rfl, hs4⟩, rfl, rfl, rfl, -⟩ := hd; refine wpOp_go rfl ?_; go_simp; (try go_bits); refine hK _ _ (Below.refl _ _) (relEq_e (w := wq) ?_) (fun h => absurd h (by decide)); (with_reducible rfl))
      have hbq := hI.below; obtain ⟨cx0, fx0, zx0⟩ := bk hbq (w.heap.size) (by first | omega | (simp; done) | (simp; omega)); obtain ⟨cx1, fx1, zx1⟩ := bk hbq (w.heap.size + 1) (by first | omega | (simp; done) | (simp; omega)); simp only [List.map_cons, List.map_nil, putD, List.foldl_cons, List.foldl_nil, Act.put, List.setIfInBounds_toArray, List.set_cons_zero, List.set_cons_succ]; clear hI; have hd : (relEq ?r0_1 (β 0) wq) ∧ (relEq ?r1_1 (β 1) wq) ∧ (relEq ?r2_1 (β 2) wq) ∧ (relEq ?r3_1 (β 3) wq) ∧ (relSl 2 ?cs4_1 ?ct4_1 (β 4) wq) ∧ (relEq ?r5_1 (β 5) wq) ∧ (relEq ?r6_1 (β 6) wq) ∧ (relEq ?r7_1 (β 7) wq) ∧ (relEq ?r8_1 (β 8) wq) ∧ (relEq ?r9_1 (β 9) wq) ∧ (relSl 2 ?cs10_1 ?ct10_1 (β 10) wq) ∧ (relEq ?r11_1 (β 11) wq) ∧ (relEq ?r12_1 (β 12) wq) ∧ True := hd; generalize β 0 = v0 at *; generalize β 1 = v1 at *; generalize β 2 = v2 at *; generalize β 3 = v3 at *; generalize β 4 = v4 at *; generalize β 5 = v5 at *; generalize β 6 = v6 at *; generalize β 7 = v7 at *; generalize β 8 = v8 at *; generalize β 9 = v9 at *; generalize β 10 = v10 at *; generalize β 11 = v11 at *; generalize β 12 = v12 at *; obtain ⟨rfl, rfl, rfl, rfl, ⟨g4, rfl, hs4⟩, rfl, rfl, rfl, rfl, rfl, ⟨g10, rfl, hs10⟩, rfl, rfl, -⟩ := hd; skip
      refine Exists.elim (after2 (w := w) (W := wq) (w1 := wq) (b0 := w.heap.size) (cs0 := ?_) (T0 := ?_) (b1 := w.heap.size + 1) (cs1 := ?_) (T1 := ?_) (Below.refl _ _) (below_via ?_ hbq ?_) (has_below hbq ?_) (has_below hbq ?_)) ?_
      rotate_left 4; (focus ((repeat' (first | (with_reducible exact Below.refl _ _) | (with_reducible assumption) | (with_reducible refine below_from_drew ?_) | (with_reducible refine Below.alloc ?_ ?_ _) | (with_reducible refine Below.drew ?_) | (with_reducible refine below_drewN ?_ _) | (with_reducible refine Below.setCell ?_ ?_ _) | (with_reducible refine below_via ?_ (by assumption) ?_) | (with_reducible refine below_ov ?_ ?_ _ _) | go_size)); done)); (focus (go_size)); (focus ((repeat' (first | (with_reducible refine has_drew ?_) | (with_reducible refine has_drewN ?_) | (with_reducible refine has_new ?_; (first | (with_reducible rfl) | omega | (simp; done) | (simp; omega))) | (with_reducible refine has_ov_same ?_; (first | (with_reducible rfl) | omega | (simp; done) | (simp; omega))) | (with_reducible refine has_alloc ?_) | (with_reducible refine has_ov_other ?_ ?_; (focus (first | (with_reducible rfl) | omega | (simp; done) | (simp; omega)))) | (with_reducible assumption) | (with_reducible exact has_below hB (by assumption)))); done)); (focus ((repeat' (first | (with_reducible refine has_drew ?_) | (with_reducible refine has_drewN ?_) | (with_reducible refine has_new ?_; (first | (with_reducible rfl) | omega | (simp; done) | (simp; omega))) | (with_reducible refine has_ov_same ?_; (first | (with_reducible rfl) | omega | (simp; done) | (simp; omega))) | (with_reducible refine has_alloc ?_) | (with_reducible refine has_ov_other ?_ ?_; (focus (first | (with_reducible rfl) | omega | (simp; done) | (simp; omega)))) | (with_reducible assumption) | (with_reducible exact has_below hB (by assumption)))); done)); rintro u ⟨hwu, hB, hz, z0, o0, z1, o1⟩
      clear hbq hd cx0 fx0 zx0 cx1 fx1 zx1; subst hwu; (try simp only [World.size_alloc, World.size_setCell, World.size_drew, ov_size] at hz)
      (refine wpL_late rfl (fun K hK => ?_); go_simp; refine hK _ _ ?_; clear hK K; try simp only [Act.put, List.setIfInBounds_toArray, List.set_cons_zero, List.set_cons_succ])
      (refine wpL_late rfl (fun K hK => ?_); go_simp; refine hK _ _ ?_; clear hK K; try simp only [Act.put, List.setIfInBounds_toArray, List.set_cons_zero, List.set_cons_succ])
      (refine wpL_late rfl (fun K hK => ?_); go_simp; refine hK _ _ ?_; clear hK K; try simp only [Act.put, List.setIfInBounds_toArray, List.set_cons_zero, List.set_cons_succ])
      refine wpL_nil ?_
      clear hs4 hs10 hpX hpY hqx hqy g1 g2 okx oks oko olx ols olo c0 hz
      have HWu := Lib.hid (HW.out.below hB)
      have cu := HWu.out.hw.cells; have lu := HWu.out.hw.lt; have ou : Old u wk := lu
      have oku := HWu.out.oko; have olu : Old u bo := oku.lt
      have hnw := HW.out.nw
      have lbo : bo < w.heap.size := HW.out.oko.lt
      have k5 : ¬ bo = w.heap.size := by omega
      have k6 : ¬ bo = w.heap.size + 1 := by omega
      go_upto_region 4 with fail
      refine name_w (f := Code.wp _ _ _ _) (fun X hX => ?_)
      have hX5 : Has X w.heap.size #[.int .i64 (pX + (nd24 l n).x), .int .i64 (pY + (nd24 l n).y), .int .i64 pL, .int .i64 po0, .int .i64 po1, .int .i64 pr0, .int .i64 pr1] 89 := by rw [hX]; (repeat' (first | (with_reducible refine has_drew ?_) | (with_reducible refine has_drewN ?_) | (with_reducible refine has_new ?_; (first | (with_reducible rfl) | omega | (simp; done) | (simp; omega))) | (with_reducible refine has_ov_same ?_; (first | (with_reducible rfl) | omega | (simp; done) | (simp; omega))) | (with_reducible refine has_alloc ?_) | (with_reducible refine has_ov_other ?_ ?_; (focus (first | (with_reducible rfl) | omega | (simp; done) | (simp; omega)))) | (with_reducible assumption) | (with_reducible exact has_below hB (by assumption))))
      have hX6 : Has X (w.heap.size + 1) (boxP (nd24 l n).x (nd24 l n).y (nd24 l n).bd).toArray 108 := by rw [hX]; (repeat' (first | (with_reducible refine has_drew ?_) | (with_reducible refine has_drewN ?_) | (with_reducible refine has_new ?_; (first | (with_reducible rfl) | omega | (simp; done) | (simp; omega))) | (with_reducible refine has_ov_same ?_; (first | (with_reducible rfl) | omega | (simp; done) | (simp; omega))) | (with_reducible refine has_alloc ?_) | (with_reducible refine has_ov_other ?_ ?_; (focus (first | (with_reducible rfl) | omega | (simp; done) | (simp; omega)))) | (with_reducible assumption) | (with_reducible exact has_below hB (by assumption))))
      have hbX : Below w.heap.size w X := by rw [hX]; (repeat' (first | (with_reducible exact Below.refl _ _) | (with_reducible assumption) | (with_reducible refine below_from_drew ?_) | (with_reducible refine Below.alloc ?_ ?_ _) | (with_reducible refine Below.drew ?_) | (with_reducible refine below_drewN ?_ _) | (with_reducible refine Below.setCell ?_ ?_ _) | (with_reducible refine below_via ?_ (by assumption) ?_) | (with_reducible refine below_ov ?_ ?_ _ _) | go_size))
      have HWX := Lib.hid (HW.out.below hbX)
      have HBX := Lib.hid hbX; have HX5 := Lib.hid hX5; have HX6 := Lib.hid hX6
      clear hX hB HWu cu lu ou oku olu z0 o0 z1 o1 k5 k6 hbX
      have cX := HWX.out.hw.cells; have lX := HWX.out.hw.lt; have oX : Old X wk := lX
      have ok4 := HWX.out.oko; have okd : MapOk X.drew bo := ok4; have ol4 : Old X bo := ok4.lt
      have z5 := hX5.lt; have o5 : Old X w.heap.size := z5; have c5 := hX5.cells
      clear hX5 hX6
      refine region_ord [(0, 0), (1, 0), (2, 0), (3, 0), (4, 0), (5, 0), (6, 2)] (by kernel_rfl) (by kernel_rfl) (fun _ _ d _ _ h => by cases d <;> exact h) (fun hS => ?_)
      (refine wpG_read (v := ?_) rfl (.inl ⟨by rfl, fun wx hbx => ?_⟩) ?_; rotate_left; (focus (obtain ⟨cx0, fx0, zx0⟩ := bk hbx (w.heap.size) (by first | omega | (simp; done) | (simp; omega)); have bx0 := bkB hbx (w.heap.size) (by first | omega | (simp; done) | (simp; omega)); obtain ⟨cx1, fx1, zx1⟩ := bk hbx (wk) (by first | omega | (simp; done) | (simp; omega)); have bx1 := bkB hbx (wk) (by first | omega | (simp; done) | (simp; omega)); go_simp; (try go_bits); (try with_reducible rfl))); try simp only [Act.put, List.setIfInBounds_toArray, List.set_cons_zero, List.set_cons_succ])
      (refine wpG_read (v := ?_) rfl (.inl ⟨by rfl, fun wx hbx => ?_⟩) ?_; rotate_left; (focus (obtain ⟨cx0, fx0, zx0⟩ := bk hbx (w.heap.size) (by first | omega | (simp; done) | (simp; omega)); have bx0 := bkB hbx (w.heap.size) (by first | omega | (simp; done) | (simp; omega)); obtain ⟨cx1, fx1, zx1⟩ := bk hbx (wk) (by first | omega | (simp; done) | (simp; omega)); have bx1 := bkB hbx (wk) (by first | omega | (simp; done) | (simp; omega)); go_simp; (try go_bits); (try with_reducible rfl))); try simp only [Act.put, List.setIfInBounds_toArray, List.set_cons_zero, List.set_cons_succ])
      (refine wpG_read (v := ?_) rfl (.inl ⟨by rfl, fun wx hbx => ?_⟩) ?_; rotate_left; (focus (obtain ⟨cx0, fx0, zx0⟩ := bk hbx (w.heap.size) (by first | omega | (simp; done) | (simp; omega)); have bx0 := bkB hbx (w.heap.size) (by first | omega | (simp; done) | (simp; omega)); obtain ⟨cx1, fx1, zx1⟩ := bk hbx (wk) (by first | omega | (simp; done) | (simp; omega)); have bx1 := bkB hbx (wk) (by first | omega | (simp; done) | (simp; omega)); go_simp; (try go_bits); (try with_reducible rfl))); try simp only [Act.put, List.setIfInBounds_toArray, List.set_cons_zero, List.set_cons_succ])
      (refine wpG_read (v := ?_) rfl (.inl ⟨by rfl, fun wx hbx => ?_⟩) ?_; rotate_left; (focus (obtain ⟨cx0, fx0, zx0⟩ := bk hbx (w.heap.size) (by first | omega | (simp; done) | (simp; omega)); have bx0 := bkB hbx (w.heap.size) (by first | omega | (simp; done) | (simp; omega)); obtain ⟨cx1, fx1, zx1⟩ := bk hbx (wk) (by first | omega | (simp; done) | (simp; omega)); have bx1 := bkB hbx (wk) (by first | omega | (simp; done) | (simp; omega)); go_simp; (try go_bits); (try with_reducible rfl))); try simp only [Act.put, List.setIfInBounds_toArray, List.set_cons_zero, List.set_cons_succ])
      (refine wpG_read (v := ?_) rfl (.inl ⟨by rfl, fun wx hbx => ?_⟩) ?_; rotate_left; (focus (obtain ⟨cx0, fx0, zx0⟩ := bk hbx (w.heap.size) (by first | omega | (simp; done) | (simp; omega)); have bx0 := bkB hbx (w.heap.size) (by first | omega | (simp; done) | (simp; omega)); obtain ⟨cx1, fx1, zx1⟩ := bk hbx (wk) (by first | omega | (simp; done) | (simp; omega)); have bx1 := bkB hbx (wk) (by first | omega | (simp; done) | (simp; omega)); go_simp; (try go_bits); (try with_reducible rfl))); try simp only [Act.put, List.setIfInBounds_toArray, List.set_cons_zero, List.set_cons_succ])
      (refine wpG_read (v := ?_) rfl (.inl ⟨by rfl, fun wx hbx => ?_⟩) ?_; rotate_left; (focus (obtain ⟨cx0, fx0, zx0⟩ := bk hbx (w.heap.size) (by first | omega | (simp; done) | (simp; omega)); have bx0 := bkB hbx (w.heap.size) (by first | omega | (simp; done) | (simp; omega)); obtain ⟨cx1, fx1, zx1⟩ := bk hbx (wk) (by first | omega | (simp; done) | (simp; omega)); have bx1 := bkB hbx (wk) (by first | omega | (simp; done) | (simp; omega)); go_simp; (try go_bits); (try with_reducible rfl))); try simp only [Act.put, List.setIfInBounds_toArray, List.set_cons_zero, List.set_cons_succ])
      (refine wpG_late rfl (fun K hK => ?_); go_simp; (try simp only []); (try simp only []); refine hK _ _ ?_; clear hK K; try simp only [Act.put, List.setIfInBounds_toArray, List.set_cons_zero, List.set_cons_succ])
      refine wpG_nil ?_
      go_upto_region 5 with fail
      refine name_w (f := Code.wp _ _ _ _) (fun Y hY => ?_)
      have hval : (Value.agg #[.int .i64 (pX + (nd24 l n).x), .int .i64 (pY + (nd24 l n).y), .int .i64 pL, .int .i64 po0, .int .i64 po1, .int .i64 pr0, .int .i64 pr1]) = plV (place24 l n) := by rw [HPF.out]; rfl
      have hput : ButS (fun b => b = bo) X.heap.size X Y := by rw [hY]; exact (ButS.refl _ _ X).drew.put (.inr rfl)
      have hWY : W24 Y l N wk pt bm bx sc bo base R (fun k => if k = n then some (plV (place24 l n)) else g k) := by
        refine HWX.out.to hput (by rw [hY]; exact mapOk_put_same okd) (fun x => ?_)
        rw [hY, mapOf_put_same okd, mlook_put, hval, mapOf_drew, HWX.out.lo]
      have hb5 : ¬ w.heap.size = bo := by omega
      have hb6 : ¬ w.heap.size + 1 = bo := by omega
      have hY5 : Has Y w.heap.size #[.int .i64 (pX + (nd24 l n).x), .int .i64 (pY + (nd24 l n).y), .int .i64 pL, .int .i64 po0, .int .i64 po1, .int .i64 pr0, .int .i64 pr1] 89 := hput.has HX5.out HX5.out.lt hb5
      have hY6 : Has Y (w.heap.size + 1) (boxP (nd24 l n).x (nd24 l n).y (nd24 l n).bd).toArray 108 := hput.has HX6.out HX6.out.lt hb6
      have hbY : ButS (fun b => b = bo) w.heap.size w Y := (ButS.of HBX.out).trans (hput.less HBX.out.size)
      have HWY := Lib.hid hWY; have HBY := Lib.hid hbY; have HY5 := Lib.hid hY5; have HY6 := Lib.hid hY6
      clear hS hput hWY hbY hY5 hY6 hY hval cX lX oX ok4 okd ol4 z5 o5 c5 HX5 HX6 HBX HWX X hb5 hb6 hls
      have lsY := HWY.out.ls n
      have oks := HWY.out.oks; have ols : Old Y sc := oks.lt
      have cY := HWY.out.hw.cells; have lY := HWY.out.hw.lt; have oY : Old Y wk := lY
      have z5 := HY5.out.lt; have o5 : Old Y w.heap.size := z5; have c5 := HY5.out.cells
      have z6 := HY6.out.lt; have o6 : Old Y (w.heap.size + 1) := z6; have c6 := HY6.out.cells
      obtain ⟨dd, hdd⟩ : ∃ d, downP (nd24 l n) n (place24 l n) = d := ⟨_, rfl⟩
      have HDD := Lib.hid hdd
      obtain ⟨dX, dY, dL, d0, d1, e0, e1⟩ := dd
      have hdv : downP (nd24 l n) n (place24 l n) = if (nd24 l n).sc then layP ⟨pX + (nd24 l n).x - (nd24 l n).b0, pY + (nd24 l n).y - (nd24 l n).b1, pL, po0, po1, pr0, pr1⟩ n (pX + (nd24 l n).x - (nd24 l n).b0 + ((nd24 l n).bd + 3)) (pY + (nd24 l n).y - (nd24 l n).b1 + (nd24 l n).bd) else ⟨pX + (nd24 l n).x, pY + (nd24 l n).y, pL, po0, po1, pr0, pr1⟩ := by
        rw [HPF.out]; unfold downP layP stepP; split <;> rfl
      rw [hdd] at hdv
      rcases hs : (nd24 l n).sc with _ | _
      · unfold m24b at lsY
        rw [if_neg (by rw [Int.toNat_natCast, hs]; simp)] at lsY
        have g1 := mgetD_none (z := .agg #[.int .i64 0, .int .i64 0]) lsY
        have g2 := mhas_none lsY
        rw [hs] at hdv
        simp only [Bool.false_eq_true, if_false, Pl24.mk.injEq] at hdv
        have HDV := Lib.hid hdv
        clear lsY hdv hdd
        go_upto_region 9 with fail
        refine name_w (f := Code.wp _ _ _ _) (fun Z hZ => ?_)
        clear g1 g2
        have hZb : Below Y.heap.size Y Z := by rw [hZ]; (repeat' (first | (with_reducible exact Below.refl _ _) | (with_reducible assumption) | (with_reducible refine below_from_drew ?_) | (with_reducible refine Below.alloc ?_ ?_ _) | (with_reducible refine Below.drew ?_) | (with_reducible refine below_drewN ?_ _) | (with_reducible refine Below.setCell ?_ ?_ _) | (with_reducible refine below_via ?_ (by assumption) ?_) | (with_reducible refine below_ov ?_ ?_ _ _) | go_size))
        have hZ5 : Has Z w.heap.size #[.int .i64 dX, .int .i64 dY, .int .i64 dL, .int .i64 d0, .int .i64 d1, .int .i64 e0, .int .i64 e1] 89 := by
          obtain ⟨q1, q2, q3, q4, q5, q6, q7⟩ := HDV.out
          rw [q1, q2, q3, q4, q5, q6, q7]; exact has_below hZb HY5.out
        have hWZ := HWY.out.below hZb
        have hbZ : ButS (fun b => b = bo) w.heap.size w Z := HBY.out.trans ((ButS.of hZb).less HBY.out.size)
        clear hZb HDV
        have HWZ := Lib.hid hWZ; have HBZ := Lib.hid hbZ; have HZ5 := Lib.hid hZ5
        clear hWZ hbZ hZ5 hZ HWY HBY HY5 HY6 c5 c6 z5 z6 o5 o6 cY lY oY oks ols
        have cZ := HWZ.out.hw.cells; have lZ := HWZ.out.hw.lt; have oZ : Old Z wk := lZ
        have hm : (n : Int) ∈ nums R := (HWZ.out.told.mem _).2 ⟨by omega, by omega⟩
        obtain ⟨⟨nn, dd⟩, hx, e1⟩ := List.mem_map.1 hm
        obtain ⟨A, C, hR⟩ := List.append_of_mem hx
        simp only at e1
        subst e1
        have hk := HWZ.out.told.kids A C _ dd hR
        have hRl := HWZ.out.told.len
        have hKl : (kidsZ (pa24 l) N n).length ≤ N := kidsZ_len _ _ _
        have HT := Lib.hid (fun v (hv : Below Z.heap.size Z v) => tkids_any pt bm base R A C N n dd v (HWZ.out.tree.below hv) hR (by omega) (by rw [hk]; omega))
        rw [hk] at HT
        obtain ⟨K, hK⟩ : ∃ K, kidsZ (pa24 l) N n = K := ⟨_, rfl⟩
        rw [hK] at HT hKl
        have HKK := Lib.hid hK
        clear hm hx hR hk hRl hK
        go_wp2_with ((go_at_call 68; (with_reducible refine (HT.out _ (by (repeat' (first | (with_reducible exact Below.refl _ _) | (with_reducible assumption) | (with_reducible refine below_from_drew ?_) | (with_reducible refine Below.alloc ?_ ?_ _) | (with_reducible refine Below.drew ?_) | (with_reducible refine below_drewN ?_ _) | (with_reducible refine Below.setCell ?_ ?_ _) | (with_reducible refine below_via ?_ (by assumption) ?_) | (with_reducible refine below_ov ?_ ?_ _ _) | go_size)))).mono ?_); rintro e v ⟨ka, kc, rfl, hI, hb⟩; have hz := hb.size; refine (fun hB => ?_ : Below Z.heap.size Z v → _) ?_; rotate_left; (focus ((repeat' (first | (with_reducible exact Below.refl _ _) | (with_reducible assumption) | (with_reducible refine below_from_drew ?_) | (with_reducible refine Below.alloc ?_ ?_ _) | (with_reducible refine Below.drew ?_) | (with_reducible refine below_drewN ?_ _) | (with_reducible refine Below.setCell ?_ ?_ _) | (with_reducible refine below_via ?_ (by assumption) ?_) | (with_reducible refine below_ov ?_ ?_ _ _) | go_size)); done)); (try simp only [World.size_alloc, World.size_setCell, World.size_drew, ov_size] at hz)))
        have HWV := Lib.hid (HWZ.out.below hB)
        have HZ6 := Lib.hid (has_below hB HZ5.out)
        have HBV := Lib.hid (HBZ.out.trans ((ButS.of hB).less HBZ.out.size))
        go_loopw [89] (fun x wr => ∃ j : Nat, x = .int .i64 j ∧ j ≤ K.length ∧ IntsAt wr ka K ∧ Has wr w.heap.size #[.int .i64 dX, .int .i64 dY, .int .i64 dL, .int .i64 d0, .int .i64 d1, .int .i64 e0, .int .i64 e1] 89 ∧ W24 wr l N wk pt bm bx sc bo base R (walkK l N n K j g) ∧ ButS (fun b => b = bo) w.heap.size w wr) (fun x _ => K.length - (intOf x).toNat)
        case atStart => exact ⟨0, rfl, Nat.zero_le _, hI, HZ6.out, HWV.out.eqg (fun k => walkK_zero l N n hn hth K g k), HBV.out⟩
        case round =>
          obtain ⟨j, rfl, hj, hIr, h5, hWr, hbr⟩ := hrel
          have HIR := Lib.hid hIr; have H5 := Lib.hid h5; have HWR := Lib.hid hWr; have HBR := Lib.hid hbr
          clear hIr h5 hWr hbr hI
          by_cases c : j < K.length
          · have ci : (j : Int) < (K.length : Int) := by omega
            have cj : (0 : Int) ≤ j := by omega
            obtain ⟨ab, ao, rfl, la, cK⟩ := HIR.out (by omega)
            have ca := cK j c
            clear cK
            obtain ⟨kc', hk0, hkN, hkp, hkj⟩ := kidsZ_mem.1 (show K.getD j 0 ∈ kidsZ (pa24 l) N n by rw [HKK.out, List.getD_eq_getElem?_getD, List.getElem?_eq_getElem c]; exact List.getElem_mem c)
            rw [hkj] at ca
            have c5 := H5.out.cells; have z5 := H5.out.lt; have o5 : Old wr w.heap.size := z5; have oa : Old wr ab := la
            have IHC : Calls Try.prog 47 #[.pointer (some ⟨wk, 0, none⟩), .int .i64 kc', .agg #[.int .i64 dX, .int .i64 dY, .int .i64 dL, .int .i64 d0, .int .i64 d1, .int .i64 e0, .int .i64 e1]] wr fun e w' => e = .returned (.tuple #[]) ∧ ButS (fun b => b = bo) wr.heap.size wr w' ∧ W24 w' l N wk pt bm bx sc bo base R (walkG l N kc' (walkK l N n K j g)) := by
              have hpk : pa24 l kc' = n := by omega
              have hpl := pa24_lt l hk0
              have := IH.out kc' (walkK l N n K j g) wr (by omega) hkN (.inr (by rw [hpk]; exact hth)) HWR.out
              rw [fromP_kid l hk0 hpk, HDD.out] at this
              exact this
            have HIC := Lib.hid IHC
            have HLK := Lib.hid (And.intro hkj (And.intro hkp hk0))
            clear IHC hk0 hkN hkp hkj
            have hab : ab ≠ bo := cell_notMap HWR.out.oko ca
            go_wp2_with ((go_at_call 47); (with_reducible refine HIC.out.mono ?_); rintro e w2 ⟨rfl, hbw, hWw⟩)
            refine ⟨⟨j + 1, by push_cast; rfl, by omega, HIR.out.to hbw.size (fun b off e hb => hbw.block b hb (by cases e; exact hab)), hbw.has H5.out H5.out.lt (fun e => by have : w.heap.size = bo := e; omega), hWw.eqg (fun k => walkK_next l N n kc' K j c HLK.out.1 g k), HBR.out.trans (hbw.less HBR.out.size)⟩, by simp only [intOf]; omega⟩
          · have ci : ¬ (j : Int) < (K.length : Int) := by omega
            obtain rfl : j = K.length := by omega
            go_wp2_with fail
            refine bodyPost_end (results_none rfl _ _ _) rfl ?_
            refine ⟨rfl, HBR.out, HWR.out.eqg (fun k => ?_)⟩
            rw [← HKK.out]
            exact walkK_all l N n hn hth g k
      · unfold m24b at lsY
        rw [if_pos ⟨by omega, by omega, by rw [Int.toNat_natCast]; exact hs⟩, Int.toNat_natCast] at lsY
        have g1 := mgetD_some (z := .agg #[.int .i64 0, .int .i64 0]) lsY
        have g2 := mhas_some lsY
        rw [hs] at hdv
        simp only [if_true, layP, Pl24.mk.injEq] at hdv
        have HDV := Lib.hid hdv
        clear lsY hdv hdd
        obtain ⟨V, hVs, hVY⟩ := cut_world Y w.heap.size (by omega)
        have hVb : ∀ k, k < w.heap.size → Y.heap[k]? = V.heap[k]? := fun k hk => hVY.block k (by omega)
        have hBV : ButS (fun b => b = bo) w.heap.size w V := ⟨hVY.os.symm.trans HBY.out.os, hVY.tape.symm.trans HBY.out.tape, hVY.output.symm.trans HBY.out.output, by omega, fun k hk hne => (hVb k hk).symm.trans (HBY.out.block k hk hne)⟩
        have hWV : W24 V l N wk pt bm bx sc bo base R (fun k => if k = n then some (plV (place24 l n)) else g k) :=
          HW.out.to hBV (mapOk_eq (hVb bo lbo).symm HWY.out.oko) (fun x => by rw [mapOf_eq (hVb bo lbo).symm]; exact HWY.out.lo x)
        have HWV := Lib.hid hWV; have HBV := Lib.hid hBV
        clear hVb hBV hWV
        go_upto_region 7 with fail
        rw [← ov_self HY6.out, ← ov_self HY5.out]
        refine region_ord [(0, 0), (1, 0), (2, 0), (3, 0), (5, 0), (6, 0), (7, 0), (8, 0), (4, 1), (10, 0), (9, 1), (11, 2), (12, 2), (13, 2)] (by kernel_rfl) (by kernel_rfl) (fun _ _ d _ _ h => by cases d <;> exact h) (fun hS => ?_)
        (refine wpG_read (v := ?_) rfl (.inl ⟨by rfl, fun wx hbx => ?_⟩) ?_; rotate_left; (focus (obtain ⟨cx0, fx0, zx0⟩ := bk hbx (w.heap.size) (by first | omega | (simp; done) | (simp; omega)); have bx0 := bkB hbx (w.heap.size) (by first | omega | (simp; done) | (simp; omega)); obtain ⟨cx1, fx1, zx1⟩ := bk hbx (Y.heap.size) (by first | omega | (simp; done) | (simp; omega)); have bx1 := bkB hbx (Y.heap.size) (by first | omega | (simp; done) | (simp; omega)); go_simp; (try go_bits); (try with_reducible rfl))); try simp only [Act.put, List.setIfInBounds_toArray, List.set_cons_zero, List.set_cons_succ])
        (refine wpG_read (v := ?_) rfl (.inl ⟨by rfl, fun wx hbx => ?_⟩) ?_; rotate_left; (focus (obtain ⟨cx0, fx0, zx0⟩ := bk hbx (w.heap.size) (by first | omega | (simp; done) | (simp; omega)); have bx0 := bkB hbx (w.heap.size) (by first | omega | (simp; done) | (simp; omega)); obtain ⟨cx1, fx1, zx1⟩ := bk hbx (Y.heap.size) (by first | omega | (simp; done) | (simp; omega)); have bx1 := bkB hbx (Y.heap.size) (by first | omega | (simp; done) | (simp; omega)); go_simp; (try go_bits); (try with_reducible rfl))); try simp only [Act.put, List.setIfInBounds_toArray, List.set_cons_zero, List.set_cons_succ])
        (refine wpG_read (v := ?_) rfl (.inl ⟨by rfl, fun wx hbx => ?_⟩) ?_; rotate_left; (focus (obtain ⟨cx0, fx0, zx0⟩ := bk hbx (w.heap.size) (by first | omega | (simp; done) | (simp; omega)); have bx0 := bkB hbx (w.heap.size) (by first | omega | (simp; done) | (simp; omega)); obtain ⟨cx1, fx1, zx1⟩ := bk hbx (Y.heap.size) (by first | omega | (simp; done) | (simp; omega)); have bx1 := bkB hbx (Y.heap.size) (by first | omega | (simp; done) | (simp; omega)); go_simp; (try go_bits); (try with_reducible rfl))); try simp only [Act.put, List.setIfInBounds_toArray, List.set_cons_zero, List.set_cons_succ])
        (refine wpG_read (v := ?_) rfl (.inl ⟨by rfl, fun wx hbx => ?_⟩) ?_; rotate_left; (focus (obtain ⟨cx0, fx0, zx0⟩ := bk hbx (w.heap.size) (by first | omega | (simp; done) | (simp; omega)); have bx0 := bkB hbx (w.heap.size) (by first | omega | (simp; done) | (simp; omega)); obtain ⟨cx1, fx1, zx1⟩ := bk hbx (Y.heap.size) (by first | omega | (simp; done) | (simp; omega)); have bx1 := bkB hbx (Y.heap.size) (by first | omega | (simp; done) | (simp; omega)); go_simp; (try go_bits); (try with_reducible rfl))); try simp only [Act.put, List.setIfInBounds_toArray, List.set_cons_zero, List.set_cons_succ])
        (refine wpG_read (v := ?_) rfl (.inl ⟨by rfl, fun wx hbx => ?_⟩) ?_; rotate_left; (focus (obtain ⟨cx0, fx0, zx0⟩ := bk hbx (w.heap.size) (by first | omega | (simp; done) | (simp; omega)); have bx0 := bkB hbx (w.heap.size) (by first | omega | (simp; done) | (simp; omega)); obtain ⟨cx1, fx1, zx1⟩ := bk hbx (Y.heap.size) (by first | omega | (simp; done) | (simp; omega)); have bx1 := bkB hbx (Y.heap.size) (by first | omega | (simp; done) | (simp; omega)); go_simp; (try go_bits); (try with_reducible rfl))); try simp only [Act.put, List.setIfInBounds_toArray, List.set_cons_zero, List.set_cons_succ])
        (refine wpG_read (v := ?_) rfl (.inl ⟨by rfl, fun wx hbx => ?_⟩) ?_; rotate_left; (focus (obtain ⟨cx0, fx0, zx0⟩ := bk hbx (w.heap.size) (by first | omega | (simp; done) | (simp; omega)); have bx0 := bkB hbx (w.heap.size) (by first | omega | (simp; done) | (simp; omega)); obtain ⟨cx1, fx1, zx1⟩ := bk hbx (Y.heap.size) (by first | omega | (simp; done) | (simp; omega)); have bx1 := bkB hbx (Y.heap.size) (by first | omega | (simp; done) | (simp; omega)); go_simp; (try go_bits); (try with_reducible rfl))); try simp only [Act.put, List.setIfInBounds_toArray, List.set_cons_zero, List.set_cons_succ])
        (refine wpG_read (v := ?_) rfl (.inl ⟨by rfl, fun wx hbx => ?_⟩) ?_; rotate_left; (focus (obtain ⟨cx0, fx0, zx0⟩ := bk hbx (w.heap.size) (by first | omega | (simp; done) | (simp; omega)); have bx0 := bkB hbx (w.heap.size) (by first | omega | (simp; done) | (simp; omega)); obtain ⟨cx1, fx1, zx1⟩ := bk hbx (Y.heap.size) (by first | omega | (simp; done) | (simp; omega)); have bx1 := bkB hbx (Y.heap.size) (by first | omega | (simp; done) | (simp; omega)); go_simp; (try go_bits); (try with_reducible rfl))); try simp only [Act.put, List.setIfInBounds_toArray, List.set_cons_zero, List.set_cons_succ])
        (refine wpG_read (v := ?_) rfl (.inl ⟨by rfl, fun wx hbx => ?_⟩) ?_; rotate_left; (focus (obtain ⟨cx0, fx0, zx0⟩ := bk hbx (w.heap.size) (by first | omega | (simp; done) | (simp; omega)); have bx0 := bkB hbx (w.heap.size) (by first | omega | (simp; done) | (simp; omega)); obtain ⟨cx1, fx1, zx1⟩ := bk hbx (Y.heap.size) (by first | omega | (simp; done) | (simp; omega)); have bx1 := bkB hbx (Y.heap.size) (by first | omega | (simp; done) | (simp; omega)); go_simp; (try go_bits); (try with_reducible rfl))); try simp only [Act.put, List.setIfInBounds_toArray, List.set_cons_zero, List.set_cons_succ])
        (refine wpG_make rfl (fun K hK => ?_); go_simp; (go_at_call 54; (with_reducible refine (sub2_any _ _ (by omega) (by omega) _).mono ?_); rintro e w1 ⟨rfl, rfl⟩); (try simp only []); refine hK _ _ ?_ (fun hS2 => ?_); (focus ((repeat' (first | (with_reducible exact Below.refl _ _) | (with_reducible assumption) | (with_reducible refine below_from_drew ?_) | (with_reducible refine Below.alloc ?_ ?_ _) | (with_reducible refine Below.drew ?_) | (with_reducible refine below_drewN ?_ _) | (with_reducible refine Below.setCell ?_ ?_ _) | (with_reducible refine below_via ?_ (by assumption) ?_) | (with_reducible refine below_ov ?_ ?_ _ _) | go_size)); done)); clear hK K hS; have hS := hS2; clear hS2; (try clear hb); try simp only [Act.put, List.setIfInBounds_toArray, List.set_cons_zero, List.set_cons_succ])
        (refine wpG_read (v := ?_) rfl (.inl ⟨by rfl, fun wx hbx => ?_⟩) ?_; rotate_left; (focus (obtain ⟨cx0, fx0, zx0⟩ := bk hbx (w.heap.size) (by first | omega | (simp; done) | (simp; omega)); have bx0 := bkB hbx (w.heap.size) (by first | omega | (simp; done) | (simp; omega)); obtain ⟨cx1, fx1, zx1⟩ := bk hbx (Y.heap.size) (by first | omega | (simp; done) | (simp; omega)); have bx1 := bkB hbx (Y.heap.size) (by first | omega | (simp; done) | (simp; omega)); go_simp; (try go_bits); (try with_reducible rfl))); try simp only [Act.put, List.setIfInBounds_toArray, List.set_cons_zero, List.set_cons_succ])
        (refine wpG_make rfl (fun K hK => ?_); go_simp; (go_at_call 54; (with_reducible refine (sub2_any _ _ (by omega) (by omega) _).mono ?_); rintro e w1 ⟨rfl, rfl⟩); (try simp only []); refine hK _ _ ?_ (fun hS2 => ?_); (focus ((repeat' (first | (with_reducible exact Below.refl _ _) | (with_reducible assumption) | (with_reducible refine below_from_drew ?_) | (with_reducible refine Below.alloc ?_ ?_ _) | (with_reducible refine Below.drew ?_) | (with_reducible refine below_drewN ?_ _) | (with_reducible refine Below.setCell ?_ ?_ _) | (with_reducible refine below_via ?_ (by assumption) ?_) | (with_reducible refine below_ov ?_ ?_ _ _) | go_size)); done)); clear hK K hS; have hS := hS2; clear hS2; (try clear hb); try simp only [Act.put, List.setIfInBounds_toArray, List.set_cons_zero, List.set_cons_succ])
        (refine wpG_late rfl (fun K hK => ?_); go_simp; (try simp only []); (try simp only []); refine hK _ _ ?_; clear hK K; try simp only [Act.put, List.setIfInBounds_toArray, List.set_cons_zero, List.set_cons_succ])
        (refine wpG_late rfl (fun K hK => ?_); go_simp; (try simp only []); (try simp only []); refine hK _ _ ?_; clear hK K; try simp only [Act.put, List.setIfInBounds_toArray, List.set_cons_zero, List.set_cons_succ])
        (refine wpG_late rfl (fun K hK => ?_); go_simp; (try simp only []); (try simp only []); refine hK _ _ ?_; clear hK K; try simp only [Act.put, List.setIfInBounds_toArray, List.set_cons_zero, List.set_cons_succ])
        refine wpG_nil ?_
        go_upto_region 8 with fail
        refine region_rel [(0, some 65, []), (1, some 66, []), (2, some 67, []), (3, some 68, [(2, some 67)]), (4, some 69, []), (5, some 70, [(4, some 69)]), (6, some 71, [(4, some 69), (5, some 70)]), (7, some 72, [(2, some 67), (3, some 68), (4, some 69), (5, some 70), (6, some 71)]), (8, some 73, [(2, some 67), (3, some 68), (4, some 69), (5, some 70), (6, some 71), (7, some 72)]), (9, some 74, []), (10, some 75, [(9, some 74)]), (11, some 76, []), (12, some 77, [(11, some 76)]), (13, some 78, [(11, some 76), (12, some 77)]), (14, some 79, [(9, some 74), (10, some 75), (11, some 76), (12, some 77), (13, some 78)]), (15, some 80, [(2, some 67), (3, some 68), (4, some 69), (5, some 70), (6, some 71), (7, some 72), (8, some 73), (9, some 74), (10, some 75), (11, some 76), (12, some 77), (13, some 78), (14, some 79)]), (16, some 81, [(0, some 65), (1, some 66), (2, some 67), (3, some 68), (4, some 69), (5, some 70), (6, some 71), (7, some 72), (8, some 73), (9, some 74), (10, some 75), (11, some 76), (12, some 77), (13, some 78), (14, some 79), (15, some 80)])] [17] (by kernel_rfl) (by kernel_rfl) (fun _ _ d _ _ h => by cases d <;> exact h) (relR [relEq ?r0_2, relEq ?r1_2, relEq ?r2_2, relEq ?r3_2, relEq ?r4_2, relEq ?r5_2, relEq ?r6_2, relSl 2 ?cs7_2 ?ct7_2, relEq ?r8_2, relEq ?r9_2, relEq ?r10_2, relEq ?r11_2, relEq ?r12_2, relEq ?r13_2, relSl 2 ?cs14_2 ?ct14_2, relEq ?r15_2, relEq ?r16_2]) (fun i => i == 7 || i == 14) (relS ⟨relEq_s _, relEq_s _, relEq_s _, relEq_s _, relEq_s _, relEq_s _, relEq_s _, relSl_s _ _ _, relEq_s _, relEq_s _, relEq_s _, relEq_s _, relEq_s _, relEq_s _, relSl_s _ _ _, relEq_s _, relEq_s _, trivial⟩) ⟨fun β wq hbq hd K hK => ?_, fun β wq hbq hd K hK => ?_, fun β wq hbq hd K hK => ?_, fun β wq hbq hd K hK => ?_, fun β wq hbq hd K hK => ?_, fun β wq hbq hd K hK => ?_, fun β wq hbq hd K hK => ?_, fun β wq hbq hd K hK => ?_, fun β wq hbq hd K hK => ?_, fun β wq hbq hd K hK => ?_, fun β wq hbq hd K hK => ?_, fun β wq hbq hd K hK => ?_, fun β wq hbq hd K hK => ?_, fun β wq hbq hd K hK => ?_, fun β wq hbq hd K hK => ?_, fun β wq hbq hd K hK => ?_, fun β wq hbq hd K hK => ?_, trivial⟩ (fun β wq hI hd => ?_)
        rotate_left 19
        focus (obtain ⟨cx0, fx0, zx0⟩ := bk hbq (w.heap.size) (by first | omega | (simp; done) | (simp; omega)); obtain ⟨cx1, fx1, zx1⟩ := bk hbq (w.heap.size + 1) (by first | omega | (simp; done) | (simp; omega)); obtain ⟨cx2, fx2, zx2⟩ := bk hbq (Y.heap.size) (by first | omega | (simp; done) | (simp; omega)); simp only [putD, List.foldl_cons, List.foldl_nil, Act.put, List.setIfInBounds_toArray, List.set_cons_zero, List.set_cons_succ] at hK ⊢; refine wpOp_go rfl ?_; go_simp; (try go_bits); refine hK _ _ (Below.refl _ _) (relEq_e (w := wq) ?_) (fun h => absurd h (by decide)); (with_reducible rfl))
        focus (obtain ⟨cx0, fx0, zx0⟩ := bk hbq (w.heap.size) (by first | omega | (simp; done) | (simp; omega)); obtain ⟨cx1, fx1, zx1⟩ := bk hbq (w.heap.size + 1) (by first | omega | (simp; done) | (simp; omega)); obtain ⟨cx2, fx2, zx2⟩ := bk hbq (Y.heap.size) (by first | omega | (simp; done) | (simp; omega)); simp only [putD, List.foldl_cons, List.foldl_nil, Act.put, List.setIfInBounds_toArray, List.set_cons_zero, List.set_cons_succ] at hK ⊢; refine wpOp_go rfl ?_; go_simp; (try go_bits); refine hK _ _ (Below.refl _ _) (relEq_e (w := wq) ?_) (fun h => absurd h (by decide)); (with_reducible rfl))
        focus (obtain ⟨cx0, fx0, zx0⟩ := bk hbq (w.heap.size) (by first | omega | (simp; done) | (simp; omega)); obtain ⟨cx1, fx1, zx1⟩ := bk hbq (w.heap.size + 1) (by first | omega | (simp; done) | (simp; omega)); obtain ⟨cx2, fx2, zx2⟩ := bk hbq (Y.heap.size) (by first | omega | (simp; done) | (simp; omega)); simp only [putD, List.foldl_cons, List.foldl_nil, Act.put, List.setIfInBounds_toArray, List.set_cons_zero, List.set_cons_succ] at hK ⊢; refine wpOp_go rfl ?_; go_simp; (try go_bits); refine hK _ _ (Below.refl _ _) (relEq_e (w := wq) ?_) (fun h => absurd h (by decide)); (with_reducible rfl))
        focus (obtain ⟨cx0, fx0, zx0⟩ := bk hbq (w.heap.size) (by first | omega | (simp; done) | (simp; omega)); obtain ⟨cx1, fx1, zx1⟩ := bk hbq (w.heap.size + 1) (by first | omega | (simp; done) | (simp; omega)); obtain ⟨cx2, fx2, zx2⟩ := bk hbq (Y.heap.size) (by first | omega | (simp; done) | (simp; omega)); simp only [putD, List.foldl_cons, List.foldl_nil, Act.put, List.setIfInBounds_toArray, List.set_cons_zero, List.set_cons_succ] at hK ⊢; have hd : (relEq ?r2_2 (β 2) wq) ∧ True := hd; generalize β 2 = v2 at *; obtain ⟨rfl, -⟩ := hd; refine wpOp_go rfl ?_; go_simp; (try go_bits); refine hK _ _ (Below.refl _ _) (relEq_e (w := wq) ?_) (fun h => absurd h (by decide)); (with_reducible rfl))
        focus (obtain ⟨cx0, fx0, zx0⟩ := bk hbq (w.heap.size) (by first | omega | (simp; done) | (simp; omega)); obtain ⟨cx1, fx1, zx1⟩ := bk hbq (w.heap.size + 1) (by first | omega | (simp; done) | (simp; omega)); obtain ⟨cx2, fx2, zx2⟩ := bk hbq (Y.heap.size) (by first | omega | (simp; done) | (simp; omega)); simp only [putD, List.foldl_cons, List.foldl_nil, Act.put, List.setIfInBounds_toArray, List.set_cons_zero, List.set_cons_succ] at hK ⊢; refine wpOp_go rfl ?_; go_simp; (try go_bits); refine hK _ _ (Below.refl _ _) (relEq_e (w := wq) ?_) (fun h => absurd h (by decide)); (with_reducible rfl))
        focus (obtain ⟨cx0, fx0, zx0⟩ := bk hbq (w.heap.size) (by first | omega | (simp; done) | (simp; omega)); obtain ⟨cx1, fx1, zx1⟩ := bk hbq (w.heap.size + 1) (by first | omega | (simp; done) | (simp; omega)); obtain ⟨cx2, fx2, zx2⟩ := bk hbq (Y.heap.size) (by first | omega | (simp; done) | (simp; omega)); simp only [putD, List.foldl_cons, List.foldl_nil, Act.put, List.setIfInBounds_toArray, List.set_cons_zero, List.set_cons_succ] at hK ⊢; have hd : (relEq ?r4_2 (β 4) wq) ∧ True := hd; generalize β 4 = v4 at *; obtain ⟨rfl, -⟩ := hd; refine wpOp_go rfl ?_; go_simp; (try go_bits); refine hK _ _ (Below.refl _ _) (relEq_e (w := wq) ?_) (fun h => absurd h (by decide)); (with_reducible rfl))
        focus (obtain ⟨cx0, fx0, zx0⟩ := bk hbq (w.heap.size) (by first | omega | (simp; done) | (simp; omega)); obtain ⟨cx1, fx1, zx1⟩ := bk hbq (w.heap.size + 1) (by first | omega | (simp; done) | (simp; omega)); obtain ⟨cx2, fx2, zx2⟩ := bk hbq (Y.heap.size) (by first | omega | (simp; done) | (simp; omega)); simp only [putD, List.foldl_cons, List.foldl_nil, Act.put, List.setIfInBounds_toArray, List.set_cons_zero, List.set_cons_succ] at hK ⊢; have hd : (relEq ?r4_2 (β 4) wq) ∧ (relEq ?r5_2 (β 5) wq) ∧ True := hd; generalize β 4 = v4 at *; generalize β 5 = v5 at *; obtain ⟨rfl, rfl, -⟩ := hd; refine wpOp_go rfl ?_; go_simp; (try go_bits); refine hK _ _ (Below.refl _ _) (relEq_e (w := wq) ?_) (fun h => absurd h (by decide)); (with_reducible rfl))
        focus (obtain ⟨cx0, fx0, zx0⟩ := bk hbq (w.heap.size) (by first | omega | (simp; done) | (simp; omega)); obtain ⟨cx1, fx1, zx1⟩ := bk hbq (w.heap.size + 1) (by first | omega | (simp; done) | (simp; omega)); obtain ⟨cx2, fx2, zx2⟩ := bk hbq (Y.heap.size) (by first | omega | (simp; done) | (simp; omega)); simp only [putD, List.foldl_cons, List.foldl_nil, Act.put, List.setIfInBounds_toArray, List.set_cons_zero, List.set_cons_succ] at hK ⊢; have hd : (relEq ?r2_2 (β 2) wq) ∧ (relEq ?r3_2 (β 3) wq) ∧ (relEq ?r4_2 (β 4) wq) ∧ (relEq ?r5_2 (β 5) wq) ∧ (relEq ?r6_2 (β 6) wq) ∧ True := hd; generalize β 2 = v2 at *; generalize β 3 = v3 at *; generalize β 4 = v4 at *; generalize β 5 = v5 at *; generalize β 6 = v6 at *; obtain ⟨rfl, rfl, rfl, rfl, rfl, -⟩ := hd; refine wpOp_go rfl ?_; go_simp; refine hK _ _ ((Below.refl _ _).alloc (Nat.le_refl _) _) (relSl_e (w := wq) ?_ ?_) (fun _ => ⟨_, rfl, Nat.le_refl _, by simp⟩) <;> (with_reducible rfl))
        focus (obtain ⟨cx0, fx0, zx0⟩ := bk hbq (w.heap.size) (by first | omega | (simp; done) | (simp; omega)); obtain ⟨cx1, fx1, zx1⟩ := bk hbq (w.heap.size + 1) (by first | omega | (simp; done) | (simp; omega)); obtain ⟨cx2, fx2, zx2⟩ := bk hbq (Y.heap.size) (by first | omega | (simp; done) | (simp; omega)); simp only [putD, List.foldl_cons, List.foldl_nil, Act.put, List.setIfInBounds_toArray, List.set_cons_zero, List.set_cons_succ] at hK ⊢; have hd : (relEq ?r2_2 (β 2) wq) ∧ (relEq ?r3_2 (β 3) wq) ∧ (relEq ?r4_2 (β 4) wq) ∧ (relEq ?r5_2 (β 5) wq) ∧ (relEq ?r6_2 (β 6) wq) ∧ (relSl 2 ?cs7_2 ?ct7_2 (β 7) wq) ∧ True := hd; generalize β 2 = v2 at *; generalize β 3 = v3 at *; generalize β 4 = v4 at *; generalize β 5 = v5 at *; generalize β 6 = v6 at *; generalize β 7 = v7 at *; obtain ⟨rfl, rfl, rfl, rfl, rfl, ⟨g7, rfl, hs7⟩, -⟩ := hd; refine wpOp_go rfl ?_; go_simp; go_at_call 55; (with_reducible refine (add2_any _ _ _ (by omega) (by omega) _ hs7).mono ?_); rintro e wm ⟨rfl, hbm⟩; refine hK _ _ hbm (relEq_e (w := wm) ?_) (fun h => absurd h (by decide)); (with_reducible rfl))
        focus (obtain ⟨cx0, fx0, zx0⟩ := bk hbq (w.heap.size) (by first | omega | (simp; done) | (simp; omega)); obtain ⟨cx1, fx1, zx1⟩ := bk hbq (w.heap.size + 1) (by first | omega | (simp; done) | (simp; omega)); obtain ⟨cx2, fx2, zx2⟩ := bk hbq (Y.heap.size) (by first | omega | (simp; done) | (simp; omega)); simp only [putD, List.foldl_cons, List.foldl_nil, Act.put, List.setIfInBounds_toArray, List.set_cons_zero, List.set_cons_succ] at hK ⊢; refine wpOp_go rfl ?_; go_simp; (try go_bits); refine hK _ _ (Below.refl _ _) (relEq_e (w := wq) ?_) (fun h => absurd h (by decide)); (with_reducible rfl))
        focus (obtain ⟨cx0, fx0, zx0⟩ := bk hbq (w.heap.size) (by first | omega | (simp; done) | (simp; omega)); obtain ⟨cx1, fx1, zx1⟩ := bk hbq (w.heap.size + 1) (by first | omega | (simp; done) | (simp; omega)); obtain ⟨cx2, fx2, zx2⟩ := bk hbq (Y.heap.size) (by first | omega | (simp; done) | (simp; omega)); simp only [putD, List.foldl_cons, List.foldl_nil, Act.put, List.setIfInBounds_toArray, List.set_cons_zero, List.set_cons_succ] at hK ⊢; have hd : (relEq ?r9_2 (β 9) wq) ∧ True := hd; generalize β 9 = v9 at *; obtain ⟨rfl, -⟩ := hd; refine wpOp_go rfl ?_; go_simp; (try go_bits); refine hK _ _ (Below.refl _ _) (relEq_e (w := wq) ?_) (fun h => absurd h (by decide)); (with_reducible rfl))
        focus (obtain ⟨cx0, fx0, zx0⟩ := bk hbq (w.heap.size) (by first | omega | (simp; done) | (simp; omega)); obtain ⟨cx1, fx1, zx1⟩ := bk hbq (w.heap.size + 1) (by first | omega | (simp; done) | (simp; omega)); obtain ⟨cx2, fx2, zx2⟩ := bk hbq (Y.heap.size) (by first | omega | (simp; done) | (simp; omega)); simp only [putD, List.foldl_cons, List.foldl_nil, Act.put, List.setIfInBounds_toArray, List.set_cons_zero, List.set_cons_succ] at hK ⊢; refine wpOp_go rfl ?_; go_simp; (try go_bits); refine hK _ _ (Below.refl _ _) (relEq_e (w := wq) ?_) (fun h => absurd h (by decide)); (with_reducible rfl))
        focus (obtain ⟨cx0, fx0, zx0⟩ := bk hbq (w.heap.size) (by first | omega | (simp; done) | (simp; omega)); obtain ⟨cx1, fx1, zx1⟩ := bk hbq (w.heap.size + 1) (by first | omega | (simp; done) | (simp; omega)); obtain ⟨cx2, fx2, zx2⟩ := bk hbq (Y.heap.size) (by first | omega | (simp; done) | (simp; omega)); simp only [putD, List.foldl_cons, List.foldl_nil, Act.put, List.setIfInBounds_toArray, List.set_cons_zero, List.set_cons_succ] at hK ⊢; have hd : (relEq ?r11_2 (β 11) wq) ∧ True := hd; generalize β 11 = v11 at *; obtain ⟨rfl, -⟩ := hd; refine wpOp_go rfl ?_; go_simp; (try go_bits); refine hK _ _ (Below.refl _ _) (relEq_e (w := wq) ?_) (fun h => absurd h (by decide)); (with_reducible rfl))
        focus (obtain ⟨cx0, fx0, zx0⟩ := bk hbq (w.heap.size) (by first | omega | (simp; done) | (simp; omega)); obtain ⟨cx1, fx1, zx1⟩ := bk hbq (w.heap.size + 1) (by first | omega | (simp; done) | (simp; omega)); obtain ⟨cx2, fx2, zx2⟩ := bk hbq (Y.heap.size) (by first | omega | (simp; done) | (simp; omega)); simp only [putD, List.foldl_cons, List.foldl_nil, Act.put, List.setIfInBounds_toArray, List.set_cons_zero, List.set_cons_succ] at hK ⊢; have hd : (relEq ?r11_2 (β 11) wq) ∧ (relEq ?r12_2 (β 12) wq) ∧ True := hd; generalize β 11 = v11 at *; generalize β 12 = v12 at *; obtain ⟨rfl, rfl, -⟩ := hd; refine wpOp_go rfl ?_; go_simp; (try go_bits); refine hK _ _ (Below.refl _ _) (relEq_e (w := wq) ?_) (fun h => absurd h (by decide)); (with_reducible rfl))
        focus (obtain ⟨cx0, fx0, zx0⟩ := bk hbq (w.heap.size) (by first | omega | (simp; done) | (simp; omega)); obtain ⟨cx1, fx1, zx1⟩ := bk hbq (w.heap.size + 1) (by first | omega | (simp; done) | (simp; omega)); obtain ⟨cx2, fx2, zx2⟩ := bk hbq (Y.heap.size) (by first | omega | (simp; done) | (simp; omega)); simp only [putD, List.foldl_cons, List.foldl_nil, Act.put, List.setIfInBounds_toArray, List.set_cons_zero, List.set_cons_succ] at hK ⊢; have hd : (relEq ?r9_2 (β 9) wq) ∧ (relEq ?r10_2 (β 10) wq) ∧ (relEq ?r11_2 (β 11) wq) ∧ (relEq ?r12_2 (β 12) wq) ∧ (relEq ?r13_2 (β 13) wq) ∧ True := hd; generalize β 9 = v9 at *; generalize β 10 = v10 at *; generalize β 11 = v11 at *; generalize β 12 = v12 at *; generalize β 13 = v13 at *; obtain ⟨rfl, rfl, rfl, rfl, rfl, -⟩ := hd; refine wpOp_go rfl ?_; go_simp; refine hK _ _ ((Below.refl _ _).alloc (Nat.le_refl _) _) (relSl_e (w := wq) ?_ ?_) (fun _ => ⟨_, rfl, Nat.le_refl _, by simp⟩) <;> (with_reducible rfl))
        focus (obtain ⟨cx0, fx0, zx0⟩ := bk hbq (w.heap.size) (by first | omega | (simp; done) | (simp; omega)); obtain ⟨cx1, fx1, zx1⟩ := bk hbq (w.heap.size + 1) (by first | omega | (simp; done) | (simp; omega)); obtain ⟨cx2, fx2, zx2⟩ := bk hbq (Y.heap.size) (by first | omega | (simp; done) | (simp; omega)); simp only [putD, List.foldl_cons, List.foldl_nil, Act.put, List.setIfInBounds_toArray, List.set_cons_zero, List.set_cons_succ] at hK ⊢; have hd : (relEq ?r2_2 (β 2) wq) ∧ (relEq ?r3_2 (β 3) wq) ∧ (relEq ?r4_2 (β 4) wq) ∧ (relEq ?r5_2 (β 5) wq) ∧ (relEq ?r6_2 (β 6) wq) ∧ (relSl 2 ?cs7_2 ?ct7_2 (β 7) wq) ∧ (relEq ?r8_2 (β 8) wq) ∧ (relEq ?r9_2 (β 9) wq) ∧ (relEq ?r10_2 (β 10) wq) ∧ (relEq ?r11_2 (β 11) wq) ∧ (relEq ?r12_2 (β 12) wq) ∧ (relEq ?r13_2 (β 13) wq) ∧ (relSl 2 ?cs14_2 ?ct14_2 (β 14) wq) ∧ True := hd; generalize β 2 = v2 at *; generalize β 3 = v3 at *; generalize β 4 = v4 at *; generalize β 5 = v5 at *; generalize β 6 = v6 at *; generalize β 7 = v7 at *; generalize β 8 = v8 at *; generalize β 9 = v9 at *; generalize β 10 = v10 at *; generalize β 11 = v11 at *; generalize β 12 = v12 at *; generalize β 13 = v13 at *; generalize β 14 = v14 at *; obtain ⟨rfl, rfl, rfl, rfl, rfl, ⟨g7, rfl, hs7⟩, rfl, rfl, rfl, rfl, rfl, rfl, ⟨g14, rfl, hs14⟩, -⟩ := hd; refine wpOp_go rfl ?_; go_simp; go_at_call 55; (with_reducible refine (add2_any _ _ _ (by omega) (by omega) _ hs14).mono ?_); rintro e wm ⟨rfl, hbm⟩; refine hK _ _ hbm (relEq_e (w := wm) ?_) (fun h => absurd h (by decide)); (with_reducible rfl))
        focus (obtain ⟨cx0, fx0, zx0⟩ := bk hbq (w.heap.size) (by first | omega | (simp; done) | (simp; omega)); obtain ⟨cx1, fx1, zx1⟩ := bk hbq (w.heap.size + 1) (by first | omega | (simp; done) | (simp; omega)); obtain ⟨cx2, fx2, zx2⟩ := bk hbq (Y.heap.size) (by first | omega | (simp; done) | (simp; omega)); simp only [putD, List.foldl_cons, List.foldl_nil, Act.put, List.setIfInBounds_toArray, List.set_cons_zero, List.set_cons_succ] at hK ⊢; have hd : (relEq ?r0_2 (β 0) wq) ∧ (relEq ?r1_2 (β 1) wq) ∧ (relEq ?r2_2 (β 2) wq) ∧ (relEq ?r3_2 (β 3) wq) ∧ (relEq ?r4_2 (β 4) wq) ∧ (relEq ?r5_2 (β 5) wq) ∧ (relEq ?r6_2 (β 6) wq) ∧ (relSl 2 ?cs7_2 ?ct7_2 (β 7) wq) ∧ (relEq ?r8_2 (β 8) wq) ∧ (relEq ?r9_2 (β 9) wq) ∧ (relEq ?r10_2 (β 10) wq) ∧ (relEq ?r11_2 (β 11) wq) ∧ (relEq ?r12_2 (β 12) wq) ∧ (relEq ?r13_2 (β 13) wq) ∧ (relSl 2 ?cs14_2 ?ct14_2 (β 14) wq) ∧ (relEq ?r15_2 (β 15) wq) ∧ True := hd; generalize β 0 = v0 at *; generalize β 1 = v1 at *; generalize β 2 = v2 at *; generalize β 3 = v3 at *; generalize β 4 = v4 at *; generalize β 5 = v5 at *; generalize β 6 = v6 at *; generalize β 7 = v7 at *; generalize β 8 = v8 at *; generalize β 9 = v9 at *; generalize β 10 = v10 at *; generalize β 11 = v11 at *; generalize β 12 = v12 at *; generalize β 13 = v13 at *; generalize β 14 = v14 at *; generalize β 15 = v15 at *; obtain ⟨rfl, rfl, rfl, rfl, rfl, rfl, rfl, ⟨g7, rfl, hs7⟩, rfl, rfl, rfl, rfl, rfl, rfl, ⟨g14, rfl, hs14⟩, rfl, -⟩ := hd; refine wpOp_go rfl ?_; go_simp; go_at_call 67; (with_reducible refine (layer_any _ _ _ _ _ _ _ _ _ _ (by omega) (by omega) _).mono ?_); rintro e wm ⟨rfl, hbm⟩; refine hK _ _ hbm (relEq_e (w := wm) ?_) (fun h => absurd h (by decide)); (with_reducible rfl))
        have hbq := hI.below; obtain ⟨cx0, fx0, zx0⟩ := bk hbq (w.heap.size) (by first | omega | (simp; done) | (simp; omega)); obtain ⟨cx1, fx1, zx1⟩ := bk hbq (w.heap.size + 1) (by first | omega | (simp; done) | (simp; omega)); obtain ⟨cx2, fx2, zx2⟩ := bk hbq (Y.heap.size) (by first | omega | (simp; done) | (simp; omega)); simp only [List.map_cons, List.map_nil, putD, List.foldl_cons, List.foldl_nil, Act.put, List.setIfInBounds_toArray, List.set_cons_zero, List.set_cons_succ]; clear hI; have hd : (relEq ?r0_2 (β 0) wq) ∧ (relEq ?r1_2 (β 1) wq) ∧ (relEq ?r2_2 (β 2) wq) ∧ (relEq ?r3_2 (β 3) wq) ∧ (relEq ?r4_2 (β 4) wq) ∧ (relEq ?r5_2 (β 5) wq) ∧ (relEq ?r6_2 (β 6) wq) ∧ (relSl 2 ?cs7_2 ?ct7_2 (β 7) wq) ∧ (relEq ?r8_2 (β 8) wq) ∧ (relEq ?r9_2 (β 9) wq) ∧ (relEq ?r10_2 (β 10) wq) ∧ (relEq ?r11_2 (β 11) wq) ∧ (relEq ?r12_2 (β 12) wq) ∧ (relEq ?r13_2 (β 13) wq) ∧ (relSl 2 ?cs14_2 ?ct14_2 (β 14) wq) ∧ (relEq ?r15_2 (β 15) wq) ∧ (relEq ?r16_2 (β 16) wq) ∧ True := hd; generalize β 0 = v0 at *; generalize β 1 = v1 at *; generalize β 2 = v2 at *; generalize β 3 = v3 at *; generalize β 4 = v4 at *; generalize β 5 = v5 at *; generalize β 6 = v6 at *; generalize β 7 = v7 at *; generalize β 8 = v8 at *; generalize β 9 = v9 at *; generalize β 10 = v10 at *; generalize β 11 = v11 at *; generalize β 12 = v12 at *; generalize β 13 = v13 at *; generalize β 14 = v14 at *; generalize β 15 = v15 at *; generalize β 16 = v16 at *; obtain ⟨rfl, rfl, rfl, rfl, rfl, rfl, rfl, ⟨g7, rfl, hs7⟩, rfl, rfl, rfl, rfl, rfl, rfl, ⟨g14, rfl, hs14⟩, rfl, rfl, -⟩ := hd; skip
        refine Exists.elim (after3 (w := V) (W := wq) (w1 := wq) (b0 := w.heap.size) (cs0 := ?_) (T0 := ?_) (b1 := w.heap.size + 1) (cs1 := ?_) (T1 := ?_) (b2 := Y.heap.size) (cs2 := ?_) (T2 := ?_) (Below.refl _ _) (below_via ?_ hbq ?_) (has_below hbq ?_) (has_below hbq ?_) (has_below hbq ?_)) ?_
        rotate_left 6; (focus ((repeat' (first | (with_reducible exact Below.refl _ _) | (with_reducible assumption) | (with_reducible refine below_from_drew ?_) | (with_reducible refine Below.alloc ?_ ?_ _) | (with_reducible refine Below.drew ?_) | (with_reducible refine below_drewN ?_ _) | (with_reducible refine Below.setCell ?_ ?_ _) | (with_reducible refine below_via ?_ (by assumption) ?_) | (with_reducible refine below_ov ?_ ?_ _ _) | go_size)); done)); (focus (go_size)); (focus ((repeat' (first | (with_reducible refine has_drew ?_) | (with_reducible refine has_drewN ?_) | (with_reducible refine has_new ?_; (first | (with_reducible rfl) | omega | (simp; done) | (simp; omega))) | (with_reducible refine has_ov_same ?_; (first | (with_reducible rfl) | omega | (simp; done) | (simp; omega))) | (with_reducible refine has_alloc ?_) | (with_reducible refine has_ov_other ?_ ?_; (focus (first | (with_reducible rfl) | omega | (simp; done) | (simp; omega)))) | (with_reducible assumption) | (with_reducible exact has_below hB (by assumption)))); done)); (focus ((repeat' (first | (with_reducible refine has_drew ?_) | (with_reducible refine has_drewN ?_) | (with_reducible refine has_new ?_; (first | (with_reducible rfl) | omega | (simp; done) | (simp; omega))) | (with_reducible refine has_ov_same ?_; (first | (with_reducible rfl) | omega | (simp; done) | (simp; omega))) | (with_reducible refine has_alloc ?_) | (with_reducible refine has_ov_other ?_ ?_; (focus (first | (with_reducible rfl) | omega | (simp; done) | (simp; omega)))) | (with_reducible assumption) | (with_reducible exact has_below hB (by assumption)))); done)); (focus ((repeat' (first | (with_reducible refine has_drew ?_) | (with_reducible refine has_drewN ?_) | (with_reducible refine has_new ?_; (first | (with_reducible rfl) | omega | (simp; done) | (simp; omega))) | (with_reducible refine has_ov_same ?_; (first | (with_reducible rfl) | omega | (simp; done) | (simp; omega))) | (with_reducible refine has_alloc ?_) | (with_reducible refine has_ov_other ?_ ?_; (focus (first | (with_reducible rfl) | omega | (simp; done) | (simp; omega)))) | (with_reducible assumption) | (with_reducible exact has_below hB (by assumption)))); done)); rintro u2 ⟨hwu, hB, hz, z0, o0, z1, o1, z2, o2⟩
        clear hbq hd cx0 fx0 zx0 cx1 fx1 zx1 cx2 fx2 zx2; subst hwu; (try simp only [World.size_alloc, World.size_setCell, World.size_drew, ov_size] at hz)
        (refine wpL_late rfl (fun K hK => ?_); go_simp; refine hK _ _ ?_; clear hK K; try simp only [Act.put, List.setIfInBounds_toArray, List.set_cons_zero, List.set_cons_succ])
        refine wpL_nil ?_
        go_upto_region 9 with fail
        refine name_w (f := Code.wp _ _ _ _) (fun Z hZ => ?_)
        clear g1 g2
        have hZ5 : Has Z w.heap.size #[.int .i64 dX, .int .i64 dY, .int .i64 dL, .int .i64 d0, .int .i64 d1, .int .i64 e0, .int .i64 e1] 89 := by
          obtain ⟨q1, q2, q3, q4, q5, q6, q7⟩ := HDV.out
          rw [q1, q2, q3, q4, q5, q6, q7, hZ]; (repeat' (first | (with_reducible refine has_drew ?_) | (with_reducible refine has_drewN ?_) | (with_reducible refine has_new ?_; (first | (with_reducible rfl) | omega | (simp; done) | (simp; omega))) | (with_reducible refine has_ov_same ?_; (first | (with_reducible rfl) | omega | (simp; done) | (simp; omega))) | (with_reducible refine has_alloc ?_) | (with_reducible refine has_ov_other ?_ ?_; (focus (first | (with_reducible rfl) | omega | (simp; done) | (simp; omega)))) | (with_reducible assumption) | (with_reducible exact has_below hB (by assumption))))
        have hWZ : W24 Z l N wk pt bm bx sc bo base R (fun k => if k = n then some (plV (place24 l n)) else g k) := by
          refine HWV.out.below ?_
          rw [hZ]; (repeat' (first | (with_reducible exact Below.refl _ _) | (with_reducible assumption) | (with_reducible refine below_from_drew ?_) | (with_reducible refine Below.alloc ?_ ?_ _) | (with_reducible refine Below.drew ?_) | (with_reducible refine below_drewN ?_ _) | (with_reducible refine Below.setCell ?_ ?_ _) | (with_reducible refine below_via ?_ (by assumption) ?_) | (with_reducible refine below_ov ?_ ?_ _ _) | go_size))
        have hbZ : ButS (fun b => b = bo) w.heap.size w Z := by
          refine HBV.out.trans (ButS.of ?_)
          rw [hZ, ← hVs]; (repeat' (first | (with_reducible exact Below.refl _ _) | (with_reducible assumption) | (with_reducible refine below_from_drew ?_) | (with_reducible refine Below.alloc ?_ ?_ _) | (with_reducible refine Below.drew ?_) | (with_reducible refine below_drewN ?_ _) | (with_reducible refine Below.setCell ?_ ?_ _) | (with_reducible refine below_via ?_ (by assumption) ?_) | (with_reducible refine below_ov ?_ ?_ _ _) | go_size))
        clear HDV
        have HWZ := Lib.hid hWZ; have HBZ := Lib.hid hbZ; have HZ5 := Lib.hid hZ5
        clear hWZ hbZ hZ5 hZ HWY HBY HY5 HY6 c5 c6 z5 z6 o5 o6 cY lY oY oks ols
        have cZ := HWZ.out.hw.cells; have lZ := HWZ.out.hw.lt; have oZ : Old Z wk := lZ
        have hm : (n : Int) ∈ nums R := (HWZ.out.told.mem _).2 ⟨by omega, by omega⟩
        obtain ⟨⟨nn, dd⟩, hx, e1⟩ := List.mem_map.1 hm
        obtain ⟨A, C, hR⟩ := List.append_of_mem hx
        simp only at e1
        subst e1
        have hk := HWZ.out.told.kids A C _ dd hR
        have hRl := HWZ.out.told.len
        have hKl : (kidsZ (pa24 l) N n).length ≤ N := kidsZ_len _ _ _
        have HT := Lib.hid (fun v (hv : Below Z.heap.size Z v) => tkids_any pt bm base R A C N n dd v (HWZ.out.tree.below hv) hR (by omega) (by rw [hk]; omega))
        rw [hk] at HT
        obtain ⟨K, hK⟩ : ∃ K, kidsZ (pa24 l) N n = K := ⟨_, rfl⟩
        rw [hK] at HT hKl
        have HKK := Lib.hid hK
        clear hm hx hR hk hRl hK
        go_wp2_with ((go_at_call 68; (with_reducible refine (HT.out _ (by (repeat' (first | (with_reducible exact Below.refl _ _) | (with_reducible assumption) | (with_reducible refine below_from_drew ?_) | (with_reducible refine Below.alloc ?_ ?_ _) | (with_reducible refine Below.drew ?_) | (with_reducible refine below_drewN ?_ _) | (with_reducible refine Below.setCell ?_ ?_ _) | (with_reducible refine below_via ?_ (by assumption) ?_) | (with_reducible refine below_ov ?_ ?_ _ _) | go_size)))).mono ?_); rintro e v ⟨ka, kc, rfl, hI, hb⟩; have hz := hb.size; refine (fun hB => ?_ : Below Z.heap.size Z v → _) ?_; rotate_left; (focus ((repeat' (first | (with_reducible exact Below.refl _ _) | (with_reducible assumption) | (with_reducible refine below_from_drew ?_) | (with_reducible refine Below.alloc ?_ ?_ _) | (with_reducible refine Below.drew ?_) | (with_reducible refine below_drewN ?_ _) | (with_reducible refine Below.setCell ?_ ?_ _) | (with_reducible refine below_via ?_ (by assumption) ?_) | (with_reducible refine below_ov ?_ ?_ _ _) | go_size)); done)); (try simp only [World.size_alloc, World.size_setCell, World.size_drew, ov_size] at hz)))
        have HWV := Lib.hid (HWZ.out.below hB)
        have HZ6 := Lib.hid (has_below hB HZ5.out)
        have HBV := Lib.hid (HBZ.out.trans ((ButS.of hB).less HBZ.out.size))
        go_loopw [89] (fun x wr => ∃ j : Nat, x = .int .i64 j ∧ j ≤ K.length ∧ IntsAt wr ka K ∧ Has wr w.heap.size #[.int .i64 dX, .int .i64 dY, .int .i64 dL, .int .i64 d0, .int .i64 d1, .int .i64 e0, .int .i64 e1] 89 ∧ W24 wr l N wk pt bm bx sc bo base R (walkK l N n K j g) ∧ ButS (fun b => b = bo) w.heap.size w wr) (fun x _ => K.length - (intOf x).toNat)
        case atStart => exact ⟨0, rfl, Nat.zero_le _, hI, HZ6.out, HWV.out.eqg (fun k => walkK_zero l N n hn hth K g k), HBV.out⟩
        case round =>
          obtain ⟨j, rfl, hj, hIr, h5, hWr, hbr⟩ := hrel
          have HIR := Lib.hid hIr; have H5 := Lib.hid h5; have HWR := Lib.hid hWr; have HBR := Lib.hid hbr
          clear hIr h5 hWr hbr hI
          by_cases c : j < K.length
          · have ci : (j : Int) < (K.length : Int) := by omega
            have cj : (0 : Int) ≤ j := by omega
            obtain ⟨ab, ao, rfl, la, cK⟩ := HIR.out (by omega)
            have ca := cK j c
            clear cK
            obtain ⟨kc', hk0, hkN, hkp, hkj⟩ := kidsZ_mem.1 (show K.getD j 0 ∈ kidsZ (pa24 l) N n by rw [HKK.out, List.getD_eq_getElem?_getD, List.getElem?_eq_getElem c]; exact List.getElem_mem c)
            rw [hkj] at ca
            have c5 := H5.out.cells; have z5 := H5.out.lt; have o5 : Old wr w.heap.size := z5; have oa : Old wr ab := la
            have IHC : Calls Try.prog 47 #[.pointer (some ⟨wk, 0, none⟩), .int .i64 kc', .agg #[.int .i64 dX, .int .i64 dY, .int .i64 dL, .int .i64 d0, .int .i64 d1, .int .i64 e0, .int .i64 e1]] wr fun e w' => e = .returned (.tuple #[]) ∧ ButS (fun b => b = bo) wr.heap.size wr w' ∧ W24 w' l N wk pt bm bx sc bo base R (walkG l N kc' (walkK l N n K j g)) := by
              have hpk : pa24 l kc' = n := by omega
              have hpl := pa24_lt l hk0
              have := IH.out kc' (walkK l N n K j g) wr (by omega) hkN (.inr (by rw [hpk]; exact hth)) HWR.out
              rw [fromP_kid l hk0 hpk, HDD.out] at this
              exact this
            have HIC := Lib.hid IHC
            have HLK := Lib.hid (And.intro hkj (And.intro hkp hk0))
            clear IHC hk0 hkN hkp hkj
            have hab : ab ≠ bo := cell_notMap HWR.out.oko ca
            go_wp2_with ((go_at_call 47); (with_reducible refine HIC.out.mono ?_); rintro e w2 ⟨rfl, hbw, hWw⟩)
            refine ⟨⟨j + 1, by push_cast; rfl, by omega, HIR.out.to hbw.size (fun b off e hb => hbw.block b hb (by cases e; exact hab)), hbw.has H5.out H5.out.lt (fun e => by have : w.heap.size = bo := e; omega), hWw.eqg (fun k => walkK_next l N n kc' K j c HLK.out.1 g k), HBR.out.trans (hbw.less HBR.out.size)⟩, by simp only [intOf]; omega⟩
          · have ci : ¬ (j : Int) < (K.length : Int) := by omega
            obtain rfl : j = K.length := by omega
            go_wp2_with fail
            refine bodyPost_end (results_none rfl _ _ _) rfl ?_
            refine ⟨rfl, HBR.out, HWR.out.eqg (fun k => ?_)⟩
            rw [← HKK.out]
            exact walkK_all l N n hn hth g k
    · have hth : there24 l n = false := by
        rcases Nat.eq_zero_or_pos n with c | c
        · subst c; rw [there24_root, hh]; rfl
        · rw [there24_kid l c, hh]; rfl
      unfold m24a at hlx
      rw [if_neg (by rw [Int.toNat_natCast, hh]; simp)] at hlx
      have g1 := mgetD_none (z := boxZero) hlx
      have g2 := mhas_none hlx
      clear hlx
      show Calls Try.prog 47 #[_, _, .agg #[.int .i64 pX, .int .i64 pY, .int .i64 pL, .int .i64 po0, .int .i64 po1, .int .i64 pr0, .int .i64 pr1]] w _
      have hq : ∀ (X : World) (b : Nat), (blkCells X b).size = 17 → runStore Try.prog 108 (.pointer (some ⟨b, 0, none⟩)) boxZero X = .ok .skip (putBlk X b boxZL.toArray) := fun X b h => bigx_s X b boxZL h rfl rfl
      go_enter Try.func47, Try.ntmps47
      go_upto_region 3 with fail
      have hb : ∀ c1 c2 T1 T2, Below w.heap.size w ((w.alloc (.cells c1 T1)).alloc (.cells c2 T2)) := fun c1 c2 T1 T2 => by (repeat' (first | (with_reducible exact Below.refl _ _) | (with_reducible assumption) | (with_reducible refine below_from_drew ?_) | (with_reducible refine Below.alloc ?_ ?_ _) | (with_reducible refine Below.drew ?_) | (with_reducible refine below_drewN ?_ _) | (with_reducible refine Below.setCell ?_ ?_ _) | (with_reducible refine below_via ?_ (by assumption) ?_) | (with_reducible refine below_ov ?_ ?_ _ _) | go_size))
      refine bodyPost_ret (results_none rfl _ _ _) rfl ?_
      refine ⟨rfl, .of (hb _ _ _ _), (HW.out.below (hb _ _ _ _)).eqg (fun k => ?_)⟩
      unfold walkG
      rw [if_neg]
      rintro ⟨q1, q2, q3, q4⟩
      rw [there24_up n _ q3 q4] at hth
      cases hth
end Go.Proofs.Ytjcbphhemmdnjaa
