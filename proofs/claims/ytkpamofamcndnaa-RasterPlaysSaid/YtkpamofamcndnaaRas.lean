/- Images in memory (package raster). package raster: Size, whole, At by contract. package raster: slices.Clone at []uint8, by contract. -/
import Derived.Test.YtkpamofamcndnaaRegO
import Derived.Test.YtkpamofamcndnaaTree
import Derived.Test.YtkpamofamcndnaaNoise
import Derived.Test.YtkpamofamcndnaaRegSp
namespace Go.Proofs.Ytkpamofamcndnaa
open Go.RowKit Go.Shelf
set_option linter.unusedSimpArgs false
set_option linter.unusedVariables false

/-- Where an image lies: its own block, its size, its rows. -/
structure ImgL where
  p : Nat
  W : Nat
  H : Nat
  ra : Option Addr
  cap : Nat
  rk : Nat → Option Addr
  ck : Nat → Nat
def RowC (w : World) (a : Option Addr) (W : Nat) (g : Nat → Int) : Prop := 0 < W → ∃ b cs, a = some ⟨b, 0, none⟩ ∧ Has w b cs 5 ∧ ∀ j, j < W → cs[j]? = some (.int .u8 (g j))
/-- The blocks that hold its pixels. -/
def ImgL.S (L : ImgL) (b : Nat) : Prop := 0 < L.W ∧ ∃ i, i < L.H ∧ L.rk i = some ⟨b, 0, none⟩
def ImgL.New (L : ImgL) (n : Nat) : Prop := n ≤ L.p ∧ ∀ b, L.S b → n ≤ b
structure ImgAt (w : World) (L : ImgL) (f : Nat → Nat → Int) : Prop where
  small : L.W ≤ 1024 ∧ L.H ≤ 1024
  img : Has w L.p #[.int .i64 L.W, .int .i64 L.H, .slice L.ra L.H L.cap] 121
  cap : L.H ≤ L.cap ∧ L.cap ≤ 9223372036854775807
  rows : 0 < L.H → ∃ rb cs, L.ra = some ⟨rb, 0, none⟩ ∧ Has w rb cs 122 ∧ ∀ i, i < L.H → cs[i]? = some (.slice (L.rk i) L.W (L.ck i))
  caps : ∀ i, i < L.H → L.W ≤ L.ck i ∧ L.ck i ≤ 9223372036854775807
  row : ∀ i, i < L.H → RowC w (L.rk i) L.W (f i)
  inj : ∀ i j, 0 < L.W → i < L.H → j < L.H → L.rk i = L.rk j → i = j
  rng : ∀ i j, i < L.H → j < L.W → 0 ≤ f i j ∧ f i j ≤ 255
theorem has_type {w : World} {b : Nat} {cs cs' : Array Value} {T T' : TypeId} (h : Has w b cs T) (h' : Has w b cs' T') : T = T' := by
  unfold Has at h h'
  rw [h] at h'
  injection h' with h'
  injection h' with h1 h2 h3
theorem has_fun {w : World} {b : Nat} {cs cs' : Array Value} {T T' : TypeId} (h : Has w b cs T) (h' : Has w b cs' T') : cs = cs' := by
  unfold Has at h h'
  rw [h] at h'
  injection h' with h'
  injection h' with h1 h2 h3
theorem ImgAt.congr {w : World} {L : ImgL} {f g : Nat → Nat → Int} (h : ImgAt w L f) (e : ∀ i j, i < L.H → j < L.W → f i j = g i j) : ImgAt w L g :=
  ⟨h.small, h.img, h.cap, h.rows, h.caps, fun i hi h0 => by
    obtain ⟨b, cs, h1, h2, h3⟩ := h.row i hi h0
    exact ⟨b, cs, h1, h2, fun j hj => by rw [h3 j hj, e i j hi hj]⟩, h.inj, fun i j hi hj => by rw [← e i j hi hj]; exact h.rng i j hi hj⟩
theorem ImgAt.S_has {w : World} {L : ImgL} {f : Nat → Nat → Int} (h : ImgAt w L f) {b : Nat} (hb : L.S b) : ∃ cs, Has w b cs 5 := by
  obtain ⟨h0, i, hi, e⟩ := hb
  obtain ⟨b', cs, e1, h2, _⟩ := h.row i hi h0
  rw [e] at e1
  cases e1
  exact ⟨cs, h2⟩
theorem ImgAt.S_lt {w : World} {L : ImgL} {f : Nat → Nat → Int} (h : ImgAt w L f) {b : Nat} (hb : L.S b) : b < w.heap.size := by
  obtain ⟨cs, h1⟩ := h.S_has hb
  exact h1.lt
/-- No block of another type is a row of pixels. -/
theorem ImgAt.S_not {w : World} {L : ImgL} {f : Nat → Nat → Int} (h : ImgAt w L f) {b : Nat} {cs : Array Value} {T : TypeId} (hb : Has w b cs T) (hT : T ≠ 5) : ¬ L.S b := fun q => by
  obtain ⟨cs', h1⟩ := h.S_has q
  exact hT (has_type hb h1)
/-- An image stands where only other blocks change. -/
theorem ImgAt.other {w w1 : World} {L : ImgL} {f : Nat → Nat → Int} {S : Nat → Prop} (h : ImgAt w L f) (hb : ButS S w.heap.size w w1) (hS : ∀ b cs T, S b → Has w b cs T → T = 5) (hd : ∀ b, S b → ¬ L.S b) : ImgAt w1 L f :=
  ⟨h.small, hb.has h.img h.img.lt (fun q => absurd (hS _ _ _ q h.img) (by decide)), h.cap, fun h0 => by
    obtain ⟨rb, cs, e, h1, h2⟩ := h.rows h0
    exact ⟨rb, cs, e, hb.has h1 h1.lt (fun q => absurd (hS _ _ _ q h1) (by decide)), h2⟩, h.caps, fun i hi h0 => by
    obtain ⟨b, cs, e, h1, h2⟩ := h.row i hi h0
    exact ⟨b, cs, e, hb.has h1 h1.lt (fun q => hd b q ⟨h0, i, hi, e⟩), h2⟩, h.inj, h.rng⟩
theorem ImgAt.below {w w1 : World} {L : ImgL} {f : Nat → Nat → Int} (h : ImgAt w L f) (hb : Below w.heap.size w w1) : ImgAt w1 L f :=
  h.other (ButS.of (S := fun _ => False) hb) (fun _ _ _ q => q.elim) (fun _ q => q.elim)
/-- .. as a change of another image does. -/
theorem ImgAt.apart {w w1 : World} {L M : ImgL} {f g : Nat → Nat → Int} (h : ImgAt w L f) (k : ImgAt w M g) (hb : ButS M.S w.heap.size w w1) (hd : ∀ b, M.S b → ¬ L.S b) : ImgAt w1 L f :=
  h.other hb (fun b cs T q hT => by obtain ⟨cs', h1⟩ := k.S_has q; exact has_type hT h1) hd
/-- What a new image's rows are apart from. -/
theorem ImgL.New.apart {w : World} {L M : ImgL} {f : Nat → Nat → Int} (h : ImgAt w L f) (hn : M.New w.heap.size) : (∀ b, M.S b → ¬ L.S b) ∧ (∀ b, L.S b → ¬ M.S b) :=
  ⟨fun b hb k => by have := h.S_lt k; have := hn.2 b hb; omega, fun b hb k => by have := h.S_lt hb; have := hn.2 b k; omega⟩
/-- A pixel stored. -/
theorem ImgAt.set {w : World} {L : ImgL} {f : Nat → Nat → Int} {i j b : Nat} {c : Int} (h : ImgAt w L f) (hi : i < L.H) (hj : j < L.W) (hb : L.rk i = some ⟨b, 0, none⟩) (hc : 0 ≤ c ∧ c ≤ 255) :
    ImgAt (w.setCell ⟨b, j, none⟩ (.int .u8 c)) L (fun y x => if y = i ∧ x = j then c else f y x) ∧ ButS L.S w.heap.size w (w.setCell ⟨b, j, none⟩ (.int .u8 c)) := by
  have hW : 0 < L.W := by omega
  have hS : L.S b := ⟨hW, i, hi, hb⟩
  have hbut : ButS L.S w.heap.size w (w.setCell ⟨b, j, none⟩ (.int .u8 c)) := (ButS.refl _ _ _).setCell (.inr hS)
  refine ⟨?_, hbut⟩
  obtain ⟨b', cs, e, h1, h2⟩ := h.row i hi hW
  rw [hb] at e
  cases e
  have hw : w.setCell ⟨b, j, none⟩ (.int .u8 c) = ov w b (cs.setIfInBounds j (.int .u8 c)) 5 := by
    have q : ov w b cs 5 = w := ov_self h1
    have q2 : (ov w b cs 5).setCell ⟨b, j, none⟩ (.int .u8 c) = ov w b (cs.setIfInBounds j (.int .u8 c)) 5 := ov_setCell_same
    rw [q] at q2
    exact q2
  have hother : ∀ n cs' T', Has w n cs' T' → n ≠ b → Has (w.setCell ⟨b, j, none⟩ (.int .u8 c)) n cs' T' := fun n cs' T' q hn => by rw [hw]; exact has_ov_other hn q
  refine ⟨h.small, hother _ _ _ h.img (fun e => absurd (has_type (e ▸ h.img) h1) (by decide)), h.cap, fun h0 => ?_, h.caps, fun y hy h0 => ?_, h.inj, fun y x hy hx => ?_⟩
  · obtain ⟨rb, cs', e, k1, k2⟩ := h.rows h0
    exact ⟨rb, cs', e, hother _ _ _ k1 (fun e => absurd (has_type (e ▸ k1) h1) (by decide)), k2⟩
  · by_cases e : y = i
    · subst e
      refine ⟨b, cs.setIfInBounds j (.int .u8 c), hb, by rw [hw]; exact has_ov_same h1.lt, fun x hx => ?_⟩
      rw [Array.getElem?_setIfInBounds]
      by_cases e2 : j = x
      · subst e2
        have hlt : j < cs.size := by
          rcases Nat.lt_or_ge j cs.size with q | q
          · exact q
          · have := h2 j hx; rw [Array.getElem?_eq_none q] at this; cases this
        simp [hlt]
      · rw [if_neg e2, h2 x hx, if_neg (fun q => e2 q.2.symm)]
    · obtain ⟨b2, cs2, e2, k1, k2⟩ := h.row y hy h0
      refine ⟨b2, cs2, e2, hother _ _ _ k1 (fun q => e (h.inj y i hW hy hi (by rw [e2, hb, q]))), fun x hx => ?_⟩
      rw [k2 x hx, if_neg (fun q => e q.1)]
  · split
    · exact hc
    · exact h.rng y x hy hx
/-- A rectangle within an image. -/
def Within (W H : Nat) (q : RectQ) : Prop := 0 ≤ q.1 ∧ q.1 ≤ q.2.2.1 ∧ q.2.2.1 ≤ W ∧ 0 ≤ q.2.1 ∧ q.2.1 ≤ q.2.2.2 ∧ q.2.2.2 ≤ H
/-- The pixel at x, y. -/
def atF (W H : Nat) (f : Nat → Nat → Int) (x y : Int) : Int := if 0 ≤ x ∧ x < W ∧ 0 ≤ y ∧ y < H then f y.toNat x.toNat else 0
/-- Filled. -/
def inR' (q : RectQ) (x y : Int) : Bool := decide (q.1 ≤ x ∧ x < q.2.2.1 ∧ q.2.1 ≤ y ∧ y < q.2.2.2)
def fillF (q : RectQ) (c : Int) (f : Nat → Nat → Int) : Nat → Nat → Int := fun y x => if inR' q x y then c else f y x
/-- The whole of an image. -/
def wholeQ (W H : Nat) : RectQ := nQ (0, 0, W, H)
def andQ (p q : RectQ) : RectQ := (n0 p.1 p.2.1 p.2.2.1 p.2.2.2 q.1 q.2.1 q.2.2.1 q.2.2.2, n1 p.1 p.2.1 p.2.2.1 p.2.2.2 q.1 q.2.1 q.2.2.1 q.2.2.2, n2 p.1 p.2.1 p.2.2.1 p.2.2.2 q.1 q.2.1 q.2.2.1 q.2.2.2, n3 p.1 p.2.1 p.2.2.1 p.2.2.2 q.1 q.2.1 q.2.2.1 q.2.2.2)
theorem whole_eq {W H : Nat} (hW : W ≤ 1024) (hH : H ≤ 1024) : wholeQ W H = if 0 < W ∧ 0 < H then (0, 0, (W : Int), (H : Int)) else (0, 0, 0, 0) := by
  unfold wholeQ nQ
  have := r_eval (p := 0) (q := 0) (r := W) (s := H) (by omega) (by omega) (by omega) (by omega)
  rcases this with ⟨h1, h2, e0, e1, e2, e3⟩ | ⟨h, e0, e1, e2, e3⟩
  · simp only [e0, e1, e2, e3]; rw [if_pos (by omega)]
  · simp only [e0, e1, e2, e3]; rw [if_neg (by omega)]
theorem whole_within {W H : Nat} (hW : W ≤ 1024) (hH : H ≤ 1024) : Within W H (wholeQ W H) ∧ NF (wholeQ W H).1 (wholeQ W H).2.1 (wholeQ W H).2.2.1 (wholeQ W H).2.2.2 := by
  refine ⟨?_, nf_r _ _ _ _⟩
  rw [whole_eq hW hH]
  unfold Within
  split <;> simp only <;> omega
theorem and_within {W H : Nat} {p q : RectQ} (hq : Within W H q) (hn : NF q.1 q.2.1 q.2.2.1 q.2.2.2) : Within W H (andQ p q) ∧ NF (andQ p q).1 (andQ p q).2.1 (andQ p q).2.2.1 (andQ p q).2.2.2 := by
  obtain ⟨q0, q1, q2, q3⟩ := q
  obtain ⟨p0, p1, p2, p3⟩ := p
  obtain ⟨a, b, c, d, A, B, C, D, X, Y, Z, T, e0, e1, e2, e3, a0, a1, a2, a3, x0, x1, x2, x3, hA, hX, hp, h⟩ := n_all p0 p1 p2 p3 q0 q1 q2 q3
  obtain ⟨s0, s1, s2, s3⟩ := r_same hn
  simp only at s0 s1 s2 s3
  unfold andQ Within
  simp only [e0, e1, e2, e3]
  refine ⟨?_, hp⟩
  unfold Within at hq
  simp only at hq
  rw [s0] at x0; rw [s1] at x1; rw [s2] at x2; rw [s3] at x3
  subst x0 x1 x2 x3
  unfold NF at hp
  omega
theorem inR'_nf {q : RectQ} (h : NF q.1 q.2.1 q.2.2.1 q.2.2.2) (x y : Int) : inR' q x y = hasQ q x y := by
  obtain ⟨s0, s1, s2, s3⟩ := r_same h
  unfold inR' hasQ hasR
  rw [s0, s1, s2, s3]
theorem and_has (p q : RectQ) (x y : Int) : hasQ (andQ p q) x y = (hasQ p x y && hasQ q x y) := has_n _ _ _ _ _ _ _ _ x y
theorem whole_has {W H : Nat} (hW : W ≤ 1024) (hH : H ≤ 1024) (x y : Int) : hasQ (wholeQ W H) x y = decide (0 ≤ x ∧ x < W ∧ 0 ≤ y ∧ y < H) := by
  rw [← inR'_nf (whole_within hW hH).2, whole_eq hW hH]
  unfold inR'
  congr 1
  apply propext
  split <;> simp only <;> omega
end Go.Proofs.Ytkpamofamcndnaa
namespace Go.Proofs.Ytkpamofamcndnaa
open Go.RowKit Go.Shelf
set_option linter.unusedSimpArgs false
set_option linter.unusedVariables false
-- below_from_drew
attribute [local go_sem] ov_cell_same ov_cell_other ov_frozen_same ov_frozen_other ov_size ov_setCell_same ov_setCell_other cell_alloc_old frozen_alloc_old setCell_alloc_old old_alloc old_ov old_drew old_drewN old_setCell
attribute [local go_sem ↓] run_max2 run_min2 eql_rect

theorem size_any (L : ImgL) (f : Nat → Nat → Int) (w : World) (h : ImgAt w L f) :
    Calls Try.prog 46 #[ptrTo L.p] w fun e w' => e = .returned (.tuple #[.int .i64 L.W, .int .i64 L.H]) ∧ Below w.heap.size w w' := by
  have hi := h.img
  obtain ⟨p, W, H, ra, cap, rk, ck⟩ := L
  simp only at hi ⊢
  have cc := hi.cells; have lp := hi.lt; have op : Old w p := lp
  clear h hi
  go_enter Try.func46, Try.ntmps46
  go_wp2_with fail
  refine region_ord [(0, 0), (1, 0), (2, 0), (3, 0), (4, 0), (5, 0), (6, 0), (7, 0), (8, 0), (9, 0)] (by kernel_rfl) (by kernel_rfl) (fun _ _ d _ _ h => by cases d <;> exact h) (fun hS => ?_)
  (refine wpG_read (v := ?_) rfl (.inl ⟨by rfl, fun wx hbx => ?_⟩) ?_; rotate_left; (focus (obtain ⟨cx0, fx0, zx0⟩ := bk hbx (p) (by first | omega | (simp; done) | (simp; omega)); go_simp; (try go_bits); (try with_reducible rfl))); try simp only [Act.put, List.setIfInBounds_toArray, List.set_cons_zero, List.set_cons_succ])
  (refine wpG_read (v := ?_) rfl (.inl ⟨by rfl, fun wx hbx => ?_⟩) ?_; rotate_left; (focus (obtain ⟨cx0, fx0, zx0⟩ := bk hbx (p) (by first | omega | (simp; done) | (simp; omega)); go_simp; (try go_bits); (try with_reducible rfl))); try simp only [Act.put, List.setIfInBounds_toArray, List.set_cons_zero, List.set_cons_succ])
  (refine wpG_read (v := ?_) rfl (.inl ⟨by rfl, fun wx hbx => ?_⟩) ?_; rotate_left; (focus (obtain ⟨cx0, fx0, zx0⟩ := bk hbx (p) (by first | omega | (simp; done) | (simp; omega)); go_simp; (try go_bits); (try with_reducible rfl))); try simp only [Act.put, List.setIfInBounds_toArray, List.set_cons_zero, List.set_cons_succ])
  (refine wpG_read (v := ?_) rfl (.inl ⟨by rfl, fun wx hbx => ?_⟩) ?_; rotate_left; (focus (obtain ⟨cx0, fx0, zx0⟩ := bk hbx (p) (by first | omega | (simp; done) | (simp; omega)); go_simp; (try go_bits); (try with_reducible rfl))); try simp only [Act.put, List.setIfInBounds_toArray, List.set_cons_zero, List.set_cons_succ])
  (refine wpG_read (v := ?_) rfl (.inl ⟨by rfl, fun wx hbx => ?_⟩) ?_; rotate_left; (focus (obtain ⟨cx0, fx0, zx0⟩ := bk hbx (p) (by first | omega | (simp; done) | (simp; omega)); go_simp; (try go_bits); (try with_reducible rfl))); try simp only [Act.put, List.setIfInBounds_toArray, List.set_cons_zero, List.set_cons_succ])
  (refine wpG_read (v := ?_) rfl (.inl ⟨by rfl, fun wx hbx => ?_⟩) ?_; rotate_left; (focus (obtain ⟨cx0, fx0, zx0⟩ := bk hbx (p) (by first | omega | (simp; done) | (simp; omega)); go_simp; (try go_bits); (try with_reducible rfl))); try simp only [Act.put, List.setIfInBounds_toArray, List.set_cons_zero, List.set_cons_succ])
  (refine wpG_read (v := ?_) rfl (.inl ⟨by rfl, fun wx hbx => ?_⟩) ?_; rotate_left; (focus (obtain ⟨cx0, fx0, zx0⟩ := bk hbx (p) (by first | omega | (simp; done) | (simp; omega)); go_simp; (try go_bits); (try with_reducible rfl))); try simp only [Act.put, List.setIfInBounds_toArray, List.set_cons_zero, List.set_cons_succ])
  (refine wpG_read (v := ?_) rfl (.inl ⟨by rfl, fun wx hbx => ?_⟩) ?_; rotate_left; (focus (obtain ⟨cx0, fx0, zx0⟩ := bk hbx (p) (by first | omega | (simp; done) | (simp; omega)); go_simp; (try go_bits); (try with_reducible rfl))); try simp only [Act.put, List.setIfInBounds_toArray, List.set_cons_zero, List.set_cons_succ])
  (refine wpG_read (v := ?_) rfl (.inl ⟨by rfl, fun wx hbx => ?_⟩) ?_; rotate_left; (focus (obtain ⟨cx0, fx0, zx0⟩ := bk hbx (p) (by first | omega | (simp; done) | (simp; omega)); go_simp; (try go_bits); (try with_reducible rfl))); try simp only [Act.put, List.setIfInBounds_toArray, List.set_cons_zero, List.set_cons_succ])
  (refine wpG_read (v := ?_) rfl (.inl ⟨by rfl, fun wx hbx => ?_⟩) ?_; rotate_left; (focus (obtain ⟨cx0, fx0, zx0⟩ := bk hbx (p) (by first | omega | (simp; done) | (simp; omega)); go_simp; (try go_bits); (try with_reducible rfl))); try simp only [Act.put, List.setIfInBounds_toArray, List.set_cons_zero, List.set_cons_succ])
  refine wpG_nil ?_
  go_wp2_with fail
  go_ret2
  exact ⟨rfl, by (repeat' (first | (with_reducible exact Below.refl _ _) | (with_reducible assumption) | (with_reducible refine below_from_drew ?_) | (with_reducible refine Below.alloc ?_ ?_ _) | (with_reducible refine Below.drew ?_) | (with_reducible refine below_drewN ?_ _) | (with_reducible refine Below.setCell ?_ ?_ _) | (with_reducible refine below_via ?_ (by assumption) ?_) | (with_reducible refine below_ov ?_ ?_ _ _) | go_size))⟩
theorem size_nil (w : World) :
    Calls Try.prog 46 #[.pointer none] w fun e w' => e = .returned (.tuple #[.int .i64 0, .int .i64 0]) ∧ Below w.heap.size w w' := by
  go_enter Try.func46, Try.ntmps46
  go_wp2_with fail
  go_ret2
  exact ⟨rfl, by (repeat' (first | (with_reducible exact Below.refl _ _) | (with_reducible assumption) | (with_reducible refine below_from_drew ?_) | (with_reducible refine Below.alloc ?_ ?_ _) | (with_reducible refine Below.drew ?_) | (with_reducible refine below_drewN ?_ _) | (with_reducible refine Below.setCell ?_ ?_ _) | (with_reducible refine below_via ?_ (by assumption) ?_) | (with_reducible refine below_ov ?_ ?_ _ _) | go_size))⟩
def rectVal (q : RectQ) : Value := (.agg #[.int .i64 (q.1), .int .i64 (q.2.1), .int .i64 (q.2.2.1), .int .i64 (q.2.2.2)])
theorem whole_any (L : ImgL) (f : Nat → Nat → Int) (w : World) (h : ImgAt w L f) (q : RectQ) (hq : wholeQ L.W L.H = q) :
    Calls Try.prog 67 #[ptrTo L.p] w fun e w' => e = .returned (rectVal q) ∧ Below w.heap.size w w' := by
  have HS := Lib.hid (fun u (hb : Below w.heap.size w u) => size_any L f u (h.below hb))
  subst hq
  clear h
  obtain ⟨p, W, H, ra, cap, rk, ck⟩ := L
  simp only at HS ⊢
  go_enter Try.func67, Try.ntmps67
  go_wp2_with (first | (go_at_call 46; (with_reducible refine (HS.out _ (by (repeat' (first | (with_reducible exact Below.refl _ _) | (with_reducible assumption) | (with_reducible refine below_from_drew ?_) | (with_reducible refine Below.alloc ?_ ?_ _) | (with_reducible refine Below.drew ?_) | (with_reducible refine below_drewN ?_ _) | (with_reducible refine Below.setCell ?_ ?_ _) | (with_reducible refine below_via ?_ (by assumption) ?_) | (with_reducible refine below_ov ?_ ?_ _ _) | go_size)))).mono ?_); rintro e w1 ⟨rfl, hb⟩; refine Exists.elim (after1 (w := w) (b0 := w.heap.size) (cs0 := ?_) (T0 := ?_) hb ?_ ?_) ?_; rotate_left 2; (focus ((repeat' (first | (with_reducible exact Below.refl _ _) | (with_reducible assumption) | (with_reducible refine below_from_drew ?_) | (with_reducible refine Below.alloc ?_ ?_ _) | (with_reducible refine Below.drew ?_) | (with_reducible refine below_drewN ?_ _) | (with_reducible refine Below.setCell ?_ ?_ _) | (with_reducible refine below_via ?_ (by assumption) ?_) | (with_reducible refine below_ov ?_ ?_ _ _) | go_size)); done)); (focus ((repeat' (first | (with_reducible refine has_drew ?_) | (with_reducible refine has_drewN ?_) | (with_reducible refine has_new ?_; (first | (with_reducible rfl) | omega | (simp; done) | (simp; omega))) | (with_reducible refine has_ov_same ?_; (first | (with_reducible rfl) | omega | (simp; done) | (simp; omega))) | (with_reducible refine has_alloc ?_) | (with_reducible refine has_ov_other ?_ ?_; (focus (first | (with_reducible rfl) | omega | (simp; done) | (simp; omega)))) | (with_reducible assumption) | (with_reducible exact has_below hB (by assumption)))); done)); rintro u1 ⟨rfl, hB, hz, z0, o0⟩; (try simp only [World.size_alloc, World.size_setCell, World.size_drew, ov_size] at hz)) | (go_at_call 22; (with_reducible refine (new_any _ _ _ _ _).mono ?_); rintro e w1 ⟨rfl, hb⟩; refine Exists.elim (after1 (w := w) (b0 := w.heap.size) (cs0 := ?_) (T0 := ?_) hb ?_ ?_) ?_; rotate_left 2; (focus ((repeat' (first | (with_reducible exact Below.refl _ _) | (with_reducible assumption) | (with_reducible refine below_from_drew ?_) | (with_reducible refine Below.alloc ?_ ?_ _) | (with_reducible refine Below.drew ?_) | (with_reducible refine below_drewN ?_ _) | (with_reducible refine Below.setCell ?_ ?_ _) | (with_reducible refine below_via ?_ (by assumption) ?_) | (with_reducible refine below_ov ?_ ?_ _ _) | go_size)); done)); (focus ((repeat' (first | (with_reducible refine has_drew ?_) | (with_reducible refine has_drewN ?_) | (with_reducible refine has_new ?_; (first | (with_reducible rfl) | omega | (simp; done) | (simp; omega))) | (with_reducible refine has_ov_same ?_; (first | (with_reducible rfl) | omega | (simp; done) | (simp; omega))) | (with_reducible refine has_alloc ?_) | (with_reducible refine has_ov_other ?_ ?_; (focus (first | (with_reducible rfl) | omega | (simp; done) | (simp; omega)))) | (with_reducible assumption) | (with_reducible exact has_below hB (by assumption)))); done)); rintro u2 ⟨rfl, hB, hz, z0, o0⟩; (try simp only [World.size_alloc, World.size_setCell, World.size_drew, ov_size] at hz)))
  refine bodyPost_ret (by simp [results, Try.results67, go_sem, z0]; try rfl) rfl ?_
  exact ⟨rfl, by (repeat' (first | (with_reducible exact Below.refl _ _) | (with_reducible assumption) | (with_reducible refine below_from_drew ?_) | (with_reducible refine Below.alloc ?_ ?_ _) | (with_reducible refine Below.drew ?_) | (with_reducible refine below_drewN ?_ _) | (with_reducible refine Below.setCell ?_ ?_ _) | (with_reducible refine below_via ?_ (by assumption) ?_) | (with_reducible refine below_ov ?_ ?_ _ _) | go_size))⟩
theorem whole_nil (w : World) :
    Calls Try.prog 67 #[.pointer none] w fun e w' => e = .returned (.agg #[.int .i64 (0), .int .i64 (0), .int .i64 (0), .int .i64 (0)]) ∧ Below w.heap.size w w' := by
  go_enter Try.func67, Try.ntmps67
  go_wp2_with (first | (go_at_call 46; (with_reducible refine (size_nil _).mono ?_); rintro e w1 ⟨rfl, hb⟩; refine Exists.elim (after1 (w := w) (b0 := w.heap.size) (cs0 := ?_) (T0 := ?_) hb ?_ ?_) ?_; rotate_left 2; (focus ((repeat' (first | (with_reducible exact Below.refl _ _) | (with_reducible assumption) | (with_reducible refine below_from_drew ?_) | (with_reducible refine Below.alloc ?_ ?_ _) | (with_reducible refine Below.drew ?_) | (with_reducible refine below_drewN ?_ _) | (with_reducible refine Below.setCell ?_ ?_ _) | (with_reducible refine below_via ?_ (by assumption) ?_) | (with_reducible refine below_ov ?_ ?_ _ _) | go_size)); done)); (focus ((repeat' (first | (with_reducible refine has_drew ?_) | (with_reducible refine has_drewN ?_) | (with_reducible refine has_new ?_; (first | (with_reducible rfl) | omega | (simp; done) | (simp; omega))) | (with_reducible refine has_ov_same ?_; (first | (with_reducible rfl) | omega | (simp; done) | (simp; omega))) | (with_reducible refine has_alloc ?_) | (with_reducible refine has_ov_other ?_ ?_; (focus (first | (with_reducible rfl) | omega | (simp; done) | (simp; omega)))) | (with_reducible assumption) | (with_reducible exact has_below hB (by assumption)))); done)); rintro u1 ⟨rfl, hB, hz, z0, o0⟩; (try simp only [World.size_alloc, World.size_setCell, World.size_drew, ov_size] at hz)) | (go_at_call 22; (with_reducible refine (new_any _ _ _ _ _).mono ?_); rintro e w1 ⟨rfl, hb⟩; refine Exists.elim (after1 (w := w) (b0 := w.heap.size) (cs0 := ?_) (T0 := ?_) hb ?_ ?_) ?_; rotate_left 2; (focus ((repeat' (first | (with_reducible exact Below.refl _ _) | (with_reducible assumption) | (with_reducible refine below_from_drew ?_) | (with_reducible refine Below.alloc ?_ ?_ _) | (with_reducible refine Below.drew ?_) | (with_reducible refine below_drewN ?_ _) | (with_reducible refine Below.setCell ?_ ?_ _) | (with_reducible refine below_via ?_ (by assumption) ?_) | (with_reducible refine below_ov ?_ ?_ _ _) | go_size)); done)); (focus ((repeat' (first | (with_reducible refine has_drew ?_) | (with_reducible refine has_drewN ?_) | (with_reducible refine has_new ?_; (first | (with_reducible rfl) | omega | (simp; done) | (simp; omega))) | (with_reducible refine has_ov_same ?_; (first | (with_reducible rfl) | omega | (simp; done) | (simp; omega))) | (with_reducible refine has_alloc ?_) | (with_reducible refine has_ov_other ?_ ?_; (focus (first | (with_reducible rfl) | omega | (simp; done) | (simp; omega)))) | (with_reducible assumption) | (with_reducible exact has_below hB (by assumption)))); done)); rintro u2 ⟨rfl, hB, hz, z0, o0⟩; (try simp only [World.size_alloc, World.size_setCell, World.size_drew, ov_size] at hz)))
  refine bodyPost_ret (by simp [results, Try.results67, go_sem, z0]; try rfl) rfl ?_
  exact ⟨rfl, by (repeat' (first | (with_reducible exact Below.refl _ _) | (with_reducible assumption) | (with_reducible refine below_from_drew ?_) | (with_reducible refine Below.alloc ?_ ?_ _) | (with_reducible refine Below.drew ?_) | (with_reducible refine below_drewN ?_ _) | (with_reducible refine Below.setCell ?_ ?_ _) | (with_reducible refine below_via ?_ (by assumption) ?_) | (with_reducible refine below_ov ?_ ?_ _ _) | go_size))⟩
theorem whole_hasR {W H : Nat} (hW : W ≤ 1024) (hH : H ≤ 1024) (x y : Int) : hasR (wholeQ W H).1 (wholeQ W H).2.1 (wholeQ W H).2.2.1 (wholeQ W H).2.2.2 x y = decide (0 ≤ x ∧ x < W ∧ 0 ≤ y ∧ y < H) := whole_has hW hH x y
set_option maxHeartbeats 1000000 in
theorem at_any (L : ImgL) (f : Nat → Nat → Int) (x y : Int) (w : World) (h : ImgAt w L f) :
    Calls Try.prog 48 #[ptrTo L.p, .int .i64 x, .int .i64 y] w fun e w' => e = .returned (.int .u8 (atF L.W L.H f x y)) ∧ Below w.heap.size w w' := by
  have hh := whole_hasR h.small.1 h.small.2 x y
  obtain ⟨q, hq⟩ : ∃ q, wholeQ L.W L.H = q := ⟨_, rfl⟩
  rw [hq] at hh
  have HWH := Lib.hid (fun u (hb : Below w.heap.size w u) => whole_any L f u (h.below hb) q hq)
  obtain ⟨q0, q1, q2, q3⟩ := q
  simp only [rectVal] at hh HWH
  have HHS := Lib.hid (fun u => has_any q0 q1 q2 q3 x y u)
  by_cases c : 0 ≤ x ∧ x < L.W ∧ 0 ≤ y ∧ y < L.H
  · rw [decide_eq_true c] at hh
    rw [hh] at HHS
    obtain ⟨i, rfl⟩ : ∃ i : Nat, x = i := ⟨x.toNat, by omega⟩
    obtain ⟨j, rfl⟩ : ∃ j : Nat, y = j := ⟨y.toNat, by omega⟩
    have hj : j < L.H := by omega
    have hi : i < L.W := by omega
    have hat : atF L.W L.H f i j = f j i := by unfold atF; rw [if_pos c]; rfl
    rw [hat]
    obtain ⟨rb, cs, hra, hrb, hrc⟩ := h.rows (by omega)
    obtain ⟨b, cs2, hrk, hb, hbc⟩ := h.row j hj (by omega)
    have hk := hrc j hj
    rw [hrk] at hk
    have hv := hbc i hi
    have him := h.img
    rw [hra] at him
    have c0 := him.cells; have lp := him.lt; have op : Old w L.p := lp
    have c1 : w.cell? ⟨rb, j, none⟩ = _ := (hrb.cells j).trans hk
    have l1 := hrb.lt; have o1 : Old w rb := l1
    have c2 : w.cell? ⟨b, i, none⟩ = _ := (hb.cells i).trans hv
    have l2 := hb.lt; have o2 : Old w b := l2
    obtain ⟨p, W, H, ra, cap, rk, ck⟩ := L
    simp only at *
    have d1 : (j : Int) < H := by omega
    have d2 : (i : Int) < W := by omega
    have d3 : (0 : Int) ≤ i := by omega
    have d4 : (0 : Int) ≤ j := by omega
    clear hq hh h hat c hrc hbc hk hv him hrb hb
    go_enter Try.func48, Try.ntmps48
    go_wp2_with (first | (go_at_call 67; (with_reducible refine (HWH.out _ (by (repeat' (first | (with_reducible exact Below.refl _ _) | (with_reducible assumption) | (with_reducible refine below_from_drew ?_) | (with_reducible refine Below.alloc ?_ ?_ _) | (with_reducible refine Below.drew ?_) | (with_reducible refine below_drewN ?_ _) | (with_reducible refine Below.setCell ?_ ?_ _) | (with_reducible refine below_via ?_ (by assumption) ?_) | (with_reducible refine below_ov ?_ ?_ _ _) | go_size)))).mono ?_); rintro e u1 ⟨rfl, hb⟩; have hz := hb.size; refine (fun hB => ?_ : Below w.heap.size w u1 → _) ?_; rotate_left; (focus ((repeat' (first | (with_reducible exact Below.refl _ _) | (with_reducible assumption) | (with_reducible refine below_from_drew ?_) | (with_reducible refine Below.alloc ?_ ?_ _) | (with_reducible refine Below.drew ?_) | (with_reducible refine below_drewN ?_ _) | (with_reducible refine Below.setCell ?_ ?_ _) | (with_reducible refine below_via ?_ (by assumption) ?_) | (with_reducible refine below_ov ?_ ?_ _ _) | go_size)); done)); (try simp only [World.size_alloc, World.size_setCell, World.size_drew, ov_size] at hz)) | (((go_at_call 35; (with_reducible refine (HHS.out _).mono ?_); rintro e u2 ⟨rfl, hb⟩; have hz := hb.size; refine (fun hB => ?_ : Below w.heap.size w u2 → _) ?_; rotate_left; (focus ((repeat' (first | (with_reducible exact Below.refl _ _) | (with_reducible assumption) | (with_reducible refine below_from_drew ?_) | (with_reducible refine Below.alloc ?_ ?_ _) | (with_reducible refine Below.drew ?_) | (with_reducible refine below_drewN ?_ _) | (with_reducible refine Below.setCell ?_ ?_ _) | (with_reducible refine below_via ?_ (by assumption) ?_) | (with_reducible refine below_ov ?_ ?_ _ _) | go_size)); done)); (try simp only [World.size_alloc, World.size_setCell, World.size_drew, ov_size] at hz))); obtain ⟨hca, hfa, hoa⟩ := bcell3 hB))
    go_ret
    exact ⟨rfl, by (repeat' (first | (with_reducible exact Below.refl _ _) | (with_reducible assumption) | (with_reducible refine below_from_drew ?_) | (with_reducible refine Below.alloc ?_ ?_ _) | (with_reducible refine Below.drew ?_) | (with_reducible refine below_drewN ?_ _) | (with_reducible refine Below.setCell ?_ ?_ _) | (with_reducible refine below_via ?_ (by assumption) ?_) | (with_reducible refine below_ov ?_ ?_ _ _) | go_size))⟩
  · rw [decide_eq_false c] at hh
    rw [hh] at HHS
    have hat : atF L.W L.H f x y = 0 := by unfold atF; rw [if_neg c]
    rw [hat]
    obtain ⟨p, W, H, ra, cap, rk, ck⟩ := L
    simp only at *
    clear hq hh h hat c
    go_enter Try.func48, Try.ntmps48
    go_wp2_with (first | (go_at_call 67; (with_reducible refine (HWH.out _ (by (repeat' (first | (with_reducible exact Below.refl _ _) | (with_reducible assumption) | (with_reducible refine below_from_drew ?_) | (with_reducible refine Below.alloc ?_ ?_ _) | (with_reducible refine Below.drew ?_) | (with_reducible refine below_drewN ?_ _) | (with_reducible refine Below.setCell ?_ ?_ _) | (with_reducible refine below_via ?_ (by assumption) ?_) | (with_reducible refine below_ov ?_ ?_ _ _) | go_size)))).mono ?_); rintro e u1 ⟨rfl, hb⟩; have hz := hb.size; refine (fun hB => ?_ : Below w.heap.size w u1 → _) ?_; rotate_left; (focus ((repeat' (first | (with_reducible exact Below.refl _ _) | (with_reducible assumption) | (with_reducible refine below_from_drew ?_) | (with_reducible refine Below.alloc ?_ ?_ _) | (with_reducible refine Below.drew ?_) | (with_reducible refine below_drewN ?_ _) | (with_reducible refine Below.setCell ?_ ?_ _) | (with_reducible refine below_via ?_ (by assumption) ?_) | (with_reducible refine below_ov ?_ ?_ _ _) | go_size)); done)); (try simp only [World.size_alloc, World.size_setCell, World.size_drew, ov_size] at hz)) | (((go_at_call 35; (with_reducible refine (HHS.out _).mono ?_); rintro e u2 ⟨rfl, hb⟩; have hz := hb.size; refine (fun hB => ?_ : Below w.heap.size w u2 → _) ?_; rotate_left; (focus ((repeat' (first | (with_reducible exact Below.refl _ _) | (with_reducible assumption) | (with_reducible refine below_from_drew ?_) | (with_reducible refine Below.alloc ?_ ?_ _) | (with_reducible refine Below.drew ?_) | (with_reducible refine below_drewN ?_ _) | (with_reducible refine Below.setCell ?_ ?_ _) | (with_reducible refine below_via ?_ (by assumption) ?_) | (with_reducible refine below_ov ?_ ?_ _ _) | go_size)); done)); (try simp only [World.size_alloc, World.size_setCell, World.size_drew, ov_size] at hz))); obtain ⟨hca, hfa, hoa⟩ := bcell3 hB))
    go_ret
    exact ⟨rfl, by (repeat' (first | (with_reducible exact Below.refl _ _) | (with_reducible assumption) | (with_reducible refine below_from_drew ?_) | (with_reducible refine Below.alloc ?_ ?_ _) | (with_reducible refine Below.drew ?_) | (with_reducible refine below_drewN ?_ _) | (with_reducible refine Below.setCell ?_ ?_ _) | (with_reducible refine below_via ?_ (by assumption) ?_) | (with_reducible refine below_ov ?_ ?_ _ _) | go_size))⟩
theorem at_h0 (w : World) : Calls Try.prog 35 #[(.agg #[.int .i64 (0), .int .i64 (0), .int .i64 (0), .int .i64 (0)]), .int .i64 0, .int .i64 0] w fun e w' => e = .returned (.bool false) ∧ Below w.heap.size w w' := inst (has_any 0 0 0 0 0 0 w) (by kernel_rfl)
theorem at_nil (w : World) :
    Calls Try.prog 48 #[.pointer none, .int .i64 0, .int .i64 0] w fun e w' => e = .returned (.int .u8 0) ∧ Below w.heap.size w w' := by
  go_enter Try.func48, Try.ntmps48
  go_wp2_with (first | (go_at_call 67; (with_reducible refine (whole_nil _).mono ?_); rintro e u1 ⟨rfl, hb⟩; have hz := hb.size; refine (fun hB => ?_ : Below w.heap.size w u1 → _) ?_; rotate_left; (focus ((repeat' (first | (with_reducible exact Below.refl _ _) | (with_reducible assumption) | (with_reducible refine below_from_drew ?_) | (with_reducible refine Below.alloc ?_ ?_ _) | (with_reducible refine Below.drew ?_) | (with_reducible refine below_drewN ?_ _) | (with_reducible refine Below.setCell ?_ ?_ _) | (with_reducible refine below_via ?_ (by assumption) ?_) | (with_reducible refine below_ov ?_ ?_ _ _) | go_size)); done)); (try simp only [World.size_alloc, World.size_setCell, World.size_drew, ov_size] at hz)) | (go_at_call 35; (with_reducible refine (at_h0 _).mono ?_); rintro e u2 ⟨rfl, hb⟩; have hz := hb.size; refine (fun hB => ?_ : Below w.heap.size w u2 → _) ?_; rotate_left; (focus ((repeat' (first | (with_reducible exact Below.refl _ _) | (with_reducible assumption) | (with_reducible refine below_from_drew ?_) | (with_reducible refine Below.alloc ?_ ?_ _) | (with_reducible refine Below.drew ?_) | (with_reducible refine below_drewN ?_ _) | (with_reducible refine Below.setCell ?_ ?_ _) | (with_reducible refine below_via ?_ (by assumption) ?_) | (with_reducible refine below_ov ?_ ?_ _ _) | go_size)); done)); (try simp only [World.size_alloc, World.size_setCell, World.size_drew, ov_size] at hz)))
  go_ret
  exact ⟨rfl, by (repeat' (first | (with_reducible exact Below.refl _ _) | (with_reducible assumption) | (with_reducible refine below_from_drew ?_) | (with_reducible refine Below.alloc ?_ ?_ _) | (with_reducible refine Below.drew ?_) | (with_reducible refine below_drewN ?_ _) | (with_reducible refine Below.setCell ?_ ?_ _) | (with_reducible refine below_via ?_ (by assumption) ?_) | (with_reducible refine below_ov ?_ ?_ _ _) | go_size))⟩
end Go.Proofs.Ytkpamofamcndnaa
namespace Go.Proofs.Ytkpamofamcndnaa
open Go.RowKit Go.Shelf
set_option linter.unusedSimpArgs false
set_option linter.unusedVariables false
-- below_from_drew
attribute [local go_sem] ov_cell_same ov_cell_other ov_frozen_same ov_frozen_other ov_size ov_setCell_same ov_setCell_other cell_alloc_old frozen_alloc_old setCell_alloc_old old_alloc old_ov old_drew old_drewN old_setCell
attribute [local go_sem ↓] run_max2 run_min2 eql_rect
theorem infoU8 : (Try.prog.info? 5).map (fun i => (i.zero, i.size, i.bytes)) = some (some (.int .u8 0), 1, 1) := by kernel_rfl
theorem infoS8 : (Try.prog.info? 122).map (fun i => (i.zero, i.size, i.bytes)) = some (some (.slice none 0 0), 1, 24) := by kernel_rfl
/-- Pixels as cells. -/
def pixV (W : Nat) (g : Nat → Int) : List Value := (List.range W).map fun j => .int .u8 (g j)
theorem pixV_len (W : Nat) (g : Nat → Int) : (pixV W g).length = W := by simp [pixV]
theorem pixV_get {W : Nat} {g : Nat → Int} {j : Nat} (h : j < W) : (pixV W g)[j]? = some (.int .u8 (g j)) := by simp [pixV, h]
theorem pixV_one (W : Nat) (g : Nat → Int) : ∀ u ∈ pixV W g, u.oneCell' = true := by
  intro u hu
  simp only [pixV, List.mem_map] at hu
  obtain ⟨j, _, rfl⟩ := hu
  rfl
/-- A part of a row of pixels. -/
def PartC (w : World) (a : Option Addr) (n : Nat) (g : Nat → Int) : Prop := 0 < n → ∃ b off, a = some ⟨b, off, none⟩ ∧ b < w.heap.size ∧ ∀ j, j < n → w.cell? ⟨b, off + j, none⟩ = some (.int .u8 (g j))
theorem add_offs (b o j : Nat) : (⟨b, o, none⟩ : Addr).add j = ⟨b, o + j, none⟩ := by cases j <;> simp [Addr.add]
theorem eq_nil8 (w : World) (a : Option Addr) (n c n' c' : Nat) : (binOp .eql 122 (.slice a n c) (.slice none n' c')).run Try.prog w = .ok (.bool a.isNone) w := Lib.run_eql_slice_nil w _ _ a n c n' c' Try.underlying122
attribute [local go_sem ↓] eq_nil8
set_option maxRecDepth 100000 in
set_option maxHeartbeats 1000000 in
theorem clone8_any (a : Option Addr) (n c : Nat) (g : Nat → Int) (w : World) (hn : n ≤ 100000) (h : PartC w a n g) :
    Calls Try.prog 66 #[.slice a n c] w fun e w' => ∃ al ca, e = .returned (.slice al n ca) ∧ w'.ownsRow w.heap.size 5 1 (.slice al n ca) n (pixV n g) ∧ Below w.heap.size w w' := by
  have hi8 := infoU8
  cases hi : Try.prog.info? 5 with
  | none => rw [hi] at hi8; cases hi8
  | some i0 =>
  rw [hi] at hi8
  simp only [Option.map_some, Option.some.injEq, Prod.mk.injEq] at hi8
  obtain ⟨hz0, hz1, hz2⟩ := hi8
  have HI := Lib.hid hi
  clear hi
  rcases a with _ | ⟨b, off, sp⟩
  · have hn0 : n = 0 := by
      rcases Nat.eq_zero_or_pos n with q | q
      · exact q
      · obtain ⟨b, off, e, _⟩ := h q; cases e
    subst hn0
    clear h
    go_enter Try.func66, Try.ntmps66
    go_wp2_with fail
    go_ret
    exact ⟨_, _, rfl, World.ownsRow_nil _ _ _ _, by (repeat' (first | (with_reducible exact Below.refl _ _) | (with_reducible assumption) | (with_reducible refine below_from_drew ?_) | (with_reducible refine Below.alloc ?_ ?_ _) | (with_reducible refine Below.drew ?_) | (with_reducible refine below_drewN ?_ _) | (with_reducible refine Below.setCell ?_ ?_ _) | (with_reducible refine below_via ?_ (by assumption) ?_) | (with_reducible refine below_ov ?_ ?_ _ _) | go_size))⟩
  · have hc : ∀ j, j < n → w.cell? ⟨b, off + j, none⟩ = some (.int .u8 (g j)) ∧ sp = none := fun j hj => by
      obtain ⟨b', off', e, _, q⟩ := h (by omega)
      cases e
      exact ⟨q j hj, rfl⟩
    have HC := Lib.hid hc
    clear hc h
    go_enter Try.func66, Try.ntmps66
    go_wp2_with (at_builtin; refine wpList_append_own _ rfl _ _ 122 rfl w.heap.size 5 i0 (.int .u8 0) 1 1 Try.underlying122 HI.out hz0 hz1 hz2 rfl (by decide) _ _ _ rfl (World.ownsRow_made w #[] 0 (Nat.le_refl _) (Nat.zero_le _) rfl) ⟨b, off, sp⟩ n c (pixV n g) rfl ?c1 ?c2 ?c3 ?c4 ?c5 ?c6 ?_)
    case c1 => rw [pixV_len]; omega
    case c2 =>
      intro j u hj
      have hjn : j < n := by
        have := (List.getElem?_eq_some_iff.1 hj).1
        rw [pixV_len] at this; exact this
      obtain ⟨q, rfl⟩ := HC.out j hjn
      rw [add_offs]
      refine Lib.cell?_alloc_some _ ?_
      rw [q]
      rw [pixV_get hjn] at hj
      exact hj
    case c3 => exact pixV_one n g
    case c4 => unfold maxLen; omega
    case c5 => omega
    case c6 => simp
    intro v' w1 hown hgrow hnil
    obtain ⟨al, ca, rfl, _⟩ := row_reads hown
    have HO := Lib.hid hown; have HG := Lib.hid hgrow
    clear hown hgrow hnil
    go_wp2_with fail
    go_ret
    exact ⟨_, _, rfl, HO.out, ((Below.refl _ w).alloc (Nat.le_refl _) _).grown HG.out (by simp) (by intro k hk; simp [Value.ownBlock] at hk; omega)⟩
end Go.Proofs.Ytkpamofamcndnaa
