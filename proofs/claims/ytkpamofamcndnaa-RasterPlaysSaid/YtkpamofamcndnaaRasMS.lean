/- package raster: Move by contract. package raster: Move by contract, the walk. package raster: Same by contract. clapboardlaw28.speaks by contract. -/
import Derived.Test.YtkpamofamcndnaaRasF
import Derived.Laws.CopyRow
import Derived.Lib.SlBuf
namespace Go.Proofs.Ytkpamofamcndnaa
open Go.RowKit Go.Shelf
set_option linter.unusedSimpArgs false
set_option linter.unusedVariables false
-- below_from_drew
attribute [local go_sem] ov_cell_same ov_cell_other ov_frozen_same ov_frozen_other ov_size ov_setCell_same ov_setCell_other cell_alloc_old frozen_alloc_old setCell_alloc_old old_alloc old_ov old_drew old_drewN old_setCell
attribute [local go_sem ↓] run_max2 run_min2 eql_rect eq_nil8
/-- Rows that were put aside. -/
structure Lns (w : World) (base n : Nat) (al : Option Addr) (ca k : Nat) (rk : Nat → Option Addr) (ck : Nat → Nat) (g : Nat → Nat → Int) : Prop where
  own : w.ownsRow base 122 1 (.slice al k ca) k (rowsV k n rk ck)
  caps : ∀ j, j < k → n ≤ ck j ∧ ck j ≤ 9223372036854775807
  row : ∀ j, j < k → RowC w (rk j) n (g j)
  new : ∀ j b, 0 < n → j < k → rk j = some ⟨b, 0, none⟩ → base ≤ b
theorem Lns.nil {w : World} {base n : Nat} {g : Nat → Nat → Int} : Lns w base n none 0 0 (fun _ => none) (fun _ => 0) g :=
  ⟨World.ownsRow_nil _ _ _ _, fun k hk => by omega, fun k hk => by omega, fun k b _ hk => by omega⟩
theorem Lns.below {w w1 : World} {base n ca k : Nat} {al : Option Addr} {rk : Nat → Option Addr} {ck : Nat → Nat} {g : Nat → Nat → Int} (h : Lns w base n al ca k rk ck g) (hb : Below w.heap.size w w1) : Lns w1 base n al ca k rk ck g :=
  ⟨row_below hb h.own, h.caps, fun j hj => (h.row j hj).below hb, h.new⟩
theorem Lns.step {w0 w w1 w2 : World} {base n ca ca' c k : Nat} {al al' a : Option Addr} {rk : Nat → Option Addr} {ck : Nat → Nat} {g : Nat → Nat → Int} (h : Lns w base n al ca k rk ck g) (hbs : base ≤ w.heap.size)
    (hB : Below base w0 w) (hb : Below w.heap.size w w1) (hrow : RowC w1 a n (g k)) (hnew : ∀ b, 0 < n → a = some ⟨b, 0, none⟩ → w.heap.size ≤ b) (hc : n ≤ c ∧ c ≤ 9223372036854775807)
    (hown : w2.ownsRow base 122 1 (.slice al' (k + 1) ca') (k + 1) (rowsV k n rk ck ++ [.slice a n c])) (hg : w1.grownBy w2 (Value.slice al k ca).ownBlock) :
    Lns w2 base n al' ca' (k + 1) (fun j => if j = k then a else rk j) (fun j => if j = k then c else ck j) g ∧ Below base w0 w2 := by
  have hw := h.below hb
  have hown1 := hw.own
  refine ⟨⟨by rw [rowsV_succ] at hown; exact hown, fun j hj => ?_, fun j hj => ?_, fun j b h0 hj e => ?_⟩, ?_⟩
  · by_cases e : j = k
    · simp only [if_pos e]; exact hc
    · simp only [if_neg e]; exact h.caps j (by omega)
  · by_cases e : j = k
    · subst e
      simp only [if_pos]
      exact hrow.grown hown1 hg
    · simp only [if_neg e]
      exact (hw.row j (by omega)).grown hown1 hg
  · by_cases e1 : j = k
    · simp only [if_pos e1] at e
      have := hnew b h0 e
      omega
    · simp only [if_neg e1] at e
      exact h.new j b h0 (by omega) e
  · have q : Below base w0 w1 := hB.trans (hb.mono hbs)
    exact q.trans ⟨hg.os, hg.tape, hg.output, hg.size, fun i hi => hg.block i (by have := hb.size; omega) (fun e => by have := row_block hown1 i e.symm; omega)⟩
/-- A row of an image changed. -/
theorem ImgAt.rowed {w w1 : World} {L : ImgL} {f : Nat → Nat → Int} {i b : Nat} {cs : Array Value} {g : Nat → Int} (h : ImgAt w L f) (h0 : 0 < L.W) (hi : i < L.H) (hb : L.rk i = some ⟨b, 0, none⟩)
    (hw : ButS (fun k => k = b) w.heap.size w w1) (hc : Has w1 b cs 5) (hg : ∀ j, j < L.W → cs[j]? = some (.int .u8 (g j))) (hr : ∀ j, j < L.W → 0 ≤ g j ∧ g j ≤ 255) :
    ImgAt w1 L (fun y x => if y = i then g x else f y x) ∧ ButS L.S w.heap.size w w1 := by
  have hS : L.S b := ⟨h0, i, hi, hb⟩
  obtain ⟨b', cs', e, h1, h2⟩ := h.row i hi h0
  rw [hb] at e
  cases e
  refine ⟨⟨h.small, hw.has h.img h.img.lt (fun q => absurd (has_type (q ▸ h.img) h1) (by decide)), h.cap, fun hh => ?_, h.caps, fun y hy _ => ?_, h.inj, fun y x hy hx => ?_⟩, hw.more (fun k _ q => q ▸ hS)⟩
  · obtain ⟨rb, cs', e, k1, k2⟩ := h.rows hh
    exact ⟨rb, cs', e, hw.has k1 k1.lt (fun q => absurd (has_type (q ▸ k1) h1) (by decide)), k2⟩
  · by_cases e : y = i
    · subst e
      exact ⟨b, cs, hb, hc, fun j hj => by rw [if_pos rfl]; exact hg j hj⟩
    · obtain ⟨b2, cs2, e2, k1, k2⟩ := h.row y hy h0
      exact ⟨b2, cs2, e2, hw.has k1 k1.lt (fun q => e (h.inj y i h0 hy hi (by rw [e2, hb, q]))), fun j hj => by rw [if_neg e]; exact k2 j hj⟩
  · split
    · exact hr x hx
    · exact h.rng y x hy hx
/-- A move, plainly. -/
def cutQ (W H : Nat) (q : RectQ) : RectQ := andQ q (wholeQ W H)
def toQ (W H : Nat) (q : RectQ) (dx dy : Int) : RectQ := andQ (mvQ dx dy (cutQ W H q)) (cutQ W H q)
def moveF (W H : Nat) (q : RectQ) (dx dy : Int) (f : Nat → Nat → Int) : Nat → Nat → Int := fun y x => if hasQ (toQ W H q dx dy) x y then f (y - dy).toNat (x - dx).toNat else f y x
theorem mv_exact {q : RectQ} (h : nfQ q) (h0 : q.1 < q.2.2.1) (b0 : -5000 ≤ q.1) (b1 : -5000 ≤ q.2.1) (b2 : q.2.2.1 ≤ 5000) (b3 : q.2.2.2 ≤ 5000) {x y : Int} (x0 : -5000 ≤ x) (x1 : x ≤ 5000) (y0 : -5000 ≤ y) (y1 : y ≤ 5000) : mvQ x y q = (q.1 + x, q.2.1 + y, q.2.2.1 + x, q.2.2.2 + y) := by
  obtain ⟨s0, s1, s2, s3⟩ := r_same h
  have hok : okR q.1 q.2.1 q.2.2.1 q.2.2.2 = true := by rw [ok_iff, s0, s2]; exact h0
  have h' := h
  unfold nfQ NF at h'
  have f1 : ∀ n, -10000 ≤ n → n ≤ 10000 → farI n = n := fun n a b => by unfold farI; omega
  unfold mvQ
  rw [i0_t hok, i1_t hok, i2_t hok, i3_t hok, s0, s1, s2, s3, f1 x (by omega) (by omega), f1 y (by omega) (by omega), f1 x (by omega) (by omega), f1 y (by omega) (by omega), f1 (-x) (by omega) (by omega), f1 (-y) (by omega) (by omega)]
  obtain ⟨t0, t1, t2, t3⟩ := r_same (p := q.1 + x) (q := q.2.1 + y) (r := q.2.2.1 - -x) (s := q.2.2.2 - -y) (by unfold NF; omega)
  rw [t0, t1, t2, t3]
  simp only [Int.sub_neg]
/-- Where a move takes its pixels from, and where to. -/
theorem move_nums {W H : Nat} {q : RectQ} {dx dy : Int} (hs : W ≤ 1024 ∧ H ≤ 1024) (hx : -5000 ≤ dx ∧ dx ≤ 5000) (hy : -5000 ≤ dy ∧ dy ≤ 5000) :
    (okR (toQ W H q dx dy).1 (toQ W H q dx dy).2.1 (toQ W H q dx dy).2.2.1 (toQ W H q dx dy).2.2.2 = false ∧ ∀ x y, hasQ (toQ W H q dx dy) x y = false) ∨
    (okR (toQ W H q dx dy).1 (toQ W H q dx dy).2.1 (toQ W H q dx dy).2.2.1 (toQ W H q dx dy).2.2.2 = true ∧ ∃ s0 s1 t0 t1 n m : Nat, 0 < n ∧ 0 < m ∧ s0 + n ≤ W ∧ s1 + m ≤ H ∧ t0 + n ≤ W ∧ t1 + m ≤ H ∧ (s0 : Int) + dx = t0 ∧ (s1 : Int) + dy = t1 ∧ toQ W H q dx dy = ((t0 : Int), (t1 : Int), ((t0 + n : Nat) : Int), ((t1 + m : Nat) : Int)) ∧ mvQ (-dx) (-dy) (toQ W H q dx dy) = ((s0 : Int), (s1 : Int), ((s0 + n : Nat) : Int), ((s1 + m : Nat) : Int))) := by
  obtain ⟨hw, hwn⟩ := (inQ_whole hs).and (p := q)
  have htn : nfQ (toQ W H q dx dy) := by
    unfold toQ nfQ andQ
    exact nf_r _ _ _ _
  have hts := r_same htn
  by_cases ht : (toQ W H q dx dy).1 < (toQ W H q dx dy).2.2.1
  · right
    have hok : okR (toQ W H q dx dy).1 (toQ W H q dx dy).2.1 (toQ W H q dx dy).2.2.1 (toQ W H q dx dy).2.2.2 = true := by rw [ok_iff, hts.1, hts.2.2.1]; exact ht
    refine ⟨hok, ?_⟩
    have htn' := htn
    unfold nfQ NF at htn'
    obtain ⟨c, hc⟩ : ∃ c, cutQ W H q = c := ⟨_, rfl⟩
    have hcc : andQ q (wholeQ W H) = c := hc
    rw [hcc] at hw hwn
    unfold Within at hw
    have h1 : toQ W H q dx dy = andQ (mvQ dx dy c) c := by unfold toQ; rw [hc]
    obtain ⟨T, hT⟩ : ∃ T, toQ W H q dx dy = T := ⟨_, rfl⟩
    rw [hT] at h1 ht htn htn' hok ⊢
    have hcn : c.1 < c.2.2.1 := by
      rcases Int.lt_or_le c.1 c.2.2.1 with k | k
      · exact k
      · have hz : c = (0, 0, 0, 0) := by
          obtain ⟨a, b, d, e⟩ := c
          unfold NF at hwn
          simp only at hwn k
          have : a = 0 ∧ b = 0 ∧ d = 0 ∧ e = 0 := by omega
          rw [this.1, this.2.1, this.2.2.1, this.2.2.2]
        rw [hz, mv_zero, andQ_none] at h1
        rw [h1] at ht
        simp at ht
    have hmv := mv_exact (q := c) hwn hcn (by omega) (by omega) (by omega) (by omega) hx.1 hx.2 hy.1 hy.2
    rw [hmv] at h1
    obtain ⟨c0, c1, c2, c3⟩ := c
    obtain ⟨T0, T1, T2, T3⟩ := T
    unfold NF at hwn
    simp only at hw hwn hcn ht htn' h1
    obtain ⟨p, q, r, s, A, B, C, D, X, Y, Z, E, e0, e1, e2, e3, a0, a1, a2, a3, x0, x1, x2, x3, hA, hX, hp, h⟩ := n_all (c0 + dx) (c1 + dy) (c2 + dx) (c3 + dy) c0 c1 c2 c3
    unfold andQ at h1
    simp only [e0, e1, e2, e3, Prod.mk.injEq] at h1
    obtain ⟨rfl, rfl, rfl, rfl⟩ := h1
    have k1 := r_same (p := c0 + dx) (q := c1 + dy) (r := c2 + dx) (s := c3 + dy) (by unfold NF; omega)
    have k2 := r_same (p := c0) (q := c1) (r := c2) (s := c3) (by unfold NF; omega)
    have hA1 : A = c0 + dx ∧ B = c1 + dy ∧ C = c2 + dx ∧ D = c3 + dy := ⟨by rw [← a0]; exact k1.1, by rw [← a1]; exact k1.2.1, by rw [← a2]; exact k1.2.2.1, by rw [← a3]; exact k1.2.2.2⟩
    have hX1 : X = c0 ∧ Y = c1 ∧ Z = c2 ∧ E = c3 := ⟨by rw [← x0]; exact k2.1, by rw [← x1]; exact k2.2.1, by rw [← x2]; exact k2.2.2.1, by rw [← x3]; exact k2.2.2.2⟩
    obtain ⟨rfl, rfl, rfl, rfl⟩ := hA1
    obtain ⟨rfl, rfl, rfl, rfl⟩ := hX1
    clear a0 a1 a2 a3 x0 x1 x2 x3 k1 k2 e0 e1 e2 e3 hA hX hT hc hcc
    have hf := mv_exact (q := (T0, T1, T2, T3)) htn ht (by simp only; omega) (by simp only; omega) (by simp only; omega) (by simp only; omega) (x := -dx) (y := -dy) (by omega) (by omega) (by omega) (by omega)
    simp only at hf
    refine ⟨(T0 - dx).toNat, (T1 - dy).toNat, T0.toNat, T1.toNat, (T2 - T0).toNat, (T3 - T1).toNat, by omega, by omega, by omega, by omega, by omega, by omega, by omega, by omega, ?_, ?_⟩
    · simp only [Prod.mk.injEq]; omega
    · rw [hf]; simp only [Prod.mk.injEq]; omega
  · left
    have hok : okR (toQ W H q dx dy).1 (toQ W H q dx dy).2.1 (toQ W H q dx dy).2.2.1 (toQ W H q dx dy).2.2.2 = false := by
      cases e : okR (toQ W H q dx dy).1 (toQ W H q dx dy).2.1 (toQ W H q dx dy).2.2.1 (toQ W H q dx dy).2.2.2 with
      | false => rfl
      | true => rw [ok_iff, hts.1, hts.2.2.1] at e; exact absurd e ht
    refine ⟨hok, fun x y => ?_⟩
    rw [← inR'_nf htn]
    unfold inR'
    rw [decide_eq_false]
    omega
end Go.Proofs.Ytkpamofamcndnaa
namespace Go.Proofs.Ytkpamofamcndnaa
open Go.RowKit Go.Shelf
set_option linter.unusedSimpArgs false
set_option linter.unusedVariables false
-- below_from_drew
attribute [local go_sem] ov_cell_same ov_cell_other ov_frozen_same ov_frozen_other ov_size ov_setCell_same ov_setCell_other cell_alloc_old frozen_alloc_old setCell_alloc_old old_alloc old_ov old_drew old_drewN old_setCell
attribute [local go_sem ↓] run_max2 run_min2 eql_rect eq_nil8
theorem move_val (q : RectQ) (x y : Int) (w : World) : Calls Try.prog 34 #[rectVal q, .int .i64 x, .int .i64 y] w fun e w' => e = .returned (rectVal (mvQ x y q)) ∧ Below w.heap.size w w' := move_any _ _ _ _ x y w
/-- Pixels copied into a row. -/
theorem ImgAt.copied {w : World} {L : ImgL} {f : Nat → Nat → Int} {i b o n : Nat} {cur : Array Value} {g : Nat → Int} (h : ImgAt w L f) (h0 : 0 < L.W) (hi : i < L.H) (hb : L.rk i = some ⟨b, 0, none⟩) (hcur : Has w b cur 5) (hcc : ∀ j, j < L.W → cur[j]? = some (.int .u8 (f i j))) (ho : o + n ≤ L.W) (hr : ∀ x, x < n → 0 ≤ g x ∧ g x ≤ 255) :
    ImgAt (w.setRow b (cur.toList.take o ++ pixV n g ++ cur.toList.drop (o + (pixV n g).length)).toArray) L (fun y x => if y = i ∧ o ≤ x ∧ x < o + n then g (x - o) else f y x) ∧ ButS L.S w.heap.size w (w.setRow b (cur.toList.take o ++ pixV n g ++ cur.toList.drop (o + (pixV n g).length)).toArray) := by
  have hsz : L.W ≤ cur.size := by
    have := hcc (L.W - 1) (by omega)
    rcases Nat.lt_or_ge (L.W - 1) cur.size with q | q
    · omega
    · rw [Array.getElem?_eq_none q] at this; cases this
  have hbut : ButS (fun k => k = b) w.heap.size w (w.setRow b (cur.toList.take o ++ pixV n g ++ cur.toList.drop (o + (pixV n g).length)).toArray) :=
    ⟨rfl, rfl, rfl, by simp [World.setRow], fun k hk hn => setRow_other w b k _ hn⟩
  obtain ⟨h1, h2⟩ := h.rowed (g := fun x => if o ≤ x ∧ x < o + n then g (x - o) else f i x) h0 hi hb hbut (setRow_heap w b cur _ _ _ hcur) (fun j hj => by
    rw [pixV_len]
    show (List.toArray _)[j]? = _
    rw [List.getElem?_toArray]
    have hlt : (List.take o cur.toList).length = o := by rw [List.length_take, Array.length_toList]; omega
    by_cases c1 : j < o
    · rw [List.getElem?_append_left (by rw [List.length_append, hlt]; omega), List.getElem?_append_left (by omega), List.getElem?_take_of_lt c1, Array.getElem?_toList, hcc j hj, if_neg (by omega)]
    · by_cases c2 : j < o + n
      · rw [List.getElem?_append_left (by rw [List.length_append, hlt, pixV_len]; omega), List.getElem?_append_right (by omega), hlt, pixV_get (by omega), if_pos (by omega)]
      · rw [List.getElem?_append_right (by rw [List.length_append, hlt, pixV_len]; omega), List.length_append, hlt, pixV_len, List.getElem?_drop, Array.getElem?_toList, show o + n + (j - (o + n)) = j by omega, hcc j hj, if_neg (by omega)]) (fun j hj => by
    show 0 ≤ (if o ≤ j ∧ j < o + n then g (j - o) else f i j) ∧ _ ≤ _
    by_cases c : o ≤ j ∧ j < o + n
    · rw [if_pos c]; exact hr (j - o) (by omega)
    · rw [if_neg c]; exact h.rng i j hi hj)
  refine ⟨h1.congr (fun y x hy hx => ?_), h2⟩
  by_cases e : y = i
  · subst e
    by_cases c : o ≤ x ∧ x < o + n
    · simp [c]
    · rw [if_pos rfl, if_neg c, if_neg (by omega)]
  · rw [if_neg e, if_neg (by omega)]
/-- Copied so far. -/
def copyF (s0 s1 t0 t1 n j : Nat) (f : Nat → Nat → Int) : Nat → Nat → Int := fun y x => if t1 ≤ y ∧ y < t1 + j ∧ t0 ≤ x ∧ x < t0 + n then f (s1 + (y - t1)) (s0 + (x - t0)) else f y x
theorem copyF_zero {s0 s1 t0 t1 n : Nat} {f : Nat → Nat → Int} : copyF s0 s1 t0 t1 n 0 f = f := by
  funext y x; unfold copyF; rw [if_neg (by omega)]
theorem copyF_succ {s0 s1 t0 t1 n j : Nat} {f : Nat → Nat → Int} (y x : Nat) : (if y = t1 + j ∧ t0 ≤ x ∧ x < t0 + n then f (s1 + j) (s0 + (x - t0)) else copyF s0 s1 t0 t1 n j f y x) = copyF s0 s1 t0 t1 n (j + 1) f y x := by
  unfold copyF
  by_cases c : y = t1 + j ∧ t0 ≤ x ∧ x < t0 + n
  · rw [if_pos c, if_pos (by omega), show y - t1 = j by omega]
  · rw [if_neg c]
    by_cases c2 : t1 ≤ y ∧ y < t1 + j ∧ t0 ≤ x ∧ x < t0 + n
    · rw [if_pos c2, if_pos (by omega)]
    · rw [if_neg c2, if_neg (by omega)]
/-- Where Move copies. -/
def CpI (Z : World) (L : ImgL) (s0 s1 t0 t1 n m : Nat) (f : Nat → Nat → Int) (iv : Value) (wr : World) : Prop :=
  ∃ j : Nat, iv = .int .i64 j ∧ j ≤ m ∧ ImgAt wr L (copyF s0 s1 t0 t1 n j f) ∧ ButS L.S Z.heap.size Z wr
/-- Where Move puts rows aside. -/
def LnI (X : World) (n m s0 s1 : Nat) (f : Nat → Nat → Int) (sv yv : Value) (wr : World) : Prop :=
  ∃ (y k : Nat) (al : Option Addr) (ca : Nat) (rk : Nat → Option Addr) (ck : Nat → Nat), s1 + k = y ∧ yv = .int .i64 (y : Int) ∧ sv = .slice al k ca ∧ k ≤ m ∧ Lns wr X.heap.size n al ca k rk ck (fun j i => f (s1 + j) (s0 + i)) ∧ Below X.heap.size X wr
set_option maxRecDepth 100000 in
set_option maxHeartbeats 8000000 in
theorem move8_any (L : ImgL) (f : Nat → Nat → Int) (q : RectQ) (dx dy : Int) (w : World) (h : ImgAt w L f) (hx : -5000 ≤ dx ∧ dx ≤ 5000) (hy : -5000 ≤ dy ∧ dy ≤ 5000) :
    Calls Try.prog 40 #[ptrTo L.p, rectVal q, .int .i64 dx, .int .i64 dy] w fun e w' => e = .returned (.tuple #[]) ∧ ImgAt w' L (moveF L.W L.H q dx dy f) ∧ ButS L.S w.heap.size w w' := by
  obtain ⟨i0, hi0, hz0, hz1, hz2⟩ := info_parts infoS8
  have hsm := h.small
  have hnum := move_nums (q := q) (dx := dx) (dy := dy) hsm hx hy
  have hwq := inQ_whole hsm
  have HA := Lib.hid h
  clear h
  obtain ⟨Wq, hWq⟩ : ∃ v, wholeQ L.W L.H = v := ⟨_, rfl⟩
  obtain ⟨C, hC⟩ : ∃ v, andQ q Wq = v := ⟨_, rfl⟩
  obtain ⟨M, hM⟩ : ∃ v, mvQ dx dy C = v := ⟨_, rfl⟩
  obtain ⟨T, hT⟩ : ∃ v, toQ L.W L.H q dx dy = v := ⟨_, rfl⟩
  have hT2 : andQ M C = T := by rw [← hT, ← hM, ← hC, ← hWq]; rfl
  have HMF := Lib.hid (show moveF L.W L.H q dx dy f = fun (y x : Nat) => if hasQ T x y then f ((y : Int) - dy).toNat ((x : Int) - dx).toNat else f y x from by rw [← hT]; rfl)
  rw [hT] at hnum
  have HWH := Lib.hid (fun (u : World) (hu : Below w.heap.size w u) => whole_any L f u (HA.out.below hu) Wq hWq)
  have HA1 := Lib.hid (fun u => and_val q Wq u)
  have HM1 := Lib.hid (fun u => move_val C dx dy u)
  have HA2 := Lib.hid (fun u => and_val M C u)
  have HEM := Lib.hid (fun u => empty_any T.1 T.2.1 T.2.2.1 T.2.2.2 u)
  have HM2 := Lib.hid (fun u => move_val T (-dx) (-dy) u)
  rw [hC] at HA1
  rw [hM] at HM1
  rw [hT2] at HA2
  obtain ⟨q0, q1, q2, q3⟩ := q
  obtain ⟨v0, v1, v2, v3⟩ := Wq
  obtain ⟨c0, c1, c2, c3⟩ := C
  obtain ⟨m0, m1, m2, m3⟩ := M
  obtain ⟨t0', t1', t2', t3'⟩ := T
  simp only [rectVal] at HWH HA1 HM1 HA2 HEM HM2 ⊢
  simp only at hnum
  rcases hnum with ⟨hok, hno⟩ | ⟨hok, s0, s1, t0, t1, n, m, hn0, hm0, b1, b2, b3, b4, b5, b6, hTe, hFe⟩
  · rw [hok] at HEM
    have HMF2 : moveF L.W L.H (q0, q1, q2, q3) dx dy f = f := by
      rw [HMF.out]; funext y x; rw [hno x y]; rfl
    rw [HMF2]
    clear HMF HMF2 hno hok hT2 hT hM hC hWq hwq
    go_enter Try.func40, Try.ntmps40
    go_wp2_with fail
    refine region_ord [(0, 0), (1, 0), (2, 1), (3, 1), (4, 2)] (by kernel_rfl) (by kernel_rfl) (fun _ _ d _ _ h => by cases d <;> exact h) (fun hS => ?_)
    (refine wpG_read (v := ?_) rfl (.inl ⟨by rfl, fun wx hbx => ?_⟩) ?_; rotate_left; (focus (obtain ⟨cx0, fx0, zx0⟩ := bk hbx (w.heap.size) (by first | omega | (simp; done) | (simp; omega)); go_simp; (try go_bits); (try with_reducible rfl))); try simp only [Act.put, List.setIfInBounds_toArray, List.set_cons_zero, List.set_cons_succ])
    (refine wpG_read (v := ?_) rfl (.inl ⟨by rfl, fun wx hbx => ?_⟩) ?_; rotate_left; (focus (obtain ⟨cx0, fx0, zx0⟩ := bk hbx (w.heap.size) (by first | omega | (simp; done) | (simp; omega)); go_simp; (try go_bits); (try with_reducible rfl))); try simp only [Act.put, List.setIfInBounds_toArray, List.set_cons_zero, List.set_cons_succ])
    (refine wpG_make rfl (fun K hK => ?_); go_simp; (go_at_call 67; (with_reducible refine (HWH.out _ (by (repeat' (first | (with_reducible exact Below.refl _ _) | (with_reducible assumption) | (with_reducible refine below_from_drew ?_) | (with_reducible refine Below.alloc ?_ ?_ _) | (with_reducible refine Below.drew ?_) | (with_reducible refine below_drewN ?_ _) | (with_reducible refine Below.setCell ?_ ?_ _) | (with_reducible refine below_via ?_ (by assumption) ?_) | (with_reducible refine below_ov ?_ ?_ _ _) | go_size)))).mono ?_); rintro e w1 ⟨rfl, hb⟩; refine Exists.elim (after1 (w := w) (b0 := w.heap.size) (cs0 := ?_) (T0 := ?_) hb ?_ ?_) ?_; rotate_left 2; (focus ((repeat' (first | (with_reducible exact Below.refl _ _) | (with_reducible assumption) | (with_reducible refine below_from_drew ?_) | (with_reducible refine Below.alloc ?_ ?_ _) | (with_reducible refine Below.drew ?_) | (with_reducible refine below_drewN ?_ _) | (with_reducible refine Below.setCell ?_ ?_ _) | (with_reducible refine below_via ?_ (by assumption) ?_) | (with_reducible refine below_ov ?_ ?_ _ _) | go_size)); done)); (focus ((repeat' (first | (with_reducible refine has_drew ?_) | (with_reducible refine has_drewN ?_) | (with_reducible refine has_new ?_; (first | (with_reducible rfl) | omega | (simp; done) | (simp; omega))) | (with_reducible refine has_ov_same ?_; (first | (with_reducible rfl) | omega | (simp; done) | (simp; omega))) | (with_reducible refine has_alloc ?_) | (with_reducible refine has_ov_other ?_ ?_; (focus (first | (with_reducible rfl) | omega | (simp; done) | (simp; omega)))) | (with_reducible assumption) | (with_reducible exact has_below hB (by assumption)))); done)); rintro u1 ⟨rfl, hB, hz, z0, o0⟩; (try simp only [World.size_alloc, World.size_setCell, World.size_drew, ov_size] at hz)); (try simp only []); refine hK _ _ ?_ (fun hS2 => ?_); (focus ((repeat' (first | (with_reducible exact Below.refl _ _) | (with_reducible assumption) | (with_reducible refine below_from_drew ?_) | (with_reducible refine Below.alloc ?_ ?_ _) | (with_reducible refine Below.drew ?_) | (with_reducible refine below_drewN ?_ _) | (with_reducible refine Below.setCell ?_ ?_ _) | (with_reducible refine below_via ?_ (by assumption) ?_) | (with_reducible refine below_ov ?_ ?_ _ _) | go_size)); done)); clear hK K hS; have hS := hS2; clear hS2; (try clear hb); try simp only [Act.put, List.setIfInBounds_toArray, List.set_cons_zero, List.set_cons_succ])
    (refine wpG_make rfl (fun K hK => ?_); go_simp; (go_at_call 32; (with_reducible refine (HA1.out _).mono ?_); rintro e w1 ⟨rfl, hb⟩; refine Exists.elim (after1 (w := w) (b0 := w.heap.size) (cs0 := ?_) (T0 := ?_) hb ?_ ?_) ?_; rotate_left 2; (focus ((repeat' (first | (with_reducible exact Below.refl _ _) | (with_reducible assumption) | (with_reducible refine below_from_drew ?_) | (with_reducible refine Below.alloc ?_ ?_ _) | (with_reducible refine Below.drew ?_) | (with_reducible refine below_drewN ?_ _) | (with_reducible refine Below.setCell ?_ ?_ _) | (with_reducible refine below_via ?_ (by assumption) ?_) | (with_reducible refine below_ov ?_ ?_ _ _) | go_size)); done)); (focus ((repeat' (first | (with_reducible refine has_drew ?_) | (with_reducible refine has_drewN ?_) | (with_reducible refine has_new ?_; (first | (with_reducible rfl) | omega | (simp; done) | (simp; omega))) | (with_reducible refine has_ov_same ?_; (first | (with_reducible rfl) | omega | (simp; done) | (simp; omega))) | (with_reducible refine has_alloc ?_) | (with_reducible refine has_ov_other ?_ ?_; (focus (first | (with_reducible rfl) | omega | (simp; done) | (simp; omega)))) | (with_reducible assumption) | (with_reducible exact has_below hB (by assumption)))); done)); rintro u2 ⟨rfl, hB, hz, z0, o0⟩; (try simp only [World.size_alloc, World.size_setCell, World.size_drew, ov_size] at hz)); (try simp only []); refine hK _ _ ?_ (fun hS2 => ?_); (focus ((repeat' (first | (with_reducible exact Below.refl _ _) | (with_reducible assumption) | (with_reducible refine below_from_drew ?_) | (with_reducible refine Below.alloc ?_ ?_ _) | (with_reducible refine Below.drew ?_) | (with_reducible refine below_drewN ?_ _) | (with_reducible refine Below.setCell ?_ ?_ _) | (with_reducible refine below_via ?_ (by assumption) ?_) | (with_reducible refine below_ov ?_ ?_ _ _) | go_size)); done)); clear hK K hS; have hS := hS2; clear hS2; (try clear hb); try simp only [Act.put, List.setIfInBounds_toArray, List.set_cons_zero, List.set_cons_succ])
    (refine wpG_late rfl (fun K hK => ?_); go_simp; (try simp only []); (try simp only []); refine hK _ _ ?_; clear hK K; try simp only [Act.put, List.setIfInBounds_toArray, List.set_cons_zero, List.set_cons_succ])
    refine wpG_nil ?_
    go_wp2_with fail
    refine region_noise [(0, 0), (1, 0), (2, 0), (4, 0), (3, 1), (5, 1)] [⟨6, 8, #[.int .i64 0, .int .i64 0, .int .i64 0, .int .i64 0], 40⟩] [7] (by kernel_rfl) (by kernel_rfl) (fun s hs o ho a w => by simp only [List.mem_cons, List.not_mem_nil, or_false] at hs; rcases hs with rfl <;> (cases ho; go_simp)) (fun _ _ d _ _ => by cases d <;> exact Iff.rfl) (fun hN => ?_)
    (refine wpGN_read (v := ?_) rfl (.inl ⟨by rfl, fun wx hbx => ?_⟩) ?_; rotate_left; (focus (obtain ⟨cx0, fx0, zx0⟩ := bk hbx (w.heap.size) (by first | omega | (simp; done) | (simp; omega)); go_simp; (try go_bits); (try with_reducible rfl))); try simp only [Act.put, List.setIfInBounds_toArray, List.set_cons_zero, List.set_cons_succ])
    (refine wpGN_read (v := ?_) rfl (.inl ⟨by rfl, fun wx hbx => ?_⟩) ?_; rotate_left; (focus (obtain ⟨cx0, fx0, zx0⟩ := bk hbx (w.heap.size) (by first | omega | (simp; done) | (simp; omega)); go_simp; (try go_bits); (try with_reducible rfl))); try simp only [Act.put, List.setIfInBounds_toArray, List.set_cons_zero, List.set_cons_succ])
    (refine wpGN_read (v := ?_) rfl (.inl ⟨by rfl, fun wx hbx => ?_⟩) ?_; rotate_left; (focus (obtain ⟨cx0, fx0, zx0⟩ := bk hbx (w.heap.size) (by first | omega | (simp; done) | (simp; omega)); go_simp; (try go_bits); (try with_reducible rfl))); try simp only [Act.put, List.setIfInBounds_toArray, List.set_cons_zero, List.set_cons_succ])
    (refine wpGN_read (v := ?_) rfl (.inl ⟨by rfl, fun wx hbx => ?_⟩) ?_; rotate_left; (focus (obtain ⟨cx0, fx0, zx0⟩ := bk hbx (w.heap.size) (by first | omega | (simp; done) | (simp; omega)); go_simp; (try go_bits); (try with_reducible rfl))); try simp only [Act.put, List.setIfInBounds_toArray, List.set_cons_zero, List.set_cons_succ])
    (refine wpGN_make rfl (fun wn hbn K hK => ?_); have hN2 := below_step hN hbn; clear hN hbn; go_simp; (go_at_call 34; (with_reducible refine (HM1.out _).mono ?_); rintro e wm ⟨rfl, hbm⟩; refine hK _ _ hbm ?_; have hN := below_step hN2 hbm; clear hbm); clear hK K hN2; try simp only [Act.put, List.setIfInBounds_toArray, List.set_cons_zero, List.set_cons_succ])
    (refine wpGN_make rfl (fun wn hbn K hK => ?_); have hN2 := below_step hN hbn; clear hN hbn; go_simp; (go_at_call 32; (with_reducible refine (HA2.out _).mono ?_); rintro e wm ⟨rfl, hbm⟩; refine hK _ _ hbm ?_; have hN := below_step hN2 hbm; clear hbm); clear hK K hN2; try simp only [Act.put, List.setIfInBounds_toArray, List.set_cons_zero, List.set_cons_succ])
    refine wpGN_nil (fun wn hbn => ?_); have hN2 := below_step hN hbn; clear hN hbn
    intro p8 hBp8 hHp8 hnp8
    refine Exists.elim (after2 (w := w) (W := wn) (w1 := wn) (b0 := w.heap.size) (cs0 := ?_) (T0 := ?_) (Below.refl _ _) (below_via ?_ hN2 ?_) (has_below hN2 ?_) hHp8) ?_
    rotate_left 2; (focus ((repeat' (first | (with_reducible exact Below.refl _ _) | (with_reducible assumption) | (with_reducible refine below_from_drew ?_) | (with_reducible refine Below.alloc ?_ ?_ _) | (with_reducible refine Below.drew ?_) | (with_reducible refine below_drewN ?_ _) | (with_reducible refine Below.setCell ?_ ?_ _) | (with_reducible refine below_via ?_ (by assumption) ?_) | (with_reducible refine below_ov ?_ ?_ _ _) | go_size)); done)); (focus (go_size)); (focus ((repeat' (first | (with_reducible refine has_drew ?_) | (with_reducible refine has_drewN ?_) | (with_reducible refine has_new ?_; (first | (with_reducible rfl) | omega | (simp; done) | (simp; omega))) | (with_reducible refine has_ov_same ?_; (first | (with_reducible rfl) | omega | (simp; done) | (simp; omega))) | (with_reducible refine has_alloc ?_) | (with_reducible refine has_ov_other ?_ ?_; (focus (first | (with_reducible rfl) | omega | (simp; done) | (simp; omega)))) | (with_reducible assumption) | (with_reducible exact has_below hB (by assumption)))); done)); rintro u3 ⟨hwu, hB, hz, z0, o0, zp8, op8⟩
    simp only [World.size_alloc, World.size_setCell, World.size_drew, ov_size] at hBp8
    simp only [List.mem_cons, List.not_mem_nil, or_false, not_or, not_false_eq_true] at hnp8
    clear hN2 hHp8; subst hwu; (try simp only [World.size_alloc, World.size_setCell, World.size_drew, ov_size] at hz)
    (refine wpL_late rfl (fun K hK => ?_); go_simp; refine hK _ _ ?_; clear hK K; try simp only [Act.put, List.setIfInBounds_toArray, List.set_cons_zero, List.set_cons_succ])
    refine wpL_nil ?_
    go_wp2_with fail
    go_wp2_with (go_at_call 68; (with_reducible refine (HEM.out _).mono ?_); rintro e w1 ⟨rfl, hb⟩; refine Exists.elim (after2 (w := w) (b0 := w.heap.size) (cs0 := ?_) (T0 := ?_) (b1 := p8) (cs1 := ?_) (T1 := ?_) hb ?_ ?_ ?_) ?_; rotate_left 4; (focus ((repeat' (first | (with_reducible exact Below.refl _ _) | (with_reducible assumption) | (with_reducible refine below_from_drew ?_) | (with_reducible refine Below.alloc ?_ ?_ _) | (with_reducible refine Below.drew ?_) | (with_reducible refine below_drewN ?_ _) | (with_reducible refine Below.setCell ?_ ?_ _) | (with_reducible refine below_via ?_ (by assumption) ?_) | (with_reducible refine below_ov ?_ ?_ _ _) | go_size)); done)); (focus ((repeat' (first | (with_reducible refine has_drew ?_) | (with_reducible refine has_drewN ?_) | (with_reducible refine has_new ?_; (first | (with_reducible rfl) | omega | (simp; done) | (simp; omega))) | (with_reducible refine has_ov_same ?_; (first | (with_reducible rfl) | omega | (simp; done) | (simp; omega))) | (with_reducible refine has_alloc ?_) | (with_reducible refine has_ov_other ?_ ?_; (focus (first | (with_reducible rfl) | omega | (simp; done) | (simp; omega)))) | (with_reducible assumption) | (with_reducible exact has_below hB (by assumption)))); done)); (focus ((repeat' (first | (with_reducible refine has_drew ?_) | (with_reducible refine has_drewN ?_) | (with_reducible refine has_new ?_; (first | (with_reducible rfl) | omega | (simp; done) | (simp; omega))) | (with_reducible refine has_ov_same ?_; (first | (with_reducible rfl) | omega | (simp; done) | (simp; omega))) | (with_reducible refine has_alloc ?_) | (with_reducible refine has_ov_other ?_ ?_; (focus (first | (with_reducible rfl) | omega | (simp; done) | (simp; omega)))) | (with_reducible assumption) | (with_reducible exact has_below hB (by assumption)))); done)); rintro u4 ⟨rfl, hB, hz, z0, o0, z1, o1⟩; (try simp only [World.size_alloc, World.size_setCell, World.size_drew, ov_size] at hz))
    refine bodyPost_ret (by simp [results, Try.results40]; try rfl) rfl ?_
    exact ⟨rfl, HA.out.below (by (repeat' (first | (with_reducible exact Below.refl _ _) | (with_reducible assumption) | (with_reducible refine below_from_drew ?_) | (with_reducible refine Below.alloc ?_ ?_ _) | (with_reducible refine Below.drew ?_) | (with_reducible refine below_drewN ?_ _) | (with_reducible refine Below.setCell ?_ ?_ _) | (with_reducible refine below_via ?_ (by assumption) ?_) | (with_reducible refine below_ov ?_ ?_ _ _) | go_size))), ButS.of (by (repeat' (first | (with_reducible exact Below.refl _ _) | (with_reducible assumption) | (with_reducible refine below_from_drew ?_) | (with_reducible refine Below.alloc ?_ ?_ _) | (with_reducible refine Below.drew ?_) | (with_reducible refine below_drewN ?_ _) | (with_reducible refine Below.setCell ?_ ?_ _) | (with_reducible refine below_via ?_ (by assumption) ?_) | (with_reducible refine below_ov ?_ ?_ _ _) | go_size)))⟩
  · rw [hok] at HEM
    obtain ⟨te, hte⟩ : ∃ k, t0 + n = k := ⟨_, rfl⟩
    obtain ⟨tf, htf⟩ : ∃ k, t1 + m = k := ⟨_, rfl⟩
    obtain ⟨se, hse⟩ : ∃ k, s0 + n = k := ⟨_, rfl⟩
    obtain ⟨sf, hsf⟩ : ∃ k, s1 + m = k := ⟨_, rfl⟩
    rw [hte, htf] at hTe
    rw [hse, hsf] at hFe
    rw [hFe] at HM2
    clear hT hT2 hM hC hWq hwq hok
    cases hTe
    simp only [rectVal] at HM2
    have HMF2 := Lib.hid (fun (y x : Nat) => (congrFun (congrFun HMF.out y) x).trans (by rw [show hasQ ((t0 : Int), (t1 : Int), (te : Int), (tf : Int)) (x : Int) (y : Int) = decide (t0 ≤ x ∧ x < t0 + n ∧ t1 ≤ y ∧ y < t1 + m) from by
        rw [← inR'_nf (by unfold NF; simp only; omega)]; unfold inR'; simp only; congr 1; apply propext; omega] : _ = if decide (t0 ≤ x ∧ x < t0 + n ∧ t1 ≤ y ∧ y < t1 + m) = true then f ((y : Int) - dy).toNat ((x : Int) - dx).toNat else f y x))
    clear HMF
    have w1 : wrap64 (-dx) = -dx := by unfold wrap64; omega
    have w2 : wrap64 (-dy) = -dy := by unfold wrap64; omega
    go_enter Try.func40, Try.ntmps40
    go_wp2_with fail
    refine region_ord [(0, 0), (1, 0), (2, 1), (3, 1), (4, 2)] (by kernel_rfl) (by kernel_rfl) (fun _ _ d _ _ h => by cases d <;> exact h) (fun hS => ?_)
    (refine wpG_read (v := ?_) rfl (.inl ⟨by rfl, fun wx hbx => ?_⟩) ?_; rotate_left; (focus (obtain ⟨cx0, fx0, zx0⟩ := bk hbx (w.heap.size) (by first | omega | (simp; done) | (simp; omega)); go_simp; (try go_bits); (try with_reducible rfl))); try simp only [Act.put, List.setIfInBounds_toArray, List.set_cons_zero, List.set_cons_succ])
    (refine wpG_read (v := ?_) rfl (.inl ⟨by rfl, fun wx hbx => ?_⟩) ?_; rotate_left; (focus (obtain ⟨cx0, fx0, zx0⟩ := bk hbx (w.heap.size) (by first | omega | (simp; done) | (simp; omega)); go_simp; (try go_bits); (try with_reducible rfl))); try simp only [Act.put, List.setIfInBounds_toArray, List.set_cons_zero, List.set_cons_succ])
    (refine wpG_make rfl (fun K hK => ?_); go_simp; (go_at_call 67; (with_reducible refine (HWH.out _ (by (repeat' (first | (with_reducible exact Below.refl _ _) | (with_reducible assumption) | (with_reducible refine below_from_drew ?_) | (with_reducible refine Below.alloc ?_ ?_ _) | (with_reducible refine Below.drew ?_) | (with_reducible refine below_drewN ?_ _) | (with_reducible refine Below.setCell ?_ ?_ _) | (with_reducible refine below_via ?_ (by assumption) ?_) | (with_reducible refine below_ov ?_ ?_ _ _) | go_size)))).mono ?_); rintro e w1 ⟨rfl, hb⟩; refine Exists.elim (after1 (w := w) (b0 := w.heap.size) (cs0 := ?_) (T0 := ?_) hb ?_ ?_) ?_; rotate_left 2; (focus ((repeat' (first | (with_reducible exact Below.refl _ _) | (with_reducible assumption) | (with_reducible refine below_from_drew ?_) | (with_reducible refine Below.alloc ?_ ?_ _) | (with_reducible refine Below.drew ?_) | (with_reducible refine below_drewN ?_ _) | (with_reducible refine Below.setCell ?_ ?_ _) | (with_reducible refine below_via ?_ (by assumption) ?_) | (with_reducible refine below_ov ?_ ?_ _ _) | go_size)); done)); (focus ((repeat' (first | (with_reducible refine has_drew ?_) | (with_reducible refine has_drewN ?_) | (with_reducible refine has_new ?_; (first | (with_reducible rfl) | omega | (simp; done) | (simp; omega))) | (with_reducible refine has_ov_same ?_; (first | (with_reducible rfl) | omega | (simp; done) | (simp; omega))) | (with_reducible refine has_alloc ?_) | (with_reducible refine has_ov_other ?_ ?_; (focus (first | (with_reducible rfl) | omega | (simp; done) | (simp; omega)))) | (with_reducible assumption) | (with_reducible exact has_below hB (by assumption)))); done)); rintro u1 ⟨rfl, hB, hz, z0, o0⟩; (try simp only [World.size_alloc, World.size_setCell, World.size_drew, ov_size] at hz)); (try simp only []); refine hK _ _ ?_ (fun hS2 => ?_); (focus ((repeat' (first | (with_reducible exact Below.refl _ _) | (with_reducible assumption) | (with_reducible refine below_from_drew ?_) | (with_reducible refine Below.alloc ?_ ?_ _) | (with_reducible refine Below.drew ?_) | (with_reducible refine below_drewN ?_ _) | (with_reducible refine Below.setCell ?_ ?_ _) | (with_reducible refine below_via ?_ (by assumption) ?_) | (with_reducible refine below_ov ?_ ?_ _ _) | go_size)); done)); clear hK K hS; have hS := hS2; clear hS2; (try clear hb); try simp only [Act.put, List.setIfInBounds_toArray, List.set_cons_zero, List.set_cons_succ])
    (refine wpG_make rfl (fun K hK => ?_); go_simp; (go_at_call 32; (with_reducible refine (HA1.out _).mono ?_); rintro e w1 ⟨rfl, hb⟩; refine Exists.elim (after1 (w := w) (b0 := w.heap.size) (cs0 := ?_) (T0 := ?_) hb ?_ ?_) ?_; rotate_left 2; (focus ((repeat' (first | (with_reducible exact Below.refl _ _) | (with_reducible assumption) | (with_reducible refine below_from_drew ?_) | (with_reducible refine Below.alloc ?_ ?_ _) | (with_reducible refine Below.drew ?_) | (with_reducible refine below_drewN ?_ _) | (with_reducible refine Below.setCell ?_ ?_ _) | (with_reducible refine below_via ?_ (by assumption) ?_) | (with_reducible refine below_ov ?_ ?_ _ _) | go_size)); done)); (focus ((repeat' (first | (with_reducible refine has_drew ?_) | (with_reducible refine has_drewN ?_) | (with_reducible refine has_new ?_; (first | (with_reducible rfl) | omega | (simp; done) | (simp; omega))) | (with_reducible refine has_ov_same ?_; (first | (with_reducible rfl) | omega | (simp; done) | (simp; omega))) | (with_reducible refine has_alloc ?_) | (with_reducible refine has_ov_other ?_ ?_; (focus (first | (with_reducible rfl) | omega | (simp; done) | (simp; omega)))) | (with_reducible assumption) | (with_reducible exact has_below hB (by assumption)))); done)); rintro u2 ⟨rfl, hB, hz, z0, o0⟩; (try simp only [World.size_alloc, World.size_setCell, World.size_drew, ov_size] at hz)); (try simp only []); refine hK _ _ ?_ (fun hS2 => ?_); (focus ((repeat' (first | (with_reducible exact Below.refl _ _) | (with_reducible assumption) | (with_reducible refine below_from_drew ?_) | (with_reducible refine Below.alloc ?_ ?_ _) | (with_reducible refine Below.drew ?_) | (with_reducible refine below_drewN ?_ _) | (with_reducible refine Below.setCell ?_ ?_ _) | (with_reducible refine below_via ?_ (by assumption) ?_) | (with_reducible refine below_ov ?_ ?_ _ _) | go_size)); done)); clear hK K hS; have hS := hS2; clear hS2; (try clear hb); try simp only [Act.put, List.setIfInBounds_toArray, List.set_cons_zero, List.set_cons_succ])
    (refine wpG_late rfl (fun K hK => ?_); go_simp; (try simp only []); (try simp only []); refine hK _ _ ?_; clear hK K; try simp only [Act.put, List.setIfInBounds_toArray, List.set_cons_zero, List.set_cons_succ])
    refine wpG_nil ?_
    go_wp2_with fail
    refine region_noise [(0, 0), (1, 0), (2, 0), (4, 0), (3, 1), (5, 1)] [⟨6, 8, #[.int .i64 0, .int .i64 0, .int .i64 0, .int .i64 0], 40⟩] [7] (by kernel_rfl) (by kernel_rfl) (fun s hs o ho a w => by simp only [List.mem_cons, List.not_mem_nil, or_false] at hs; rcases hs with rfl <;> (cases ho; go_simp)) (fun _ _ d _ _ => by cases d <;> exact Iff.rfl) (fun hN => ?_)
    (refine wpGN_read (v := ?_) rfl (.inl ⟨by rfl, fun wx hbx => ?_⟩) ?_; rotate_left; (focus (obtain ⟨cx0, fx0, zx0⟩ := bk hbx (w.heap.size) (by first | omega | (simp; done) | (simp; omega)); go_simp; (try go_bits); (try with_reducible rfl))); try simp only [Act.put, List.setIfInBounds_toArray, List.set_cons_zero, List.set_cons_succ])
    (refine wpGN_read (v := ?_) rfl (.inl ⟨by rfl, fun wx hbx => ?_⟩) ?_; rotate_left; (focus (obtain ⟨cx0, fx0, zx0⟩ := bk hbx (w.heap.size) (by first | omega | (simp; done) | (simp; omega)); go_simp; (try go_bits); (try with_reducible rfl))); try simp only [Act.put, List.setIfInBounds_toArray, List.set_cons_zero, List.set_cons_succ])
    (refine wpGN_read (v := ?_) rfl (.inl ⟨by rfl, fun wx hbx => ?_⟩) ?_; rotate_left; (focus (obtain ⟨cx0, fx0, zx0⟩ := bk hbx (w.heap.size) (by first | omega | (simp; done) | (simp; omega)); go_simp; (try go_bits); (try with_reducible rfl))); try simp only [Act.put, List.setIfInBounds_toArray, List.set_cons_zero, List.set_cons_succ])
    (refine wpGN_read (v := ?_) rfl (.inl ⟨by rfl, fun wx hbx => ?_⟩) ?_; rotate_left; (focus (obtain ⟨cx0, fx0, zx0⟩ := bk hbx (w.heap.size) (by first | omega | (simp; done) | (simp; omega)); go_simp; (try go_bits); (try with_reducible rfl))); try simp only [Act.put, List.setIfInBounds_toArray, List.set_cons_zero, List.set_cons_succ])
    (refine wpGN_make rfl (fun wn hbn K hK => ?_); have hN2 := below_step hN hbn; clear hN hbn; go_simp; (go_at_call 34; (with_reducible refine (HM1.out _).mono ?_); rintro e wm ⟨rfl, hbm⟩; refine hK _ _ hbm ?_; have hN := below_step hN2 hbm; clear hbm); clear hK K hN2; try simp only [Act.put, List.setIfInBounds_toArray, List.set_cons_zero, List.set_cons_succ])
    (refine wpGN_make rfl (fun wn hbn K hK => ?_); have hN2 := below_step hN hbn; clear hN hbn; go_simp; (go_at_call 32; (with_reducible refine (HA2.out _).mono ?_); rintro e wm ⟨rfl, hbm⟩; refine hK _ _ hbm ?_; have hN := below_step hN2 hbm; clear hbm); clear hK K hN2; try simp only [Act.put, List.setIfInBounds_toArray, List.set_cons_zero, List.set_cons_succ])
    refine wpGN_nil (fun wn hbn => ?_); have hN2 := below_step hN hbn; clear hN hbn
    intro p8 hBp8 hHp8 hnp8
    refine Exists.elim (after2 (w := w) (W := wn) (w1 := wn) (b0 := w.heap.size) (cs0 := ?_) (T0 := ?_) (Below.refl _ _) (below_via ?_ hN2 ?_) (has_below hN2 ?_) hHp8) ?_
    rotate_left 2; (focus ((repeat' (first | (with_reducible exact Below.refl _ _) | (with_reducible assumption) | (with_reducible refine below_from_drew ?_) | (with_reducible refine Below.alloc ?_ ?_ _) | (with_reducible refine Below.drew ?_) | (with_reducible refine below_drewN ?_ _) | (with_reducible refine Below.setCell ?_ ?_ _) | (with_reducible refine below_via ?_ (by assumption) ?_) | (with_reducible refine below_ov ?_ ?_ _ _) | go_size)); done)); (focus (go_size)); (focus ((repeat' (first | (with_reducible refine has_drew ?_) | (with_reducible refine has_drewN ?_) | (with_reducible refine has_new ?_; (first | (with_reducible rfl) | omega | (simp; done) | (simp; omega))) | (with_reducible refine has_ov_same ?_; (first | (with_reducible rfl) | omega | (simp; done) | (simp; omega))) | (with_reducible refine has_alloc ?_) | (with_reducible refine has_ov_other ?_ ?_; (focus (first | (with_reducible rfl) | omega | (simp; done) | (simp; omega)))) | (with_reducible assumption) | (with_reducible exact has_below hB (by assumption)))); done)); rintro u3 ⟨hwu, hB, hz, z0, o0, zp8, op8⟩
    simp only [World.size_alloc, World.size_setCell, World.size_drew, ov_size] at hBp8
    simp only [List.mem_cons, List.not_mem_nil, or_false, not_or, not_false_eq_true] at hnp8
    clear hN2 hHp8; subst hwu; (try simp only [World.size_alloc, World.size_setCell, World.size_drew, ov_size] at hz)
    (refine wpL_late rfl (fun K hK => ?_); go_simp; refine hK _ _ ?_; clear hK K; try simp only [Act.put, List.setIfInBounds_toArray, List.set_cons_zero, List.set_cons_succ])
    refine wpL_nil ?_
    go_wp2_with fail
    go_wp2_with (go_at_call 68; (with_reducible refine (HEM.out _).mono ?_); rintro e w1 ⟨rfl, hb⟩; refine Exists.elim (after2 (w := w) (b0 := w.heap.size) (cs0 := ?_) (T0 := ?_) (b1 := p8) (cs1 := ?_) (T1 := ?_) hb ?_ ?_ ?_) ?_; rotate_left 4; (focus ((repeat' (first | (with_reducible exact Below.refl _ _) | (with_reducible assumption) | (with_reducible refine below_from_drew ?_) | (with_reducible refine Below.alloc ?_ ?_ _) | (with_reducible refine Below.drew ?_) | (with_reducible refine below_drewN ?_ _) | (with_reducible refine Below.setCell ?_ ?_ _) | (with_reducible refine below_via ?_ (by assumption) ?_) | (with_reducible refine below_ov ?_ ?_ _ _) | go_size)); done)); (focus ((repeat' (first | (with_reducible refine has_drew ?_) | (with_reducible refine has_drewN ?_) | (with_reducible refine has_new ?_; (first | (with_reducible rfl) | omega | (simp; done) | (simp; omega))) | (with_reducible refine has_ov_same ?_; (first | (with_reducible rfl) | omega | (simp; done) | (simp; omega))) | (with_reducible refine has_alloc ?_) | (with_reducible refine has_ov_other ?_ ?_; (focus (first | (with_reducible rfl) | omega | (simp; done) | (simp; omega)))) | (with_reducible assumption) | (with_reducible exact has_below hB (by assumption)))); done)); (focus ((repeat' (first | (with_reducible refine has_drew ?_) | (with_reducible refine has_drewN ?_) | (with_reducible refine has_new ?_; (first | (with_reducible rfl) | omega | (simp; done) | (simp; omega))) | (with_reducible refine has_ov_same ?_; (first | (with_reducible rfl) | omega | (simp; done) | (simp; omega))) | (with_reducible refine has_alloc ?_) | (with_reducible refine has_ov_other ?_ ?_; (focus (first | (with_reducible rfl) | omega | (simp; done) | (simp; omega)))) | (with_reducible assumption) | (with_reducible exact has_below hB (by assumption)))); done)); rintro u4 ⟨rfl, hB, hz, z0, o0, z1, o1⟩; (try simp only [World.size_alloc, World.size_setCell, World.size_drew, ov_size] at hz))
    go_wp2_with (go_at_call 34; (with_reducible refine (HM2.out _).mono ?_); rintro e w1 ⟨rfl, hb⟩; refine Exists.elim (after2 (w := w) (b0 := w.heap.size) (cs0 := ?_) (T0 := ?_) (b1 := p8) (cs1 := ?_) (T1 := ?_) hb ?_ ?_ ?_) ?_; rotate_left 4; (focus ((repeat' (first | (with_reducible exact Below.refl _ _) | (with_reducible assumption) | (with_reducible refine below_from_drew ?_) | (with_reducible refine Below.alloc ?_ ?_ _) | (with_reducible refine Below.drew ?_) | (with_reducible refine below_drewN ?_ _) | (with_reducible refine Below.setCell ?_ ?_ _) | (with_reducible refine below_via ?_ (by assumption) ?_) | (with_reducible refine below_ov ?_ ?_ _ _) | go_size)); done)); (focus ((repeat' (first | (with_reducible refine has_drew ?_) | (with_reducible refine has_drewN ?_) | (with_reducible refine has_new ?_; (first | (with_reducible rfl) | omega | (simp; done) | (simp; omega))) | (with_reducible refine has_ov_same ?_; (first | (with_reducible rfl) | omega | (simp; done) | (simp; omega))) | (with_reducible refine has_alloc ?_) | (with_reducible refine has_ov_other ?_ ?_; (focus (first | (with_reducible rfl) | omega | (simp; done) | (simp; omega)))) | (with_reducible assumption) | (with_reducible exact has_below hB (by assumption)))); done)); (focus ((repeat' (first | (with_reducible refine has_drew ?_) | (with_reducible refine has_drewN ?_) | (with_reducible refine has_new ?_; (first | (with_reducible rfl) | omega | (simp; done) | (simp; omega))) | (with_reducible refine has_ov_same ?_; (first | (with_reducible rfl) | omega | (simp; done) | (simp; omega))) | (with_reducible refine has_alloc ?_) | (with_reducible refine has_ov_other ?_ ?_; (focus (first | (with_reducible rfl) | omega | (simp; done) | (simp; omega)))) | (with_reducible assumption) | (with_reducible exact has_below hB (by assumption)))); done)); rintro u5 ⟨rfl, hB, hz, z0, o0, z1, o1⟩; (try simp only [World.size_alloc, World.size_setCell, World.size_drew, ov_size] at hz))
    refine name_world (f := Code.wp _ _ _ _) (fun X hX => ?_)
    have hBX : Below w.heap.size w X := by rw [hX]; (repeat' (first | (with_reducible exact Below.refl _ _) | (with_reducible assumption) | (with_reducible refine below_from_drew ?_) | (with_reducible refine Below.alloc ?_ ?_ _) | (with_reducible refine Below.drew ?_) | (with_reducible refine below_drewN ?_ _) | (with_reducible refine Below.setCell ?_ ?_ _) | (with_reducible refine below_via ?_ (by assumption) ?_) | (with_reducible refine below_ov ?_ ?_ _ _) | go_size))
    obtain ⟨p9, hp9⟩ : ∃ k, u5.heap.size = k := ⟨_, rfl⟩
    have hx8 : Has X p8 #[.int .i64 t0, .int .i64 t1, .int .i64 te, .int .i64 tf] 40 := by rw [hX]; (repeat' (first | (with_reducible refine has_drew ?_) | (with_reducible refine has_drewN ?_) | (with_reducible refine has_new ?_; (first | (with_reducible rfl) | omega | (simp; done) | (simp; omega))) | (with_reducible refine has_ov_same ?_; (first | (with_reducible rfl) | omega | (simp; done) | (simp; omega))) | (with_reducible refine has_alloc ?_) | (with_reducible refine has_ov_other ?_ ?_; (focus (first | (with_reducible rfl) | omega | (simp; done) | (simp; omega)))) | (with_reducible assumption) | (with_reducible exact has_below hB (by assumption))))
    have hx9 : Has X p9 #[.int .i64 s0, .int .i64 s1, .int .i64 se, .int .i64 sf] 40 := by rw [hX, ← hp9]; exact has_new (by simp)
    rw [hp9]
    have HX8 := Lib.hid hx8; have HX9 := Lib.hid hx9; have HBX := Lib.hid hBX
    have HAX := Lib.hid (HA.out.below hBX)
    have hzX : w.heap.size ≤ X.heap.size := hBX.size
    clear hX hx8 hx9 hBX hp9 hB z0 o0 z1 o1 hz hb zp8 op8 hBp8 HA HWH HA1 HM1 HA2 HEM HM2
    obtain rfl : n = se - s0 := by omega
    obtain ⟨p, W, H, ra, cap, rk0, ck0⟩ := L
    simp only at b1 b2 b3 b4 hsm
    obtain ⟨rb, csr, hra, hrb, hrc⟩ := HAX.out.rows (by simp only; omega)
    simp only at hra hrc
    subst hra
    go_loopw [10, 11] (fun sv yv wr => LnI X (se - s0) m s0 s1 f sv yv wr) (fun _ yv _ => sf - (intOf yv).toNat)
    case atStart => exact ⟨s1, 0, none, 0, fun _ => none, fun _ => 0, rfl, rfl, rfl, Nat.zero_le _, Lns.nil, Below.refl _ _⟩
    case round =>
      unfold LnI at hrel
      obtain ⟨y, k, al, ca, rk, ck, hyk, rfl, rfl, hkm, hln, hbe⟩ := hrel
      have hzr := hbe.size
      have q9 := has_below hbe HX9.out
      have e9 := q9.cells; have l9 := q9.lt; have o9 : Old wr p9 := l9
      have HLN := Lib.hid hln; have HB := Lib.hid hbe; have HQ9 := Lib.hid q9
      clear hln hbe q9
      rcases Nat.lt_or_ge k m with c1 | c1
      · have c2 : (y : Int) < sf := by omega
        have c3 : (y : Int) < H := by omega
        have c4 : (0 : Int) ≤ y := by omega
        obtain ⟨b, cs2, hrk, hb2, hbc2⟩ := HAX.out.row y (by simp only; omega) (by simp only; omega)
        simp only at hrk hbc2
        have hck := HAX.out.caps y (by simp only; omega)
        simp only at hck
        have hcr := hrc y (by omega)
        rw [hrk] at hcr
        have d1 : (s0 : Int) ≤ se := by omega
        have d2 : (se : Int) ≤ ck0 y := by omega
        have d3 : (0 : Int) ≤ s0 := by omega
        have dck : ¬ ck0 y = s0 := by omega
        have HIM := Lib.hid (has_below HB.out HAX.out.img)
        have HRB := Lib.hid (has_below HB.out hrb)
        have hneP : (Value.slice al k ca).ownBlock ≠ some p := row_ne HLN.out.own HAX.out.img.lt
        have hne9 : (Value.slice al k ca).ownBlock ≠ some p9 := row_ne HLN.out.own HX9.out.lt
        have hneR : (Value.slice al k ca).ownBlock ≠ some rb := row_ne HLN.out.own hrb.lt
        have HCL := Lib.hid (fun u (hb : Below wr.heap.size wr u) => clone8_any (some ⟨b, s0, none⟩) (se - s0) (ck0 y - s0) (fun i => f y (s0 + i)) u (by omega) (fun _ => by
          have q := has_below hb (has_below HB.out hb2)
          exact ⟨b, s0, rfl, q.lt, fun j hj => by rw [q.cells]; exact hbc2 (s0 + j) (by omega)⟩))
        have HCK := Lib.hid hck
        clear hb2 hbc2 hrk hck
        go_wp2_with fail
        refine region_ordS (S := fun wx => wr.grownBy wx (Value.slice al k ca).ownBlock) (grown_drew (grown_refl _ _)) [(0, 0), (1, 0), (2, 0), (3, 0), (4, 0), (5, 0), (6, 0), (7, 0), (8, 0), (9, 0), (10, 0), (11, 0), (12, 0), (13, 1), (14, 1), (15, 1), (16, 2)] (by kernel_rfl) (by kernel_rfl) (fun _ _ d _ _ h => by cases d <;> exact h) (fun hS => ?_)
        iterate 13
          (refine wpG_read (v := ?_) rfl (.inl ⟨by rfl, fun wx hbx => ?_⟩) ?_; rotate_left; (focus (have qx0 := has_grown hbx HIM.out hneP; have cx0 := qx0.cells; have zx0 := qx0.lt; have fx0 := qx0.frozen; have qx1 := has_grown hbx HQ9.out hne9; have cx1 := qx1.cells; have zx1 := qx1.lt; have fx1 := qx1.frozen; have qx2 := has_grown hbx HRB.out hneR; have cx2 := (qx2.cells y).trans hcr; have zx2 := qx2.lt; have fx2 := qx2.frozen; clear qx0 qx1 qx2; go_simp; (try go_bits); (try with_reducible rfl))); try simp only [Act.put, List.setIfInBounds_toArray, List.set_cons_zero, List.set_cons_succ])
        refine wpG_make rfl (fun K hK => ?_)
        go_simp
        (go_at_call 66; (with_reducible refine (HCL.out _ (by (repeat' (first | (with_reducible exact Below.refl _ _) | (with_reducible assumption) | (with_reducible refine below_from_drew ?_) | (with_reducible refine Below.alloc ?_ ?_ _) | (with_reducible refine Below.drew ?_) | (with_reducible refine below_drewN ?_ _) | (with_reducible refine Below.setCell ?_ ?_ _) | (with_reducible refine below_via ?_ (by assumption) ?_) | (with_reducible refine below_ov ?_ ?_ _ _) | go_size)))).mono ?_); rintro e v1 ⟨a2, c9, rfl, hown2, hb⟩; have hz := hb.size; refine (fun hB => ?_ : Below wr.heap.size wr v1 → _) ?_; rotate_left; (focus ((repeat' (first | (with_reducible exact Below.refl _ _) | (with_reducible assumption) | (with_reducible refine below_from_drew ?_) | (with_reducible refine Below.alloc ?_ ?_ _) | (with_reducible refine Below.drew ?_) | (with_reducible refine below_drewN ?_ _) | (with_reducible refine Below.setCell ?_ ?_ _) | (with_reducible refine below_via ?_ (by assumption) ?_) | (with_reducible refine below_ov ?_ ?_ _ _) | go_size)); done)); (try simp only [World.size_alloc, World.size_setCell, World.size_drew, ov_size] at hz))
        try simp only []
        have hr2 := rowC_owned hown2
        obtain ⟨_, _, e9', h9a, h9b, h9c⟩ := row_reads hown2
        cases e9'
        have h9 : se - s0 ≤ c9 ∧ c9 ≤ 9223372036854775807 := ⟨h9a, h9b⟩
        have hn9 : ∀ b, 0 < se - s0 → a2 = some ⟨b, 0, none⟩ → wr.heap.size ≤ b := fun b h0 e => by
          obtain ⟨g, e', hg, _⟩ := h9c h0
          rw [e] at e'; cases e'
          simpa using hg
        have HR2 := Lib.hid hr2; have HB1 := Lib.hid hB; have HN9 := Lib.hid hn9
        have HOW1 := Lib.hid (row_below hB HLN.out.own)
        clear hown2 hr2 h9a h9b h9c hn9
        refine hK _ _ ?_ (fun hS2 => ?_)
        focus (exact grown_of_below hB)
        clear hK K hS; have hS := hS2; clear hS2 hb hB
        try simp only [Act.put, List.setIfInBounds_toArray, List.set_cons_zero, List.set_cons_succ]
        refine wpG_make rfl (fun K hK => ?_)
        go_simp
        refine hK _ _ ?_ (fun hS2 => ?_)
        focus (exact grown_alloc hS)
        clear hK K hS; have hS := hS2; clear hS2
        try simp only [Act.put, List.setIfInBounds_toArray, List.set_cons_zero, List.set_cons_succ]
        refine wpG_make rfl (fun K hK => ?_)
        have hbs1 : X.heap.size ≤ v1.heap.size := Nat.le_trans hzr HB1.out.size
        refine wp_append_own (P := Try.prog) _ _ _ _ rfl X.heap.size 122 i0 (.slice none 0 0) 1 24 Try.underlying119 hi0 hz0 hz1 hz2 rfl (by decide) _ _ _ rfl (HOW1.out.alloc _) ⟨v1.heap.size, 0, none⟩ 1 1 [.slice a2 (se - s0) c9] rfl rfl (newi_at (by simp)) (one_of rfl) (by unfold maxLen; omega) (by omega) (by simp; omega) ?_
        intro v7 w7 hown7 hgrow7 hnil7
        clear hnil7
        have hg7 := grown_trans hS hgrow7
        refine hK _ _ ?_ (fun hS2 => ?_)
        focus (exact hg7)
        clear hK K hS hS2
        try simp only [Act.put, List.setIfInBounds_toArray, List.set_cons_zero, List.set_cons_succ]
        obtain ⟨al', ca', rfl, _, _⟩ := row_reads hown7
        have hB1 := HB1.out
        have hro : RowC (v1.alloc (.cells #[.slice a2 (se - s0) c9] 122)) a2 (se - s0) (fun i => f (s1 + k) (s0 + i)) := by rw [hyk]; exact HR2.out.below (by (repeat' (first | (with_reducible exact Below.refl _ _) | (with_reducible assumption) | (with_reducible refine below_from_drew ?_) | (with_reducible refine Below.alloc ?_ ?_ _) | (with_reducible refine Below.drew ?_) | (with_reducible refine below_drewN ?_ _) | (with_reducible refine Below.setCell ?_ ?_ _) | (with_reducible refine below_via ?_ (by assumption) ?_) | (with_reducible refine below_ov ?_ ?_ _ _) | go_size)))
        have hst := HLN.out.step (w1 := v1.alloc (.cells #[.slice a2 (se - s0) c9] 122)) hzr HB.out (by (repeat' (first | (with_reducible exact Below.refl _ _) | (with_reducible assumption) | (with_reducible refine below_from_drew ?_) | (with_reducible refine Below.alloc ?_ ?_ _) | (with_reducible refine Below.drew ?_) | (with_reducible refine below_drewN ?_ _) | (with_reducible refine Below.setCell ?_ ?_ _) | (with_reducible refine below_via ?_ (by assumption) ?_) | (with_reducible refine below_ov ?_ ?_ _ _) | go_size))) hro HN9.out h9 hown7 hgrow7
        have HST := Lib.hid hst
        clear hst hown7 hgrow7 hg7 hB1 hro
        refine wpG_late rfl (fun K hK => ?_)
        go_simp
        refine hK _ _ ?_
        clear hK K
        try simp only [Act.put, List.setIfInBounds_toArray, List.set_cons_zero, List.set_cons_succ]
        refine wpG_nil ?_
        go_wp2_with fail
        exact ⟨⟨y + 1, k + 1, _, _, _, _, by omega, by push_cast; rfl, rfl, c1, HST.out.1, HST.out.2⟩, by simp only [intOf]; omega⟩
      · obtain rfl : k = m := by omega
        obtain rfl : y = sf := by omega
        go_wp2_with fail
        clear e9 l9 o9 HQ9 HX9 hFe
        obtain ⟨Z, rfl⟩ : ∃ Z : World, Z = wr := ⟨_, rfl⟩
        have HAZ := Lib.hid (HAX.out.below HB.out)
        have HZ8 := Lib.hid (has_below HB.out HX8.out)
        have HZR := Lib.hid (has_below HB.out hrb)
        obtain ⟨_, _, eL, _, _, hL3⟩ := row_reads HLN.out.own
        cases eL
        obtain ⟨gl, cl, eL2, hgl, hcl⟩ : ∃ gl cl, al = some ⟨gl, 0, none⟩ ∧ Has Z gl cl 122 ∧ ∀ j, j < k → cl[j]? = some (.slice (rk j) (se - s0) (ck j)) := by
          rcases HLN.out.own.2 with ⟨e, h2⟩ | ⟨g, cap', cur, e, hb, hh, hnc, hcm, hcs, ht⟩
          · omega
          · cases e
            refine ⟨g, cur, rfl, hh, fun j hj => ?_⟩
            have q : (cur.toList.take (k * 1))[j]? = some (.slice (rk j) (se - s0) (ck j)) := by rw [ht]; exact rowsV_get hj
            rw [List.getElem?_take_of_lt (by omega), Array.getElem?_toList] at q
            exact q
        subst eL2
        clear hL3
        have HGL := Lib.hid hgl
        have HNS := Lib.hid (show ∀ b, X.heap.size ≤ b → ¬ ImgL.S ⟨p, W, H, some ⟨rb, 0, none⟩, cap, rk0, ck0⟩ b from fun b hb q => by have := HAX.out.S_lt q; omega)
        clear hgl
        go_loopw [58] (fun iv wr => CpI Z ⟨p, W, H, some ⟨rb, 0, none⟩, cap, rk0, ck0⟩ s0 s1 t0 t1 (se - s0) k f iv wr) (fun iv _ => k - (intOf iv).toNat)
        case atStart => exact ⟨0, rfl, Nat.zero_le _, by rw [copyF_zero]; exact HAZ.out, ButS.refl _ _ _⟩
        case round =>
          unfold CpI at hrel
          obtain ⟨j, rfl, hj, him, hbut⟩ := hrel
          have hzq := hbut.size
          rcases Nat.lt_or_ge j k with d1 | d1
          · have d2 : (j : Int) < k := by omega
            have d3 : (0 : Int) ≤ j := by omega
            have q8 := hbut.has HZ8.out HZ8.out.lt (HAZ.out.S_not HZ8.out (by decide))
            have e8 := q8.cells; have l8 := q8.lt; have o8 : Old wr p8 := l8
            have qr := hbut.has HZR.out HZR.out.lt (HAZ.out.S_not HZR.out (by decide))
            have lr := qr.lt; have or : Old wr rb := lr
            have qg := hbut.has HGL.out HGL.out.lt (HAZ.out.S_not HGL.out (by decide))
            have lg := qg.lt; have og : Old wr gl := lg
            have eg : wr.cell? ⟨gl, j, none⟩ = some _ := (qg.cells j).trans (hcl j d1)
            have qi := him.img
            have ei := qi.cells; have li := qi.lt; have oi : Old wr p := li
            obtain ⟨y2, hy2⟩ : ∃ y2, t1 + j = y2 := ⟨_, rfl⟩
            have hyI : (t1 : Int) + j = y2 := by omega
            have hyH : (y2 : Int) < H := by omega
            have hy0 : (0 : Int) ≤ y2 := by omega
            have er : wr.cell? ⟨rb, y2, none⟩ = some _ := (qr.cells y2).trans (hrc y2 (by omega))
            obtain ⟨b, cur, hrk, hcur, hcc⟩ := him.row y2 (by simp only; omega) (by simp only; omega)
            simp only at hrk hcc
            rw [hrk] at er
            have hck := him.caps y2 (by simp only; omega)
            simp only at hck
            have f1 : (t0 : Int) ≤ te := by omega
            have f2 : (te : Int) ≤ ck0 y2 := by omega
            have f3 : (0 : Int) ≤ t0 := by omega
            have fck : ¬ ck0 y2 = t0 := by omega
            obtain ⟨bl, csl, hbl, hcl1, hcl2⟩ := HLN.out.row j d1 hn0
            rw [hbl] at eg
            have hlw := hbut.has hcl1 hcl1.lt (HNS.out bl (HLN.out.new j bl hn0 d1 hbl))
            have HLW := Lib.hid hlw; have HL2 := Lib.hid hcl2
            have hmin : te - t0 = se - s0 := by omega
            have HMI := Lib.hid hmin
            clear hbl hcl1 hcl2 hlw hmin
            have HIM := Lib.hid him; have HBU := Lib.hid hbut; have HCU := Lib.hid hcur; have HCC := Lib.hid hcc; have HRK := Lib.hid hrk; have HY2 := Lib.hid hy2
            clear him hbut hcur hcc hrk hy2 q8 qr qg qi hck
            go_wp2_with fail
            refine region_ordD [(0, 0), (1, 0), (2, 0), (3, 0), (4, 0), (5, 0), (6, 0), (7, 0), (8, 0), (9, 0), (10, 0), (11, 0), (12, 0), (13, 0), (14, 0), (15, 0), (16, 2)] (by kernel_rfl) (by kernel_rfl) (fun _ _ d _ _ h => by cases d <;> exact h) (fun hS => ?_)
            (refine wpG_read (v := ?_) rfl (.inl ⟨by rfl, fun wx hbx => ?_⟩) ?_; rotate_left; (focus (obtain ⟨cx0, fx0, zx0⟩ := bk hbx (p) (by first | omega | (simp; done) | (simp; omega)); obtain ⟨cx1, fx1, zx1⟩ := bk hbx (rb) (by first | omega | (simp; done) | (simp; omega)); obtain ⟨cx2, fx2, zx2⟩ := bk hbx (p8) (by first | omega | (simp; done) | (simp; omega)); obtain ⟨cx3, fx3, zx3⟩ := bk hbx (gl) (by first | omega | (simp; done) | (simp; omega)); go_simp; (try go_bits); (try with_reducible rfl))); try simp only [Act.put, List.setIfInBounds_toArray, List.set_cons_zero, List.set_cons_succ])
            (refine wpG_read (v := ?_) rfl (.inl ⟨by rfl, fun wx hbx => ?_⟩) ?_; rotate_left; (focus (obtain ⟨cx0, fx0, zx0⟩ := bk hbx (p) (by first | omega | (simp; done) | (simp; omega)); obtain ⟨cx1, fx1, zx1⟩ := bk hbx (rb) (by first | omega | (simp; done) | (simp; omega)); obtain ⟨cx2, fx2, zx2⟩ := bk hbx (p8) (by first | omega | (simp; done) | (simp; omega)); obtain ⟨cx3, fx3, zx3⟩ := bk hbx (gl) (by first | omega | (simp; done) | (simp; omega)); go_simp; (try go_bits); (try with_reducible rfl))); try simp only [Act.put, List.setIfInBounds_toArray, List.set_cons_zero, List.set_cons_succ])
            (refine wpG_read (v := ?_) rfl (.inl ⟨by rfl, fun wx hbx => ?_⟩) ?_; rotate_left; (focus (obtain ⟨cx0, fx0, zx0⟩ := bk hbx (p) (by first | omega | (simp; done) | (simp; omega)); obtain ⟨cx1, fx1, zx1⟩ := bk hbx (rb) (by first | omega | (simp; done) | (simp; omega)); obtain ⟨cx2, fx2, zx2⟩ := bk hbx (p8) (by first | omega | (simp; done) | (simp; omega)); obtain ⟨cx3, fx3, zx3⟩ := bk hbx (gl) (by first | omega | (simp; done) | (simp; omega)); go_simp; (try go_bits); (try with_reducible rfl))); try simp only [Act.put, List.setIfInBounds_toArray, List.set_cons_zero, List.set_cons_succ])
            (refine wpG_read (v := ?_) rfl (.inl ⟨by rfl, fun wx hbx => ?_⟩) ?_; rotate_left; (focus (obtain ⟨cx0, fx0, zx0⟩ := bk hbx (p) (by first | omega | (simp; done) | (simp; omega)); obtain ⟨cx1, fx1, zx1⟩ := bk hbx (rb) (by first | omega | (simp; done) | (simp; omega)); obtain ⟨cx2, fx2, zx2⟩ := bk hbx (p8) (by first | omega | (simp; done) | (simp; omega)); obtain ⟨cx3, fx3, zx3⟩ := bk hbx (gl) (by first | omega | (simp; done) | (simp; omega)); go_simp; (try go_bits); (try with_reducible rfl))); try simp only [Act.put, List.setIfInBounds_toArray, List.set_cons_zero, List.set_cons_succ])
            (refine wpG_read (v := ?_) rfl (.inl ⟨by rfl, fun wx hbx => ?_⟩) ?_; rotate_left; (focus (obtain ⟨cx0, fx0, zx0⟩ := bk hbx (p) (by first | omega | (simp; done) | (simp; omega)); obtain ⟨cx1, fx1, zx1⟩ := bk hbx (rb) (by first | omega | (simp; done) | (simp; omega)); obtain ⟨cx2, fx2, zx2⟩ := bk hbx (p8) (by first | omega | (simp; done) | (simp; omega)); obtain ⟨cx3, fx3, zx3⟩ := bk hbx (gl) (by first | omega | (simp; done) | (simp; omega)); go_simp; (try go_bits); (try with_reducible rfl))); try simp only [Act.put, List.setIfInBounds_toArray, List.set_cons_zero, List.set_cons_succ])
            (refine wpG_read (v := ?_) rfl (.inl ⟨by rfl, fun wx hbx => ?_⟩) ?_; rotate_left; (focus (obtain ⟨cx0, fx0, zx0⟩ := bk hbx (p) (by first | omega | (simp; done) | (simp; omega)); obtain ⟨cx1, fx1, zx1⟩ := bk hbx (rb) (by first | omega | (simp; done) | (simp; omega)); obtain ⟨cx2, fx2, zx2⟩ := bk hbx (p8) (by first | omega | (simp; done) | (simp; omega)); obtain ⟨cx3, fx3, zx3⟩ := bk hbx (gl) (by first | omega | (simp; done) | (simp; omega)); go_simp; (try go_bits); (try with_reducible rfl))); try simp only [Act.put, List.setIfInBounds_toArray, List.set_cons_zero, List.set_cons_succ])
            (refine wpG_read (v := ?_) rfl (.inl ⟨by rfl, fun wx hbx => ?_⟩) ?_; rotate_left; (focus (obtain ⟨cx0, fx0, zx0⟩ := bk hbx (p) (by first | omega | (simp; done) | (simp; omega)); obtain ⟨cx1, fx1, zx1⟩ := bk hbx (rb) (by first | omega | (simp; done) | (simp; omega)); obtain ⟨cx2, fx2, zx2⟩ := bk hbx (p8) (by first | omega | (simp; done) | (simp; omega)); obtain ⟨cx3, fx3, zx3⟩ := bk hbx (gl) (by first | omega | (simp; done) | (simp; omega)); go_simp; (try go_bits); (try with_reducible rfl))); try simp only [Act.put, List.setIfInBounds_toArray, List.set_cons_zero, List.set_cons_succ])
            (refine wpG_read (v := ?_) rfl (.inl ⟨by rfl, fun wx hbx => ?_⟩) ?_; rotate_left; (focus (obtain ⟨cx0, fx0, zx0⟩ := bk hbx (p) (by first | omega | (simp; done) | (simp; omega)); obtain ⟨cx1, fx1, zx1⟩ := bk hbx (rb) (by first | omega | (simp; done) | (simp; omega)); obtain ⟨cx2, fx2, zx2⟩ := bk hbx (p8) (by first | omega | (simp; done) | (simp; omega)); obtain ⟨cx3, fx3, zx3⟩ := bk hbx (gl) (by first | omega | (simp; done) | (simp; omega)); go_simp; (try go_bits); (try with_reducible rfl))); try simp only [Act.put, List.setIfInBounds_toArray, List.set_cons_zero, List.set_cons_succ])
            (refine wpG_read (v := ?_) rfl (.inl ⟨by rfl, fun wx hbx => ?_⟩) ?_; rotate_left; (focus (obtain ⟨cx0, fx0, zx0⟩ := bk hbx (p) (by first | omega | (simp; done) | (simp; omega)); obtain ⟨cx1, fx1, zx1⟩ := bk hbx (rb) (by first | omega | (simp; done) | (simp; omega)); obtain ⟨cx2, fx2, zx2⟩ := bk hbx (p8) (by first | omega | (simp; done) | (simp; omega)); obtain ⟨cx3, fx3, zx3⟩ := bk hbx (gl) (by first | omega | (simp; done) | (simp; omega)); go_simp; (try go_bits); (try with_reducible rfl))); try simp only [Act.put, List.setIfInBounds_toArray, List.set_cons_zero, List.set_cons_succ])
            (refine wpG_read (v := ?_) rfl (.inl ⟨by rfl, fun wx hbx => ?_⟩) ?_; rotate_left; (focus (obtain ⟨cx0, fx0, zx0⟩ := bk hbx (p) (by first | omega | (simp; done) | (simp; omega)); obtain ⟨cx1, fx1, zx1⟩ := bk hbx (rb) (by first | omega | (simp; done) | (simp; omega)); obtain ⟨cx2, fx2, zx2⟩ := bk hbx (p8) (by first | omega | (simp; done) | (simp; omega)); obtain ⟨cx3, fx3, zx3⟩ := bk hbx (gl) (by first | omega | (simp; done) | (simp; omega)); go_simp; (try go_bits); (try with_reducible rfl))); try simp only [Act.put, List.setIfInBounds_toArray, List.set_cons_zero, List.set_cons_succ])
            (refine wpG_read (v := ?_) rfl (.inl ⟨by rfl, fun wx hbx => ?_⟩) ?_; rotate_left; (focus (obtain ⟨cx0, fx0, zx0⟩ := bk hbx (p) (by first | omega | (simp; done) | (simp; omega)); obtain ⟨cx1, fx1, zx1⟩ := bk hbx (rb) (by first | omega | (simp; done) | (simp; omega)); obtain ⟨cx2, fx2, zx2⟩ := bk hbx (p8) (by first | omega | (simp; done) | (simp; omega)); obtain ⟨cx3, fx3, zx3⟩ := bk hbx (gl) (by first | omega | (simp; done) | (simp; omega)); go_simp; (try go_bits); (try with_reducible rfl))); try simp only [Act.put, List.setIfInBounds_toArray, List.set_cons_zero, List.set_cons_succ])
            (refine wpG_read (v := ?_) rfl (.inl ⟨by rfl, fun wx hbx => ?_⟩) ?_; rotate_left; (focus (obtain ⟨cx0, fx0, zx0⟩ := bk hbx (p) (by first | omega | (simp; done) | (simp; omega)); obtain ⟨cx1, fx1, zx1⟩ := bk hbx (rb) (by first | omega | (simp; done) | (simp; omega)); obtain ⟨cx2, fx2, zx2⟩ := bk hbx (p8) (by first | omega | (simp; done) | (simp; omega)); obtain ⟨cx3, fx3, zx3⟩ := bk hbx (gl) (by first | omega | (simp; done) | (simp; omega)); go_simp; (try go_bits); (try with_reducible rfl))); try simp only [Act.put, List.setIfInBounds_toArray, List.set_cons_zero, List.set_cons_succ])
            (refine wpG_read (v := ?_) rfl (.inl ⟨by rfl, fun wx hbx => ?_⟩) ?_; rotate_left; (focus (obtain ⟨cx0, fx0, zx0⟩ := bk hbx (p) (by first | omega | (simp; done) | (simp; omega)); obtain ⟨cx1, fx1, zx1⟩ := bk hbx (rb) (by first | omega | (simp; done) | (simp; omega)); obtain ⟨cx2, fx2, zx2⟩ := bk hbx (p8) (by first | omega | (simp; done) | (simp; omega)); obtain ⟨cx3, fx3, zx3⟩ := bk hbx (gl) (by first | omega | (simp; done) | (simp; omega)); go_simp; (try go_bits); (try with_reducible rfl))); try simp only [Act.put, List.setIfInBounds_toArray, List.set_cons_zero, List.set_cons_succ])
            (refine wpG_read (v := ?_) rfl (.inl ⟨by rfl, fun wx hbx => ?_⟩) ?_; rotate_left; (focus (obtain ⟨cx0, fx0, zx0⟩ := bk hbx (p) (by first | omega | (simp; done) | (simp; omega)); obtain ⟨cx1, fx1, zx1⟩ := bk hbx (rb) (by first | omega | (simp; done) | (simp; omega)); obtain ⟨cx2, fx2, zx2⟩ := bk hbx (p8) (by first | omega | (simp; done) | (simp; omega)); obtain ⟨cx3, fx3, zx3⟩ := bk hbx (gl) (by first | omega | (simp; done) | (simp; omega)); go_simp; (try go_bits); (try with_reducible rfl))); try simp only [Act.put, List.setIfInBounds_toArray, List.set_cons_zero, List.set_cons_succ])
            (refine wpG_read (v := ?_) rfl (.inl ⟨by rfl, fun wx hbx => ?_⟩) ?_; rotate_left; (focus (obtain ⟨cx0, fx0, zx0⟩ := bk hbx (p) (by first | omega | (simp; done) | (simp; omega)); obtain ⟨cx1, fx1, zx1⟩ := bk hbx (rb) (by first | omega | (simp; done) | (simp; omega)); obtain ⟨cx2, fx2, zx2⟩ := bk hbx (p8) (by first | omega | (simp; done) | (simp; omega)); obtain ⟨cx3, fx3, zx3⟩ := bk hbx (gl) (by first | omega | (simp; done) | (simp; omega)); go_simp; (try go_bits); (try with_reducible rfl))); try simp only [Act.put, List.setIfInBounds_toArray, List.set_cons_zero, List.set_cons_succ])
            (refine wpG_read (v := ?_) rfl (.inl ⟨by rfl, fun wx hbx => ?_⟩) ?_; rotate_left; (focus (obtain ⟨cx0, fx0, zx0⟩ := bk hbx (p) (by first | omega | (simp; done) | (simp; omega)); obtain ⟨cx1, fx1, zx1⟩ := bk hbx (rb) (by first | omega | (simp; done) | (simp; omega)); obtain ⟨cx2, fx2, zx2⟩ := bk hbx (p8) (by first | omega | (simp; done) | (simp; omega)); obtain ⟨cx3, fx3, zx3⟩ := bk hbx (gl) (by first | omega | (simp; done) | (simp; omega)); go_simp; (try go_bits); (try with_reducible rfl))); try simp only [Act.put, List.setIfInBounds_toArray, List.set_cons_zero, List.set_cons_succ])
            have hcsz : W ≤ cur.size := by
              have := HCC.out (W - 1) (by omega)
              rcases Nat.lt_or_ge (W - 1) cur.size with q | q
              · omega
              · rw [Array.getElem?_eq_none q] at this; cases this
            have hcopy := run_copy_row (P := Try.prog) wr.drew 122 122 3 5 b t0 (te - t0) (ck0 y2 - t0) ⟨bl, 0, none⟩ (se - s0) (ck j) cur 5 (pixV (se - s0) (fun i => f (s1 + j) (s0 + i))) Try.underlying122 (by obtain ⟨i1, hi1, _, hi2, _⟩ := info_parts infoU8; rw [hi1]; simp [hi2]) (has_drew HCU.out) (by rw [pixV_len, HMI.out]; simp) (fun jj v hv => by
                have hjl : jj < se - s0 := by
                  have := (List.getElem?_eq_some_iff.1 hv).1
                  rw [pixV_len] at this; exact this
                rw [pixV_get hjl] at hv
                rw [add_off]
                show wr.cell? _ = _
                rw [HLW.out.cells, HL2.out jj hjl, hv]) (by rw [pixV_len]; omega) (pixV_one _ _)
            have hcd := HIM.out.below (w1 := wr.drew) (by (repeat' (first | (with_reducible exact Below.refl _ _) | (with_reducible assumption) | (with_reducible refine below_from_drew ?_) | (with_reducible refine Below.alloc ?_ ?_ _) | (with_reducible refine Below.drew ?_) | (with_reducible refine below_drewN ?_ _) | (with_reducible refine Below.setCell ?_ ?_ _) | (with_reducible refine below_via ?_ (by assumption) ?_) | (with_reducible refine below_ov ?_ ?_ _ _) | go_size)))
            have hcp := hcd.copied (i := y2) (b := b) (o := t0) (n := se - s0) (cur := cur) (g := fun i => f (s1 + j) (s0 + i)) (by simp only; omega) (by simp only; omega) HRK.out (has_drew HCU.out) HCC.out (by simp only; omega) (fun x hx => HAX.out.rng _ _ (by simp only; omega) (by simp only; omega))
            have HCP := Lib.hid hcp
            clear hcd hcp
            refine wpG_late rfl (fun K hK => ?_)
            refine Lib.wp_copy_run _ (.tmp 77) (.tmp 78) 122 122 rfl _ _ rfl rfl hcopy ?_
            clear hcopy
            refine hK _ _ ?_
            clear hK K
            refine wpG_nil ?_
            have hfin := And.intro (HCP.out.1.congr (g := copyF s0 s1 t0 t1 (se - s0) (j + 1) f) (fun y x _ _ => by rw [← HY2.out]; exact copyF_succ y x)) (HBU.out.drew.trans (HCP.out.2.less HBU.out.size))
            simp only [List.append_assoc] at hfin
            have HFN := Lib.hid hfin
            clear hfin HCP
            go_wp2_with fail
            exact ⟨⟨j + 1, by push_cast; rfl, d1, HFN.out.1, HFN.out.2⟩, by simp only [intOf]; omega⟩
          · obtain rfl : j = k := by omega
            go_wp2_with fail
            go_end0
            refine ⟨rfl, him.congr (fun y x hy hx => ?_), ?_⟩
            · rw [HMF2.out]
              unfold copyF
              simp only [decide_eq_true_eq]
              by_cases c : t1 ≤ y ∧ y < t1 + j ∧ t0 ≤ x ∧ x < t0 + (se - s0)
              · rw [if_pos c, if_pos (by omega), show ((y : Int) - dy).toNat = s1 + (y - t1) by omega, show ((x : Int) - dx).toNat = s0 + (x - t0) by omega]
              · rw [if_neg c, if_neg (by omega)]
            · exact (ButS.of (HBX.out.trans (HB.out.mono hzX))).trans (hbut.less (Nat.le_trans hzX hzr))
end Go.Proofs.Ytkpamofamcndnaa
namespace Go.Proofs.Ytkpamofamcndnaa
open Go.RowKit Go.Shelf
set_option linter.unusedSimpArgs false
set_option linter.unusedVariables false
-- below_from_drew
attribute [local go_sem] ov_cell_same ov_cell_other ov_frozen_same ov_frozen_other ov_size ov_setCell_same ov_setCell_other cell_alloc_old frozen_alloc_old setCell_alloc_old old_alloc old_ov old_drew old_drewN old_setCell
attribute [local go_sem ↓] run_max2 run_min2 eql_rect eq_nil8
def rowL (n : Nat) (g : Nat → Int) : List Int := (List.range n).map g
def imgL (W H : Nat) (f : Nat → Nat → Int) : List (List Int) := (List.range H).map fun i => rowL W (f i)
theorem rowL_eq {n : Nat} {g h : Nat → Int} : rowL n g = rowL n h ↔ ∀ j, j < n → g j = h j := by
  constructor
  · intro e j hj
    have q : (rowL n g)[j]? = (rowL n h)[j]? := by rw [e]
    simpa [rowL, hj] using q
  · intro e
    exact List.map_congr_left fun j hj => e j (List.mem_range.1 hj)
theorem imgL_eq {W H : Nat} {f g : Nat → Nat → Int} : imgL W H f = imgL W H g ↔ ∀ i j, i < H → j < W → f i j = g i j := by
  constructor
  · intro e i j hi hj
    have q : (imgL W H f)[i]? = (imgL W H g)[i]? := by rw [e]
    simp only [imgL, List.getElem?_map, List.getElem?_range hi, Option.map_some, Option.some.injEq] at q
    exact rowL_eq.1 q j hj
  · intro e
    exact List.map_congr_left fun i hi => rowL_eq.2 fun j hj => e i j (List.mem_range.1 hi) hj
set_option maxRecDepth 100000 in
set_option maxHeartbeats 4000000 in
theorem equal8_any (a1 a2 : Option Addr) (n c d : Nat) (g h : Nat → Int) (w : World) (hn : n ≤ 1000000) (h1 : RowC w a1 n g) (h2 : RowC w a2 n h) :
    Calls Try.prog 75 #[.slice a1 n c, .slice a2 n d] w fun e w' => e = .returned (.bool (decide (rowL n g = rowL n h))) ∧ Below w.heap.size w w' := by
  have H1 := Lib.hid h1; have H2 := Lib.hid h2
  clear h1 h2
  go_enter Try.func75, Try.ntmps75
  go_wp2_with fail
  go_loopw [13] (fun iv wr => ∃ i : Nat, iv = .int .i64 (i : Int) ∧ i ≤ n ∧ Below w.heap.size w wr ∧ ∀ j, j < i → g j = h j) (fun iv _ => n - (intOf iv).toNat)
  case atStart => exact ⟨0, rfl, Nat.zero_le _, Below.refl _ _, fun j hj => by omega⟩
  case round =>
    obtain ⟨i, rfl, hi, hbw, heq⟩ := hrel
    have hzr := hbw.size
    have HBW := Lib.hid hbw; have HE := Lib.hid heq
    clear hbw heq
    rcases Nat.lt_or_ge i n with c1 | c1
    · have c2 : (i : Int) < n := by omega
      have c3 : (0 : Int) ≤ (i : Int) := by omega
      obtain ⟨b, cs, rfl, hb, hc⟩ := (H1.out.below HBW.out) (by omega)
      obtain ⟨b', cs', rfl, hb', hc'⟩ := (H2.out.below HBW.out) (by omega)
      have k0 : wr.cell? ⟨b, i, none⟩ = some _ := (hb.cells i).trans (hc i c1)
      have j0 : wr.cell? ⟨b', i, none⟩ = some _ := (hb'.cells i).trans (hc' i c1)
      have hbl := hb.lt; have hbl' := hb'.lt
      have hob : Old wr b := hbl
      have hob' : Old wr b' := hbl'
      clear hb hb' hc hc'
      obtain ⟨x, hx⟩ : ∃ x, g i = x := ⟨_, rfl⟩
      obtain ⟨y, hy⟩ : ∃ y, h i = y := ⟨_, rfl⟩
      rw [hx] at k0
      rw [hy] at j0
      have HX := Lib.hid hx; have HY := Lib.hid hy
      clear hx hy
      by_cases he : x = y
      · have HEQ := Lib.hid he
        go_wp2_with fail
        refine region_ord [(0, 0), (1, 0), (2, 0), (3, 0), (4, 0), (5, 0), (6, 0), (7, 0), (8, 0)] (by kernel_rfl) (by kernel_rfl) (fun _ _ d _ _ h => by cases d <;> exact h) (fun hS => ?_)
        (refine wpG_read (v := ?_) rfl (.inl ⟨by rfl, fun wx hbx => ?_⟩) ?_; rotate_left; (focus (obtain ⟨cx0, fx0, zx0⟩ := bk hbx (b) (by first | omega | (simp; done) | (simp; omega)); obtain ⟨cx1, fx1, zx1⟩ := bk hbx (b') (by first | omega | (simp; done) | (simp; omega)); go_simp; (try go_bits); (try with_reducible rfl))); try simp only [Act.put, List.setIfInBounds_toArray, List.set_cons_zero, List.set_cons_succ])
        (refine wpG_read (v := ?_) rfl (.inl ⟨by rfl, fun wx hbx => ?_⟩) ?_; rotate_left; (focus (obtain ⟨cx0, fx0, zx0⟩ := bk hbx (b) (by first | omega | (simp; done) | (simp; omega)); obtain ⟨cx1, fx1, zx1⟩ := bk hbx (b') (by first | omega | (simp; done) | (simp; omega)); go_simp; (try go_bits); (try with_reducible rfl))); try simp only [Act.put, List.setIfInBounds_toArray, List.set_cons_zero, List.set_cons_succ])
        (refine wpG_read (v := ?_) rfl (.inl ⟨by rfl, fun wx hbx => ?_⟩) ?_; rotate_left; (focus (obtain ⟨cx0, fx0, zx0⟩ := bk hbx (b) (by first | omega | (simp; done) | (simp; omega)); obtain ⟨cx1, fx1, zx1⟩ := bk hbx (b') (by first | omega | (simp; done) | (simp; omega)); go_simp; (try go_bits); (try with_reducible rfl))); try simp only [Act.put, List.setIfInBounds_toArray, List.set_cons_zero, List.set_cons_succ])
        (refine wpG_read (v := ?_) rfl (.inl ⟨by rfl, fun wx hbx => ?_⟩) ?_; rotate_left; (focus (obtain ⟨cx0, fx0, zx0⟩ := bk hbx (b) (by first | omega | (simp; done) | (simp; omega)); obtain ⟨cx1, fx1, zx1⟩ := bk hbx (b') (by first | omega | (simp; done) | (simp; omega)); go_simp; (try go_bits); (try with_reducible rfl))); try simp only [Act.put, List.setIfInBounds_toArray, List.set_cons_zero, List.set_cons_succ])
        (refine wpG_read (v := ?_) rfl (.inl ⟨by rfl, fun wx hbx => ?_⟩) ?_; rotate_left; (focus (obtain ⟨cx0, fx0, zx0⟩ := bk hbx (b) (by first | omega | (simp; done) | (simp; omega)); obtain ⟨cx1, fx1, zx1⟩ := bk hbx (b') (by first | omega | (simp; done) | (simp; omega)); go_simp; (try go_bits); (try with_reducible rfl))); try simp only [Act.put, List.setIfInBounds_toArray, List.set_cons_zero, List.set_cons_succ])
        (refine wpG_read (v := ?_) rfl (.inl ⟨by rfl, fun wx hbx => ?_⟩) ?_; rotate_left; (focus (obtain ⟨cx0, fx0, zx0⟩ := bk hbx (b) (by first | omega | (simp; done) | (simp; omega)); obtain ⟨cx1, fx1, zx1⟩ := bk hbx (b') (by first | omega | (simp; done) | (simp; omega)); go_simp; (try go_bits); (try with_reducible rfl))); try simp only [Act.put, List.setIfInBounds_toArray, List.set_cons_zero, List.set_cons_succ])
        (refine wpG_read (v := ?_) rfl (.inl ⟨by rfl, fun wx hbx => ?_⟩) ?_; rotate_left; (focus (obtain ⟨cx0, fx0, zx0⟩ := bk hbx (b) (by first | omega | (simp; done) | (simp; omega)); obtain ⟨cx1, fx1, zx1⟩ := bk hbx (b') (by first | omega | (simp; done) | (simp; omega)); go_simp; (try go_bits); (try with_reducible rfl))); try simp only [Act.put, List.setIfInBounds_toArray, List.set_cons_zero, List.set_cons_succ])
        (refine wpG_read (v := ?_) rfl (.inl ⟨by rfl, fun wx hbx => ?_⟩) ?_; rotate_left; (focus (obtain ⟨cx0, fx0, zx0⟩ := bk hbx (b) (by first | omega | (simp; done) | (simp; omega)); obtain ⟨cx1, fx1, zx1⟩ := bk hbx (b') (by first | omega | (simp; done) | (simp; omega)); go_simp; (try go_bits); (try with_reducible rfl))); try simp only [Act.put, List.setIfInBounds_toArray, List.set_cons_zero, List.set_cons_succ])
        (refine wpG_read (v := ?_) rfl (.inl ⟨by rfl, fun wx hbx => ?_⟩) ?_; rotate_left; (focus (obtain ⟨cx0, fx0, zx0⟩ := bk hbx (b) (by first | omega | (simp; done) | (simp; omega)); obtain ⟨cx1, fx1, zx1⟩ := bk hbx (b') (by first | omega | (simp; done) | (simp; omega)); go_simp; (try go_bits); (try with_reducible rfl))); try simp only [Act.put, List.setIfInBounds_toArray, List.set_cons_zero, List.set_cons_succ])
        refine wpG_nil ?_
        go_wp2_with fail
        exact ⟨⟨i + 1, by push_cast; rfl, c1, by have q := HBW.out; (repeat' (first | (with_reducible exact Below.refl _ _) | (with_reducible assumption) | (with_reducible refine below_from_drew ?_) | (with_reducible refine Below.alloc ?_ ?_ _) | (with_reducible refine Below.drew ?_) | (with_reducible refine below_drewN ?_ _) | (with_reducible refine Below.setCell ?_ ?_ _) | (with_reducible refine below_via ?_ (by assumption) ?_) | (with_reducible refine below_ov ?_ ?_ _ _) | go_size)), fun j hj => by
          by_cases e : j = i
          · subst e; rw [HX.out, HY.out]; exact HEQ.out
          · exact HE.out j (by omega)⟩, by simp only [intOf]; omega⟩
      · have hne : decide (rowL n g = rowL n h) = false := by
          rw [decide_eq_false]
          intro e
          exact he (by rw [← HX.out, ← HY.out]; exact rowL_eq.1 e i c1)
        have HNE := Lib.hid hne
        clear hne
        go_wp2_with fail
        refine region_ord [(0, 0), (1, 0), (2, 0), (3, 0), (4, 0), (5, 0), (6, 0), (7, 0), (8, 0)] (by kernel_rfl) (by kernel_rfl) (fun _ _ d _ _ h => by cases d <;> exact h) (fun hS => ?_)
        (refine wpG_read (v := ?_) rfl (.inl ⟨by rfl, fun wx hbx => ?_⟩) ?_; rotate_left; (focus (obtain ⟨cx0, fx0, zx0⟩ := bk hbx (b) (by first | omega | (simp; done) | (simp; omega)); obtain ⟨cx1, fx1, zx1⟩ := bk hbx (b') (by first | omega | (simp; done) | (simp; omega)); go_simp; (try go_bits); (try with_reducible rfl))); try simp only [Act.put, List.setIfInBounds_toArray, List.set_cons_zero, List.set_cons_succ])
        (refine wpG_read (v := ?_) rfl (.inl ⟨by rfl, fun wx hbx => ?_⟩) ?_; rotate_left; (focus (obtain ⟨cx0, fx0, zx0⟩ := bk hbx (b) (by first | omega | (simp; done) | (simp; omega)); obtain ⟨cx1, fx1, zx1⟩ := bk hbx (b') (by first | omega | (simp; done) | (simp; omega)); go_simp; (try go_bits); (try with_reducible rfl))); try simp only [Act.put, List.setIfInBounds_toArray, List.set_cons_zero, List.set_cons_succ])
        (refine wpG_read (v := ?_) rfl (.inl ⟨by rfl, fun wx hbx => ?_⟩) ?_; rotate_left; (focus (obtain ⟨cx0, fx0, zx0⟩ := bk hbx (b) (by first | omega | (simp; done) | (simp; omega)); obtain ⟨cx1, fx1, zx1⟩ := bk hbx (b') (by first | omega | (simp; done) | (simp; omega)); go_simp; (try go_bits); (try with_reducible rfl))); try simp only [Act.put, List.setIfInBounds_toArray, List.set_cons_zero, List.set_cons_succ])
        (refine wpG_read (v := ?_) rfl (.inl ⟨by rfl, fun wx hbx => ?_⟩) ?_; rotate_left; (focus (obtain ⟨cx0, fx0, zx0⟩ := bk hbx (b) (by first | omega | (simp; done) | (simp; omega)); obtain ⟨cx1, fx1, zx1⟩ := bk hbx (b') (by first | omega | (simp; done) | (simp; omega)); go_simp; (try go_bits); (try with_reducible rfl))); try simp only [Act.put, List.setIfInBounds_toArray, List.set_cons_zero, List.set_cons_succ])
        (refine wpG_read (v := ?_) rfl (.inl ⟨by rfl, fun wx hbx => ?_⟩) ?_; rotate_left; (focus (obtain ⟨cx0, fx0, zx0⟩ := bk hbx (b) (by first | omega | (simp; done) | (simp; omega)); obtain ⟨cx1, fx1, zx1⟩ := bk hbx (b') (by first | omega | (simp; done) | (simp; omega)); go_simp; (try go_bits); (try with_reducible rfl))); try simp only [Act.put, List.setIfInBounds_toArray, List.set_cons_zero, List.set_cons_succ])
        (refine wpG_read (v := ?_) rfl (.inl ⟨by rfl, fun wx hbx => ?_⟩) ?_; rotate_left; (focus (obtain ⟨cx0, fx0, zx0⟩ := bk hbx (b) (by first | omega | (simp; done) | (simp; omega)); obtain ⟨cx1, fx1, zx1⟩ := bk hbx (b') (by first | omega | (simp; done) | (simp; omega)); go_simp; (try go_bits); (try with_reducible rfl))); try simp only [Act.put, List.setIfInBounds_toArray, List.set_cons_zero, List.set_cons_succ])
        (refine wpG_read (v := ?_) rfl (.inl ⟨by rfl, fun wx hbx => ?_⟩) ?_; rotate_left; (focus (obtain ⟨cx0, fx0, zx0⟩ := bk hbx (b) (by first | omega | (simp; done) | (simp; omega)); obtain ⟨cx1, fx1, zx1⟩ := bk hbx (b') (by first | omega | (simp; done) | (simp; omega)); go_simp; (try go_bits); (try with_reducible rfl))); try simp only [Act.put, List.setIfInBounds_toArray, List.set_cons_zero, List.set_cons_succ])
        (refine wpG_read (v := ?_) rfl (.inl ⟨by rfl, fun wx hbx => ?_⟩) ?_; rotate_left; (focus (obtain ⟨cx0, fx0, zx0⟩ := bk hbx (b) (by first | omega | (simp; done) | (simp; omega)); obtain ⟨cx1, fx1, zx1⟩ := bk hbx (b') (by first | omega | (simp; done) | (simp; omega)); go_simp; (try go_bits); (try with_reducible rfl))); try simp only [Act.put, List.setIfInBounds_toArray, List.set_cons_zero, List.set_cons_succ])
        (refine wpG_read (v := ?_) rfl (.inl ⟨by rfl, fun wx hbx => ?_⟩) ?_; rotate_left; (focus (obtain ⟨cx0, fx0, zx0⟩ := bk hbx (b) (by first | omega | (simp; done) | (simp; omega)); obtain ⟨cx1, fx1, zx1⟩ := bk hbx (b') (by first | omega | (simp; done) | (simp; omega)); go_simp; (try go_bits); (try with_reducible rfl))); try simp only [Act.put, List.setIfInBounds_toArray, List.set_cons_zero, List.set_cons_succ])
        refine wpG_nil ?_
        go_wp2_with fail
        go_ret
        exact ⟨by rw [HNE.out]; rfl, by have q := HBW.out; (repeat' (first | (with_reducible exact Below.refl _ _) | (with_reducible assumption) | (with_reducible refine below_from_drew ?_) | (with_reducible refine Below.alloc ?_ ?_ _) | (with_reducible refine Below.drew ?_) | (with_reducible refine below_drewN ?_ _) | (with_reducible refine Below.setCell ?_ ?_ _) | (with_reducible refine below_via ?_ (by assumption) ?_) | (with_reducible refine below_ov ?_ ?_ _ _) | go_size))⟩
    · obtain rfl : i = n := by omega
      have he : decide (rowL i g = rowL i h) = true := by rw [decide_eq_true]; exact rowL_eq.2 HE.out
      have HEE := Lib.hid he
      clear he
      go_wp2_with fail
      go_ret
      exact ⟨by rw [HEE.out]; rfl, HBW.out⟩
/-- The rows of an image as a slice. -/
theorem ImgAt.rows_cells {w : World} {L : ImgL} {f : Nat → Nat → Int} (h : ImgAt w L f) (i : Nat) (hi : i < L.H) : ∃ rb, L.ra = some ⟨rb, 0, none⟩ ∧ rb < w.heap.size ∧ w.cell? ⟨rb, i, none⟩ = some (.slice (L.rk i) L.W (L.ck i)) := by
  obtain ⟨rb, cs, e, h1, h2⟩ := h.rows (by omega)
  exact ⟨rb, e, h1.lt, (h1.cells i).trans (h2 i hi)⟩
set_option maxRecDepth 100000 in
set_option maxHeartbeats 4000000 in
theorem eqf8_any (L M : ImgL) (f g : Nat → Nat → Int) (w : World) (hl : ImgAt w L f) (hm : ImgAt w M g) (hw : M.W = L.W) :
    Calls Try.prog 74 #[.slice L.ra L.H L.cap, .slice M.ra M.H M.cap, .func (.func 75) #[] #[]] w fun e w' => e = .returned (.bool (decide (imgL L.W L.H f = imgL L.W M.H g))) ∧ Below w.heap.size w w' := by
  have HLM := Lib.hid hl; have HMM := Lib.hid hm
  have hs := hl.small; have hs' := hm.small
  clear hl hm
  obtain ⟨p, W, H, ra, cap, rk, ck⟩ := L
  obtain ⟨p', W', H', ra', cap', rk', ck'⟩ := M
  simp only at hw hs hs' ⊢
  subst hw
  by_cases hh : H = H'
  · subst hh
    go_enter Try.func74, Try.ntmps74
    go_wp2_with fail
    go_loopw [17] (fun iv wr => ∃ i : Nat, iv = .int .i64 (i : Int) ∧ i ≤ H ∧ Below w.heap.size w wr ∧ ∀ j, j < i → rowL W' (f j) = rowL W' (g j)) (fun iv _ => H - (intOf iv).toNat)
    case atStart => exact ⟨0, rfl, Nat.zero_le _, Below.refl _ _, fun j hj => by omega⟩
    case round =>
      obtain ⟨i, rfl, hi, hbw, heq⟩ := hrel
      have hzr := hbw.size
      have HBW := Lib.hid hbw; have HE := Lib.hid heq
      clear hbw heq
      rcases Nat.lt_or_ge i H with c1 | c1
      · have c2 : (i : Int) < H := by omega
        have c3 : (0 : Int) ≤ (i : Int) := by omega
        have hl := HLM.out.below HBW.out
        have hm := HMM.out.below HBW.out
        obtain ⟨b, e, hbl, k0⟩ := hl.rows_cells i c1
        simp only at e k0
        subst e
        obtain ⟨b', e', hbl', j0⟩ := hm.rows_cells i c1
        simp only at e' j0
        subst e'
        have hob : Old wr b := hbl
        have hob' : Old wr b' := hbl'
        have HEQ := Lib.hid (equal8_any (rk i) (rk' i) W' (ck i) (ck' i) (f i) (g i) wr (by omega) (hl.row i c1) (hm.row i c1))
        clear hl hm
        by_cases he : rowL W' (f i) = rowL W' (g i)
        · have hq := HEQ.out
          rw [decide_eq_true he] at hq
          have HQ := Lib.hid hq; have HEE := Lib.hid he
          clear hq he HEQ
          go_wp2_with (go_at_call 75; (with_reducible refine (HQ.out).mono ?_); rintro e u1 ⟨rfl, hb⟩; have hz := hb.size; refine (fun hB => ?_ : Below wr.heap.size wr u1 → _) ?_; rotate_left; (focus ((repeat' (first | (with_reducible exact Below.refl _ _) | (with_reducible assumption) | (with_reducible refine below_from_drew ?_) | (with_reducible refine Below.alloc ?_ ?_ _) | (with_reducible refine Below.drew ?_) | (with_reducible refine below_drewN ?_ _) | (with_reducible refine Below.setCell ?_ ?_ _) | (with_reducible refine below_via ?_ (by assumption) ?_) | (with_reducible refine below_ov ?_ ?_ _ _) | go_size)); done)); (try simp only [World.size_alloc, World.size_setCell, World.size_drew, ov_size] at hz))
          exact ⟨⟨i + 1, by push_cast; rfl, c1, HBW.out.trans (hB.mono hzr), fun j hj => by
            by_cases e : j = i
            · subst e; exact HEE.out
            · exact HE.out j (by omega)⟩, by simp only [intOf]; omega⟩
        · have hq := HEQ.out
          rw [decide_eq_false he] at hq
          have hne : decide (imgL W' H f = imgL W' H g) = false := by
            rw [decide_eq_false]
            intro e
            exact he (rowL_eq.2 fun j hj => imgL_eq.1 e i j c1 hj)
          have HQ := Lib.hid hq; have HNE := Lib.hid hne
          clear hq he HEQ hne
          go_wp2_with (go_at_call 75; (with_reducible refine (HQ.out).mono ?_); rintro e u1 ⟨rfl, hb⟩; have hz := hb.size; refine (fun hB => ?_ : Below wr.heap.size wr u1 → _) ?_; rotate_left; (focus ((repeat' (first | (with_reducible exact Below.refl _ _) | (with_reducible assumption) | (with_reducible refine below_from_drew ?_) | (with_reducible refine Below.alloc ?_ ?_ _) | (with_reducible refine Below.drew ?_) | (with_reducible refine below_drewN ?_ _) | (with_reducible refine Below.setCell ?_ ?_ _) | (with_reducible refine below_via ?_ (by assumption) ?_) | (with_reducible refine below_ov ?_ ?_ _ _) | go_size)); done)); (try simp only [World.size_alloc, World.size_setCell, World.size_drew, ov_size] at hz))
          go_ret
          exact ⟨by rw [HNE.out]; rfl, HBW.out.trans (hB.mono hzr)⟩
      · obtain rfl : i = H := by omega
        have he : decide (imgL W' i f = imgL W' i g) = true := by
          rw [decide_eq_true]; exact imgL_eq.2 fun a b ha hb => rowL_eq.1 (HE.out a ha) b hb
        have HEE := Lib.hid he
        clear he
        go_wp2_with fail
        go_ret
        exact ⟨by rw [HEE.out]; rfl, HBW.out⟩
  · have hnm' : ¬ (H : Int) = (H' : Int) := by omega
    have he : decide (imgL W' H f = imgL W' H' g) = false := by
      rw [decide_eq_false]; intro e
      exact hh (by simpa [imgL] using congrArg List.length e)
    have HEE := Lib.hid he
    clear he
    go_enter Try.func74, Try.ntmps74
    go_wp2_with fail
    go_ret
    exact ⟨by rw [HEE.out]; rfl, Below.refl _ _⟩
theorem same8_any (L M : ImgL) (f g : Nat → Nat → Int) (w : World) (hl : ImgAt w L f) (hm : ImgAt w M g) :
    Calls Try.prog 47 #[ptrTo L.p, ptrTo M.p] w fun e w' => e = .returned (.bool (decide (L.W = M.W) && decide (imgL L.W L.H f = imgL L.W M.H g))) ∧ Below w.heap.size w w' := by
  have HL := Lib.hid hl; have HM := Lib.hid hm
  have i1 := hl.img; have i2 := hm.img
  have c1 := i1.cells; have l1 := i1.lt; have o1 : Old w L.p := l1
  have c2 := i2.cells; have l2 := i2.lt; have o2 : Old w M.p := l2
  have s1 := hl.small; have s2 := hm.small
  clear hl hm i1 i2
  by_cases hw : M.W = L.W
  · have HE := Lib.hid (fun u (hb : Below w.heap.size w u) => eqf8_any L M f g u (HL.out.below hb) (HM.out.below hb) hw)
    have hw2 : (L.W : Int) = (M.W : Int) := by omega
    have e1 : decide (L.W = M.W) = true := decide_eq_true hw.symm
    have E1 := Lib.hid e1
    rw [hw] at c2
    obtain ⟨p, W, H, ra, cap, rk, ck⟩ := L
    obtain ⟨p', W', H', ra', cap', rk', ck'⟩ := M
    simp only at *
    clear e1 hw2
    have HWE := Lib.hid hw
    clear hw
    go_enter Try.func47, Try.ntmps47
    go_wp2_with fail
    refine region_ord [(0, 0), (1, 0), (2, 0), (3, 0), (4, 0), (5, 0), (6, 0), (7, 0), (8, 0), (9, 0), (10, 0), (11, 0), (12, 0), (13, 0), (14, 0), (15, 0), (16, 0), (17, 0), (18, 1), (19, 0), (20, 0)] (by kernel_rfl) (by kernel_rfl) (fun _ _ d _ _ h => by cases d <;> exact h) (fun hS => ?_)
    (refine wpG_read (v := ?_) rfl (.inl ⟨by rfl, fun wx hbx => ?_⟩) ?_; rotate_left; (focus (obtain ⟨cx0, fx0, zx0⟩ := bk hbx (p) (by first | omega | (simp; done) | (simp; omega)); obtain ⟨cx1, fx1, zx1⟩ := bk hbx (p') (by first | omega | (simp; done) | (simp; omega)); go_simp; (try go_bits); (try with_reducible rfl))); try simp only [Act.put, List.setIfInBounds_toArray, List.set_cons_zero, List.set_cons_succ])
    (refine wpG_read (v := ?_) rfl (.inl ⟨by rfl, fun wx hbx => ?_⟩) ?_; rotate_left; (focus (obtain ⟨cx0, fx0, zx0⟩ := bk hbx (p) (by first | omega | (simp; done) | (simp; omega)); obtain ⟨cx1, fx1, zx1⟩ := bk hbx (p') (by first | omega | (simp; done) | (simp; omega)); go_simp; (try go_bits); (try with_reducible rfl))); try simp only [Act.put, List.setIfInBounds_toArray, List.set_cons_zero, List.set_cons_succ])
    (refine wpG_read (v := ?_) rfl (.inl ⟨by rfl, fun wx hbx => ?_⟩) ?_; rotate_left; (focus (obtain ⟨cx0, fx0, zx0⟩ := bk hbx (p) (by first | omega | (simp; done) | (simp; omega)); obtain ⟨cx1, fx1, zx1⟩ := bk hbx (p') (by first | omega | (simp; done) | (simp; omega)); go_simp; (try go_bits); (try with_reducible rfl))); try simp only [Act.put, List.setIfInBounds_toArray, List.set_cons_zero, List.set_cons_succ])
    (refine wpG_read (v := ?_) rfl (.inl ⟨by rfl, fun wx hbx => ?_⟩) ?_; rotate_left; (focus (obtain ⟨cx0, fx0, zx0⟩ := bk hbx (p) (by first | omega | (simp; done) | (simp; omega)); obtain ⟨cx1, fx1, zx1⟩ := bk hbx (p') (by first | omega | (simp; done) | (simp; omega)); go_simp; (try go_bits); (try with_reducible rfl))); try simp only [Act.put, List.setIfInBounds_toArray, List.set_cons_zero, List.set_cons_succ])
    (refine wpG_read (v := ?_) rfl (.inl ⟨by rfl, fun wx hbx => ?_⟩) ?_; rotate_left; (focus (obtain ⟨cx0, fx0, zx0⟩ := bk hbx (p) (by first | omega | (simp; done) | (simp; omega)); obtain ⟨cx1, fx1, zx1⟩ := bk hbx (p') (by first | omega | (simp; done) | (simp; omega)); go_simp; (try go_bits); (try with_reducible rfl))); try simp only [Act.put, List.setIfInBounds_toArray, List.set_cons_zero, List.set_cons_succ])
    (refine wpG_read (v := ?_) rfl (.inl ⟨by rfl, fun wx hbx => ?_⟩) ?_; rotate_left; (focus (obtain ⟨cx0, fx0, zx0⟩ := bk hbx (p) (by first | omega | (simp; done) | (simp; omega)); obtain ⟨cx1, fx1, zx1⟩ := bk hbx (p') (by first | omega | (simp; done) | (simp; omega)); go_simp; (try go_bits); (try with_reducible rfl))); try simp only [Act.put, List.setIfInBounds_toArray, List.set_cons_zero, List.set_cons_succ])
    (refine wpG_read (v := ?_) rfl (.inl ⟨by rfl, fun wx hbx => ?_⟩) ?_; rotate_left; (focus (obtain ⟨cx0, fx0, zx0⟩ := bk hbx (p) (by first | omega | (simp; done) | (simp; omega)); obtain ⟨cx1, fx1, zx1⟩ := bk hbx (p') (by first | omega | (simp; done) | (simp; omega)); go_simp; (try go_bits); (try with_reducible rfl))); try simp only [Act.put, List.setIfInBounds_toArray, List.set_cons_zero, List.set_cons_succ])
    (refine wpG_read (v := ?_) rfl (.inl ⟨by rfl, fun wx hbx => ?_⟩) ?_; rotate_left; (focus (obtain ⟨cx0, fx0, zx0⟩ := bk hbx (p) (by first | omega | (simp; done) | (simp; omega)); obtain ⟨cx1, fx1, zx1⟩ := bk hbx (p') (by first | omega | (simp; done) | (simp; omega)); go_simp; (try go_bits); (try with_reducible rfl))); try simp only [Act.put, List.setIfInBounds_toArray, List.set_cons_zero, List.set_cons_succ])
    (refine wpG_read (v := ?_) rfl (.inl ⟨by rfl, fun wx hbx => ?_⟩) ?_; rotate_left; (focus (obtain ⟨cx0, fx0, zx0⟩ := bk hbx (p) (by first | omega | (simp; done) | (simp; omega)); obtain ⟨cx1, fx1, zx1⟩ := bk hbx (p') (by first | omega | (simp; done) | (simp; omega)); go_simp; (try go_bits); (try with_reducible rfl))); try simp only [Act.put, List.setIfInBounds_toArray, List.set_cons_zero, List.set_cons_succ])
    (refine wpG_read (v := ?_) rfl (.inl ⟨by rfl, fun wx hbx => ?_⟩) ?_; rotate_left; (focus (obtain ⟨cx0, fx0, zx0⟩ := bk hbx (p) (by first | omega | (simp; done) | (simp; omega)); obtain ⟨cx1, fx1, zx1⟩ := bk hbx (p') (by first | omega | (simp; done) | (simp; omega)); go_simp; (try go_bits); (try with_reducible rfl))); try simp only [Act.put, List.setIfInBounds_toArray, List.set_cons_zero, List.set_cons_succ])
    (first | (refine wpG_pass rfl (by rfl) ?_; simp only [Act.put, List.setIfInBounds_toArray, List.set_cons_zero, List.set_cons_succ]) | (refine wpG_read (v := ?_) rfl (.inl ⟨by rfl, fun wx hbx => ?_⟩) ?_; rotate_left; (focus (obtain ⟨cx0, fx0, zx0⟩ := bk hbx (p) (by first | omega | (simp; done) | (simp; omega)); obtain ⟨cx1, fx1, zx1⟩ := bk hbx (p') (by first | omega | (simp; done) | (simp; omega)); go_simp; (try go_bits); (try with_reducible rfl))); try simp only [Act.put, List.setIfInBounds_toArray, List.set_cons_zero, List.set_cons_succ]))
    (first | (refine wpG_pass rfl (by rfl) ?_; simp only [Act.put, List.setIfInBounds_toArray, List.set_cons_zero, List.set_cons_succ]) | (refine wpG_read (v := ?_) rfl (.inl ⟨by rfl, fun wx hbx => ?_⟩) ?_; rotate_left; (focus (obtain ⟨cx0, fx0, zx0⟩ := bk hbx (p) (by first | omega | (simp; done) | (simp; omega)); obtain ⟨cx1, fx1, zx1⟩ := bk hbx (p') (by first | omega | (simp; done) | (simp; omega)); go_simp; (try go_bits); (try with_reducible rfl))); try simp only [Act.put, List.setIfInBounds_toArray, List.set_cons_zero, List.set_cons_succ]))
    (first | (refine wpG_pass rfl (by rfl) ?_; simp only [Act.put, List.setIfInBounds_toArray, List.set_cons_zero, List.set_cons_succ]) | (refine wpG_read (v := ?_) rfl (.inl ⟨by rfl, fun wx hbx => ?_⟩) ?_; rotate_left; (focus (obtain ⟨cx0, fx0, zx0⟩ := bk hbx (p) (by first | omega | (simp; done) | (simp; omega)); obtain ⟨cx1, fx1, zx1⟩ := bk hbx (p') (by first | omega | (simp; done) | (simp; omega)); go_simp; (try go_bits); (try with_reducible rfl))); try simp only [Act.put, List.setIfInBounds_toArray, List.set_cons_zero, List.set_cons_succ]))
    (first | (refine wpG_pass rfl (by rfl) ?_; simp only [Act.put, List.setIfInBounds_toArray, List.set_cons_zero, List.set_cons_succ]) | (refine wpG_read (v := ?_) rfl (.inl ⟨by rfl, fun wx hbx => ?_⟩) ?_; rotate_left; (focus (obtain ⟨cx0, fx0, zx0⟩ := bk hbx (p) (by first | omega | (simp; done) | (simp; omega)); obtain ⟨cx1, fx1, zx1⟩ := bk hbx (p') (by first | omega | (simp; done) | (simp; omega)); go_simp; (try go_bits); (try with_reducible rfl))); try simp only [Act.put, List.setIfInBounds_toArray, List.set_cons_zero, List.set_cons_succ]))
    (first | (refine wpG_pass rfl (by rfl) ?_; simp only [Act.put, List.setIfInBounds_toArray, List.set_cons_zero, List.set_cons_succ]) | (refine wpG_read (v := ?_) rfl (.inl ⟨by rfl, fun wx hbx => ?_⟩) ?_; rotate_left; (focus (obtain ⟨cx0, fx0, zx0⟩ := bk hbx (p) (by first | omega | (simp; done) | (simp; omega)); obtain ⟨cx1, fx1, zx1⟩ := bk hbx (p') (by first | omega | (simp; done) | (simp; omega)); go_simp; (try go_bits); (try with_reducible rfl))); try simp only [Act.put, List.setIfInBounds_toArray, List.set_cons_zero, List.set_cons_succ]))
    (first | (refine wpG_pass rfl (by rfl) ?_; simp only [Act.put, List.setIfInBounds_toArray, List.set_cons_zero, List.set_cons_succ]) | (refine wpG_read (v := ?_) rfl (.inl ⟨by rfl, fun wx hbx => ?_⟩) ?_; rotate_left; (focus (obtain ⟨cx0, fx0, zx0⟩ := bk hbx (p) (by first | omega | (simp; done) | (simp; omega)); obtain ⟨cx1, fx1, zx1⟩ := bk hbx (p') (by first | omega | (simp; done) | (simp; omega)); go_simp; (try go_bits); (try with_reducible rfl))); try simp only [Act.put, List.setIfInBounds_toArray, List.set_cons_zero, List.set_cons_succ]))
    (first | (refine wpG_pass rfl (by rfl) ?_; simp only [Act.put, List.setIfInBounds_toArray, List.set_cons_zero, List.set_cons_succ]) | (refine wpG_read (v := ?_) rfl (.inl ⟨by rfl, fun wx hbx => ?_⟩) ?_; rotate_left; (focus (obtain ⟨cx0, fx0, zx0⟩ := bk hbx (p) (by first | omega | (simp; done) | (simp; omega)); obtain ⟨cx1, fx1, zx1⟩ := bk hbx (p') (by first | omega | (simp; done) | (simp; omega)); go_simp; (try go_bits); (try with_reducible rfl))); try simp only [Act.put, List.setIfInBounds_toArray, List.set_cons_zero, List.set_cons_succ]))
    (first | (refine wpG_pass rfl (by rfl) ?_; simp only [Act.put, List.setIfInBounds_toArray, List.set_cons_zero, List.set_cons_succ]) | (refine wpG_read (v := ?_) rfl (.inl ⟨by rfl, fun wx hbx => ?_⟩) ?_; rotate_left; (focus (obtain ⟨cx0, fx0, zx0⟩ := bk hbx (p) (by first | omega | (simp; done) | (simp; omega)); obtain ⟨cx1, fx1, zx1⟩ := bk hbx (p') (by first | omega | (simp; done) | (simp; omega)); go_simp; (try go_bits); (try with_reducible rfl))); try simp only [Act.put, List.setIfInBounds_toArray, List.set_cons_zero, List.set_cons_succ]))
    (first | (refine wpG_make rfl (fun K hK => ?_); go_simp; (with_reducible refine hK _ _ ?_ (fun hS2 => ?_)); (focus ((repeat' (first | (with_reducible exact Below.refl _ _) | (with_reducible assumption) | (with_reducible refine below_from_drew ?_) | (with_reducible refine Below.alloc ?_ ?_ _) | (with_reducible refine Below.drew ?_) | (with_reducible refine below_drewN ?_ _) | (with_reducible refine Below.setCell ?_ ?_ _) | (with_reducible refine below_via ?_ (by assumption) ?_) | (with_reducible refine below_ov ?_ ?_ _ _) | go_size)); done)); clear hK K hS; have hS := hS2; clear hS2; try simp only [Act.put, List.setIfInBounds_toArray, List.set_cons_zero, List.set_cons_succ]) | (refine wpG_make rfl (fun K hK => ?_); go_simp; (go_at_call 74; (with_reducible refine (HE.out _ (by (repeat' (first | (with_reducible exact Below.refl _ _) | (with_reducible assumption) | (with_reducible refine below_from_drew ?_) | (with_reducible refine Below.alloc ?_ ?_ _) | (with_reducible refine Below.drew ?_) | (with_reducible refine below_drewN ?_ _) | (with_reducible refine Below.setCell ?_ ?_ _) | (with_reducible refine below_via ?_ (by assumption) ?_) | (with_reducible refine below_ov ?_ ?_ _ _) | go_size)))).mono ?_); rintro e u1 ⟨rfl, hb⟩; have hz := hb.size; refine (fun hB => ?_ : Below w.heap.size w u1 → _) ?_; rotate_left; (focus ((repeat' (first | (with_reducible exact Below.refl _ _) | (with_reducible assumption) | (with_reducible refine below_from_drew ?_) | (with_reducible refine Below.alloc ?_ ?_ _) | (with_reducible refine Below.drew ?_) | (with_reducible refine below_drewN ?_ _) | (with_reducible refine Below.setCell ?_ ?_ _) | (with_reducible refine below_via ?_ (by assumption) ?_) | (with_reducible refine below_ov ?_ ?_ _ _) | go_size)); done)); (try simp only [World.size_alloc, World.size_setCell, World.size_drew, ov_size] at hz)); (try simp only []); refine hK _ _ ?_ (fun hS2 => ?_); (focus ((repeat' (first | (with_reducible exact Below.refl _ _) | (with_reducible assumption) | (with_reducible refine below_from_drew ?_) | (with_reducible refine Below.alloc ?_ ?_ _) | (with_reducible refine Below.drew ?_) | (with_reducible refine below_drewN ?_ _) | (with_reducible refine Below.setCell ?_ ?_ _) | (with_reducible refine below_via ?_ (by assumption) ?_) | (with_reducible refine below_ov ?_ ?_ _ _) | go_size)); done)); clear hK K hS; have hS := hS2; clear hS2; (try clear hb); try simp only [Act.put, List.setIfInBounds_toArray, List.set_cons_zero, List.set_cons_succ]))
    (refine wpG_read (v := ?_) rfl (.inl ⟨by rfl, fun wx hbx => ?_⟩) ?_; rotate_left; (focus (obtain ⟨cx0, fx0, zx0⟩ := bk hbx (p) (by first | omega | (simp; done) | (simp; omega)); obtain ⟨cx1, fx1, zx1⟩ := bk hbx (p') (by first | omega | (simp; done) | (simp; omega)); go_simp; (try go_bits); (try with_reducible rfl))); try simp only [Act.put, List.setIfInBounds_toArray, List.set_cons_zero, List.set_cons_succ])
    (refine wpG_read (v := ?_) rfl (.inl ⟨by rfl, fun wx hbx => ?_⟩) ?_; rotate_left; (focus (obtain ⟨cx0, fx0, zx0⟩ := bk hbx (p) (by first | omega | (simp; done) | (simp; omega)); obtain ⟨cx1, fx1, zx1⟩ := bk hbx (p') (by first | omega | (simp; done) | (simp; omega)); go_simp; (try go_bits); (try with_reducible rfl))); try simp only [Act.put, List.setIfInBounds_toArray, List.set_cons_zero, List.set_cons_succ])
    refine wpG_nil ?_
    go_wp2_with fail
    go_ret
    exact ⟨by rw [E1.out]; simp, by (repeat' (first | (with_reducible exact Below.refl _ _) | (with_reducible assumption) | (with_reducible refine below_from_drew ?_) | (with_reducible refine Below.alloc ?_ ?_ _) | (with_reducible refine Below.drew ?_) | (with_reducible refine below_drewN ?_ _) | (with_reducible refine Below.setCell ?_ ?_ _) | (with_reducible refine below_via ?_ (by assumption) ?_) | (with_reducible refine below_ov ?_ ?_ _ _) | go_size))⟩
  · have hw2 : ¬ (L.W : Int) = (M.W : Int) := by omega
    have hw3 : ((L.W : Int) == (M.W : Int)) = false := by rw [beq_eq_false_iff_ne]; exact hw2
    have e1 : decide (L.W = M.W) = false := decide_eq_false (fun e => hw e.symm)
    have E1 := Lib.hid e1
    obtain ⟨p, W, H, ra, cap, rk, ck⟩ := L
    obtain ⟨p', W', H', ra', cap', rk', ck'⟩ := M
    simp only at *
    clear e1
    go_enter Try.func47, Try.ntmps47
    go_wp2_with fail
    refine region_ord [(0, 0), (1, 0), (2, 0), (3, 0), (4, 0), (5, 0), (6, 0), (7, 0), (8, 0), (9, 0), (10, 0), (11, 0), (12, 0), (13, 0), (14, 0), (15, 0), (16, 0), (17, 0), (18, 1), (19, 0), (20, 0)] (by kernel_rfl) (by kernel_rfl) (fun _ _ d _ _ h => by cases d <;> exact h) (fun hS => ?_)
    (refine wpG_read (v := ?_) rfl (.inl ⟨by rfl, fun wx hbx => ?_⟩) ?_; rotate_left; (focus (obtain ⟨cx0, fx0, zx0⟩ := bk hbx (p) (by first | omega | (simp; done) | (simp; omega)); obtain ⟨cx1, fx1, zx1⟩ := bk hbx (p') (by first | omega | (simp; done) | (simp; omega)); go_simp; (try go_bits); (try with_reducible rfl))); try simp only [Act.put, List.setIfInBounds_toArray, List.set_cons_zero, List.set_cons_succ])
    (refine wpG_read (v := ?_) rfl (.inl ⟨by rfl, fun wx hbx => ?_⟩) ?_; rotate_left; (focus (obtain ⟨cx0, fx0, zx0⟩ := bk hbx (p) (by first | omega | (simp; done) | (simp; omega)); obtain ⟨cx1, fx1, zx1⟩ := bk hbx (p') (by first | omega | (simp; done) | (simp; omega)); go_simp; (try go_bits); (try with_reducible rfl))); try simp only [Act.put, List.setIfInBounds_toArray, List.set_cons_zero, List.set_cons_succ])
    (refine wpG_read (v := ?_) rfl (.inl ⟨by rfl, fun wx hbx => ?_⟩) ?_; rotate_left; (focus (obtain ⟨cx0, fx0, zx0⟩ := bk hbx (p) (by first | omega | (simp; done) | (simp; omega)); obtain ⟨cx1, fx1, zx1⟩ := bk hbx (p') (by first | omega | (simp; done) | (simp; omega)); go_simp; (try go_bits); (try with_reducible rfl))); try simp only [Act.put, List.setIfInBounds_toArray, List.set_cons_zero, List.set_cons_succ])
    (refine wpG_read (v := ?_) rfl (.inl ⟨by rfl, fun wx hbx => ?_⟩) ?_; rotate_left; (focus (obtain ⟨cx0, fx0, zx0⟩ := bk hbx (p) (by first | omega | (simp; done) | (simp; omega)); obtain ⟨cx1, fx1, zx1⟩ := bk hbx (p') (by first | omega | (simp; done) | (simp; omega)); go_simp; (try go_bits); (try with_reducible rfl))); try simp only [Act.put, List.setIfInBounds_toArray, List.set_cons_zero, List.set_cons_succ])
    (refine wpG_read (v := ?_) rfl (.inl ⟨by rfl, fun wx hbx => ?_⟩) ?_; rotate_left; (focus (obtain ⟨cx0, fx0, zx0⟩ := bk hbx (p) (by first | omega | (simp; done) | (simp; omega)); obtain ⟨cx1, fx1, zx1⟩ := bk hbx (p') (by first | omega | (simp; done) | (simp; omega)); go_simp; (try go_bits); (try with_reducible rfl))); try simp only [Act.put, List.setIfInBounds_toArray, List.set_cons_zero, List.set_cons_succ])
    (refine wpG_read (v := ?_) rfl (.inl ⟨by rfl, fun wx hbx => ?_⟩) ?_; rotate_left; (focus (obtain ⟨cx0, fx0, zx0⟩ := bk hbx (p) (by first | omega | (simp; done) | (simp; omega)); obtain ⟨cx1, fx1, zx1⟩ := bk hbx (p') (by first | omega | (simp; done) | (simp; omega)); go_simp; (try go_bits); (try with_reducible rfl))); try simp only [Act.put, List.setIfInBounds_toArray, List.set_cons_zero, List.set_cons_succ])
    (refine wpG_read (v := ?_) rfl (.inl ⟨by rfl, fun wx hbx => ?_⟩) ?_; rotate_left; (focus (obtain ⟨cx0, fx0, zx0⟩ := bk hbx (p) (by first | omega | (simp; done) | (simp; omega)); obtain ⟨cx1, fx1, zx1⟩ := bk hbx (p') (by first | omega | (simp; done) | (simp; omega)); go_simp; (try go_bits); (try with_reducible rfl))); try simp only [Act.put, List.setIfInBounds_toArray, List.set_cons_zero, List.set_cons_succ])
    (refine wpG_read (v := ?_) rfl (.inl ⟨by rfl, fun wx hbx => ?_⟩) ?_; rotate_left; (focus (obtain ⟨cx0, fx0, zx0⟩ := bk hbx (p) (by first | omega | (simp; done) | (simp; omega)); obtain ⟨cx1, fx1, zx1⟩ := bk hbx (p') (by first | omega | (simp; done) | (simp; omega)); go_simp; (try go_bits); (try with_reducible rfl))); try simp only [Act.put, List.setIfInBounds_toArray, List.set_cons_zero, List.set_cons_succ])
    (refine wpG_read (v := ?_) rfl (.inl ⟨by rfl, fun wx hbx => ?_⟩) ?_; rotate_left; (focus (obtain ⟨cx0, fx0, zx0⟩ := bk hbx (p) (by first | omega | (simp; done) | (simp; omega)); obtain ⟨cx1, fx1, zx1⟩ := bk hbx (p') (by first | omega | (simp; done) | (simp; omega)); go_simp; (try go_bits); (try with_reducible rfl))); try simp only [Act.put, List.setIfInBounds_toArray, List.set_cons_zero, List.set_cons_succ])
    (refine wpG_read (v := ?_) rfl (.inl ⟨by rfl, fun wx hbx => ?_⟩) ?_; rotate_left; (focus (obtain ⟨cx0, fx0, zx0⟩ := bk hbx (p) (by first | omega | (simp; done) | (simp; omega)); obtain ⟨cx1, fx1, zx1⟩ := bk hbx (p') (by first | omega | (simp; done) | (simp; omega)); go_simp; (try go_bits); (try with_reducible rfl))); try simp only [Act.put, List.setIfInBounds_toArray, List.set_cons_zero, List.set_cons_succ])
    (first | (refine wpG_pass rfl (by rfl) ?_; simp only [Act.put, List.setIfInBounds_toArray, List.set_cons_zero, List.set_cons_succ]) | (refine wpG_read (v := ?_) rfl (.inl ⟨by rfl, fun wx hbx => ?_⟩) ?_; rotate_left; (focus (obtain ⟨cx0, fx0, zx0⟩ := bk hbx (p) (by first | omega | (simp; done) | (simp; omega)); obtain ⟨cx1, fx1, zx1⟩ := bk hbx (p') (by first | omega | (simp; done) | (simp; omega)); go_simp; (try go_bits); (try with_reducible rfl))); try simp only [Act.put, List.setIfInBounds_toArray, List.set_cons_zero, List.set_cons_succ]))
    (first | (refine wpG_pass rfl (by rfl) ?_; simp only [Act.put, List.setIfInBounds_toArray, List.set_cons_zero, List.set_cons_succ]) | (refine wpG_read (v := ?_) rfl (.inl ⟨by rfl, fun wx hbx => ?_⟩) ?_; rotate_left; (focus (obtain ⟨cx0, fx0, zx0⟩ := bk hbx (p) (by first | omega | (simp; done) | (simp; omega)); obtain ⟨cx1, fx1, zx1⟩ := bk hbx (p') (by first | omega | (simp; done) | (simp; omega)); go_simp; (try go_bits); (try with_reducible rfl))); try simp only [Act.put, List.setIfInBounds_toArray, List.set_cons_zero, List.set_cons_succ]))
    (first | (refine wpG_pass rfl (by rfl) ?_; simp only [Act.put, List.setIfInBounds_toArray, List.set_cons_zero, List.set_cons_succ]) | (refine wpG_read (v := ?_) rfl (.inl ⟨by rfl, fun wx hbx => ?_⟩) ?_; rotate_left; (focus (obtain ⟨cx0, fx0, zx0⟩ := bk hbx (p) (by first | omega | (simp; done) | (simp; omega)); obtain ⟨cx1, fx1, zx1⟩ := bk hbx (p') (by first | omega | (simp; done) | (simp; omega)); go_simp; (try go_bits); (try with_reducible rfl))); try simp only [Act.put, List.setIfInBounds_toArray, List.set_cons_zero, List.set_cons_succ]))
    (first | (refine wpG_pass rfl (by rfl) ?_; simp only [Act.put, List.setIfInBounds_toArray, List.set_cons_zero, List.set_cons_succ]) | (refine wpG_read (v := ?_) rfl (.inl ⟨by rfl, fun wx hbx => ?_⟩) ?_; rotate_left; (focus (obtain ⟨cx0, fx0, zx0⟩ := bk hbx (p) (by first | omega | (simp; done) | (simp; omega)); obtain ⟨cx1, fx1, zx1⟩ := bk hbx (p') (by first | omega | (simp; done) | (simp; omega)); go_simp; (try go_bits); (try with_reducible rfl))); try simp only [Act.put, List.setIfInBounds_toArray, List.set_cons_zero, List.set_cons_succ]))
    (first | (refine wpG_pass rfl (by rfl) ?_; simp only [Act.put, List.setIfInBounds_toArray, List.set_cons_zero, List.set_cons_succ]) | (refine wpG_read (v := ?_) rfl (.inl ⟨by rfl, fun wx hbx => ?_⟩) ?_; rotate_left; (focus (obtain ⟨cx0, fx0, zx0⟩ := bk hbx (p) (by first | omega | (simp; done) | (simp; omega)); obtain ⟨cx1, fx1, zx1⟩ := bk hbx (p') (by first | omega | (simp; done) | (simp; omega)); go_simp; (try go_bits); (try with_reducible rfl))); try simp only [Act.put, List.setIfInBounds_toArray, List.set_cons_zero, List.set_cons_succ]))
    (first | (refine wpG_pass rfl (by rfl) ?_; simp only [Act.put, List.setIfInBounds_toArray, List.set_cons_zero, List.set_cons_succ]) | (refine wpG_read (v := ?_) rfl (.inl ⟨by rfl, fun wx hbx => ?_⟩) ?_; rotate_left; (focus (obtain ⟨cx0, fx0, zx0⟩ := bk hbx (p) (by first | omega | (simp; done) | (simp; omega)); obtain ⟨cx1, fx1, zx1⟩ := bk hbx (p') (by first | omega | (simp; done) | (simp; omega)); go_simp; (try go_bits); (try with_reducible rfl))); try simp only [Act.put, List.setIfInBounds_toArray, List.set_cons_zero, List.set_cons_succ]))
    (first | (refine wpG_pass rfl (by rfl) ?_; simp only [Act.put, List.setIfInBounds_toArray, List.set_cons_zero, List.set_cons_succ]) | (refine wpG_read (v := ?_) rfl (.inl ⟨by rfl, fun wx hbx => ?_⟩) ?_; rotate_left; (focus (obtain ⟨cx0, fx0, zx0⟩ := bk hbx (p) (by first | omega | (simp; done) | (simp; omega)); obtain ⟨cx1, fx1, zx1⟩ := bk hbx (p') (by first | omega | (simp; done) | (simp; omega)); go_simp; (try go_bits); (try with_reducible rfl))); try simp only [Act.put, List.setIfInBounds_toArray, List.set_cons_zero, List.set_cons_succ]))
    (first | (refine wpG_pass rfl (by rfl) ?_; simp only [Act.put, List.setIfInBounds_toArray, List.set_cons_zero, List.set_cons_succ]) | (refine wpG_read (v := ?_) rfl (.inl ⟨by rfl, fun wx hbx => ?_⟩) ?_; rotate_left; (focus (obtain ⟨cx0, fx0, zx0⟩ := bk hbx (p) (by first | omega | (simp; done) | (simp; omega)); obtain ⟨cx1, fx1, zx1⟩ := bk hbx (p') (by first | omega | (simp; done) | (simp; omega)); go_simp; (try go_bits); (try with_reducible rfl))); try simp only [Act.put, List.setIfInBounds_toArray, List.set_cons_zero, List.set_cons_succ]))
    (first | (refine wpG_make rfl (fun K hK => ?_); go_simp; (with_reducible refine hK _ _ ?_ (fun hS2 => ?_)); (focus ((repeat' (first | (with_reducible exact Below.refl _ _) | (with_reducible assumption) | (with_reducible refine below_from_drew ?_) | (with_reducible refine Below.alloc ?_ ?_ _) | (with_reducible refine Below.drew ?_) | (with_reducible refine below_drewN ?_ _) | (with_reducible refine Below.setCell ?_ ?_ _) | (with_reducible refine below_via ?_ (by assumption) ?_) | (with_reducible refine below_ov ?_ ?_ _ _) | go_size)); done)); clear hK K hS; have hS := hS2; clear hS2; try simp only [Act.put, List.setIfInBounds_toArray, List.set_cons_zero, List.set_cons_succ]) | (refine wpG_make rfl (fun K hK => ?_); go_simp; (try simp only []); (try simp only []); refine hK _ _ ?_ (fun hS2 => ?_); (focus ((repeat' (first | (with_reducible exact Below.refl _ _) | (with_reducible assumption) | (with_reducible refine below_from_drew ?_) | (with_reducible refine Below.alloc ?_ ?_ _) | (with_reducible refine Below.drew ?_) | (with_reducible refine below_drewN ?_ _) | (with_reducible refine Below.setCell ?_ ?_ _) | (with_reducible refine below_via ?_ (by assumption) ?_) | (with_reducible refine below_ov ?_ ?_ _ _) | go_size)); done)); clear hK K hS; have hS := hS2; clear hS2; (try clear hb); try simp only [Act.put, List.setIfInBounds_toArray, List.set_cons_zero, List.set_cons_succ]))
    (refine wpG_read (v := ?_) rfl (.inl ⟨by rfl, fun wx hbx => ?_⟩) ?_; rotate_left; (focus (obtain ⟨cx0, fx0, zx0⟩ := bk hbx (p) (by first | omega | (simp; done) | (simp; omega)); obtain ⟨cx1, fx1, zx1⟩ := bk hbx (p') (by first | omega | (simp; done) | (simp; omega)); go_simp; (try go_bits); (try with_reducible rfl))); try simp only [Act.put, List.setIfInBounds_toArray, List.set_cons_zero, List.set_cons_succ])
    (refine wpG_read (v := ?_) rfl (.inl ⟨by rfl, fun wx hbx => ?_⟩) ?_; rotate_left; (focus (obtain ⟨cx0, fx0, zx0⟩ := bk hbx (p) (by first | omega | (simp; done) | (simp; omega)); obtain ⟨cx1, fx1, zx1⟩ := bk hbx (p') (by first | omega | (simp; done) | (simp; omega)); go_simp; (try go_bits); (try with_reducible rfl))); try simp only [Act.put, List.setIfInBounds_toArray, List.set_cons_zero, List.set_cons_succ])
    refine wpG_nil ?_
    go_wp2_with fail
    go_ret
    exact ⟨by rw [E1.out]; simp, by (repeat' (first | (with_reducible exact Below.refl _ _) | (with_reducible assumption) | (with_reducible refine below_from_drew ?_) | (with_reducible refine Below.alloc ?_ ?_ _) | (with_reducible refine Below.drew ?_) | (with_reducible refine below_drewN ?_ _) | (with_reducible refine Below.setCell ?_ ?_ _) | (with_reducible refine below_via ?_ (by assumption) ?_) | (with_reducible refine below_ov ?_ ?_ _ _) | go_size))⟩
theorem same8_nils (w : World) : Calls Try.prog 47 #[.pointer none, .pointer none] w fun e w' => e = .returned (.bool true) ∧ Below w.heap.size w w' := by
  go_enter Try.func47, Try.ntmps47
  go_wp2_with fail
  go_ret
  exact ⟨rfl, by (repeat' (first | (with_reducible exact Below.refl _ _) | (with_reducible assumption) | (with_reducible refine below_from_drew ?_) | (with_reducible refine Below.alloc ?_ ?_ _) | (with_reducible refine Below.drew ?_) | (with_reducible refine below_drewN ?_ _) | (with_reducible refine Below.setCell ?_ ?_ _) | (with_reducible refine below_via ?_ (by assumption) ?_) | (with_reducible refine below_ov ?_ ?_ _ _) | go_size))⟩
theorem same8_nil (p : Nat) (w : World) : Calls Try.prog 47 #[ptrTo p, .pointer none] w fun e w' => e = .returned (.bool false) ∧ Below w.heap.size w w' := by
  go_enter Try.func47, Try.ntmps47
  go_wp2_with fail
  go_ret
  exact ⟨rfl, by (repeat' (first | (with_reducible exact Below.refl _ _) | (with_reducible assumption) | (with_reducible refine below_from_drew ?_) | (with_reducible refine Below.alloc ?_ ?_ _) | (with_reducible refine Below.drew ?_) | (with_reducible refine below_drewN ?_ _) | (with_reducible refine Below.setCell ?_ ?_ _) | (with_reducible refine below_via ?_ (by assumption) ?_) | (with_reducible refine below_ov ?_ ?_ _ _) | go_size))⟩
theorem emp0 (w : World) : Calls Try.prog 68 #[(.agg #[.int .i64 (0), .int .i64 (0), .int .i64 (0), .int .i64 (0)])] w fun e w' => e = .returned (.bool true) ∧ Below w.heap.size w w' := inst (empty_any 0 0 0 0 w) (by kernel_rfl)
theorem mv_none (x y : Int) (w : World) : Calls Try.prog 34 #[(.agg #[.int .i64 (0), .int .i64 (0), .int .i64 (0), .int .i64 (0)]), .int .i64 x, .int .i64 y] w fun e w' => e = .returned (.agg #[.int .i64 (0), .int .i64 (0), .int .i64 (0), .int .i64 (0)]) ∧ Below w.heap.size w w' := by
  have q := move_val (0, 0, 0, 0) x y w
  rw [mv_zero] at q
  exact q
theorem move8_nil (q0 q1 q2 q3 x y : Int) (w : World) : Calls Try.prog 40 #[.pointer none, (.agg #[.int .i64 (q0), .int .i64 (q1), .int .i64 (q2), .int .i64 (q3)]), .int .i64 x, .int .i64 y] w fun e w' => e = .returned (.tuple #[]) ∧ Below w.heap.size w w' := by
  go_enter Try.func40, Try.ntmps40
  go_wp2_with fail
  refine region_ord [(0, 0), (1, 0), (2, 1), (3, 1), (4, 2)] (by kernel_rfl) (by kernel_rfl) (fun _ _ d _ _ h => by cases d <;> exact h) (fun hS => ?_)
  (refine wpG_read (v := ?_) rfl (.inl ⟨by rfl, fun wx hbx => ?_⟩) ?_; rotate_left; (focus (obtain ⟨cx0, fx0, zx0⟩ := bk hbx (w.heap.size) (by first | omega | (simp; done) | (simp; omega)); go_simp; (try go_bits); (try with_reducible rfl))); try simp only [Act.put, List.setIfInBounds_toArray, List.set_cons_zero, List.set_cons_succ])
  (refine wpG_read (v := ?_) rfl (.inl ⟨by rfl, fun wx hbx => ?_⟩) ?_; rotate_left; (focus (obtain ⟨cx0, fx0, zx0⟩ := bk hbx (w.heap.size) (by first | omega | (simp; done) | (simp; omega)); go_simp; (try go_bits); (try with_reducible rfl))); try simp only [Act.put, List.setIfInBounds_toArray, List.set_cons_zero, List.set_cons_succ])
  (refine wpG_make rfl (fun K hK => ?_); go_simp; (go_at_call 67; (with_reducible refine (whole_nil _).mono ?_); rintro e w1 ⟨rfl, hb⟩; refine Exists.elim (after1 (w := w) (b0 := w.heap.size) (cs0 := ?_) (T0 := ?_) hb ?_ ?_) ?_; rotate_left 2; (focus ((repeat' (first | (with_reducible exact Below.refl _ _) | (with_reducible assumption) | (with_reducible refine below_from_drew ?_) | (with_reducible refine Below.alloc ?_ ?_ _) | (with_reducible refine Below.drew ?_) | (with_reducible refine below_drewN ?_ _) | (with_reducible refine Below.setCell ?_ ?_ _) | (with_reducible refine below_via ?_ (by assumption) ?_) | (with_reducible refine below_ov ?_ ?_ _ _) | go_size)); done)); (focus ((repeat' (first | (with_reducible refine has_drew ?_) | (with_reducible refine has_drewN ?_) | (with_reducible refine has_new ?_; (first | (with_reducible rfl) | omega | (simp; done) | (simp; omega))) | (with_reducible refine has_ov_same ?_; (first | (with_reducible rfl) | omega | (simp; done) | (simp; omega))) | (with_reducible refine has_alloc ?_) | (with_reducible refine has_ov_other ?_ ?_; (focus (first | (with_reducible rfl) | omega | (simp; done) | (simp; omega)))) | (with_reducible assumption) | (with_reducible exact has_below hB (by assumption)))); done)); rintro u1 ⟨rfl, hB, hz, z0, o0⟩; (try simp only [World.size_alloc, World.size_setCell, World.size_drew, ov_size] at hz)); (try simp only []); refine hK _ _ ?_ (fun hS2 => ?_); (focus ((repeat' (first | (with_reducible exact Below.refl _ _) | (with_reducible assumption) | (with_reducible refine below_from_drew ?_) | (with_reducible refine Below.alloc ?_ ?_ _) | (with_reducible refine Below.drew ?_) | (with_reducible refine below_drewN ?_ _) | (with_reducible refine Below.setCell ?_ ?_ _) | (with_reducible refine below_via ?_ (by assumption) ?_) | (with_reducible refine below_ov ?_ ?_ _ _) | go_size)); done)); clear hK K hS; have hS := hS2; clear hS2; (try clear hb); try simp only [Act.put, List.setIfInBounds_toArray, List.set_cons_zero, List.set_cons_succ])
  (refine wpG_make rfl (fun K hK => ?_); go_simp; (go_at_call 32; (with_reducible refine (and_none _ _ _ _ _).mono ?_); rintro e w1 ⟨rfl, hb⟩; refine Exists.elim (after1 (w := w) (b0 := w.heap.size) (cs0 := ?_) (T0 := ?_) hb ?_ ?_) ?_; rotate_left 2; (focus ((repeat' (first | (with_reducible exact Below.refl _ _) | (with_reducible assumption) | (with_reducible refine below_from_drew ?_) | (with_reducible refine Below.alloc ?_ ?_ _) | (with_reducible refine Below.drew ?_) | (with_reducible refine below_drewN ?_ _) | (with_reducible refine Below.setCell ?_ ?_ _) | (with_reducible refine below_via ?_ (by assumption) ?_) | (with_reducible refine below_ov ?_ ?_ _ _) | go_size)); done)); (focus ((repeat' (first | (with_reducible refine has_drew ?_) | (with_reducible refine has_drewN ?_) | (with_reducible refine has_new ?_; (first | (with_reducible rfl) | omega | (simp; done) | (simp; omega))) | (with_reducible refine has_ov_same ?_; (first | (with_reducible rfl) | omega | (simp; done) | (simp; omega))) | (with_reducible refine has_alloc ?_) | (with_reducible refine has_ov_other ?_ ?_; (focus (first | (with_reducible rfl) | omega | (simp; done) | (simp; omega)))) | (with_reducible assumption) | (with_reducible exact has_below hB (by assumption)))); done)); rintro u2 ⟨rfl, hB, hz, z0, o0⟩; (try simp only [World.size_alloc, World.size_setCell, World.size_drew, ov_size] at hz)); (try simp only []); refine hK _ _ ?_ (fun hS2 => ?_); (focus ((repeat' (first | (with_reducible exact Below.refl _ _) | (with_reducible assumption) | (with_reducible refine below_from_drew ?_) | (with_reducible refine Below.alloc ?_ ?_ _) | (with_reducible refine Below.drew ?_) | (with_reducible refine below_drewN ?_ _) | (with_reducible refine Below.setCell ?_ ?_ _) | (with_reducible refine below_via ?_ (by assumption) ?_) | (with_reducible refine below_ov ?_ ?_ _ _) | go_size)); done)); clear hK K hS; have hS := hS2; clear hS2; (try clear hb); try simp only [Act.put, List.setIfInBounds_toArray, List.set_cons_zero, List.set_cons_succ])
  (refine wpG_late rfl (fun K hK => ?_); go_simp; (try simp only []); (try simp only []); refine hK _ _ ?_; clear hK K; try simp only [Act.put, List.setIfInBounds_toArray, List.set_cons_zero, List.set_cons_succ])
  refine wpG_nil ?_
  go_wp2_with fail
  refine region_noise [(0, 0), (1, 0), (2, 0), (4, 0), (3, 1), (5, 1)] [⟨6, 8, #[.int .i64 0, .int .i64 0, .int .i64 0, .int .i64 0], 40⟩] [7] (by kernel_rfl) (by kernel_rfl) (fun s hs o ho a w => by simp only [List.mem_cons, List.not_mem_nil, or_false] at hs; rcases hs with rfl <;> (cases ho; go_simp)) (fun _ _ d _ _ => by cases d <;> exact Iff.rfl) (fun hN => ?_)
  (refine wpGN_read (v := ?_) rfl (.inl ⟨by rfl, fun wx hbx => ?_⟩) ?_; rotate_left; (focus (obtain ⟨cx0, fx0, zx0⟩ := bk hbx (w.heap.size) (by first | omega | (simp; done) | (simp; omega)); go_simp; (try go_bits); (try with_reducible rfl))); try simp only [Act.put, List.setIfInBounds_toArray, List.set_cons_zero, List.set_cons_succ])
  (refine wpGN_read (v := ?_) rfl (.inl ⟨by rfl, fun wx hbx => ?_⟩) ?_; rotate_left; (focus (obtain ⟨cx0, fx0, zx0⟩ := bk hbx (w.heap.size) (by first | omega | (simp; done) | (simp; omega)); go_simp; (try go_bits); (try with_reducible rfl))); try simp only [Act.put, List.setIfInBounds_toArray, List.set_cons_zero, List.set_cons_succ])
  (refine wpGN_read (v := ?_) rfl (.inl ⟨by rfl, fun wx hbx => ?_⟩) ?_; rotate_left; (focus (obtain ⟨cx0, fx0, zx0⟩ := bk hbx (w.heap.size) (by first | omega | (simp; done) | (simp; omega)); go_simp; (try go_bits); (try with_reducible rfl))); try simp only [Act.put, List.setIfInBounds_toArray, List.set_cons_zero, List.set_cons_succ])
  (refine wpGN_read (v := ?_) rfl (.inl ⟨by rfl, fun wx hbx => ?_⟩) ?_; rotate_left; (focus (obtain ⟨cx0, fx0, zx0⟩ := bk hbx (w.heap.size) (by first | omega | (simp; done) | (simp; omega)); go_simp; (try go_bits); (try with_reducible rfl))); try simp only [Act.put, List.setIfInBounds_toArray, List.set_cons_zero, List.set_cons_succ])
  (refine wpGN_make rfl (fun wn hbn K hK => ?_); have hN2 := below_step hN hbn; clear hN hbn; go_simp; (go_at_call 34; (with_reducible refine (mv_none _ _ _).mono ?_); rintro e wm ⟨rfl, hbm⟩; refine hK _ _ hbm ?_; have hN := below_step hN2 hbm; clear hbm); clear hK K hN2; try simp only [Act.put, List.setIfInBounds_toArray, List.set_cons_zero, List.set_cons_succ])
  (refine wpGN_make rfl (fun wn hbn K hK => ?_); have hN2 := below_step hN hbn; clear hN hbn; go_simp; (go_at_call 32; (with_reducible refine (and_none _ _ _ _ _).mono ?_); rintro e wm ⟨rfl, hbm⟩; refine hK _ _ hbm ?_; have hN := below_step hN2 hbm; clear hbm); clear hK K hN2; try simp only [Act.put, List.setIfInBounds_toArray, List.set_cons_zero, List.set_cons_succ])
  refine wpGN_nil (fun wn hbn => ?_); have hN2 := below_step hN hbn; clear hN hbn
  intro p8 hBp8 hHp8 hnp8
  refine Exists.elim (after2 (w := w) (W := wn) (w1 := wn) (b0 := w.heap.size) (cs0 := ?_) (T0 := ?_) (Below.refl _ _) (below_via ?_ hN2 ?_) (has_below hN2 ?_) hHp8) ?_
  rotate_left 2; (focus ((repeat' (first | (with_reducible exact Below.refl _ _) | (with_reducible assumption) | (with_reducible refine below_from_drew ?_) | (with_reducible refine Below.alloc ?_ ?_ _) | (with_reducible refine Below.drew ?_) | (with_reducible refine below_drewN ?_ _) | (with_reducible refine Below.setCell ?_ ?_ _) | (with_reducible refine below_via ?_ (by assumption) ?_) | (with_reducible refine below_ov ?_ ?_ _ _) | go_size)); done)); (focus (go_size)); (focus ((repeat' (first | (with_reducible refine has_drew ?_) | (with_reducible refine has_drewN ?_) | (with_reducible refine has_new ?_; (first | (with_reducible rfl) | omega | (simp; done) | (simp; omega))) | (with_reducible refine has_ov_same ?_; (first | (with_reducible rfl) | omega | (simp; done) | (simp; omega))) | (with_reducible refine has_alloc ?_) | (with_reducible refine has_ov_other ?_ ?_; (focus (first | (with_reducible rfl) | omega | (simp; done) | (simp; omega)))) | (with_reducible assumption) | (with_reducible exact has_below hB (by assumption)))); done)); rintro u3 ⟨hwu, hB, hz, z0, o0, zp8, op8⟩
  simp only [World.size_alloc, World.size_setCell, World.size_drew, ov_size] at hBp8
  simp only [List.mem_cons, List.not_mem_nil, or_false, not_or, not_false_eq_true] at hnp8
  clear hN2 hHp8; subst hwu; (try simp only [World.size_alloc, World.size_setCell, World.size_drew, ov_size] at hz)
  (refine wpL_late rfl (fun K hK => ?_); go_simp; refine hK _ _ ?_; clear hK K; try simp only [Act.put, List.setIfInBounds_toArray, List.set_cons_zero, List.set_cons_succ])
  refine wpL_nil ?_
  go_wp2_with fail
  go_wp2_with (go_at_call 68; (with_reducible refine (emp0 _).mono ?_); rintro e w1 ⟨rfl, hb⟩; refine Exists.elim (after2 (w := w) (b0 := w.heap.size) (cs0 := ?_) (T0 := ?_) (b1 := p8) (cs1 := ?_) (T1 := ?_) hb ?_ ?_ ?_) ?_; rotate_left 4; (focus ((repeat' (first | (with_reducible exact Below.refl _ _) | (with_reducible assumption) | (with_reducible refine below_from_drew ?_) | (with_reducible refine Below.alloc ?_ ?_ _) | (with_reducible refine Below.drew ?_) | (with_reducible refine below_drewN ?_ _) | (with_reducible refine Below.setCell ?_ ?_ _) | (with_reducible refine below_via ?_ (by assumption) ?_) | (with_reducible refine below_ov ?_ ?_ _ _) | go_size)); done)); (focus ((repeat' (first | (with_reducible refine has_drew ?_) | (with_reducible refine has_drewN ?_) | (with_reducible refine has_new ?_; (first | (with_reducible rfl) | omega | (simp; done) | (simp; omega))) | (with_reducible refine has_ov_same ?_; (first | (with_reducible rfl) | omega | (simp; done) | (simp; omega))) | (with_reducible refine has_alloc ?_) | (with_reducible refine has_ov_other ?_ ?_; (focus (first | (with_reducible rfl) | omega | (simp; done) | (simp; omega)))) | (with_reducible assumption) | (with_reducible exact has_below hB (by assumption)))); done)); (focus ((repeat' (first | (with_reducible refine has_drew ?_) | (with_reducible refine has_drewN ?_) | (with_reducible refine has_new ?_; (first | (with_reducible rfl) | omega | (simp; done) | (simp; omega))) | (with_reducible refine has_ov_same ?_; (first | (with_reducible rfl) | omega | (simp; done) | (simp; omega))) | (with_reducible refine has_alloc ?_) | (with_reducible refine has_ov_other ?_ ?_; (focus (first | (with_reducible rfl) | omega | (simp; done) | (simp; omega)))) | (with_reducible assumption) | (with_reducible exact has_below hB (by assumption)))); done)); rintro u4 ⟨rfl, hB, hz, z0, o0, z1, o1⟩; (try simp only [World.size_alloc, World.size_setCell, World.size_drew, ov_size] at hz))
  refine bodyPost_ret (by simp [results, Try.results40]; try rfl) rfl ?_
  exact ⟨rfl, by (repeat' (first | (with_reducible exact Below.refl _ _) | (with_reducible assumption) | (with_reducible refine below_from_drew ?_) | (with_reducible refine Below.alloc ?_ ?_ _) | (with_reducible refine Below.drew ?_) | (with_reducible refine below_drewN ?_ _) | (with_reducible refine Below.setCell ?_ ?_ _) | (with_reducible refine below_via ?_ (by assumption) ?_) | (with_reducible refine below_ov ?_ ?_ _ _) | go_size))⟩
end Go.Proofs.Ytkpamofamcndnaa
namespace Go.Proofs.Ytkpamofamcndnaa
open Go.RowKit Go.Shelf
set_option linter.unusedSimpArgs false
set_option linter.unusedVariables false
-- below_from_drew
attribute [local go_sem] ov_cell_same ov_cell_other ov_frozen_same ov_frozen_other ov_size ov_setCell_same ov_setCell_other cell_alloc_old frozen_alloc_old setCell_alloc_old old_alloc old_ov old_drew old_drewN old_setCell
attribute [local go_sem ↓] run_max2 run_min2 eql_rect eq_nil8
theorem below_buts {L : ImgL} {n m : Nat} {u v : World} (hn : L.New n) (h : ButS L.S m u v) (hm : n ≤ m) : Below n u v := (h.less hm).below (fun k hk hs => by have := hn.2 k hs; omega)
theorem rs_n1 (w : World) : Calls Try.prog 22 #[.int .i64 0, .int .i64 0, .int .i64 3, .int .i64 1] w fun e w' => e = .returned (.agg #[.int .i64 (0), .int .i64 (0), .int .i64 (3), .int .i64 (1)]) ∧ Below w.heap.size w w' := inst (new_any 0 0 3 1 w) (by kernel_rfl)
theorem rs_n2 (w : World) : Calls Try.prog 22 #[.int .i64 1, .int .i64 0, .int .i64 9, .int .i64 1] w fun e w' => e = .returned (.agg #[.int .i64 (1), .int .i64 (0), .int .i64 (9), .int .i64 (1)]) ∧ Below w.heap.size w w' := inst (new_any 1 0 9 1 w) (by kernel_rfl)
theorem new31 (w : World) : Calls Try.prog 37 #[.int .i64 3, .int .i64 1] w fun e w' => ∃ L, (e = .returned (.tuple #[ptrTo L.p, .int .i64 0]) ∧ L.W = 3 ∧ L.H = 1 ∧ ImgAt w' L (fun _ _ => 0) ∧ L.New w.heap.size) ∧ Below w.heap.size w w' := new8_any 3 1 w (by omega) (by omega)
def spI : List ItemZ := [⟨0, 0, (0, 0, 3, 1), 1⟩, ⟨0, 0, (1, 0, 9, 1), 2⟩]
def spF : Nat → Nat → Int := moveF 3 1 (0, 0, 3, 1) 1 0 (paintF 3 1 spI [(0, 0, 3, 1)] (fun _ _ => 0))
theorem rs_rects : rectsZ (oneQ (0, 0, 3, 1)) = [(0, 0, 3, 1)] := by kernel_rfl
theorem rs_00 : atF 3 1 spF 0 0 = 1 := by kernel_rfl
theorem rs_10 : atF 3 1 spF 1 0 = 1 := by kernel_rfl
theorem rs_20 : atF 3 1 spF 2 0 = 2 := by kernel_rfl
set_option maxRecDepth 100000 in
set_option maxHeartbeats 4000000 in
theorem speaks28_any (w : World) : Calls Try.prog 36 #[] w fun e w' => e = .returned (.bool true) ∧ Below w.heap.size w w' := by
  go_enter Try.func36, Try.ntmps36
  go_wp2_with ((go_at_call 37); (with_reducible refine (new31 _).mono ?_); rintro e u1 ⟨L, ⟨rfl, hW, hH, him, hnew⟩, hb⟩)
  have HI := Lib.hid him; have HN := Lib.hid hnew; have HB := Lib.hid hb; have HW := Lib.hid hW; have HH := Lib.hid hH
  have hz1 := hb.size
  clear him hnew hb hW hH
  go_wp2_with (first | (go_at_call 22; (with_reducible refine (rs_n1 _).mono ?_); rintro e u2 ⟨rfl, hb⟩; have hz := hb.size; refine (fun hB => ?_ : Below u1.heap.size u1 u2 → _) ?_; rotate_left; (focus ((repeat' (first | (with_reducible exact Below.refl _ _) | (with_reducible assumption) | (with_reducible refine below_from_drew ?_) | (with_reducible refine Below.alloc ?_ ?_ _) | (with_reducible refine Below.drew ?_) | (with_reducible refine below_drewN ?_ _) | (with_reducible refine Below.setCell ?_ ?_ _) | (with_reducible refine below_via ?_ (by assumption) ?_) | (with_reducible refine below_ov ?_ ?_ _ _) | go_size)); done)); (try simp only [World.size_alloc, World.size_setCell, World.size_drew, ov_size] at hz)) | (go_at_call 22; (with_reducible refine (rs_n2 _).mono ?_); rintro e u3 ⟨rfl, hb⟩; have hz := hb.size; refine (fun hB => ?_ : Below u1.heap.size u1 u3 → _) ?_; rotate_left; (focus ((repeat' (first | (with_reducible exact Below.refl _ _) | (with_reducible assumption) | (with_reducible refine below_from_drew ?_) | (with_reducible refine Below.alloc ?_ ?_ _) | (with_reducible refine Below.drew ?_) | (with_reducible refine below_drewN ?_ _) | (with_reducible refine Below.setCell ?_ ?_ _) | (with_reducible refine below_via ?_ (by assumption) ?_) | (with_reducible refine below_ov ?_ ?_ _ _) | go_size)); done)); (try simp only [World.size_alloc, World.size_setCell, World.size_drew, ov_size] at hz)))
  have hit : Has u2 u3.heap.size #[.int .i64 0, .int .i64 0, .int .i64 0, .int .i64 0, .int .i64 3, .int .i64 1, .int .u8 1, .int .i64 0, .int .i64 0, .int .i64 1, .int .i64 0, .int .i64 9, .int .i64 1, .int .u8 2] 88 := has_below hb (has_new rfl)
  have hw2 : Below w.heap.size w u2 := HB.out.trans (hB.mono hz1)
  have hi2 := HI.out.below hB
  generalize u3.heap.size = pi at *
  refine name_world (f := fun V => Calls _ _ _ V _) (fun X hX => ?_)
  obtain ⟨pr, hpr⟩ : ∃ k, u2.heap.size = k := ⟨_, rfl⟩
  have hrX : Has X pr #[.int .i64 0, .int .i64 0, .int .i64 3, .int .i64 1] 40 := by rw [hX, ← hpr]; exact has_new rfl
  have hiX := has_alloc (o := .cells #[.int .i64 0, .int .i64 0, .int .i64 3, .int .i64 1] 40) hit
  rw [← hX] at hiX
  have hbX : Below w.heap.size w X := by rw [hX]; exact hw2.alloc (by have := hw2.size; omega) _
  have hmX : ImgAt X L (fun _ _ => 0) := by rw [hX]; exact hi2.below ((Below.refl _ _).alloc (Nat.le_refl _) _)
  rw [hpr]
  have HIX := Lib.hid hiX; have HBX := Lib.hid hbX; have HMX := Lib.hid hmX
  clear hX hit hw2 hi2 hb hB hz hiX hbX hmX HI HB hz1 hpr
  refine (of_one pr 0 0 3 1 _ X hrX).mono ?_
  rintro e Y ⟨al, ca, rfl, hba, hb⟩
  have HMY := Lib.hid (HMX.out.below hb)
  have HBY := Lib.hid (HBX.out.trans (hb.mono HBX.out.size))
  have hit := has_below hb HIX.out
  have hits : ItemsT Y (some ⟨pi, 0, none⟩) spI := fun _ => ⟨pi, 0, _, rfl, hit, fun i hi => by
    rcases i with _ | _ | i
    · exact ⟨⟨by decide, by decide⟩, rfl, rfl, rfl, rfl, rfl, rfl, rfl⟩
    · exact ⟨⟨by decide, by decide⟩, rfl, rfl, rfl, rfl, rfl, rfl, rfl⟩
    · simp [spI] at hi; omega⟩
  have CP := paint8_any L _ (some ⟨pi, 0, none⟩) al 2 2 ca spI (oneQ (0, 0, 3, 1)) [(0, 0, 3, 1)] Y HMY.out rfl (by omega) hits (oneQ_ok _) hba rs_rects (by simp)
  rw [HW.out, HH.out] at CP
  have CP := Lib.hid CP
  have HWY := Lib.hid (show w.heap.size ≤ Y.heap.size from HBY.out.size)
  clear hba hb hit hits hrX HMX HBX HIX
  obtain ⟨len, hlen⟩ : ∃ n, (oneQ (0, 0, 3, 1)).length = n := ⟨_, rfl⟩
  rw [hlen] at CP ⊢
  clear hlen
  go_wp2_with ((go_at_call 43); (with_reducible refine CP.out.mono ?_); rintro e Z ⟨rfl, him, hbut⟩)
  have HMZ := Lib.hid him
  have HBZ := Lib.hid (HBY.out.trans (below_buts HN.out hbut HWY.out))
  have hwz : w.heap.size ≤ Z.heap.size := HBZ.out.size
  clear him hbut CP HMY HBY HWY
  have HMV := Lib.hid (fun u (hb : Below Z.heap.size Z u) => move8_any L _ (0, 0, 3, 1) 1 0 u (HMZ.out.below hb) (by omega) (by omega))
  rw [HW.out, HH.out] at HMV
  go_wp2_with (go_at_call 22; (with_reducible refine (rs_n1 _).mono ?_); rintro e u2 ⟨rfl, hb⟩; have hz := hb.size; refine (fun hB => ?_ : Below Z.heap.size Z u2 → _) ?_; rotate_left; (focus ((repeat' (first | (with_reducible exact Below.refl _ _) | (with_reducible assumption) | (with_reducible refine below_from_drew ?_) | (with_reducible refine Below.alloc ?_ ?_ _) | (with_reducible refine Below.drew ?_) | (with_reducible refine below_drewN ?_ _) | (with_reducible refine Below.setCell ?_ ?_ _) | (with_reducible refine below_via ?_ (by assumption) ?_) | (with_reducible refine below_ov ?_ ?_ _ _) | go_size)); done)); (try simp only [World.size_alloc, World.size_setCell, World.size_drew, ov_size] at hz))
  have CM := HMV.out u2 hB
  simp only [rectVal] at CM
  have hb2 := HBZ.out.trans (hB.mono hwz)
  refine CM.mono ?_
  rintro e V ⟨rfl, him, hbut⟩
  have HMS : ImgAt V L spF := him
  have hbV := hb2.trans (below_buts HN.out hbut hb2.size)
  have HM := Lib.hid HMS; have HBV := Lib.hid hbV
  have A0 := Lib.hid (fun u (hb : Below V.heap.size V u) => at_any L spF 0 0 u (HM.out.below hb))
  have A1 := Lib.hid (fun u (hb : Below V.heap.size V u) => at_any L spF 1 0 u (HM.out.below hb))
  have A2 := Lib.hid (fun u (hb : Below V.heap.size V u) => at_any L spF 2 0 u (HM.out.below hb))
  rw [HW.out, HH.out] at A0 A1 A2
  rw [rs_00] at A0
  rw [rs_10] at A1
  rw [rs_20] at A2
  have HCP := Lib.hid (fun u (hb : Below V.heap.size V u) => copy8_any L spF u (HM.out.below hb))
  clear him hbut HMS hbV hb2 CM HMV HMZ HBZ hwz hb hB hz CP
  go_wp2_with (first | (go_at_call 48; (with_reducible refine (A0.out _ (by (repeat' (first | (with_reducible exact Below.refl _ _) | (with_reducible assumption) | (with_reducible refine below_from_drew ?_) | (with_reducible refine Below.alloc ?_ ?_ _) | (with_reducible refine Below.drew ?_) | (with_reducible refine below_drewN ?_ _) | (with_reducible refine Below.setCell ?_ ?_ _) | (with_reducible refine below_via ?_ (by assumption) ?_) | (with_reducible refine below_ov ?_ ?_ _ _) | go_size)))).mono ?_); rintro e u3 ⟨rfl, hb⟩; have hz := hb.size; refine (fun hB => ?_ : Below V.heap.size V u3 → _) ?_; rotate_left; (focus ((repeat' (first | (with_reducible exact Below.refl _ _) | (with_reducible assumption) | (with_reducible refine below_from_drew ?_) | (with_reducible refine Below.alloc ?_ ?_ _) | (with_reducible refine Below.drew ?_) | (with_reducible refine below_drewN ?_ _) | (with_reducible refine Below.setCell ?_ ?_ _) | (with_reducible refine below_via ?_ (by assumption) ?_) | (with_reducible refine below_ov ?_ ?_ _ _) | go_size)); done)); (try simp only [World.size_alloc, World.size_setCell, World.size_drew, ov_size] at hz)) | (go_at_call 48; (with_reducible refine (A1.out _ (by (repeat' (first | (with_reducible exact Below.refl _ _) | (with_reducible assumption) | (with_reducible refine below_from_drew ?_) | (with_reducible refine Below.alloc ?_ ?_ _) | (with_reducible refine Below.drew ?_) | (with_reducible refine below_drewN ?_ _) | (with_reducible refine Below.setCell ?_ ?_ _) | (with_reducible refine below_via ?_ (by assumption) ?_) | (with_reducible refine below_ov ?_ ?_ _ _) | go_size)))).mono ?_); rintro e u4 ⟨rfl, hb⟩; have hz := hb.size; refine (fun hB => ?_ : Below V.heap.size V u4 → _) ?_; rotate_left; (focus ((repeat' (first | (with_reducible exact Below.refl _ _) | (with_reducible assumption) | (with_reducible refine below_from_drew ?_) | (with_reducible refine Below.alloc ?_ ?_ _) | (with_reducible refine Below.drew ?_) | (with_reducible refine below_drewN ?_ _) | (with_reducible refine Below.setCell ?_ ?_ _) | (with_reducible refine below_via ?_ (by assumption) ?_) | (with_reducible refine below_ov ?_ ?_ _ _) | go_size)); done)); (try simp only [World.size_alloc, World.size_setCell, World.size_drew, ov_size] at hz)) | (go_at_call 48; (with_reducible refine (A2.out _ (by (repeat' (first | (with_reducible exact Below.refl _ _) | (with_reducible assumption) | (with_reducible refine below_from_drew ?_) | (with_reducible refine Below.alloc ?_ ?_ _) | (with_reducible refine Below.drew ?_) | (with_reducible refine below_drewN ?_ _) | (with_reducible refine Below.setCell ?_ ?_ _) | (with_reducible refine below_via ?_ (by assumption) ?_) | (with_reducible refine below_ov ?_ ?_ _ _) | go_size)))).mono ?_); rintro e u5 ⟨rfl, hb⟩; have hz := hb.size; refine (fun hB => ?_ : Below V.heap.size V u5 → _) ?_; rotate_left; (focus ((repeat' (first | (with_reducible exact Below.refl _ _) | (with_reducible assumption) | (with_reducible refine below_from_drew ?_) | (with_reducible refine Below.alloc ?_ ?_ _) | (with_reducible refine Below.drew ?_) | (with_reducible refine below_drewN ?_ _) | (with_reducible refine Below.setCell ?_ ?_ _) | (with_reducible refine below_via ?_ (by assumption) ?_) | (with_reducible refine below_ov ?_ ?_ _ _) | go_size)); done)); (try simp only [World.size_alloc, World.size_setCell, World.size_drew, ov_size] at hz)) | ((go_at_call 39); (with_reducible refine (HCP.out _ (by (repeat' (first | (with_reducible exact Below.refl _ _) | (with_reducible assumption) | (with_reducible refine below_from_drew ?_) | (with_reducible refine Below.alloc ?_ ?_ _) | (with_reducible refine Below.drew ?_) | (with_reducible refine below_drewN ?_ _) | (with_reducible refine Below.setCell ?_ ?_ _) | (with_reducible refine below_via ?_ (by assumption) ?_) | (with_reducible refine below_ov ?_ ?_ _ _) | go_size)))).mono ?_); rintro e u6 ⟨M, ⟨rfl, hMW, hMH, him, hnew⟩, hb⟩))
  have hbu : Below V.heap.size V u6 := hB.trans (hb.mono hB.size)
  have CS := same8_any L M spF spF u6 (HM.out.below hbu) him
  rw [hMW, hMH] at CS
  have he : (decide (L.W = L.W) && decide (imgL L.W L.H spF = imgL L.W L.H spF)) = true := by simp
  rw [he] at CS
  have CS := Lib.hid CS; have HBU := Lib.hid (HBV.out.trans (hbu.mono HBV.out.size))
  clear hb hB hbu him hnew hMW hMH he
  go_wp2_with (go_at_call 47; (with_reducible refine (CS.out).mono ?_); rintro e u7 ⟨rfl, hb⟩; have hz := hb.size; refine (fun hB => ?_ : Below u6.heap.size u6 u7 → _) ?_; rotate_left; (focus ((repeat' (first | (with_reducible exact Below.refl _ _) | (with_reducible assumption) | (with_reducible refine below_from_drew ?_) | (with_reducible refine Below.alloc ?_ ?_ _) | (with_reducible refine Below.drew ?_) | (with_reducible refine below_drewN ?_ _) | (with_reducible refine Below.setCell ?_ ?_ _) | (with_reducible refine below_via ?_ (by assumption) ?_) | (with_reducible refine below_ov ?_ ?_ _ _) | go_size)); done)); (try simp only [World.size_alloc, World.size_setCell, World.size_drew, ov_size] at hz))
  go_ret
  exact ⟨rfl, HBU.out.trans (hB.mono HBU.out.size)⟩
end Go.Proofs.Ytkpamofamcndnaa
