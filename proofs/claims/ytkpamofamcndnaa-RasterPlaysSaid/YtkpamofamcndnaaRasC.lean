/- package raster: New by contract; an image being built row by row. package raster: Copy by contract. package raster: fill by contract. -/
import Derived.Test.YtkpamofamcndnaaRas
namespace Go.Proofs.Ytkpamofamcndnaa
open Go.RowKit Go.Shelf
set_option linter.unusedSimpArgs false
set_option linter.unusedVariables false
-- below_from_drew
attribute [local go_sem] ov_cell_same ov_cell_other ov_frozen_same ov_frozen_other ov_size ov_setCell_same ov_setCell_other cell_alloc_old frozen_alloc_old setCell_alloc_old old_alloc old_ov old_drew old_drewN old_setCell
attribute [local go_sem ↓] run_max2 run_min2 eql_rect eq_nil8
/-- Slices of rows as cells. -/
def rowsV (i W : Nat) (rk : Nat → Option Addr) (ck : Nat → Nat) : List Value := (List.range i).map fun k => .slice (rk k) W (ck k)
theorem rowsV_succ (i W : Nat) (rk : Nat → Option Addr) (ck : Nat → Nat) (a : Option Addr) (c : Nat) : rowsV i W rk ck ++ [.slice a W c] = rowsV (i + 1) W (fun k => if k = i then a else rk k) (fun k => if k = i then c else ck k) := by
  simp only [rowsV, List.range_succ, List.map_append, List.map_cons, List.map_nil, if_pos]
  congr 1
  refine List.map_congr_left fun k hk => ?_
  have : k < i := List.mem_range.1 hk
  rw [if_neg (by omega), if_neg (by omega)]
theorem rowsV_get {i W k : Nat} {rk : Nat → Option Addr} {ck : Nat → Nat} (h : k < i) : (rowsV i W rk ck)[k]? = some (.slice (rk k) W (ck k)) := by simp [rowsV, h]
/-- An image of which the first i rows are there. -/
structure Bld (w : World) (base p W H : Nat) (al : Option Addr) (ca i : Nat) (rk : Nat → Option Addr) (ck : Nat → Nat) (f : Nat → Nat → Int) : Prop where
  img : Has w p #[.int .i64 W, .int .i64 H, .slice al i ca] 121
  own : w.ownsRow base 122 1 (.slice al i ca) i (rowsV i W rk ck)
  caps : ∀ k, k < i → W ≤ ck k ∧ ck k ≤ 9223372036854775807
  row : ∀ k, k < i → RowC w (rk k) W (f k)
  inj : ∀ k l, 0 < W → k < i → l < i → rk k = rk l → k = l
  new : ∀ k b, 0 < W → k < i → rk k = some ⟨b, 0, none⟩ → base ≤ b
theorem Bld.nil {w : World} {base p W H : Nat} {f : Nat → Nat → Int} (h : Has w p #[.int .i64 W, .int .i64 H, .slice none 0 0] 121) : Bld w base p W H none 0 0 (fun _ => none) (fun _ => 0) f :=
  ⟨h, World.ownsRow_nil _ _ _ _, fun k hk => by omega, fun k hk => by omega, fun k l _ hk => by omega, fun k b _ hk => by omega⟩
theorem Bld.below {w w1 : World} {base p W H ca i : Nat} {al : Option Addr} {rk : Nat → Option Addr} {ck : Nat → Nat} {f : Nat → Nat → Int} (h : Bld w base p W H al ca i rk ck f) (hb : Below w.heap.size w w1) : Bld w1 base p W H al ca i rk ck f :=
  ⟨has_below hb h.img, row_below hb h.own, h.caps, fun k hk h0 => by
    obtain ⟨b, cs, e, h1, h2⟩ := h.row k hk h0
    exact ⟨b, cs, e, has_below hb h1, h2⟩, h.inj, h.new⟩
theorem RowC.grown {w w1 : World} {base n : Nat} {v : Value} {xs : List Value} {a : Option Addr} {W : Nat} {g : Nat → Int} (h : RowC w a W g) (k : w.ownsRow base 122 1 v n xs) (hg : w.grownBy w1 v.ownBlock) : RowC w1 a W g := fun h0 => by
  obtain ⟨b, cs, e, h1, h2⟩ := h h0
  exact ⟨b, cs, e, has_grown hg h1 (has_ne_row h1 k (by decide)), h2⟩
theorem RowC.ov {w : World} {p : Nat} {cs0 cs : Array Value} {T : TypeId} {a : Option Addr} {W : Nat} {g : Nat → Int} (h : RowC w a W g) (hp : Has w p cs0 T) (hT : T ≠ 5) : RowC (ov w p cs T) a W g := fun h0 => by
  obtain ⟨b, cs1, e, h1, h2⟩ := h h0
  exact ⟨b, cs1, e, has_ov_other (fun q => hT (has_type (q ▸ hp) h1)) h1, h2⟩
/-- One row more. -/
theorem Bld.step {w0 w w1 w2 : World} {n base p W H ca ca' c i : Nat} {al al' a : Option Addr} {rk : Nat → Option Addr} {ck : Nat → Nat} {f : Nat → Nat → Int} (h : Bld w base p W H al ca i rk ck f) (hpb : p < base) (hbs : base ≤ w.heap.size) (hnp : n ≤ p)
    (hB : Below n w0 w) (hb : Below w.heap.size w w1) (hrow : RowC w1 a W (f i)) (hnew : ∀ b, 0 < W → a = some ⟨b, 0, none⟩ → w.heap.size ≤ b) (hc : W ≤ c ∧ c ≤ 9223372036854775807)
    (hown : w2.ownsRow base 122 1 (.slice al' (i + 1) ca') (i + 1) (rowsV i W rk ck ++ [.slice a W c])) (hg : w1.grownBy w2 (Value.slice al i ca).ownBlock) :
    Bld (ov w2 p #[.int .i64 W, .int .i64 H, .slice al' (i + 1) ca'] 121) base p W H al' ca' (i + 1) (fun k => if k = i then a else rk k) (fun k => if k = i then c else ck k) f ∧ Below n w0 (ov w2 p #[.int .i64 W, .int .i64 H, .slice al' (i + 1) ca'] 121) := by
  have hw := h.below hb
  have hown1 := hw.own
  have hp1 := hw.img
  have hp2 := has_grown hg hp1 (row_ne hown1 hpb)
  have hold : ∀ k b, 0 < W → k < i → rk k = some ⟨b, 0, none⟩ → b < w.heap.size := fun k b h0 hk e => by
    obtain ⟨b', cs, e', h1, _⟩ := h.row k hk h0
    rw [e] at e'; cases e'
    exact h1.lt
  refine ⟨⟨has_ov_same hp2.lt, ?_, fun k hk => ?_, fun k hk => ?_, fun k l h0 hk hl e => ?_, fun k b h0 hk e => ?_⟩, ?_⟩
  · rw [rowsV_succ] at hown
    exact rowv_in hown hpb
  · by_cases e : k = i
    · simp only [if_pos e]; exact hc
    · simp only [if_neg e]; exact h.caps k (by omega)
  · by_cases e : k = i
    · subst e
      simp only [if_pos]
      exact (hrow.grown hown1 hg).ov hp2 (by decide)
    · simp only [if_neg e]
      exact ((hw.row k (by omega)).grown hown1 hg).ov hp2 (by decide)
  · by_cases e1 : k = i
    · by_cases e2 : l = i
      · omega
      · simp only [if_pos e1, if_neg e2] at e
        obtain ⟨b, cs, e', h1, _⟩ := hrow h0
        rw [e'] at e
        have := hold l b h0 (by omega) e.symm
        have := hnew b h0 e'
        omega
    · by_cases e2 : l = i
      · simp only [if_neg e1, if_pos e2] at e
        obtain ⟨b, cs, e', h1, _⟩ := hrow h0
        rw [e'] at e
        have := hold k b h0 (by omega) e
        have := hnew b h0 e'
        omega
      · simp only [if_neg e1, if_neg e2] at e
        exact h.inj k l h0 (by omega) (by omega) e
  · by_cases e1 : k = i
    · simp only [if_pos e1] at e
      have := hnew b h0 e
      omega
    · simp only [if_neg e1] at e
      exact h.new k b h0 (by omega) e
  · refine below_ov ?_ hnp _ _
    have q : Below n w0 w1 := hB.trans (hb.mono (Nat.le_trans (by omega) hbs))
    exact q.trans ⟨hg.os, hg.tape, hg.output, hg.size, fun k hk => hg.block k (by have := hb.size; omega) (fun e => by have := row_block hown1 k e.symm; omega)⟩
/-- All the rows are there. -/
theorem Bld.done {w : World} {base p W H ca : Nat} {al : Option Addr} {rk : Nat → Option Addr} {ck : Nat → Nat} {f : Nat → Nat → Int} (h : Bld w base p W H al ca H rk ck f) (hs : W ≤ 1024 ∧ H ≤ 1024) (hr : ∀ i j, i < H → j < W → 0 ≤ f i j ∧ f i j ≤ 255) :
    ImgAt w ⟨p, W, H, al, ca, rk, ck⟩ f := by
  obtain ⟨a', c', e, h1, h2, h3⟩ := row_reads h.own
  cases e
  refine ⟨hs, h.img, ⟨h1, h2⟩, fun h0 => ?_, h.caps, h.row, h.inj, hr⟩
  rcases h.own.2 with ⟨_, q⟩ | ⟨g, cap', cur, e, hb, hh, hn, hcm, hcs, ht⟩
  · simp only at h0; omega
  · cases e
    refine ⟨g, cur, rfl, hh, fun i hi => ?_⟩
    have q : (cur.toList.take (H * 1))[i]? = some (.slice (rk i) W (ck i)) := by rw [ht]; exact rowsV_get hi
    rw [List.getElem?_take_of_lt (by simp only at hi; omega), Array.getElem?_toList] at q
    exact q
/-- Where New stands. -/
def NewI (w : World) (W H : Nat) (iv : Value) (wr : World) : Prop :=
  ∃ i al ca rk ck, iv = .int .i64 (i : Nat) ∧ i ≤ H ∧ Bld wr (w.heap.size + 1) w.heap.size W H al ca i rk ck (fun _ _ => 0) ∧ Below w.heap.size w wr ∧ w.heap.size + 1 ≤ wr.heap.size
set_option maxRecDepth 100000 in
set_option maxHeartbeats 4000000 in
theorem new8_any (W H : Nat) (w : World) (hW : W ≤ 1024) (hH : H ≤ 1024) :
    Calls Try.prog 37 #[.int .i64 W, .int .i64 H] w fun e w' => ∃ L, (e = .returned (.tuple #[ptrTo L.p, .int .i64 0]) ∧ L.W = W ∧ L.H = H ∧ ImgAt w' L (fun _ _ => 0) ∧ L.New w.heap.size) ∧ Below w.heap.size w w' := by
  have hi8 := infoS8
  cases hi : Try.prog.info? 122 with
  | none => rw [hi] at hi8; cases hi8
  | some i0 =>
  rw [hi] at hi8
  simp only [Option.map_some, Option.some.injEq, Prod.mk.injEq] at hi8
  obtain ⟨hz0, hz1, hz2⟩ := hi8
  have HI := Lib.hid hi
  clear hi
  have hmk := fun n hn => run_make_row' (P := Try.prog) 122 5 (.int .u8 0) 1 Try.underlying122 infoU8 rfl .i64 .i64 n (show 1 * n ≤ 281474976710656 by omega) (show n ≤ 9223372036854775807 by omega)
  have hmk := hmk W (by omega)
  have d1 : (0 : Int) ≤ W := by omega
  have d2 : (0 : Int) ≤ H := by omega
  have d3 : (W : Int) ≤ 1024 := by omega
  have d4 : (H : Int) ≤ 1024 := by omega
  go_enter Try.func37, Try.ntmps37
  go_wp2_with fail
  go_loopw [22] (fun iv wr => NewI w W H iv wr) (fun iv _ => H - (intOf iv).toNat)
  case atStart => exact ⟨0, none, 0, fun _ => none, fun _ => 0, rfl, Nat.zero_le _, Bld.nil (has_new rfl), by (repeat' (first | (with_reducible exact Below.refl _ _) | (with_reducible assumption) | (with_reducible refine below_from_drew ?_) | (with_reducible refine Below.alloc ?_ ?_ _) | (with_reducible refine Below.drew ?_) | (with_reducible refine below_drewN ?_ _) | (with_reducible refine Below.setCell ?_ ?_ _) | (with_reducible refine below_via ?_ (by assumption) ?_) | (with_reducible refine below_ov ?_ ?_ _ _) | go_size)), by simp⟩
  case round =>
    unfold NewI at hrel
    obtain ⟨i, al, ca, rk, ck, rfl, hiH, hbl, hbw, hsz⟩ := hrel
    have e1 := hbl.img
    have hcc := e1.cells; have lp := e1.lt; have op : Old wr w.heap.size := lp
    have HIM := Lib.hid e1; have HBL := Lib.hid hbl; have HBW := Lib.hid hbw
    have hneP : (Value.slice al i ca).ownBlock ≠ some w.heap.size := row_ne hbl.own (by omega)
    have HOW := Lib.hid hbl.own
    clear e1 hbl hbw
    rcases Nat.lt_or_ge i H with c1 | c1
    · have c2 : (i : Int) < H := by omega
      go_wp2_with fail
      refine region_ordS (S := fun wx => wr.grownBy wx (Value.slice al i ca).ownBlock) (grown_drew (grown_refl _ _)) [(0, 0), (1, 0), (2, 0), (3, 0), (4, 0), (5, 0), (6, 1), (7, 1), (8, 1), (9, 2), (10, 2), (11, 2)] (by kernel_rfl) (by kernel_rfl) (fun _ _ d _ _ h => by cases d <;> exact h) (fun hS => ?_)
      (refine wpG_read (v := ?_) rfl (.inl ⟨by rfl, fun wx hbx => ?_⟩) ?_; rotate_left; (focus (have qx0 := has_grown hbx HIM.out hneP; have cx0 := qx0.cells; have zx0 := qx0.lt; have fx0 := qx0.frozen; clear qx0; go_simp; (try go_bits); (try with_reducible rfl))); try simp only [Act.put, List.setIfInBounds_toArray, List.set_cons_zero, List.set_cons_succ])
      (refine wpG_read (v := ?_) rfl (.inl ⟨by rfl, fun wx hbx => ?_⟩) ?_; rotate_left; (focus (have qx0 := has_grown hbx HIM.out hneP; have cx0 := qx0.cells; have zx0 := qx0.lt; have fx0 := qx0.frozen; clear qx0; go_simp; (try go_bits); (try with_reducible rfl))); try simp only [Act.put, List.setIfInBounds_toArray, List.set_cons_zero, List.set_cons_succ])
      (refine wpG_read (v := ?_) rfl (.inl ⟨by rfl, fun wx hbx => ?_⟩) ?_; rotate_left; (focus (have qx0 := has_grown hbx HIM.out hneP; have cx0 := qx0.cells; have zx0 := qx0.lt; have fx0 := qx0.frozen; clear qx0; go_simp; (try go_bits); (try with_reducible rfl))); try simp only [Act.put, List.setIfInBounds_toArray, List.set_cons_zero, List.set_cons_succ])
      (refine wpG_read (v := ?_) rfl (.inl ⟨by rfl, fun wx hbx => ?_⟩) ?_; rotate_left; (focus (have qx0 := has_grown hbx HIM.out hneP; have cx0 := qx0.cells; have zx0 := qx0.lt; have fx0 := qx0.frozen; clear qx0; go_simp; (try go_bits); (try with_reducible rfl))); try simp only [Act.put, List.setIfInBounds_toArray, List.set_cons_zero, List.set_cons_succ])
      (refine wpG_read (v := ?_) rfl (.inl ⟨by rfl, fun wx hbx => ?_⟩) ?_; rotate_left; (focus (have qx0 := has_grown hbx HIM.out hneP; have cx0 := qx0.cells; have zx0 := qx0.lt; have fx0 := qx0.frozen; clear qx0; go_simp; (try go_bits); (try with_reducible rfl))); try simp only [Act.put, List.setIfInBounds_toArray, List.set_cons_zero, List.set_cons_succ])
      (refine wpG_read (v := ?_) rfl (.inl ⟨by rfl, fun wx hbx => ?_⟩) ?_; rotate_left; (focus (have qx0 := has_grown hbx HIM.out hneP; have cx0 := qx0.cells; have zx0 := qx0.lt; have fx0 := qx0.frozen; clear qx0; go_simp; (try go_bits); (try with_reducible rfl))); try simp only [Act.put, List.setIfInBounds_toArray, List.set_cons_zero, List.set_cons_succ])
      refine wpG_make rfl (fun K hK => ?_)
      go_simp
      refine hK _ _ ?_ (fun hS2 => ?_)
      focus (exact grown_alloc hS)
      clear hK K hS; have hS := hS2; clear hS2
      try simp only [Act.put, List.setIfInBounds_toArray, List.set_cons_zero, List.set_cons_succ]
      refine wpG_make rfl (fun K hK => ?_)
      go_simp
      refine hK _ _ ?_ (fun hS2 => ?_)
      focus (exact grown_alloc hS)
      clear hK K hS; have hS := hS2; clear hS2
      try simp only [Act.put, List.setIfInBounds_toArray, List.set_cons_zero, List.set_cons_succ]
      refine wpG_make rfl (fun K hK => ?_)
      refine wp_append_own (P := Try.prog) _ _ _ _ rfl (w.heap.size + 1) 122 i0 (.slice none 0 0) 1 24 Try.underlying119 HI.out hz0 hz1 hz2 rfl (by decide) _ _ _ rfl ((HOW.out.drew.alloc _).alloc _) ⟨wr.heap.size + 1, 0, none⟩ 1 1 [.slice (some ⟨wr.heap.size, 0, none⟩) W W] rfl rfl (newi_at (by simp)) (one_of rfl) (by unfold maxLen; omega) (by omega) (by simp; omega) ?_
      intro v7 w7 hown7 hgrow7 hnil7
      clear hnil7
      have hg7 := grown_trans hS hgrow7
      refine hK _ _ ?_ (fun hS2 => ?_)
      focus (exact hg7)
      clear hK K hS hS2
      try simp only [Act.put, List.setIfInBounds_toArray, List.set_cons_zero, List.set_cons_succ]
      obtain ⟨al', ca', rfl, _, _⟩ := row_reads hown7
      have hp7 := has_grown hg7 HIM.out hneP
      have hl7 := hp7.lt
      have hro : RowC ((wr.alloc (.cells (madeCells #[.int .u8 0] W) 5)).alloc (.cells #[.slice (some ⟨wr.heap.size, 0, none⟩) W W] 122)).drew (some ⟨wr.heap.size, 0, none⟩) W (fun _ => 0) := fun _ =>
        ⟨_, _, rfl, has_drew (has_alloc (has_new rfl)), fun j hj => by simp [madeCells, hj, Nat.mod_one]⟩
      have hst := HBL.out.step (by omega) (by omega) (Nat.le_refl _) HBW.out (by (repeat' (first | (with_reducible exact Below.refl _ _) | (with_reducible assumption) | (with_reducible refine below_from_drew ?_) | (with_reducible refine Below.alloc ?_ ?_ _) | (with_reducible refine Below.drew ?_) | (with_reducible refine below_drewN ?_ _) | (with_reducible refine Below.setCell ?_ ?_ _) | (with_reducible refine below_via ?_ (by assumption) ?_) | (with_reducible refine below_ov ?_ ?_ _ _) | go_size))) hro (fun b _ e => by cases e; exact Nat.le_refl _) ⟨Nat.le_refl _, by omega⟩ hown7 hgrow7
      have HST := Lib.hid hst
      clear hst hro hown7 hgrow7
      rw [← ov_self hp7]
      clear hp7 hg7
      have hsz7 : w.heap.size + 1 ≤ w7.heap.size := by omega
      refine wpG_late rfl (fun K hK => ?_)
      go_simp
      refine hK _ _ ?_
      clear hK K
      try simp only [Act.put, List.setIfInBounds_toArray, List.set_cons_zero, List.set_cons_succ]
      refine wpG_late rfl (fun K hK => ?_)
      go_simp
      refine hK _ _ ?_
      clear hK K
      try simp only [Act.put, List.setIfInBounds_toArray, List.set_cons_zero, List.set_cons_succ]
      refine wpG_late rfl (fun K hK => ?_)
      go_simp
      refine hK _ _ ?_
      clear hK K
      try simp only [Act.put, List.setIfInBounds_toArray, List.set_cons_zero, List.set_cons_succ]
      refine wpG_nil ?_
      go_wp2_with fail
      exact ⟨⟨i + 1, _, _, _, _, by push_cast; rfl, c1, HST.out.1, HST.out.2, by simpa using hsz7⟩, by simp only [intOf]; omega⟩
    · obtain rfl : i = H := by omega
      go_wp2_with fail
      go_ret2
      exact ⟨⟨w.heap.size, W, i, al, ca, rk, ck⟩, ⟨rfl, rfl, rfl, HBL.out.done ⟨hW, hH⟩ (fun _ _ _ _ => ⟨by omega, by omega⟩), Nat.le_refl _, fun b ⟨h0, k, hk, e⟩ => by have := HBL.out.new k b h0 hk e; omega⟩, HBW.out⟩
end Go.Proofs.Ytkpamofamcndnaa
namespace Go.Proofs.Ytkpamofamcndnaa
open Go.RowKit Go.Shelf
set_option linter.unusedSimpArgs false
set_option linter.unusedVariables false
-- below_from_drew
attribute [local go_sem] ov_cell_same ov_cell_other ov_frozen_same ov_frozen_other ov_size ov_setCell_same ov_setCell_other cell_alloc_old frozen_alloc_old setCell_alloc_old old_alloc old_ov old_drew old_drewN old_setCell
attribute [local go_sem ↓] run_max2 run_min2 eql_rect eq_nil8
theorem rowC_owned {w : World} {base W c : Nat} {a : Option Addr} {g : Nat → Int} (h : w.ownsRow base 5 1 (.slice a W c) W (pixV W g)) : RowC w a W g := fun h0 => by
  rcases h.2 with ⟨e, h2⟩ | ⟨b, cap', cur, e, hb, hh, hn, hcm, hcs, ht⟩
  · cases e; omega
  · cases e
    refine ⟨b, cur, rfl, hh, fun i hi => ?_⟩
    have q : (cur.toList.take (W * 1))[i]? = some (.int .u8 (g i)) := by rw [ht]; exact pixV_get hi
    rw [List.getElem?_take_of_lt (by omega), Array.getElem?_toList] at q
    exact q
theorem RowC.part {w : World} {a : Option Addr} {W : Nat} {g : Nat → Int} (h : RowC w a W g) : PartC w a W g := fun h0 => by
  obtain ⟨b, cs, e, h1, h2⟩ := h h0
  exact ⟨b, 0, e, h1.lt, fun j hj => by rw [Nat.zero_add, h1.cells]; exact h2 j hj⟩
theorem RowC.below {w w1 : World} {a : Option Addr} {W : Nat} {g : Nat → Int} (h : RowC w a W g) (hb : Below w.heap.size w w1) : RowC w1 a W g := fun h0 => by
  obtain ⟨b, cs, e, h1, h2⟩ := h h0
  exact ⟨b, cs, e, has_below hb h1, h2⟩
theorem new8_bad (a b : Int) (w : World) (h : a < 0 ∨ b < 0 ∨ 1024 < a ∨ 1024 < b) :
    Calls Try.prog 37 #[.int .i64 a, .int .i64 b] w fun e w' => e = .returned (.tuple #[.pointer none, .int .i64 1]) ∧ Below w.heap.size w w' := by
  by_cases c1 : min a b < 0
  · go_enter Try.func37, Try.ntmps37
    go_wp2_with fail
    go_ret2
    exact ⟨rfl, by (repeat' (first | (with_reducible exact Below.refl _ _) | (with_reducible assumption) | (with_reducible refine below_from_drew ?_) | (with_reducible refine Below.alloc ?_ ?_ _) | (with_reducible refine Below.drew ?_) | (with_reducible refine below_drewN ?_ _) | (with_reducible refine Below.setCell ?_ ?_ _) | (with_reducible refine below_via ?_ (by assumption) ?_) | (with_reducible refine below_ov ?_ ?_ _ _) | go_size))⟩
  · have c2 : 1024 < max a b := by omega
    have c1 : 0 ≤ min a b := by omega
    go_enter Try.func37, Try.ntmps37
    go_wp2_with fail
    go_ret2
    exact ⟨rfl, by (repeat' (first | (with_reducible exact Below.refl _ _) | (with_reducible assumption) | (with_reducible refine below_from_drew ?_) | (with_reducible refine Below.alloc ?_ ?_ _) | (with_reducible refine Below.drew ?_) | (with_reducible refine below_drewN ?_ _) | (with_reducible refine Below.setCell ?_ ?_ _) | (with_reducible refine below_via ?_ (by assumption) ?_) | (with_reducible refine below_ov ?_ ?_ _ _) | go_size))⟩
theorem grown_of_below {w w1 : World} {r : Option Nat} (h : Below w.heap.size w w1) : w.grownBy w1 r := ⟨h.os, h.tape, h.output, h.size, fun k hk _ => h.block k hk⟩
/-- Where Copy stands. -/
def CpyI (w : World) (W H : Nat) (f : Nat → Nat → Int) (iv : Value) (wr : World) : Prop :=
  ∃ i al ca rk ck, iv = .int .i64 (i : Nat) ∧ i ≤ H ∧ Bld wr (w.heap.size + 1) w.heap.size W H al ca i rk ck f ∧ Below w.heap.size w wr ∧ w.heap.size + 1 ≤ wr.heap.size
set_option maxRecDepth 100000 in
set_option maxHeartbeats 4000000 in
theorem copy8_any (L : ImgL) (f : Nat → Nat → Int) (w : World) (h : ImgAt w L f) :
    Calls Try.prog 39 #[ptrTo L.p] w fun e w' => ∃ M, (e = .returned (ptrTo M.p) ∧ M.W = L.W ∧ M.H = L.H ∧ ImgAt w' M f ∧ M.New w.heap.size) ∧ Below w.heap.size w w' := by
  have hi8 := infoS8
  cases hi : Try.prog.info? 122 with
  | none => rw [hi] at hi8; cases hi8
  | some i0 =>
  rw [hi] at hi8
  simp only [Option.map_some, Option.some.injEq, Prod.mk.injEq] at hi8
  obtain ⟨hz0, hz1, hz2⟩ := hi8
  have HI := Lib.hid hi
  clear hi
  obtain ⟨p, W, H, ra, cap, rk0, ck0⟩ := L
  have hs := h.small
  have hm := h.img
  simp only at hs hm ⊢
  have hcp := hm.cells; have lpp := hm.lt; have opp : Old w p := lpp
  have HA := Lib.hid h; have HM := Lib.hid hm
  clear h hm
  go_enter Try.func39, Try.ntmps39
  go_wp2_with fail
  refine region_ord [(0, 0), (1, 0), (2, 0), (3, 0), (4, 0), (5, 0), (6, 0), (7, 0), (8, 0), (9, 1), (10, 0)] (by kernel_rfl) (by kernel_rfl) (fun _ _ d _ _ h => by cases d <;> exact h) (fun hS => ?_)
  (refine wpG_read (v := ?_) rfl (.inl ⟨by rfl, fun wx hbx => ?_⟩) ?_; rotate_left; (focus (obtain ⟨cx0, fx0, zx0⟩ := bk hbx (p) (by first | omega | (simp; done) | (simp; omega)); go_simp; (try go_bits); (try with_reducible rfl))); try simp only [Act.put, List.setIfInBounds_toArray, List.set_cons_zero, List.set_cons_succ])
  (refine wpG_read (v := ?_) rfl (.inl ⟨by rfl, fun wx hbx => ?_⟩) ?_; rotate_left; (focus (obtain ⟨cx0, fx0, zx0⟩ := bk hbx (p) (by first | omega | (simp; done) | (simp; omega)); go_simp; (try go_bits); (try with_reducible rfl))); try simp only [Act.put, List.setIfInBounds_toArray, List.set_cons_zero, List.set_cons_succ])
  (refine wpG_read (v := ?_) rfl (.inl ⟨by rfl, fun wx hbx => ?_⟩) ?_; rotate_left; (focus (obtain ⟨cx0, fx0, zx0⟩ := bk hbx (p) (by first | omega | (simp; done) | (simp; omega)); go_simp; (try go_bits); (try with_reducible rfl))); try simp only [Act.put, List.setIfInBounds_toArray, List.set_cons_zero, List.set_cons_succ])
  (refine wpG_read (v := ?_) rfl (.inl ⟨by rfl, fun wx hbx => ?_⟩) ?_; rotate_left; (focus (obtain ⟨cx0, fx0, zx0⟩ := bk hbx (p) (by first | omega | (simp; done) | (simp; omega)); go_simp; (try go_bits); (try with_reducible rfl))); try simp only [Act.put, List.setIfInBounds_toArray, List.set_cons_zero, List.set_cons_succ])
  (refine wpG_read (v := ?_) rfl (.inl ⟨by rfl, fun wx hbx => ?_⟩) ?_; rotate_left; (focus (obtain ⟨cx0, fx0, zx0⟩ := bk hbx (p) (by first | omega | (simp; done) | (simp; omega)); go_simp; (try go_bits); (try with_reducible rfl))); try simp only [Act.put, List.setIfInBounds_toArray, List.set_cons_zero, List.set_cons_succ])
  (refine wpG_read (v := ?_) rfl (.inl ⟨by rfl, fun wx hbx => ?_⟩) ?_; rotate_left; (focus (obtain ⟨cx0, fx0, zx0⟩ := bk hbx (p) (by first | omega | (simp; done) | (simp; omega)); go_simp; (try go_bits); (try with_reducible rfl))); try simp only [Act.put, List.setIfInBounds_toArray, List.set_cons_zero, List.set_cons_succ])
  (refine wpG_read (v := ?_) rfl (.inl ⟨by rfl, fun wx hbx => ?_⟩) ?_; rotate_left; (focus (obtain ⟨cx0, fx0, zx0⟩ := bk hbx (p) (by first | omega | (simp; done) | (simp; omega)); go_simp; (try go_bits); (try with_reducible rfl))); try simp only [Act.put, List.setIfInBounds_toArray, List.set_cons_zero, List.set_cons_succ])
  (refine wpG_read (v := ?_) rfl (.inl ⟨by rfl, fun wx hbx => ?_⟩) ?_; rotate_left; (focus (obtain ⟨cx0, fx0, zx0⟩ := bk hbx (p) (by first | omega | (simp; done) | (simp; omega)); go_simp; (try go_bits); (try with_reducible rfl))); try simp only [Act.put, List.setIfInBounds_toArray, List.set_cons_zero, List.set_cons_succ])
  (refine wpG_read (v := ?_) rfl (.inl ⟨by rfl, fun wx hbx => ?_⟩) ?_; rotate_left; (focus (obtain ⟨cx0, fx0, zx0⟩ := bk hbx (p) (by first | omega | (simp; done) | (simp; omega)); go_simp; (try go_bits); (try with_reducible rfl))); try simp only [Act.put, List.setIfInBounds_toArray, List.set_cons_zero, List.set_cons_succ])
  (refine wpG_make rfl (fun K hK => ?_); go_simp; (try simp only []); (try simp only []); refine hK _ _ ?_ (fun hS2 => ?_); (focus ((repeat' (first | (with_reducible exact Below.refl _ _) | (with_reducible assumption) | (with_reducible refine below_from_drew ?_) | (with_reducible refine Below.alloc ?_ ?_ _) | (with_reducible refine Below.drew ?_) | (with_reducible refine below_drewN ?_ _) | (with_reducible refine Below.setCell ?_ ?_ _) | (with_reducible refine below_via ?_ (by assumption) ?_) | (with_reducible refine below_ov ?_ ?_ _ _) | go_size)); done)); clear hK K hS; have hS := hS2; clear hS2; (try clear hb); try simp only [Act.put, List.setIfInBounds_toArray, List.set_cons_zero, List.set_cons_succ])
  (refine wpG_read (v := ?_) rfl (.inl ⟨by rfl, fun wx hbx => ?_⟩) ?_; rotate_left; (focus (obtain ⟨cx0, fx0, zx0⟩ := bk hbx (p) (by first | omega | (simp; done) | (simp; omega)); go_simp; (try go_bits); (try with_reducible rfl))); try simp only [Act.put, List.setIfInBounds_toArray, List.set_cons_zero, List.set_cons_succ])
  refine wpG_nil ?_
  go_wp2_with fail
  go_loopw [23] (fun iv wr => CpyI w W H f iv wr) (fun iv _ => H - (intOf iv).toNat)
  case atStart => exact ⟨0, none, 0, fun _ => none, fun _ => 0, rfl, Nat.zero_le _, Bld.nil (has_drew (has_new rfl)), by (repeat' (first | (with_reducible exact Below.refl _ _) | (with_reducible assumption) | (with_reducible refine below_from_drew ?_) | (with_reducible refine Below.alloc ?_ ?_ _) | (with_reducible refine Below.drew ?_) | (with_reducible refine below_drewN ?_ _) | (with_reducible refine Below.setCell ?_ ?_ _) | (with_reducible refine below_via ?_ (by assumption) ?_) | (with_reducible refine below_ov ?_ ?_ _ _) | go_size)), by simp⟩
  case round =>
    unfold CpyI at hrel
    obtain ⟨i, al, ca, rk, ck, rfl, hiH, hbl, hbw, hsz⟩ := hrel
    have e1 := hbl.img
    have hcc := e1.cells; have lp := e1.lt; have op : Old wr w.heap.size := lp
    have HIM := Lib.hid e1; have HBL := Lib.hid hbl; have HBW := Lib.hid hbw
    have hneP : (Value.slice al i ca).ownBlock ≠ some w.heap.size := row_ne hbl.own (by omega)
    have HOW := Lib.hid hbl.own
    clear e1 hbl hbw
    rcases Nat.lt_or_ge i H with c1 | c1
    · have c2 : (i : Int) < H := by omega
      obtain ⟨rb, cs, hra, hrb, hrc⟩ := HA.out.rows (by simp only; omega)
      simp only at hra
      subst hra
      have hrb1 := has_below HBW.out hrb
      have c5 : wr.cell? ⟨rb, i, none⟩ = some (.slice (rk0 i) W (ck0 i)) := (hrb1.cells i).trans (hrc i c1)
      have l5 := hrb1.lt; have o5 : Old wr rb := l5
      have hrow := HA.out.row i c1
      simp only at hrow
      have HCL := Lib.hid (fun u (hb : Below wr.heap.size wr u) => clone8_any (rk0 i) W (ck0 i) (f i) u (by omega) ((hrow.below HBW.out).below hb).part)
      clear hrb hrb1 hrc hrow
      go_wp2_with fail
      refine region_ordS (S := fun wx => wr.grownBy wx (Value.slice al i ca).ownBlock) (grown_drew (grown_refl _ _)) [(0, 0), (1, 0), (2, 0), (3, 0), (4, 0), (5, 0), (6, 1), (7, 1), (8, 1), (9, 2), (10, 2), (11, 2)] (by kernel_rfl) (by kernel_rfl) (fun _ _ d _ _ h => by cases d <;> exact h) (fun hS => ?_)
      (refine wpG_read (v := ?_) rfl (.inl ⟨by rfl, fun wx hbx => ?_⟩) ?_; rotate_left; (focus (have qx0 := has_grown hbx HIM.out hneP; have cx0 := qx0.cells; have zx0 := qx0.lt; have fx0 := qx0.frozen; clear qx0; go_simp; (try go_bits); (try with_reducible rfl))); try simp only [Act.put, List.setIfInBounds_toArray, List.set_cons_zero, List.set_cons_succ])
      (refine wpG_read (v := ?_) rfl (.inl ⟨by rfl, fun wx hbx => ?_⟩) ?_; rotate_left; (focus (have qx0 := has_grown hbx HIM.out hneP; have cx0 := qx0.cells; have zx0 := qx0.lt; have fx0 := qx0.frozen; clear qx0; go_simp; (try go_bits); (try with_reducible rfl))); try simp only [Act.put, List.setIfInBounds_toArray, List.set_cons_zero, List.set_cons_succ])
      (refine wpG_read (v := ?_) rfl (.inl ⟨by rfl, fun wx hbx => ?_⟩) ?_; rotate_left; (focus (have qx0 := has_grown hbx HIM.out hneP; have cx0 := qx0.cells; have zx0 := qx0.lt; have fx0 := qx0.frozen; clear qx0; go_simp; (try go_bits); (try with_reducible rfl))); try simp only [Act.put, List.setIfInBounds_toArray, List.set_cons_zero, List.set_cons_succ])
      (refine wpG_read (v := ?_) rfl (.inl ⟨by rfl, fun wx hbx => ?_⟩) ?_; rotate_left; (focus (have qx0 := has_grown hbx HIM.out hneP; have cx0 := qx0.cells; have zx0 := qx0.lt; have fx0 := qx0.frozen; clear qx0; go_simp; (try go_bits); (try with_reducible rfl))); try simp only [Act.put, List.setIfInBounds_toArray, List.set_cons_zero, List.set_cons_succ])
      (refine wpG_read (v := ?_) rfl (.inl ⟨by rfl, fun wx hbx => ?_⟩) ?_; rotate_left; (focus (have qx0 := has_grown hbx HIM.out hneP; have cx0 := qx0.cells; have zx0 := qx0.lt; have fx0 := qx0.frozen; clear qx0; go_simp; (try go_bits); (try with_reducible rfl))); try simp only [Act.put, List.setIfInBounds_toArray, List.set_cons_zero, List.set_cons_succ])
      (refine wpG_read (v := ?_) rfl (.inl ⟨by rfl, fun wx hbx => ?_⟩) ?_; rotate_left; (focus (have qx0 := has_grown hbx HIM.out hneP; have cx0 := qx0.cells; have zx0 := qx0.lt; have fx0 := qx0.frozen; clear qx0; go_simp; (try go_bits); (try with_reducible rfl))); try simp only [Act.put, List.setIfInBounds_toArray, List.set_cons_zero, List.set_cons_succ])
      refine wpG_make rfl (fun K hK => ?_)
      go_simp
      (go_at_call 66; (with_reducible refine (HCL.out _ (by (repeat' (first | (with_reducible exact Below.refl _ _) | (with_reducible assumption) | (with_reducible refine below_from_drew ?_) | (with_reducible refine Below.alloc ?_ ?_ _) | (with_reducible refine Below.drew ?_) | (with_reducible refine below_drewN ?_ _) | (with_reducible refine Below.setCell ?_ ?_ _) | (with_reducible refine below_via ?_ (by assumption) ?_) | (with_reducible refine below_ov ?_ ?_ _ _) | go_size)))).mono ?_); rintro e u1 ⟨a2, c9, rfl, hown2, hb⟩; have hz := hb.size; refine (fun hB => ?_ : Below wr.heap.size wr u1 → _) ?_; rotate_left; (focus ((repeat' (first | (with_reducible exact Below.refl _ _) | (with_reducible assumption) | (with_reducible refine below_from_drew ?_) | (with_reducible refine Below.alloc ?_ ?_ _) | (with_reducible refine Below.drew ?_) | (with_reducible refine below_drewN ?_ _) | (with_reducible refine Below.setCell ?_ ?_ _) | (with_reducible refine below_via ?_ (by assumption) ?_) | (with_reducible refine below_ov ?_ ?_ _ _) | go_size)); done)); (try simp only [World.size_alloc, World.size_setCell, World.size_drew, ov_size] at hz))
      try simp only []
      have hr2 := rowC_owned hown2
      obtain ⟨_, _, e9, h9a, h9b, h9c⟩ := row_reads hown2
      cases e9
      have h9 : W ≤ c9 ∧ c9 ≤ 9223372036854775807 := ⟨h9a, h9b⟩
      have hn9 : ∀ b, 0 < W → a2 = some ⟨b, 0, none⟩ → wr.heap.size ≤ b := fun b h0 e => by
        obtain ⟨g, e', hg, _⟩ := h9c h0
        rw [e] at e'; cases e'
        simpa using hg
      have HR2 := Lib.hid hr2; have HB1 := Lib.hid hB; have HN9 := Lib.hid hn9
      have HOW1 := Lib.hid (row_below hB HOW.out)
      clear hown2 hr2 h9a h9b h9c hn9
      refine hK _ _ ?_ (fun hS2 => ?_)
      focus (exact grown_of_below hB)
      clear hK K hS; have hS := hS2; clear hS2 hb hB
      try simp only [Act.put, List.setIfInBounds_toArray, List.set_cons_zero, List.set_cons_succ]
      refine wpG_make rfl (fun K hK => ?_)
      go_simp
      refine hK _ _ ?_ (fun hS2 => ?_)
      focus (exact grown_alloc hS)
      clear hK K hS; have hS := hS2; clear hS2
      try simp only [Act.put, List.setIfInBounds_toArray, List.set_cons_zero, List.set_cons_succ]
      refine wpG_make rfl (fun K hK => ?_)
      refine wp_append_own (P := Try.prog) _ _ _ _ rfl (w.heap.size + 1) 122 i0 (.slice none 0 0) 1 24 Try.underlying119 HI.out hz0 hz1 hz2 rfl (by decide) _ _ _ rfl (HOW1.out.alloc _) ⟨u1.heap.size, 0, none⟩ 1 1 [.slice a2 W c9] rfl rfl (newi_at (by simp)) (one_of rfl) (by unfold maxLen; omega) (by omega) (by simp; omega) ?_
      intro v7 w7 hown7 hgrow7 hnil7
      clear hnil7
      have hg7 := grown_trans hS hgrow7
      refine hK _ _ ?_ (fun hS2 => ?_)
      focus (exact hg7)
      clear hK K hS hS2
      try simp only [Act.put, List.setIfInBounds_toArray, List.set_cons_zero, List.set_cons_succ]
      obtain ⟨al', ca', rfl, _, _⟩ := row_reads hown7
      have hp7 := has_grown hg7 HIM.out hneP
      have hl7 := hp7.lt
      have hB1 := HB1.out
      have hst := HBL.out.step (w1 := u1.alloc (.cells #[.slice a2 W c9] 122)) (by omega) (by omega) (Nat.le_refl _) HBW.out (by (repeat' (first | (with_reducible exact Below.refl _ _) | (with_reducible assumption) | (with_reducible refine below_from_drew ?_) | (with_reducible refine Below.alloc ?_ ?_ _) | (with_reducible refine Below.drew ?_) | (with_reducible refine below_drewN ?_ _) | (with_reducible refine Below.setCell ?_ ?_ _) | (with_reducible refine below_via ?_ (by assumption) ?_) | (with_reducible refine below_ov ?_ ?_ _ _) | go_size))) (HR2.out.below (by (repeat' (first | (with_reducible exact Below.refl _ _) | (with_reducible assumption) | (with_reducible refine below_from_drew ?_) | (with_reducible refine Below.alloc ?_ ?_ _) | (with_reducible refine Below.drew ?_) | (with_reducible refine below_drewN ?_ _) | (with_reducible refine Below.setCell ?_ ?_ _) | (with_reducible refine below_via ?_ (by assumption) ?_) | (with_reducible refine below_ov ?_ ?_ _ _) | go_size)))) HN9.out h9 hown7 hgrow7
      have HST := Lib.hid hst
      clear hst hown7 hgrow7
      rw [← ov_self hp7]
      clear hp7 hg7 hB1
      have hsz7 : w.heap.size + 1 ≤ w7.heap.size := by omega
      refine wpG_late rfl (fun K hK => ?_)
      go_simp
      refine hK _ _ ?_
      clear hK K
      try simp only [Act.put, List.setIfInBounds_toArray, List.set_cons_zero, List.set_cons_succ]
      refine wpG_late rfl (fun K hK => ?_)
      go_simp
      refine hK _ _ ?_
      clear hK K
      try simp only [Act.put, List.setIfInBounds_toArray, List.set_cons_zero, List.set_cons_succ]
      refine wpG_late rfl (fun K hK => ?_)
      go_simp
      refine hK _ _ ?_
      clear hK K
      try simp only [Act.put, List.setIfInBounds_toArray, List.set_cons_zero, List.set_cons_succ]
      refine wpG_nil ?_
      go_wp2_with fail
      exact ⟨⟨i + 1, _, _, _, _, by push_cast; rfl, c1, HST.out.1, HST.out.2, by simpa using hsz7⟩, by simp only [intOf]; omega⟩
    · obtain rfl : i = H := by omega
      go_wp2_with fail
      go_ret
      exact ⟨⟨w.heap.size, W, i, al, ca, rk, ck⟩, ⟨rfl, rfl, rfl, HBL.out.done hs HA.out.rng, Nat.le_refl _, fun b ⟨h0, k, hk, e⟩ => by have := HBL.out.new k b h0 hk e; omega⟩, HBW.out⟩
theorem copy8_nil (w : World) :
    Calls Try.prog 39 #[.pointer none] w fun e w' => e = .returned (.pointer none) ∧ Below w.heap.size w w' := by
  go_enter Try.func39, Try.ntmps39
  go_wp2_with fail
  go_ret
  exact ⟨rfl, by (repeat' (first | (with_reducible exact Below.refl _ _) | (with_reducible assumption) | (with_reducible refine below_from_drew ?_) | (with_reducible refine Below.alloc ?_ ?_ _) | (with_reducible refine Below.drew ?_) | (with_reducible refine below_drewN ?_ _) | (with_reducible refine Below.setCell ?_ ?_ _) | (with_reducible refine below_via ?_ (by assumption) ?_) | (with_reducible refine below_ov ?_ ?_ _ _) | go_size))⟩
end Go.Proofs.Ytkpamofamcndnaa
namespace Go.Proofs.Ytkpamofamcndnaa
open Go.RowKit Go.Shelf
set_option linter.unusedSimpArgs false
set_option linter.unusedVariables false
-- below_from_drew
attribute [local go_sem] ov_cell_same ov_cell_other ov_frozen_same ov_frozen_other ov_size ov_setCell_same ov_setCell_other cell_alloc_old frozen_alloc_old setCell_alloc_old old_alloc old_ov old_drew old_drewN old_setCell
attribute [local go_sem ↓] run_max2 run_min2 eql_rect eq_nil8
/-- Where fill stands: rows ahead of y are filled. -/
def FilO (w : World) (L : ImgL) (f : Nat → Nat → Int) (x0 y0 x1 y1 : Nat) (c : Int) (yv : Value) (wr : World) : Prop :=
  ∃ y : Nat, yv = .int .i64 y ∧ y0 ≤ y ∧ y ≤ y1 ∧ ImgAt wr L (fillF (x0, y0, x1, y) c f) ∧ ButS L.S w.heap.size w wr ∧ Has wr w.heap.size #[.int .i64 x0, .int .i64 y0, .int .i64 x1, .int .i64 y1] 40
/-- .. and pixels of row y ahead of x. -/
def FilJ (w : World) (L : ImgL) (f : Nat → Nat → Int) (x0 y0 x1 y1 y : Nat) (c : Int) (iv : Value) (wr : World) : Prop :=
  ∃ x : Nat, iv = .int .i64 x ∧ x0 + x ≤ x1 ∧ ImgAt wr L (fillF (x0, y, x0 + x, y + 1) c (fillF (x0, y0, x1, y) c f)) ∧ ButS L.S w.heap.size w wr ∧ Has wr w.heap.size #[.int .i64 x0, .int .i64 y0, .int .i64 x1, .int .i64 y1] 40
theorem fillF_none {q : RectQ} {c : Int} {f : Nat → Nat → Int} (h : q.2.2.1 ≤ q.1 ∨ q.2.2.2 ≤ q.2.1) : fillF q c f = f := by
  funext y x
  unfold fillF inR'
  rw [if_neg]
  simp only [decide_eq_true_eq]
  omega
theorem fillF_row {x0 y0 x1 y : Nat} {c : Int} {f : Nat → Nat → Int} (h : y0 ≤ y) : fillF (x0, y, x1, y + 1) c (fillF (x0, y0, x1, y) c f) = fillF (x0, y0, x1, (y : Int) + 1) c f := by
  funext j i
  unfold fillF inR'
  simp only [decide_eq_true_eq]
  by_cases c1 : (x0 : Int) ≤ i ∧ (i : Int) < x1 ∧ (y0 : Int) ≤ j ∧ (j : Int) < (y : Int) + 1
  · rw [if_pos c1]
    by_cases c2 : (x0 : Int) ≤ i ∧ (i : Int) < x1 ∧ (y : Int) ≤ j ∧ (j : Int) < (y : Int) + 1
    · rw [if_pos c2]
    · rw [if_neg c2, if_pos (by omega)]
  · rw [if_neg c1, if_neg (by omega), if_neg (by omega)]
theorem fillF_cell {x0 x y : Nat} {c : Int} {g : Nat → Nat → Int} (j i : Nat) : (if j = y ∧ i = x0 + x then c else fillF (x0, y, (x0 : Int) + x, (y : Int) + 1) c g j i) = fillF (x0, y, (x0 : Int) + ((x + 1 : Nat) : Int), (y : Int) + 1) c g j i := by
  unfold fillF inR'
  simp only [decide_eq_true_eq]
  by_cases c1 : j = y ∧ i = x0 + x
  · rw [if_pos c1, if_pos (by omega)]
  · rw [if_neg c1]
    by_cases c2 : (x0 : Int) ≤ i ∧ (i : Int) < (x0 : Int) + x ∧ (y : Int) ≤ j ∧ (j : Int) < (y : Int) + 1
    · rw [if_pos c2, if_pos (by omega)]
    · rw [if_neg c2, if_neg (by omega)]
set_option maxRecDepth 100000 in
set_option maxHeartbeats 4000000 in
theorem fill_nat (L : ImgL) (f : Nat → Nat → Int) (x0 y0 x1 y1 : Nat) (c : Int) (w : World) (h : ImgAt w L f) (hx : x0 ≤ x1 ∧ x1 ≤ L.W) (hy : y0 ≤ y1 ∧ y1 ≤ L.H) (hne : y0 < y1 → x0 < x1) (hc : 0 ≤ c ∧ c ≤ 255) :
    Calls Try.prog 72 #[ptrTo L.p, (.agg #[.int .i64 (x0), .int .i64 (y0), .int .i64 (x1), .int .i64 (y1)]), .int .u8 c] w fun e w' => e = .returned (.tuple #[]) ∧ ImgAt w' L (fillF (x0, y0, x1, y1) c f) ∧ ButS L.S w.heap.size w w' := by
  have hI0 : FilO w L f x0 y0 x1 y1 c (.int .i64 y0) (w.alloc (.cells #[.int .i64 x0, .int .i64 y0, .int .i64 x1, .int .i64 y1] 40)) :=
    ⟨y0, rfl, Nat.le_refl _, hy.1, by rw [fillF_none (.inr (by simp))]; exact h.below (by (repeat' (first | (with_reducible exact Below.refl _ _) | (with_reducible assumption) | (with_reducible refine below_from_drew ?_) | (with_reducible refine Below.alloc ?_ ?_ _) | (with_reducible refine Below.drew ?_) | (with_reducible refine below_drewN ?_ _) | (with_reducible refine Below.setCell ?_ ?_ _) | (with_reducible refine below_via ?_ (by assumption) ?_) | (with_reducible refine below_ov ?_ ?_ _ _) | go_size))), ButS.of (by (repeat' (first | (with_reducible exact Below.refl _ _) | (with_reducible assumption) | (with_reducible refine below_from_drew ?_) | (with_reducible refine Below.alloc ?_ ?_ _) | (with_reducible refine Below.drew ?_) | (with_reducible refine below_drewN ?_ _) | (with_reducible refine Below.setCell ?_ ?_ _) | (with_reducible refine below_via ?_ (by assumption) ?_) | (with_reducible refine below_ov ?_ ?_ _ _) | go_size))), has_new rfl⟩
  have HI0 := Lib.hid hI0
  have hsm := h.small
  have HA := Lib.hid h
  clear hI0 h
  obtain ⟨p, W, H, ra, cap, rk, ck⟩ := L
  simp only at hx hy hsm ⊢
  go_enter Try.func72, Try.ntmps72
  go_wp2_with fail
  go_loopw [6] (fun yv wr => FilO w ⟨p, W, H, ra, cap, rk, ck⟩ f x0 y0 x1 y1 c yv wr) (fun yv _ => y1 - (intOf yv).toNat)
  case atStart => exact HI0.out
  case round =>
    clear HI0
    unfold FilO at hrel
    obtain ⟨y, rfl, hy0, hy1, him, hbut, hbox⟩ := hrel
    have hbc := hbox.cells; have lb := hbox.lt; have ob : Old wr w.heap.size := lb
    rcases Nat.lt_or_ge y y1 with c1 | c1
    · have c2 : (y : Int) < y1 := by omega
      have hx2 := hne (by omega)
      obtain ⟨rb, cs, hra, hrb, hrc⟩ := him.rows (by simp only; omega)
      simp only at hra
      subst hra
      have c5 : wr.cell? ⟨rb, y, none⟩ = some (.slice (rk y) W (ck y)) := (hrb.cells y).trans (hrc y (by simp only; omega))
      have l5 := hrb.lt; have o5 : Old wr rb := l5
      have himg := him.img
      have c6 := himg.cells; have l6 := himg.lt; have o6 : Old wr p := l6
      obtain ⟨b, cs2, hrk, hb, hbc2⟩ := him.row y (by simp only; omega) (by simp only; omega)
      simp only at hrk
      have hck := him.caps y (by simp only; omega)
      simp only at hck
      rw [hrk] at c5
      have d1 : (x0 : Int) ≤ x1 := by omega
      have d2 : (x1 : Int) ≤ ck y := by omega
      have d3 : (y : Int) < H := by omega
      have d4 : (0 : Int) ≤ x0 := by omega
      have d5 : (0 : Int) ≤ y := by omega
      have HIM := Lib.hid him; have HBU := Lib.hid hbut; have HBX := Lib.hid hbox; have HRK := Lib.hid hrk
      have HCK := Lib.hid hck
      clear him hbut hbox hrb hrc himg hb hbc2 hrk hck
      go_wp2_with fail
      refine region_ord [(0, 0), (1, 0), (2, 0), (3, 0), (4, 0), (5, 0), (6, 0), (7, 0), (8, 0), (9, 0), (10, 0), (11, 0), (12, 0)] (by kernel_rfl) (by kernel_rfl) (fun _ _ d _ _ h => by cases d <;> exact h) (fun hS => ?_)
      (refine wpG_read (v := ?_) rfl (.inl ⟨by rfl, fun wx hbx => ?_⟩) ?_; rotate_left; (focus (obtain ⟨cx0, fx0, zx0⟩ := bk hbx (w.heap.size) (by first | omega | (simp; done) | (simp; omega)); obtain ⟨cx1, fx1, zx1⟩ := bk hbx (p) (by first | omega | (simp; done) | (simp; omega)); obtain ⟨cx2, fx2, zx2⟩ := bk hbx (rb) (by first | omega | (simp; done) | (simp; omega)); go_simp; (try go_bits); (try with_reducible rfl))); try simp only [Act.put, List.setIfInBounds_toArray, List.set_cons_zero, List.set_cons_succ])
      (refine wpG_read (v := ?_) rfl (.inl ⟨by rfl, fun wx hbx => ?_⟩) ?_; rotate_left; (focus (obtain ⟨cx0, fx0, zx0⟩ := bk hbx (w.heap.size) (by first | omega | (simp; done) | (simp; omega)); obtain ⟨cx1, fx1, zx1⟩ := bk hbx (p) (by first | omega | (simp; done) | (simp; omega)); obtain ⟨cx2, fx2, zx2⟩ := bk hbx (rb) (by first | omega | (simp; done) | (simp; omega)); go_simp; (try go_bits); (try with_reducible rfl))); try simp only [Act.put, List.setIfInBounds_toArray, List.set_cons_zero, List.set_cons_succ])
      (refine wpG_read (v := ?_) rfl (.inl ⟨by rfl, fun wx hbx => ?_⟩) ?_; rotate_left; (focus (obtain ⟨cx0, fx0, zx0⟩ := bk hbx (w.heap.size) (by first | omega | (simp; done) | (simp; omega)); obtain ⟨cx1, fx1, zx1⟩ := bk hbx (p) (by first | omega | (simp; done) | (simp; omega)); obtain ⟨cx2, fx2, zx2⟩ := bk hbx (rb) (by first | omega | (simp; done) | (simp; omega)); go_simp; (try go_bits); (try with_reducible rfl))); try simp only [Act.put, List.setIfInBounds_toArray, List.set_cons_zero, List.set_cons_succ])
      (refine wpG_read (v := ?_) rfl (.inl ⟨by rfl, fun wx hbx => ?_⟩) ?_; rotate_left; (focus (obtain ⟨cx0, fx0, zx0⟩ := bk hbx (w.heap.size) (by first | omega | (simp; done) | (simp; omega)); obtain ⟨cx1, fx1, zx1⟩ := bk hbx (p) (by first | omega | (simp; done) | (simp; omega)); obtain ⟨cx2, fx2, zx2⟩ := bk hbx (rb) (by first | omega | (simp; done) | (simp; omega)); go_simp; (try go_bits); (try with_reducible rfl))); try simp only [Act.put, List.setIfInBounds_toArray, List.set_cons_zero, List.set_cons_succ])
      (refine wpG_read (v := ?_) rfl (.inl ⟨by rfl, fun wx hbx => ?_⟩) ?_; rotate_left; (focus (obtain ⟨cx0, fx0, zx0⟩ := bk hbx (w.heap.size) (by first | omega | (simp; done) | (simp; omega)); obtain ⟨cx1, fx1, zx1⟩ := bk hbx (p) (by first | omega | (simp; done) | (simp; omega)); obtain ⟨cx2, fx2, zx2⟩ := bk hbx (rb) (by first | omega | (simp; done) | (simp; omega)); go_simp; (try go_bits); (try with_reducible rfl))); try simp only [Act.put, List.setIfInBounds_toArray, List.set_cons_zero, List.set_cons_succ])
      (refine wpG_read (v := ?_) rfl (.inl ⟨by rfl, fun wx hbx => ?_⟩) ?_; rotate_left; (focus (obtain ⟨cx0, fx0, zx0⟩ := bk hbx (w.heap.size) (by first | omega | (simp; done) | (simp; omega)); obtain ⟨cx1, fx1, zx1⟩ := bk hbx (p) (by first | omega | (simp; done) | (simp; omega)); obtain ⟨cx2, fx2, zx2⟩ := bk hbx (rb) (by first | omega | (simp; done) | (simp; omega)); go_simp; (try go_bits); (try with_reducible rfl))); try simp only [Act.put, List.setIfInBounds_toArray, List.set_cons_zero, List.set_cons_succ])
      (refine wpG_read (v := ?_) rfl (.inl ⟨by rfl, fun wx hbx => ?_⟩) ?_; rotate_left; (focus (obtain ⟨cx0, fx0, zx0⟩ := bk hbx (w.heap.size) (by first | omega | (simp; done) | (simp; omega)); obtain ⟨cx1, fx1, zx1⟩ := bk hbx (p) (by first | omega | (simp; done) | (simp; omega)); obtain ⟨cx2, fx2, zx2⟩ := bk hbx (rb) (by first | omega | (simp; done) | (simp; omega)); go_simp; (try go_bits); (try with_reducible rfl))); try simp only [Act.put, List.setIfInBounds_toArray, List.set_cons_zero, List.set_cons_succ])
      (refine wpG_read (v := ?_) rfl (.inl ⟨by rfl, fun wx hbx => ?_⟩) ?_; rotate_left; (focus (obtain ⟨cx0, fx0, zx0⟩ := bk hbx (w.heap.size) (by first | omega | (simp; done) | (simp; omega)); obtain ⟨cx1, fx1, zx1⟩ := bk hbx (p) (by first | omega | (simp; done) | (simp; omega)); obtain ⟨cx2, fx2, zx2⟩ := bk hbx (rb) (by first | omega | (simp; done) | (simp; omega)); go_simp; (try go_bits); (try with_reducible rfl))); try simp only [Act.put, List.setIfInBounds_toArray, List.set_cons_zero, List.set_cons_succ])
      (refine wpG_read (v := ?_) rfl (.inl ⟨by rfl, fun wx hbx => ?_⟩) ?_; rotate_left; (focus (obtain ⟨cx0, fx0, zx0⟩ := bk hbx (w.heap.size) (by first | omega | (simp; done) | (simp; omega)); obtain ⟨cx1, fx1, zx1⟩ := bk hbx (p) (by first | omega | (simp; done) | (simp; omega)); obtain ⟨cx2, fx2, zx2⟩ := bk hbx (rb) (by first | omega | (simp; done) | (simp; omega)); go_simp; (try go_bits); (try with_reducible rfl))); try simp only [Act.put, List.setIfInBounds_toArray, List.set_cons_zero, List.set_cons_succ])
      (refine wpG_read (v := ?_) rfl (.inl ⟨by rfl, fun wx hbx => ?_⟩) ?_; rotate_left; (focus (obtain ⟨cx0, fx0, zx0⟩ := bk hbx (w.heap.size) (by first | omega | (simp; done) | (simp; omega)); obtain ⟨cx1, fx1, zx1⟩ := bk hbx (p) (by first | omega | (simp; done) | (simp; omega)); obtain ⟨cx2, fx2, zx2⟩ := bk hbx (rb) (by first | omega | (simp; done) | (simp; omega)); go_simp; (try go_bits); (try with_reducible rfl))); try simp only [Act.put, List.setIfInBounds_toArray, List.set_cons_zero, List.set_cons_succ])
      (refine wpG_read (v := ?_) rfl (.inl ⟨by rfl, fun wx hbx => ?_⟩) ?_; rotate_left; (focus (obtain ⟨cx0, fx0, zx0⟩ := bk hbx (w.heap.size) (by first | omega | (simp; done) | (simp; omega)); obtain ⟨cx1, fx1, zx1⟩ := bk hbx (p) (by first | omega | (simp; done) | (simp; omega)); obtain ⟨cx2, fx2, zx2⟩ := bk hbx (rb) (by first | omega | (simp; done) | (simp; omega)); go_simp; (try go_bits); (try with_reducible rfl))); try simp only [Act.put, List.setIfInBounds_toArray, List.set_cons_zero, List.set_cons_succ])
      (refine wpG_read (v := ?_) rfl (.inl ⟨by rfl, fun wx hbx => ?_⟩) ?_; rotate_left; (focus (obtain ⟨cx0, fx0, zx0⟩ := bk hbx (w.heap.size) (by first | omega | (simp; done) | (simp; omega)); obtain ⟨cx1, fx1, zx1⟩ := bk hbx (p) (by first | omega | (simp; done) | (simp; omega)); obtain ⟨cx2, fx2, zx2⟩ := bk hbx (rb) (by first | omega | (simp; done) | (simp; omega)); go_simp; (try go_bits); (try with_reducible rfl))); try simp only [Act.put, List.setIfInBounds_toArray, List.set_cons_zero, List.set_cons_succ])
      (refine wpG_read (v := ?_) rfl (.inl ⟨by rfl, fun wx hbx => ?_⟩) ?_; rotate_left; (focus (obtain ⟨cx0, fx0, zx0⟩ := bk hbx (w.heap.size) (by first | omega | (simp; done) | (simp; omega)); obtain ⟨cx1, fx1, zx1⟩ := bk hbx (p) (by first | omega | (simp; done) | (simp; omega)); obtain ⟨cx2, fx2, zx2⟩ := bk hbx (rb) (by first | omega | (simp; done) | (simp; omega)); go_simp; (try go_bits); (try with_reducible rfl))); try simp only [Act.put, List.setIfInBounds_toArray, List.set_cons_zero, List.set_cons_succ])
      refine wpG_nil ?_
      go_wp2_with fail
      have HC := Lib.hid hc
      have hlen : x0 + (x1 - x0) = x1 := by omega
      have hlen2 : x1 - x0 ≤ ck y - x0 := by have := HCK.out; omega
      obtain ⟨n, hn⟩ : ∃ n, x1 - x0 = n := ⟨_, rfl⟩
      rw [hn] at hlen hlen2 ⊢
      have hn2 : n ≤ 1024 := by omega
      have HFN := Lib.hid (fillF_row (x0 := x0) (x1 := x1) (c := c) (f := f) hy0)
      go_loopw [31] (fun iv wr => FilJ w ⟨p, W, H, some ⟨rb, 0, none⟩, cap, rk, ck⟩ f x0 y0 x1 y1 y c iv wr) (fun iv _ => n - (intOf iv).toNat)
      case atStart => exact ⟨0, rfl, by omega, by rw [fillF_none (.inl (by simp))]; exact HIM.out.below (by (repeat' (first | (with_reducible exact Below.refl _ _) | (with_reducible assumption) | (with_reducible refine below_from_drew ?_) | (with_reducible refine Below.alloc ?_ ?_ _) | (with_reducible refine Below.drew ?_) | (with_reducible refine below_drewN ?_ _) | (with_reducible refine Below.setCell ?_ ?_ _) | (with_reducible refine below_via ?_ (by assumption) ?_) | (with_reducible refine below_ov ?_ ?_ _ _) | go_size))), HBU.out.drew, has_drew HBX.out⟩
      case round =>
        unfold FilJ at hrel
        obtain ⟨x, rfl, hx9, him, hbut, hbox⟩ := hrel
        rcases Nat.lt_or_ge x n with k1 | k1
        · have k2 : (x : Int) < n := by omega
          have k3 : (0 : Int) ≤ x := by omega
          obtain ⟨hset, hsb⟩ := him.set (i := y) (j := x0 + x) (b := b) (c := c) (by simp only; omega) (by simp only; omega) HRK.out HC.out
          obtain ⟨b', cs3, hrk3, hb3, hbc3⟩ := him.row y (by simp only; omega) (by simp only; omega)
          simp only at hrk3
          rw [HRK.out] at hrk3
          cases hrk3
          have k4 : wr.cell? ⟨b, x0 + x, none⟩ = some _ := (hb3.cells (x0 + x)).trans (hbc3 (x0 + x) (by simp only; omega))
          have k5 := hb3.lt
          have k6 := hb3.frozen (x0 + x)
          have k7 := hbox.lt
          have HST := Lib.hid hset; have HSB := Lib.hid hsb; have HBB := Lib.hid hbut
          have HXX := Lib.hid (hsb.has hbox hbox.lt (him.S_not hbox (by decide)))
          clear hset hsb him hbut hbox hbc3 hb3
          go_wp2_with fail
          refine ⟨⟨x + 1, by push_cast; rfl, by omega, HST.out.congr (fun j i _ _ => fillF_cell j i), ?_, HXX.out⟩, by simp only [intOf]; omega⟩
          exact HBB.out.trans (HSB.out.less HBB.out.size)
        · obtain rfl : x = n := by omega
          have HI2 := Lib.hid him; have HBB := Lib.hid hbut; have HXX := Lib.hid hbox
          clear him hbut hbox
          go_wp2_with fail
          refine ⟨⟨y + 1, by push_cast; rfl, by omega, by omega, ?_, HBB.out, HXX.out⟩, by simp only [intOf]; omega⟩
          have q := HI2.out
          rw [show (x0 : Int) + (x : Int) = x1 by omega, HFN.out] at q
          push_cast
          exact q
    · obtain rfl : y = y1 := by omega
      go_wp2_with fail
      go_end0
      exact ⟨rfl, him, hbut⟩
theorem fill_nil (c : Int) (w : World) :
    Calls Try.prog 72 #[.pointer none, (.agg #[.int .i64 (0), .int .i64 (0), .int .i64 (0), .int .i64 (0)]), .int .u8 c] w fun e w' => e = .returned (.tuple #[]) ∧ Below w.heap.size w w' := by
  go_enter Try.func72, Try.ntmps72
  go_wp2_with fail
  go_loopw [6] (fun yv wr => yv = .int .i64 0 ∧ wr = w.alloc (.cells #[.int .i64 0, .int .i64 0, .int .i64 0, .int .i64 0] 40)) (fun _ _ => 0)
  case atStart => exact ⟨rfl, rfl⟩
  case round =>
    obtain ⟨rfl, rfl⟩ := hrel
    go_wp2_with fail
    go_end0
    exact ⟨rfl, by (repeat' (first | (with_reducible exact Below.refl _ _) | (with_reducible assumption) | (with_reducible refine below_from_drew ?_) | (with_reducible refine Below.alloc ?_ ?_ _) | (with_reducible refine Below.drew ?_) | (with_reducible refine below_drewN ?_ _) | (with_reducible refine Below.setCell ?_ ?_ _) | (with_reducible refine below_via ?_ (by assumption) ?_) | (with_reducible refine below_ov ?_ ?_ _ _) | go_size))⟩
/-- A rectangle that an image has, put right. -/
def InQ (W H : Nat) (q : RectQ) : Prop := Within W H q ∧ NF q.1 q.2.1 q.2.2.1 q.2.2.2
theorem fill8_any (L : ImgL) (f : Nat → Nat → Int) (q : RectQ) (c : Int) (w : World) (h : ImgAt w L f) (hq : InQ L.W L.H q) (hc : 0 ≤ c ∧ c ≤ 255) :
    Calls Try.prog 72 #[ptrTo L.p, rectVal q, .int .u8 c] w fun e w' => e = .returned (.tuple #[]) ∧ ImgAt w' L (fillF q c f) ∧ ButS L.S w.heap.size w w' := by
  obtain ⟨a, b, d, e⟩ := q
  obtain ⟨h1, h2⟩ := hq
  unfold Within at h1
  unfold NF at h2
  simp only at h1 h2
  obtain ⟨x0, rfl⟩ : ∃ n : Nat, a = n := ⟨a.toNat, by omega⟩
  obtain ⟨y0, rfl⟩ : ∃ n : Nat, b = n := ⟨b.toNat, by omega⟩
  obtain ⟨x1, rfl⟩ : ∃ n : Nat, d = n := ⟨d.toNat, by omega⟩
  obtain ⟨y1, rfl⟩ : ∃ n : Nat, e = n := ⟨e.toNat, by omega⟩
  exact fill_nat L f x0 y0 x1 y1 c w h (by omega) (by omega) (by omega) hc
end Go.Proofs.Ytkpamofamcndnaa
