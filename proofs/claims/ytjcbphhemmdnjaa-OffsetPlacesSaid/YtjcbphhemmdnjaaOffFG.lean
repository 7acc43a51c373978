/- law24 (offset): offset.Of by contract. law24 (offset): what the made world gives offset.Of; law24.speaks. -/
import Derived.Test.YtjcbphhemmdnjaaOffLW
import Derived.Test.YtjcbphhemmdnjaaOffB
namespace Go.Proofs.Ytjcbphhemmdnjaa
open Go Go.RowKit
set_option linter.unusedSimpArgs false
set_option linter.unusedVariables false
-- below_from_drew
attribute [local go_sem] ov_cell_same ov_cell_other ov_frozen_same ov_frozen_other ov_size ov_setCell_same ov_setCell_other cell_alloc_old frozen_alloc_old setCell_alloc_old old_alloc old_ov old_drew old_drewN old_setCell
attribute [local go_sem ↓] run_max2 run_min2
/-- fixed.Try, where the closure returns. -/
theorem try_done (F : FuncId) (cap : Array Value) (w : World) (R : World → Prop) (hF : ∀ W, (callFunc F cap).run Try.prog W = .ok (.enter F cap) W) (h : Calls Try.prog F cap (w.alloc (.cells #[.int .i64 0] 36)) fun e w' => e = .returned (.tuple #[]) ∧ R w') (hR : ∀ w', R w' → Has w' w.heap.size #[.int .i64 0] 36) :
    Calls Try.prog 34 #[.func (Fn.func F) #[] cap] w fun e w' => e = .returned (.int .i64 0) ∧ R w' := by
  refine (try_ok F cap w R hF h hR).mono ?_
  rintro e w' ⟨rfl, w1, hr, rfl⟩
  have := ov_self (hR _ hr)
  refine ⟨rfl, ?_⟩
  rw [← this, ov_setCell_same]
  simpa [this] using hr
/-- What offset.Of reads. -/
structure In24 (w : World) (l : List N24) (N pt bm bx sc : Nat) (base : Nat → Prop) (R : Rows) : Prop where
  tree : TreeAt w pt bm base R N
  told : Pt (pa24 l) N R
  okx : MapOk w bx
  lx : ∀ x, mlook (mapOf w bx) x = m24a l N x
  oks : MapOk w sc
  ls : ∀ x, mlook (mapOf w sc) x = m24b l N x
  free : ∀ b, w.heap.size ≤ b → base b
theorem In24.below {w w' : World} {l : List N24} {N pt bm bx sc : Nat} {base : Nat → Prop} {R : Rows} (h : In24 w l N pt bm bx sc base R) (hb : Below w.heap.size w w') : In24 w' l N pt bm bx sc base R :=
  ⟨h.tree.below hb, h.told, mapOk_eq (hb.block _ h.okx.lt) h.okx, fun x => by rw [mapOf_eq (hb.block _ h.okx.lt)]; exact h.lx x, mapOk_eq (hb.block _ h.oks.lt) h.oks, fun x => by rw [mapOf_eq (hb.block _ h.oks.lt)]; exact h.ls x, fun b h1 => h.free b (Nat.le_trans hb.size h1)⟩
theorem In24.start {w w' : World} {l : List N24} {N pt bm bx sc wk bo : Nat} {base : Nat → Prop} {R : Rows} (h : In24 w l N pt bm bx sc base R) (hb : Below w.heap.size w w') (hw : Has w' wk #[.pointer (some ⟨pt, 0, none⟩), .map (some bx), .map (some sc), .map (some bo)] 136) (ho : MapOk w' bo) (hl : mapOf w' bo = []) (hbo : w.heap.size ≤ bo) :
    W24 w' l N wk pt bm bx sc bo (fun b => base b ∧ (b < w.heap.size ∨ w'.heap.size ≤ b)) R (fun _ => none) := by
  have g := h.below hb
  have p1 := h.tree.str.lt; have p2 := h.tree.ok.lt; have p3 := h.okx.lt; have p4 := h.oks.lt; have p5 := ho.lt
  refine ⟨hw, h.tree.re hb.size (fun b h1 _ => hb.block b h1) (fun b h1 h2 => ⟨h2, .inl h1⟩) (fun b h1 => ⟨h.free b (Nat.le_trans hb.size h1), .inr h1⟩), h.told, g.okx, g.lx, g.oks, g.ls, ho, fun x => by rw [hl]; rfl, by omega, by omega, fun q => by have := q.2; omega, by omega, by omega, fun b h1 => ⟨h.free b (Nat.le_trans hb.size h1), .inr h1⟩⟩
def outG (l : List N24) (N : Nat) : Int → Option Value := fun k => if 0 ≤ k ∧ k < N ∧ there24 l k.toNat = true then some (plV (place24 l k.toNat)) else none
theorem inSub_root {pa : Nat → Nat} (hp : ∀ i, 0 < i → pa i < i) : ∀ k, inSub pa 0 k = true := by
  intro k
  induction k using Nat.strongRecOn with
  | _ k ih =>
    rcases Nat.eq_zero_or_pos k with c | c
    · subst c; exact inSub_self pa 0
    · rw [inSub_up hp c (by omega)]; exact ih _ (hp k c)
theorem walkG_root (l : List N24) (N : Nat) (k : Int) : walkG l N 0 (fun _ => none) k = outG l N k := by
  unfold walkG outG
  rw [inSub_root (fun i hi => pa24_lt l hi)]
  simp
set_option maxRecDepth 100000 in
set_option maxHeartbeats 2000000 in
theorem of24_in (l : List N24) (hok : ∀ i, OkW (nd24 l i)) (N wk pt bm bx sc bo b8 : Nat) (base : Nat → Prop) (R : Rows) (hN : N ≤ 16) (hN0 : 0 < N) (w : World) (h : W24 w l N wk pt bm bx sc bo base R (fun _ => none)) (h8 : Has w b8 #[.pointer (some ⟨wk, 0, none⟩)] 134) :
    Calls Try.prog 46 #[.pointer (some ⟨b8, 0, none⟩)] w fun e w' => e = .returned (.tuple #[]) ∧ ButS (fun b => b = bo) w.heap.size w w' ∧ W24 w' l N wk pt bm bx sc bo base R (outG l N) := by
  have c8 := h8.cells; have l8 := h8.lt
  have HC : Calls Try.prog 47 #[.pointer (some ⟨wk, 0, none⟩), .int .i64 0, .agg #[.int .i64 0, .int .i64 0, .int .i64 (-1), .int .i64 0, .int .i64 0, .int .i64 0, .int .i64 0]] w fun e w' => e = .returned (.tuple #[]) ∧ ButS (fun b => b = bo) w.heap.size w w' ∧ W24 w' l N wk pt bm bx sc bo base R (walkG l N 0 (fun _ => none)) :=
    walk24_any l hok N wk pt bm bx sc bo base R hN (N + 1) 0 (fun _ => none) w (by omega) hN0 (.inl rfl) h
  have H := Lib.hid HC
  clear HC h h8
  go_enter Try.func46, Try.ntmps46
  go_wp2_with ((go_at_call 47); (with_reducible refine H.out.mono ?_); rintro e w2 ⟨rfl, hbw, hWw⟩)
  refine bodyPost_end (results_none rfl _ _ _) rfl ?_
  exact ⟨rfl, hbw, hWw.eqg (walkG_root l N)⟩
set_option maxRecDepth 100000 in
set_option maxHeartbeats 2000000 in
theorem of24_any (l : List N24) (hok : ∀ i, OkW (nd24 l i)) (N pt bm bx sc : Nat) (base : Nat → Prop) (R : Rows) (hN : N ≤ 16) (hN0 : 0 < N) (w : World) (h : In24 w l N pt bm bx sc base R) :
    Calls Try.prog 26 #[.pointer (some ⟨pt, 0, none⟩), .map (some bx), .map (some sc)] w fun e w' => ∃ bo, e = .returned (.tuple #[.map (some bo), .int .i64 0]) ∧ w.heap.size ≤ bo ∧ MapOk w' bo ∧ (∀ x, mlook (mapOf w' bo) x = outG l N x) ∧ Below w.heap.size w w' := by
  have HI := Lib.hid h
  clear h
  have hmm := @run_makeMap Try.prog
  go_enter Try.func26, Try.ntmps26
  go_upto_region 4 with fail
  refine name_w (f := Code.wp _ _ _ _) (fun X hX => ?_)
  have hXb : Below w.heap.size w X := by rw [hX]; exact (((Below.refl _ _).alloc (Nat.le_refl _) _).alloc (by simp) _).alloc (by simp; omega) _
  have hXo : MapOk X w.heap.size := by rw [hX]; exact mapOk_alloc (mapOk_alloc (mapOk_new rfl))
  have hXl : mapOf X w.heap.size = [] := by
    rw [hX, mapOf_alloc (show Old _ _ by show w.heap.size < _; simp; omega), mapOf_alloc (show Old _ _ by show w.heap.size < _; simp), mapOf_new rfl]
  have hXw : Has X (w.heap.size + 1) #[.pointer (some ⟨pt, 0, none⟩), .map (some bx), .map (some sc), .map (some w.heap.size)] 136 := by rw [hX]; exact has_alloc (has_new (by simp))
  have hX8 : Has X (w.heap.size + 1 + 1) #[.pointer (some ⟨w.heap.size + 1, 0, none⟩)] 134 := by rw [hX]; exact has_new (by simp)
  have hXs : X.heap.size = w.heap.size + 3 := by rw [hX]; simp
  have HXB := Lib.hid hXb; have HXO := Lib.hid hXo; have HXL := Lib.hid hXl; have HXW := Lib.hid hXw; have HX8 := Lib.hid hX8
  clear hXb hXo hXl hXw hX8 hX hmm
  go_wp2_with ((go_at_call 34); (with_reducible refine (try_done 46 _ X (fun w' => ButS (fun b => b = w.heap.size) X.heap.size X w' ∧ Has w' X.heap.size #[.int .i64 0] 36 ∧ ∃ base', W24 w' l N (w.heap.size + 1) pt bm bx sc w.heap.size base' R (outG l N)) (fun W => rfl) ?_ (fun w' h => h.2.1)).mono ?_); rotate_left; rintro e w2 ⟨rfl, hbw, hh, base', hWw⟩; have k8 := (hbw.has HX8.out HX8.out.lt (fun e => by have : w.heap.size + 1 + 1 = w.heap.size := e; omega)).cells; have l8 := (hbw.has HX8.out HX8.out.lt (fun e => by have : w.heap.size + 1 + 1 = w.heap.size := e; omega)).lt; have kw := hWw.hw.cells; have lw := hWw.hw.lt; have HBW := Lib.hid hbw; have HWW := Lib.hid hWw; clear hbw hWw hh)
  · go_ret2
    have hb2 : Below w.heap.size w w2 := HXB.out.trans ((HBW.out.less HXB.out.size).below (fun k hk e => by have : k = w.heap.size := e; omega))
    exact ⟨w.heap.size, rfl, Nat.le_refl _, HWW.out.oko, HWW.out.lo, hb2⟩
  · have hbA : Below X.heap.size X (X.alloc (.cells #[.int .i64 0] 36)) := (Below.refl _ _).alloc (Nat.le_refl _) _
    have hst := HI.out.start (HXB.out.trans (hbA.mono HXB.out.size)) (has_below hbA HXW.out) (mapOk_eq (hbA.block _ HXO.out.lt) HXO.out) (by rw [mapOf_eq (hbA.block _ HXO.out.lt)]; exact HXL.out) (Nat.le_refl _)
    refine (of24_in l hok N (w.heap.size + 1) pt bm bx sc w.heap.size (w.heap.size + 1 + 1) _ R hN hN0 _ hst (has_below hbA HX8.out)).mono ?_
    rintro e w' ⟨rfl, h1, h2⟩
    have hs2 : X.heap.size < (X.alloc (.cells #[.int .i64 0] 36)).heap.size := by simp
    exact ⟨rfl, (ButS.of hbA).trans (h1.less hbA.size), h1.has (has_new rfl) hs2 (fun e => by have : X.heap.size = w.heap.size := e; omega), _, h2⟩
/-- Of no tree. -/
theorem of24_nil (bx sc : Option Nat) (w : World) : Calls Try.prog 26 #[.pointer none, .map bx, .map sc] w fun e w' => e = .returned (.tuple #[.map none, .int .i64 1]) ∧ Below w.heap.size w w' := by
  go_enter Try.func26, Try.ntmps26
  go_wp2_with fail
  go_ret2
  exact ⟨rfl, by (repeat' (first | (with_reducible exact Below.refl _ _) | (with_reducible assumption) | (with_reducible refine below_from_drew ?_) | (with_reducible refine Below.alloc ?_ ?_ _) | (with_reducible refine Below.drew ?_) | (with_reducible refine below_drewN ?_ _) | (with_reducible refine Below.setCell ?_ ?_ _) | (with_reducible refine below_via ?_ (by assumption) ?_) | (with_reducible refine below_ov ?_ ?_ _ _) | go_size))⟩
end Go.Proofs.Ytjcbphhemmdnjaa
namespace Go.Proofs.Ytjcbphhemmdnjaa
open Go Go.RowKit
set_option linter.unusedSimpArgs false
set_option linter.unusedVariables false
-- below_from_drew
attribute [local go_sem] ov_cell_same ov_cell_other ov_frozen_same ov_frozen_other ov_size ov_setCell_same ov_setCell_other cell_alloc_old frozen_alloc_old setCell_alloc_old old_alloc old_ov old_drew old_drewN old_setCell
attribute [local go_sem ↓] run_max2 run_min2
theorem cnt24_pos (l : List N24) : 0 < cnt24 l := by unfold cnt24; omega
theorem cnt24_le (l : List N24) : cnt24 l ≤ 16 := by unfold cnt24; omega
theorem M24.into {l : List N24} {w0 w : World} {pt bm m bx sc N cL cl cS cb : Nat} {B : Nat → BlkT} {aL al aS ab : Option Addr} {R : Rows} {f : Nat → RowT} {O : Nat → Prop} (h : M24 l w0 w pt bm m B bx sc N N N N N N N N aL cL al cl aS cS ab cb R f O) (hN : 0 < N) :
    In24 w l N pt bm bx sc (fun b => w0.heap.size ≤ b ∧ ¬ O b) R := by
  have e : max N 1 = N := by omega
  have t := h.wd.tk.tree
  have p := h.pt
  rw [e] at t p
  exact ⟨t, p, h.wd.mok 0 (by omega), fun x => h.wd.mlk 0 (by omega) x, h.wd.mok 1 (by omega), fun x => h.wd.mlk 1 (by omega) x, fun b hb => t.hp b hb⟩
/-- How many of the first i are there. -/
def cntT (l : List N24) (i : Nat) : Nat := ((List.range i).filter (there24 l)).length
theorem cntT_next (l : List N24) (i : Nat) : cntT l (i + 1) = if there24 l i then cntT l i + 1 else cntT l i := by
  unfold cntT
  rw [List.range_succ, List.filter_append, List.length_append]
  by_cases c : there24 l i = true
  · simp [c]
  · simp [c]
/-- A map's length, told by its keys. -/
theorem map_len {L : List (Int × Value)} (hn : (mkeys L).Nodup) (N : Nat) (P : Nat → Bool) (h : ∀ x : Int, (mlook L x).isSome = true ↔ 0 ≤ x ∧ x < N ∧ P x.toNat = true) : L.length = ((List.range N).filter P).length := by
  have e : (mkeys L).Perm (((List.range N).filter P).map Int.ofNat) := by
    refine (List.perm_ext_iff_of_nodup hn ?_).2 (fun x => ?_)
    · unfold List.Nodup
      rw [List.pairwise_map]
      exact (List.nodup_range.filter _).imp (fun hab e => hab (Int.ofNat.inj e))
    · have h1 : x ∈ mkeys L ↔ (mlook L x).isSome = true := by
        cases e : mlook L x with
        | none => simp [mlook_none.1 e]
        | some v => simp; exact List.mem_map.2 ⟨(x, v), mlook_mem e, rfl⟩
      rw [h1, h, List.mem_map]
      constructor
      · rintro ⟨q1, q2, q3⟩
        exact ⟨x.toNat, List.mem_filter.2 ⟨List.mem_range.2 (by omega), q3⟩, by show ((x.toNat : Nat) : Int) = x; omega⟩
      · rintro ⟨n, q, rfl⟩
        obtain ⟨q1, q2⟩ := List.mem_filter.1 q
        have q1 := List.mem_range.1 q1
        exact ⟨by show (0 : Int) ≤ (n : Int); omega, by show (n : Int) < N; omega, by simpa using q2⟩
  have := e.length_eq
  simpa [mkeys] using this
theorem outG_len {w : World} {bo N : Nat} {l : List N24} (h : MapOk w bo) (hl : ∀ x, mlook (mapOf w bo) x = outG l N x) : (mapOf w bo).length = cntT l N := by
  refine map_len (mapOk_nodup h) N (there24 l) (fun x => ?_)
  rw [hl]
  unfold outG
  split
  · rename_i c; simp [c]
  · rename_i c; simpa using c
def plZV : Value := plV ⟨0, 0, 0, 0, 0, 0, 0⟩
theorem zero_place (w : World) : (zeroValue 89).run Try.prog w = .ok plZV w := by kernel_rfl
theorem look_place {w : World} {b : Nat} {k : Int} (h : MapOk w b) : (Instr.lookup 85 (.map (some b)) (.int .i64 k) false).run Try.prog w = .ok (mgetD (mapOf w b) k plZV) w := run_lookM Try.underlying85 Try.underlying3 zero_place k h
theorem look_place_ok {w : World} {b : Nat} {k : Int} (h : MapOk w b) : (Instr.lookup 85 (.map (some b)) (.int .i64 k) true).run Try.prog w = .ok (.tuple #[mgetD (mapOf w b) k plZV, .bool (mhas (mapOf w b) k)]) w := run_lookMok Try.underlying85 Try.underlying3 zero_place k h
theorem len_place {w : World} {b : Nat} (ty : TypeId) (h : MapOk w b) : (Builtin.len_ #[85] ty #[.map (some b)]).run Try.prog w = .ok (.int .i64 ((mapOf w b).length : Nat)) w := run_lenM Try.underlying85 ty h
attribute [local go_sem] look_place look_place_ok len_place
theorem field24_0 (a b c d e f g : Value) (w : World) : (Instr.field 89 (.agg #[a, b, c, d, e, f, g]) 0).run Try.prog w = .ok a w := by kernel_rfl
theorem field24_2 (a b c d e f g : Value) (w : World) : (Instr.field 89 (.agg #[a, b, c, d, e, f, g]) 2).run Try.prog w = .ok c w := by kernel_rfl
theorem field24_3 (a b c d e f g : Value) (w : World) : (Instr.field 89 (.agg #[a, b, c, d, e, f, g]) 3).run Try.prog w = .ok (.agg #[d, e]) w := by kernel_rfl
theorem field24_4 (a b c d e f g : Value) (w : World) : (Instr.field 89 (.agg #[a, b, c, d, e, f, g]) 4).run Try.prog w = .ok (.agg #[f, g]) w := by kernel_rfl
theorem idx24_0 (a b : Value) (w : World) : (Instr.index 39 (.agg #[a, b]) (.int .i64 0)).run Try.prog w = .ok a w := by kernel_rfl
attribute [local go_sem] field24_0 field24_2 field24_3 field24_4 idx24_0
def sp24 : List N24 := [⟨0, 100, 0, 0, true, 33, 0, false⟩, ⟨0, 5, 0, 0, false, 0, 0, false⟩]
theorem sp24_ok (i : Nat) : OkW (nd24 sp24 i) := by
  rcases i with _ | _ | i
  · exact ⟨by unfold In32; decide, by unfold In32; decide, by decide, by decide, by decide⟩
  · exact ⟨by unfold In32; decide, by unfold In32; decide, by decide, by decide, by decide⟩
  · show OkW n24Z
    exact ⟨by unfold In32; decide, by unfold In32; decide, by decide, by decide, by decide⟩
theorem sp24_0 : outG sp24 2 0 = some (.agg #[.int .i64 100, .int .i64 0, .int .i64 (-1), .int .i64 0, .int .i64 0, .int .i64 0, .int .i64 0]) := by rfl
theorem sp24_1 : outG sp24 2 1 = some (.agg #[.int .i64 72, .int .i64 0, .int .i64 0, .int .i64 1, .int .i64 0, .int .i64 6, .int .i64 0]) := by rfl
theorem sp24_at (w : World) (T : TypeId) : N24sAt (w.alloc (.cells #[.int .u8 0, .int .i32 100, .int .i32 0, .int .u8 0, .bool true, .int .i32 33, .int .i32 0, .bool false, .int .u8 0, .int .i32 5, .int .i32 0, .int .u8 0, .bool false, .int .i32 0, .int .i32 0, .bool false] T)) (some ⟨w.heap.size, 0, none⟩) sp24 := fun _ => by
  have hn := has_new (w := w) (b := w.heap.size) (cs := #[.int .u8 0, .int .i32 100, .int .i32 0, .int .u8 0, .bool true, .int .i32 33, .int .i32 0, .bool false, .int .u8 0, .int .i32 5, .int .i32 0, .int .u8 0, .bool false, .int .i32 0, .int .i32 0, .bool false]) (T := T) rfl
  refine ⟨_, _, rfl, hn.lt, fun i hi => ?_⟩
  have c := hn.cells
  rcases i with _ | _ | i
  · exact ⟨⟨by decide, by unfold In32; decide, by unfold In32; decide, by decide, by unfold In32; decide, by unfold In32; decide⟩, c _, c _, c _, c _, c _, c _, c _, c _⟩
  · exact ⟨⟨by decide, by unfold In32; decide, by unfold In32; decide, by decide, by unfold In32; decide, by unfold In32; decide⟩, c _, c _, c _, c _, c _, c _, c _, c _⟩
  · exact absurd hi (by show ¬ (i + 2 < 2); omega)
set_option maxRecDepth 100000 in
set_option maxHeartbeats 2000000 in
theorem speaks24_any (w : World) : Calls Try.prog 24 #[] w fun e w' => e = .returned (.bool true) ∧ Below w.heap.size w w' := by
  go_enter Try.func24, Try.ntmps24
  go_wp2_with fail
  refine (made24_any (some ⟨w.heap.size, 0, none⟩) 2 2 sp24 _ rfl (by omega) (by omega) (sp24_at w _)).mono ?_
  rintro e w1 ⟨pt, bm, bx, sc, aL, cL, al, cl, aS, cS, ab, cb, R, f, O, rfl, hM⟩
  have hI := hM.into (cnt24_pos _)
  have hb1 : Below w.heap.size w w1 := ((Below.refl _ w).alloc (Nat.le_refl _) _).trans (hM.wd.bel.mono (by simp))
  have HI := Lib.hid hI; have HB1 := Lib.hid hb1
  clear hM hI hb1
  unfold w24C
  have hc2 : cnt24 sp24 = 2 := rfl
  rw [hc2] at HI ⊢
  go_wp2_with ((go_at_call 26); (with_reducible refine (of24_any sp24 sp24_ok 2 pt bm bx sc _ R (by omega) (by omega) _ (HI.out.below (by (repeat' (first | (with_reducible exact Below.refl _ _) | (with_reducible assumption) | (with_reducible refine below_from_drew ?_) | (with_reducible refine Below.alloc ?_ ?_ _) | (with_reducible refine Below.drew ?_) | (with_reducible refine below_drewN ?_ _) | (with_reducible refine Below.setCell ?_ ?_ _) | (with_reducible refine below_via ?_ (by assumption) ?_) | (with_reducible refine below_ov ?_ ?_ _ _) | go_size))))).mono ?_); rintro e u ⟨bo, rfl, hbo, hok, hlo, hb⟩; have hb2 : Below w.heap.size w u := HB1.out.trans ((((Below.refl _ w1).alloc (Nat.le_refl _) _).trans (hb.mono (by simp))).mono HB1.out.size); have e0 := mgetD_some (z := plZV) ((hlo 0).trans sp24_0); have e1 := mgetD_some (z := plZV) ((hlo 1).trans sp24_1); have e2 : (mapOf u bo).length = 2 := (outG_len hok hlo).trans rfl; have HB2 := Lib.hid hb2; clear hb2 hb hlo hbo HB1)
  go_ret
  exact ⟨rfl, HB2.out⟩
end Go.Proofs.Ytjcbphhemmdnjaa
