/- law23 (scroll): what scrolls, as a map; law23.speaks. -/
import Derived.Test.YtjcbphhemmdnjaaScrB
import Derived.Test.YtjcbphhemmdnjaaScrK
namespace Go.Proofs.Ytjcbphhemmdnjaa
open Go Go.RowKit
set_option linter.unusedSimpArgs false
set_option linter.unusedVariables false
-- below_from_drew
attribute [local go_sem] ov_cell_same ov_cell_other ov_frozen_same ov_frozen_other ov_size ov_setCell_same ov_setCell_other cell_alloc_old frozen_alloc_old setCell_alloc_old old_alloc old_ov old_drew old_drewN old_setCell
attribute [local go_sem ↓] run_max2 run_min2
attribute [local go_sem] put_two23 look_two23 look_two23_ok len_two23 mapOk_alloc mapOf_alloc mapOk_drew mapOf_drew mapOk_drewN mapOf_drewN mapOk_ov mapOf_ov
theorem eqIn23 (a b : Int) (w : World) : (Op.equalIn 10000 39 (.agg #[.int .i64 a, .int .i64 b]) (.agg #[.int .i64 a, .int .i64 b])).run Try.prog w = .ok true w := by
  have u3 := Try.underlying2
  have a3 := Try.isAgg2
  have z3 := Try.sizeOf2
  rw [show (10000 : Nat) = 9999 + 1 from rfl, Op.equalIn]
  simp only [Sem.run_bind, run_underlying Try.underlying39, Result.andThen_ok]
  simp only [Std.Legacy.Range.forIn_eq_forIn_range', Std.Legacy.Range.size, Nat.sub_zero, Nat.add_sub_cancel, Nat.div_one, List.range'_succ, List.range'_zero, List.forIn_cons, List.forIn_nil]
  go_simp
theorem eqIn239 (a b : Int) (w : World) : (Op.equalIn 9999 39 (.agg #[.int .i64 a, .int .i64 b]) (.agg #[.int .i64 a, .int .i64 b])).run Try.prog w = .ok true w := by
  have u3 := Try.underlying2
  have a3 := Try.isAgg2
  have z3 := Try.sizeOf2
  rw [show (9999 : Nat) = 9998 + 1 from rfl, Op.equalIn]
  simp only [Sem.run_bind, run_underlying Try.underlying39, Result.andThen_ok]
  simp only [Std.Legacy.Range.forIn_eq_forIn_range', Std.Legacy.Range.size, Nat.sub_zero, Nat.add_sub_cancel, Nat.div_one, List.range'_succ, List.range'_zero, List.forIn_cons, List.forIn_nil]
  go_simp
attribute [local go_sem] eqIn23 eqIn239
/-- How many of the first i scroll. -/
def cntS (l : List N23) (i : Nat) : Nat := ((List.range i).filter (mst23 l)).length
theorem cntS_next (l : List N23) (i : Nat) : cntS l (i + 1) = if mst23 l i then cntS l i + 1 else cntS l i := by
  unfold cntS
  rw [List.range_succ, List.filter_append, List.length_append]
  by_cases c : mst23 l i = true
  · simp [c]
  · simp [c]
theorem cntS_le (l : List N23) (i : Nat) : cntS l i ≤ i := by unfold cntS; exact Nat.le_trans (List.length_filter_le _ _) (by simp)
/-- A map's length, told by its keys. -/
theorem map_len23 {L : List (Int × Value)} (hn : (mkeys L).Nodup) (N : Nat) (P : Nat → Bool) (h : ∀ x : Int, (mlook L x).isSome = true ↔ 0 ≤ x ∧ x < N ∧ P x.toNat = true) : L.length = ((List.range N).filter P).length := by
  have e : (mkeys L).Perm (((List.range N).filter P).map Int.ofNat) := by
    refine (List.perm_ext_iff_of_nodup hn ?_).2 (fun x => ?_)
    · unfold List.Nodup
      rw [List.pairwise_map]
      exact (List.nodup_range.filter _).imp (fun hab e => hab (Int.ofNat.inj e))
    · have h1 : x ∈ mkeys L ↔ (mlook L x).isSome = true := by
        cases e : mlook L x with
        | none => simp [mlook_none.1 e]
        | some v => simp; exact List.mem_map.2 ⟨(x, v), mlook_mem e, rfl⟩
      rw [h1, h, List.mem_map]
      constructor
      · rintro ⟨q1, q2, q3⟩
        exact ⟨x.toNat, List.mem_filter.2 ⟨List.mem_range.2 (by omega), q3⟩, by show ((x.toNat : Nat) : Int) = x; omega⟩
      · rintro ⟨n, q, rfl⟩
        obtain ⟨q1, q2⟩ := List.mem_filter.1 q
        have q1 := List.mem_range.1 q1
        exact ⟨by show (0 : Int) ≤ (n : Int); omega, by show (n : Int) < N; omega, by simpa using q2⟩
  have := e.length_eq
  simpa [mkeys] using this
/-- What scrolls, as numbers. -/
def mZ (l : List N23) (N : Nat) (x : Int) : Option (Int × Int) := if 0 ≤ x ∧ x < N ∧ mst23 l x.toNat = true then some (mostX l N x.toNat, mostY l N x.toNat) else none
theorem outS_mZ (l : List N23) (N : Nat) (x : Int) : outS l N x = (mZ l N x).map two23 := by
  unfold outS mZ
  split <;> rfl
theorem mZ_len {w : World} {b N : Nat} {l : List N23} {F : Int → Int × Int → Value} (h : MapOk w b) (hl : ∀ x, mlook (mapOf w b) x = (mZ l N x).map (F x)) : (mapOf w b).length = cntS l N := by
  refine map_len23 (mapOk_nodup h) N (mst23 l) (fun x => ?_)
  rw [hl]
  unfold mZ
  split
  · rename_i c; simp [c]
  · rename_i c; simpa using c
def sp23 : List N23 := [⟨0, 0, 0, 100, 50, 0, 1, false, false⟩, ⟨0, 100, 0, 30, 40, 0, 0, false, false⟩]
theorem sp23_ok (i : Nat) : Ok23 (nd23 sp23 i) := by
  rcases i with _ | _ | i
  · constructor <;> decide
  · constructor <;> decide
  · show Ok23 n23Z
    constructor <;> decide
theorem sp23_0 : mZ sp23 2 0 = some (30, 0) := by decide
theorem sp23_c : cntS sp23 2 = 1 := by decide
theorem sp23_at (w : World) (T : TypeId) : N23sAt (w.alloc (.cells #[.int .u8 0, .int .i16 0, .int .i16 0, .int .u16 100, .int .u16 50, .int .u16 0, .int .u8 1, .bool false, .bool false, .int .u8 0, .int .i16 100, .int .i16 0, .int .u16 30, .int .u16 40, .int .u16 0, .int .u8 0, .bool false, .bool false] T)) (some ⟨w.heap.size, 0, none⟩) sp23 := fun _ => by
  have hn := has_new (w := w) (b := w.heap.size) (cs := #[.int .u8 0, .int .i16 0, .int .i16 0, .int .u16 100, .int .u16 50, .int .u16 0, .int .u8 1, .bool false, .bool false, .int .u8 0, .int .i16 100, .int .i16 0, .int .u16 30, .int .u16 40, .int .u16 0, .int .u8 0, .bool false, .bool false]) (T := T) rfl
  refine ⟨_, _, rfl, hn.lt, fun i hi => ?_⟩
  have c := hn.cells
  rcases i with _ | _ | i
  · exact ⟨sp23_ok 0, c _, c _, c _, c _, c _, c _, c _, c _, c _⟩
  · exact ⟨sp23_ok 1, c _, c _, c _, c _, c _, c _, c _, c _, c _⟩
  · exact absurd hi (by show ¬ (i + 2 < 2); omega)
def q99 (x : Int) : Int × Int := if x = 0 then (99, 99) else (0, 0)
set_option maxRecDepth 100000 in
set_option maxHeartbeats 2000000 in
theorem speaks23_any (w : World) : Calls Try.prog 10 #[] w fun e w' => e = .returned (.bool true) ∧ Below w.heap.size w w' := by
  have hmm := @run_makeMap Try.prog
  go_enter Try.func10, Try.ntmps10
  go_upto_region 1 with fail
  go_wp2_with fail
  refine (made23_any (some ⟨w.heap.size, 0, none⟩) 2 2 sp23 _ rfl (by omega) (by omega) (sp23_at w _)).mono ?_
  rintro e w1 ⟨pt, bm, bn, bx, m, B, g, aL, cL, a1, c1, R, f, O, rfl, hM⟩
  have hc2 : cnt23 sp23 = 2 := rfl
  rw [hc2] at hM ⊢
  have hI := hM.into (by omega) (by omega) sp23_ok
  have hb1 : Below w.heap.size w w1 := ((Below.refl _ w).alloc (Nat.le_refl _) _).trans (hM.mt.wd.bel.mono (by simp))
  have HI := Lib.hid hI; have HB1 := Lib.hid hb1
  clear hM hI hb1 hc2
  unfold w23C
  go_upto_region 2 with fail
  refine name_w (f := Code.wp _ _ _ _) (fun X hX => ?_)
  have hX1 : Has X w1.heap.size #[.pointer (some ⟨pt, 0, none⟩), .map (some bn), .map (some bx), .slice aL 2 cL, .int .i64 0, .int .i64 0, .slice a1 2 c1] 32 := by rw [hX]; (repeat' (first | (with_reducible refine has_drew ?_) | (with_reducible refine has_drewN ?_) | (with_reducible refine has_new ?_; (first | (with_reducible rfl) | omega | (simp; done) | (simp; omega))) | (with_reducible refine has_ov_same ?_; (first | (with_reducible rfl) | omega | (simp; done) | (simp; omega))) | (with_reducible refine has_alloc ?_) | (with_reducible refine has_ov_other ?_ ?_; (focus (first | (with_reducible rfl) | omega | (simp; done) | (simp; omega)))) | (with_reducible assumption) | (with_reducible exact has_below hB (by assumption))))
  have hXb : Below w1.heap.size w1 X := by rw [hX]; (repeat' (first | (with_reducible exact Below.refl _ _) | (with_reducible assumption) | (with_reducible refine below_from_drew ?_) | (with_reducible refine Below.alloc ?_ ?_ _) | (with_reducible refine Below.drew ?_) | (with_reducible refine below_drewN ?_ _) | (with_reducible refine Below.setCell ?_ ?_ _) | (with_reducible refine below_via ?_ (by assumption) ?_) | (with_reducible refine below_ov ?_ ?_ _ _) | go_size))
  have HIX := Lib.hid (HI.out.below hXb)
  have HXB := Lib.hid (HB1.out.trans (hXb.mono HB1.out.size))
  have c1' := hX1.cells; have l1' := hX1.lt; have o1' : Old X w1.heap.size := l1'
  clear hX hX1 hXb HI HB1
  go_upto_region 3 with ((go_at_call 12); (with_reducible refine (smost_any sp23 2 pt bm bn bx g _ R _ HIX.out).mono ?_); rintro e u ⟨bo, rfl, hbo, hok, hlk, hb⟩)
  have hA : MapOk (u.alloc (.map #[] 0)) u.heap.size := mapOk_new rfl
  have lbo : bo < u.heap.size := hok.lt
  have hq : MapOk (putM (u.alloc (.map #[] 0)) u.heap.size 0 (.agg #[.int .i64 99, .int .i64 99])) u.heap.size := mapOk_put_same hA
  have hoth : (putM (u.alloc (.map #[] 0)) u.heap.size 0 (.agg #[.int .i64 99, .int .i64 99])).heap[bo]? = u.heap[bo]? := (putM_other (by omega)).trans (Below.heap_alloc u _ bo lbo)
  have ho : MapOk (putM (u.alloc (.map #[] 0)) u.heap.size 0 (.agg #[.int .i64 99, .int .i64 99])) bo := mapOk_eq hoth hok
  have lq : ∀ x, mgetD (mapOf (putM (u.alloc (.map #[] 0)) u.heap.size 0 (.agg #[.int .i64 99, .int .i64 99])) u.heap.size) x (two23 (0, 0)) = two23 (q99 x) := fun x => by
    rw [mapOf_put_same hA, mapOf_new rfl, mgetD, mlook_put]
    unfold q99
    by_cases c : x = 0
    · rw [if_pos c, if_pos c]; rfl
    · rw [if_neg c, if_neg c]; rfl
  have lo : ∀ x, mlook (mapOf (putM (u.alloc (.map #[] 0)) u.heap.size 0 (.agg #[.int .i64 99, .int .i64 99])) bo) x = (mZ sp23 2 x).map two23 := fun x => by rw [mapOf_eq hoth, hlk, outS_mZ]
  have hbw : Below u.heap.size u (putM (u.alloc (.map #[] 0)) u.heap.size 0 (.agg #[.int .i64 99, .int .i64 99])) := below_put ((Below.refl _ _).alloc (Nat.le_refl _) _) (Nat.le_refl _)
  have HC := Lib.hid (clamp_any _ u.heap.size bo q99 (mZ sp23 2) hq ho lq lo)
  have HU := Lib.hid (HXB.out.trans (hb.mono HXB.out.size))
  have HBW := Lib.hid hbw
  have HOK := Lib.hid hok; have HLK := Lib.hid hlk
  clear hq hoth ho lq lo hbw hb hbo c1' l1' o1' hlk HIX HXB
  go_upto_region 4 with ((go_at_call 15); (with_reducible refine HC.out.mono ?_); rintro e v ⟨bc, rfl, hbc, hcok, hclk, hcb⟩)
  have hv : Below u.heap.size u v := HBW.out.trans (hcb.mono HBW.out.size)
  have hok2 : MapOk v bo := mapOk_eq (hv.block _ lbo) HOK.out
  have hm0 : mgetD (mapOf v bo) 0 (two23 (0, 0)) = .agg #[.int .i64 30, .int .i64 0] := by
    rw [mapOf_eq (hv.block _ lbo), mgetD, HLK.out, outS_mZ, sp23_0]; rfl
  have hml : (mapOf v bo).length = 1 := by
    rw [mapOf_eq (hv.block _ lbo), mZ_len (F := fun _ y => two23 y) HOK.out (fun x => by rw [HLK.out, outS_mZ]), sp23_c]
  have hc0 : mgetD (mapOf v bc) 0 (two23 (0, 0)) = .agg #[.int .i64 30, .int .i64 0] := by
    rw [mgetD, hclk, sp23_0]; rfl
  have hcl : (mapOf v bc).length = 1 := by
    rw [mZ_len (F := fun x y => two23 (clampP (q99 x) y)) hcok hclk, sp23_c]
  have HVW := Lib.hid (HU.out.trans (hv.mono HU.out.size))
  have ob : Old v bo := hok2.lt
  have oc : Old v bc := hcok.lt
  clear hv hclk hcb hbc HC HU HBW HOK HLK hok hA hmm
  go_wp2_with fail
  go_ret
  exact ⟨rfl, HVW.out⟩
end Go.Proofs.Ytjcbphhemmdnjaa
